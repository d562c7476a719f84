/-
  Putting a letter into bytes: the program. Conditions: those of the theorem.
-/
import Derived.Test.YtjiglbmjhecobaaGreatDoorPutsD

namespace Go.Proofs.YtjiglbmjhecobaaGreatDoor
open Go.Abs Go.Crc
section
variable {W0 : World} {m0 : Inj Tryz.prog}
theorem lok_bound {kd xa no : Nat} {x : Nm} {l : List Nm} (h : Lok kd xa no (zi x) (xchk x.g x.b) (ni l) l.length) : l.length ≤ 200 ∧ (∀ p ∈ l, xchk p.g p.b = 0) := by
  have := ni_one.1 h.2.2.2.2.2.2.2.2
  exact ⟨this.1, fun p hp => xchk_of (this.2.1 p hp)⟩
set_option maxRecDepth 100000 in
set_option maxHeartbeats 4000000 in
theorem wc8 {kd xa no : Nat} {x : Nm} {sv : Value} {l : List Nm} {F : List Nat} {A : AW} {K : Value → AW → Prop} (hkd : kd < 256) (hxa : xa < 256) (hn0 : no < 65536) (hxf : x.f < 4294967296) (hlf : ∀ p ∈ l, p.f < 4294967296) (hf : Fine A) (hg0 : Glb A) (hA : A.next + 30000 < maxId) (hl : RdN A sv l F)
    (hk : ∀ A', Grow A A' 20000 → K (.tuple ⟨[.string ⟨⟨lput kd xa no x l⟩⟩, .int .i64 (lchk kd xa no x l)]⟩) A') : Wc Tryz.prog theX W0 m0 8 [letV kd xa no x sv] A K := by
  have hF := hl.fam
  have hAn : ∀ {A' : AW} {n : Nat}, Grow A A' n → 0 < A'.next := fun g => Nat.lt_of_lt_of_le hg0.lt g.le
  by_cases hlk : Lok kd xa no (zi x) (xchk x.g x.b) (ni l) l.length
  · obtain ⟨h200, hall⟩ := lok_bound hlk
    rw [lput_ok hlk, lchk_ok hlk] at hk
    have hlb : ∀ i, (lbody (l.take i)).length ≤ 26800 := fun i => by
      have := lbody_length (l := l.take i) fun p hp => hall p (List.mem_of_mem_take hp)
      have h2 : (l.take i).length ≤ 200 := by rw [List.length_take]; omega
      omega
    have hend : ∀ {A' : AW} {v : Value} {b : List UInt8} {Fv : List Nat}, Grow A A' 19000 → Buf 5 A' v b Fv → b = lbytes kd xa no x l → b.length ≤ 30000 →
        Wc Tryz.prog theX W0 m0 22 [v] A' fun t43 At43 => bothW (convertA Tryz.prog At43 44 9 t43) fun t44 At44 => K (.tuple ⟨[t44, (.int .i64 0)]⟩) At44 := by
      intro A' v b Fv g hb he hbl
      have hn := g.next
      refine wc22 hb.rd (hg0.keeps g.keeps (by simp)) g.fine (by omega) (by omega) fun A2 v2 F2 g2 b2 hF2 => ?_
      rw [b2.rd.str tb]
      refine bothW_ok.2 ?_
      rw [he]
      exact hk A2 ((g.trans g2).more (by omega))
    let I : Nat → Nat → List Value → AW → Prop := fun g' id vals A' => id = 1 ∧ ∃ (i : Nat) (v : Value) (Fv : List Nat), vals = [v, sv, .int .i64 (l.length : Int), .int .i64 (i : Int)] ∧ i ≤ l.length ∧ kd = 21 ∧
      Buf 5 A' v (lhead kd xa no ++ be l.length 2 ++ lbody (l.take i)) Fv ∧ RdN A' sv l F ∧ Grow A A' (10000 + 30 * i) ∧ g' = l.length - i
    refine w8 _ _ (c8 (I := I) ?_) ?_
    · rintro g' id vals A' d ⟨rfl, i, v, Fv, rfl, hi, h21, hb, hl', hg, rfl⟩ hd
      rw [l8_1]
      simp only [L8, List.map_cons, List.map_nil, List.cons.injEq, and_true] at hd
      obtain ⟨h4, h55, h56, h57⟩ := hd
      have hnx := hg.next
      have hl1 : (lhead kd xa no ++ be l.length 2 ++ lbody (l.take i)).length ≤ 26900 := by
        have := hlb i
        rw [List.length_append, List.length_append, lhead_length, be_length]; omega
      simp only [h4, h55, h56, h57, bin_lss, pureW_some, forkW_dec]
      refine ⟨fun hlt => ?_, fun hge => ?_⟩
      · have hlt : i < l.length := by omega
        obtain ⟨p, hp⟩ : ∃ p, l[i]? = some p := ⟨l[i], List.getElem?_eq_getElem hlt⟩
        have hpm : p ∈ l := List.mem_of_getElem? hp
        obtain ⟨r, oo, a1, a2⟩ := hl'.at hp
        simp only [a1, ld_24, a2, pureW_some]
        refine allocP_made zero24 hg.fine (by omega) rfl fun A2 m2 => ?_
        have n2 := m2.next
        have g2 := Grow.made m2 hg.fine
        refine store24 (p := p) m2.row1 rfl m2.fine (by omega) fun A3 t3 k3 n3 f3 => ?_
        have g3 : Grow A' A3 1 := (g2.own k3 (by simp) (m := 0) (by omega) f3)
        rw [load24 t3]
        simp only [pureW_some]
        refine wc21 (f := p.f) (g := p.g) (b := p.b) f3 (by omega) (hlf p hpm) (hall p hpm) fun A4 v4 F4 g4 b4 hF4 => ?_
        have n4 := g4.next
        have hb4 := (hb.keeps g3.keeps (by simp)).keeps g4.keeps (by simp)
        have hl4 := (hl'.keeps g3.keeps (by simp)).keeps g4.keeps (by simp)
        have hnb := nb_length (hall p hpm)
        simp only [ex_0, ex_1, pureW_some]
        refine join2 hb4.rd b4.rd g4.fine (by omega) (by unfold nb at hnb; omega) (by rw [List.length_append, List.length_append, lhead_length]; omega) fun A5 v5 F5 g5 b5 hF5 => ?_
        have n5 := g5.next
        simp only [bin_add, pureW_some]
        rw [wrap_i64 (by omega) (by omega)]
        refine cutW_self.2 ⟨l.length - (i + 1), by omega, rfl, i + 1, v5, F5, rfl, by omega, h21, ?_, hl4.keeps g5.keeps (by simp), (((hg.trans g3).trans g4).trans g5).more (by omega), rfl⟩
        rw [lbody_succ hp, ← List.append_assoc]
        exact b5
      · have hi' : i = l.length := by omega
        rw [hi', List.take_length] at hb hl1
        refine hend (hg.more (by omega)) hb ?_ (by omega)
        unfold lbytes lmid ltail
        rw [if_pos (.inr h21), if_pos h21, List.append_nil, List.append_assoc]
    · rw [e8]
      refine newP_made (cs := (Value.cells (letV kd xa no x sv)).toList) hf (by omega) (by simp [letV, letC, Value.cells, one_int, one_string, hl.one.1]) fun A1 m1 => ?_
      have n1 := m1.next
      have r1 : Go.Abs.Row1 A1 A.next (letC kd xa no x sv) 29 := m1.row1
      have hl1 := hl.keeps (m1.keeps hf) (by simp)
      have g1 := Grow.made m1 hf
      rw [letW_load r1 hl.one.2]
      simp only [pureW_some]
      refine wc10 hkd m1.fine (by omega) hl1 fun A2 g2 => ?_
      rw [lchk_ok hlk]
      have n2 := g2.next
      have r2 := r1.keeps g2.keeps (by simp)
      have hl2 := hl1.keeps g2.keeps (by simp)
      have g02 := g1.trans g2
      simp only [bin_neq, pureW_some, forkW_bne]
      refine ⟨fun h => absurd rfl h, fun _ => ?_⟩
      simp only [fa_29_0, fa_29_2, ld_5, ld_25, cell_row r2.row, letC, cellOf, isT_int, isT_string, hl.one.2, cond_false, pureW_some, Nat.zero_add]
      refine bslice2 g2.fine (by omega) fun A3 m3 => ?_
      have n3 := m3.next
      have k3 := m3.keeps g2.fine
      have r3 := r2.keeps k3 (by simp)
      have hl3 := hl2.keeps k3 (by simp)
      have g03 := g02.trans (.made m3 g2.fine)
      refine freshW_2 m3.row ?_
      simp only [fa_29_0, fa_29_2, fa_29_3, ld_5, ld_25, ld_26, cell_row r3.row, letC, cellOf, isT_int, isT_string, hl.one.2, cond_false, pureW_some, eqW_self, cv_26_57, bothW_ok, Nat.zero_add]
      rw [wrap_u64 (by omega) (by omega)]
      refine wc19 (n := no) (w := 2) m3.fine (by omega) (Buf.nil 5 _).rd (by simp) (by simp) fun A4 v4 F4 g4 b4 hF4 => ?_
      rw [List.nil_append] at b4
      have n4 := g4.next
      have r4 := r3.keeps g4.keeps (by simp)
      have hl4 := hl3.keeps g4.keeps (by simp)
      have q4 := m3.row1.keeps g4.keeps (by simp)
      have g04 := g03.trans g4
      refine freshW_2 q4.row ?_
      obtain ⟨sa, sn, sc, rfl, hsp⟩ := buf_spot b4
      simp only [fa_29_0, fa_29_2, fa_29_3, ld_5, ld_25, ld_26, cell_row r4.row, letC, cellOf, isT_int, isT_string, hl.one.2, cond_false, pureW_some, eqW_self, Nat.zero_add]
      refine bslice154 g4.fine (by omega) fun A5 m5 => ?_
      have n5 := m5.next
      have k5 := m5.keeps g4.fine
      have r5 := r4.keeps k5 (by simp)
      have hl5 := hl4.keeps k5 (by simp)
      have q5 := q4.keeps k5 (by simp)
      have b5 := b4.keeps k5 (by simp)
      have g05 := g04.trans (.made m5 g4.fine)
      refine freshW_154 (fun x h => by cases h; rfl) hsp m5.row ?_
      simp only [fa_29_0, fa_29_2, fa_29_3, ld_5, ld_25, ld_26, cell_row r5.row, letC, cellOf, isT_int, isT_string, hl.one.2, cond_false, pureW_some, eqW_self, cv_26_57, bothW_ok, Nat.zero_add]
      refine freshW_2 q5.row ?_
      have q5' : Go.Abs.Row1 A5 A2.next [.int .u8 ((UInt8.ofNat kd).toNat : Int), .int .u8 ((UInt8.ofNat xa).toNat : Int)] 5 := by rw [← byteN hkd, ← byteN hxa]; exact q5
      refine wc18 m5.row1 (buf2 q5').rd b5.rd m5.fine (by omega) (by rw [be_length]; simp) (by simp) fun A6 v6 F6 g6 b6 hF6 => ?_
      have n6 := g6.next
      have r6 := r5.keeps g6.keeps (by simp)
      have hl6 := hl5.keeps g6.keeps (by simp)
      have g06 := g05.trans g6
      have b6 : Buf 5 A6 v6 (lhead kd xa no) F6 := b6
      have ht : A6.cells? ⟨A.next, 1, none⟩ 3 = some [.int .u32 (x.f : Int), .string x.g, .string x.b] := by rw [cells_row r6.row]; rfl
      simp only [fa_29_0, ld_5, cell_row r6.row, letC, cellOf, isT_int, isT_string, hl.one.2, cond_false, pureW_some, Nat.zero_add]
      refine wc20 hkd fun k an hka => ?_
      simp only [ex_0, ex_1, fa_29_1, fa_29_4, ld_24, ld_27, ht, cell_row r6.row, letC, cellOf, isT_int, isT_string, hl.one.2, hl6.len, cond_false, bin_neq, pureW_some, forkW_bne, Nat.zero_add]
      refine ⟨fun hk5 => ?_, fun hk5 => forkW_bool.2 ⟨fun han => ?_, fun han => ?_⟩⟩
      · have hkk : kd ≠ 5 ∧ kd ≠ 21 := by
          rcases hka with ⟨_, h1, h2⟩ | ⟨_, h1, h2, h3⟩ | ⟨_, h1, h2, h3⟩
          · exact absurd hlk.1 h2
          · omega
          · omega
        have hx0 : xchk x.g x.b = 0 := hlk.2.2.1 hkk
        have hnb := nb_length hx0
        refine wc21 (f := x.f) (g := x.g) (b := x.b) g6.fine (by omega) hxf hx0 fun A7 v7 F7 g7 b7 hF7 => ?_
        have n7 := g7.next
        simp only [ex_0, ex_1, pureW_some]
        refine join2 (b6.keeps g7.keeps (by simp)).rd b7.rd g7.fine (by omega) (by rw [lhead_length]; unfold nb at hnb; omega) (by rw [lhead_length]; omega) fun A8 v8 F8 g8 b8 hF8 => ?_
        refine hend (((g06.trans g7).trans g8).more (by omega)) b8 ?_ ?_
        · unfold lbytes lmid ltail
          rw [if_neg (by omega), if_neg (by omega), List.append_nil]
          rfl
        · rw [List.length_append, lhead_length]; unfold nb at hnb; omega
      · have h21 : kd = 21 := by
          rcases hka with ⟨h0, _⟩ | ⟨h0, _⟩ | ⟨_, h1, h2, h3⟩
          · rw [h0] at han; cases han
          · rw [h0] at han; cases han
          · omega
        simp only [cv_3_57, bothW_ok]
        rw [wrap_u64 (by omega) (by omega)]
        refine wc19 (n := l.length) (w := 2) g6.fine (by omega) b6.rd (by rw [lhead_length]; omega) (by simp) fun A7 v7 F7 g7 b7 hF7 => ?_
        have n7 := g7.next
        have r7 := r6.keeps g7.keeps (by simp)
        have hl7 := hl6.keeps g7.keeps (by simp)
        simp only [fa_29_4, ld_27, cell_row r7.row, letC, cellOf, isT_int, isT_string, hl.one.2, hl7.len, cond_false, pureW_some, Nat.zero_add]
        refine cutW_self.2 ⟨l.length, rfl, 0, v7, F7, rfl, by omega, h21, ?_, hl7, (g06.trans g7).more (by omega), rfl⟩
        rw [List.take_zero]
        unfold lbody
        simpa using b7
      · have h5 : kd = 5 := by
          rcases hka with ⟨_, h1, h2⟩ | ⟨_, h1, h2, h3⟩ | ⟨h0, h1, h2, h3⟩
          · exact absurd hlk.1 h2
          · omega
          · rw [h0] at han; cases han
        refine hend (g06.more (by omega)) b6 ?_ (by rw [lhead_length]; omega)
        unfold lbytes lmid ltail
        rw [if_pos (.inl h5), if_neg (by omega), List.append_nil, List.append_nil]
  · rw [lput_no hlk, lchk_no hlk] at hk
    refine w8 _ _ (c8 (I := fun _ _ _ _ => False) (by intro g id vals A' d h; exact h.elim)) ?_
    rw [e8]
    refine newP_made (cs := (Value.cells (letV kd xa no x sv)).toList) hf (by omega) (by simp [letV, letC, Value.cells, one_int, one_string, hl.one.1]) fun A1 m1 => ?_
    have n1 := m1.next
    have r1 : Go.Abs.Row1 A1 A.next (letC kd xa no x sv) 29 := m1.row1
    have g1 := Grow.made m1 hf
    rw [letW_load r1 hl.one.2]
    simp only [pureW_some]
    refine wc10 hkd m1.fine (by omega) (hl.keeps (m1.keeps hf) (by simp)) fun A2 g2 => ?_
    rw [lchk_no hlk]
    simp only [bin_neq, pureW_some, forkW_bne]
    exact ⟨fun _ => hk A2 ((g1.trans g2).more (by omega)), fun h => absurd h (by decide)⟩
end
end Go.Proofs.YtjiglbmjhecobaaGreatDoor


namespace Go.Proofs.YtjiglbmjhecobaaGreatDoor
open Go.Abs Go.Crc
theorem be2 (n : Nat) : be n 2 = [UInt8.ofNat (n / 256), UInt8.ofNat (n % 256)] := by
  have e : be n 2 = [UInt8.ofNat (n / 256 ^ 1), UInt8.ofNat (n / 256 ^ 0)] := rfl
  rw [e]
  simp only [Nat.pow_one, Nat.pow_zero, Nat.div_one, List.cons.injEq, true_and, and_true]
  apply UInt8.toNat_inj.1
  rw [UInt8.toNat_ofNat', UInt8.toNat_ofNat']
  omega
theorem wrap_u16 {n : Int} (h1 : 0 ≤ n) (h2 : n < 65536) : IntKind.u16.wrap n = n := by
  simp [IntKind.wrap, IntKind.bits, IntKind.signed]
  omega
theorem tdiv256 (n : Nat) : ((n : Int).tdiv 256) = ((n / 256 : Nat) : Int) := by
  rw [Int.tdiv_eq_ediv_of_nonneg (by omega)]; omega
theorem tmod256 (n : Nat) : ((n : Int).tmod 256) = ((n % 256 : Nat) : Int) := by
  rw [Int.tmod_eq_emod_of_nonneg (by omega)]; omega
theorem byte_wrap (n : Nat) : IntKind.u8.wrap (n : Int) = ((UInt8.ofNat n).toNat : Int) := by rw [wrap_u8, ofNat_u8]
section
variable {W0 : World} {m0 : Inj Tryz.prog}
set_option maxRecDepth 100000 in
set_option maxHeartbeats 4000000 in
theorem wc9 {kd xa no : Nat} {x : Nm} {sv : Value} {l : List Nm} {F : List Nat} {A : AW} {K : Value → AW → Prop} (hkd : kd < 256) (hxa : xa < 256) (hn0 : no < 65536) (hxf : x.f < 4294967296) (hlf : ∀ p ∈ l, p.f < 4294967296) (hf : Fine A) (hA : A.next + 30000 < maxId) (hl : RdN A sv l F)
    (hk : ∀ A', Grow A A' 20000 → K (.tuple ⟨[.string ⟨⟨lput kd xa no x l⟩⟩, .int .i64 (lchk kd xa no x l)]⟩) A') : Wc Tryz.prog theX W0 m0 9 [letV kd xa no x sv] A K := by
  have hroom : room = 68719476736 := rfl
  have hF := hl.fam
  by_cases hlk : Lok kd xa no (zi x) (xchk x.g x.b) (ni l) l.length
  · obtain ⟨h200, hall⟩ := lok_bound hlk
    rw [lput_ok hlk, lchk_ok hlk] at hk
    have hlb : ∀ i, (lbody (l.take i)).length ≤ 26800 := fun i => by
      have := lbody_length (l := l.take i) fun p hp => hall p (List.mem_of_mem_take hp)
      have h2 : (l.take i).length ≤ 200 := by rw [List.length_take]; omega
      omega
    have hend : ∀ {A' : AW} {v : Value} {b : List UInt8} {Fv : List Nat}, Grow A A' 19000 → Buf 5 A' v b Fv → b = lbytes kd xa no x l → b.length ≤ 30000 →
        Wc Tryz.prog theX W0 m0 25 [v] A' fun t43 At43 => bothW (convertA Tryz.prog At43 44 9 t43) fun t44 At44 => K (.tuple ⟨[t44, (.int .i64 0)]⟩) At44 := by
      intro A' v b Fv g hb he hbl
      have hn := g.next
      refine wc25 hb.rd g.fine (by omega) (by omega) fun A2 v2 F2 g2 b2 hF2 => ?_
      rw [b2.rd.str tb]
      refine bothW_ok.2 ?_
      rw [he]
      exact hk A2 ((g.trans g2).more (by omega))
    let I : Nat → Nat → List Value → AW → Prop := fun g' id vals A' => id = 0 ∧ ∃ (i : Nat) (v : Value) (Fv : List Nat), vals = [.pointer (some ⟨A.next, 0, none⟩), v, .int .i64 (i : Int)] ∧ i ≤ l.length ∧ kd = 21 ∧
      Buf 5 A' v (lhead kd xa no ++ be l.length 2 ++ lbody (l.take i)) Fv ∧ (∀ y ∈ Fv, A.next < y) ∧ Go.Abs.Row1 A' A.next (letC kd xa no x sv) 29 ∧ RdN A' sv l F ∧ Grow A A' (10000 + 40 * i) ∧ g' = l.length - i
    refine w9 _ _ (c9 (I := I) ?_) ?_
    · rintro g' id vals A' d ⟨rfl, i, v, Fv, rfl, hi, h21, hb, hFv, hr, hl', hg, rfl⟩ hd
      rw [l9_0]
      simp only [L9, List.map_cons, List.map_nil, List.cons.injEq, and_true] at hd
      obtain ⟨h1, h4, h7⟩ := hd
      have hnx := hg.next
      have hl1 : (lhead kd xa no ++ be l.length 2 ++ lbody (l.take i)).length ≤ 26900 := by
        have := hlb i
        rw [List.length_append, List.length_append, lhead_length, be_length]; omega
      simp only [h1, h4, h7, fa_29_4, ld_27, cell_row hr.row, letC, cellOf, isT_int, isT_string, hl'.one.2, cond_false, hl'.len, bin_lss, pureW_some, forkW_dec, Nat.zero_add]
      refine ⟨fun hlt => ?_, fun hge => ?_⟩
      · have hlt : i < l.length := by omega
        obtain ⟨p, hp⟩ : ∃ p, l[i]? = some p := ⟨l[i], List.getElem?_eq_getElem hlt⟩
        have hpm : p ∈ l := List.mem_of_getElem? hp
        obtain ⟨r, oo, a1, a2⟩ := hl'.at hp
        simp only [a1, ld_24, a2, pureW_some]
        refine wc24 (f := p.f) (g := p.g) (b := p.b) hg.fine (by omega) (hlf p hpm) (hall p hpm) fun A4 v4 F4 g4 b4 hF4 => ?_
        have n4 := g4.next
        have le4' := g4.le
        have hb4 := hb.keeps g4.keeps (by simp)
        have hl4 := hl'.keeps g4.keeps (by simp)
        have r4 := hr.keeps g4.keeps (by simp)
        have hnb := nb_length (hall p hpm)
        simp only [ex_0, ex_1, pureW_some]
        refine appendBuf tb hb4 (src_slice tb b4.rd) g4.fine (by omega) (by unfold nb at hnb; omega) fun v5 A5 F5 b5 k5 hF5 n5 f5 => ?_
        have hle := hg.le
        simp only [bin_add, pureW_some]
        rw [wrap_i64 (by omega) (by omega)]
        refine cutW_self.2 ⟨l.length - (i + 1), by omega, rfl, i + 1, v5, F5, rfl, by omega, h21, ?_, fun y hy => ?_, r4.keeps k5 (fun hm => by have := hFv _ hm; omega), hl4.keeps k5 (fun y hy hm => by have := hF y hy; have := hFv y hm; omega), ((hg.trans g4).own k5 (fun y hy => by have := hFv y hy; omega) (m := 1) (by omega) f5).more (by omega), rfl⟩
        · rw [lbody_succ hp, ← List.append_assoc]
          exact b5
        · have hlr := hr.lt
          rcases hF5 y hy with h | h
          · exact hFv y h
          · omega
      · have hi' : i = l.length := by omega
        rw [hi', List.take_length] at hb hl1
        refine hend (hg.more (by omega)) hb ?_ (by omega)
        unfold lbytes lmid ltail
        rw [if_pos (.inr h21), if_pos h21, List.append_nil, List.append_assoc]
    · rw [e9]; unfold qe9_1 qe9_0
      refine newP_made (cs := (Value.cells (letV kd xa no x sv)).toList) hf (by omega) (by simp [letV, letC, Value.cells, one_int, one_string, hl.one.1]) fun A1 m1 => ?_
      have n1 := m1.next
      have r1 : Go.Abs.Row1 A1 A.next (letC kd xa no x sv) 29 := m1.row1
      have hl1 := hl.keeps (m1.keeps hf) (by simp)
      have g1 := Grow.made m1 hf
      rw [letW_load r1 hl.one.2]
      simp only [pureW_some]
      refine wc23 m1.fine (by omega) hl1 fun A2 g2 => ?_
      rw [lchk_ok hlk]
      have n2 := g2.next
      have le2 := g2.le
      have r2 := r1.keeps g2.keeps (by simp)
      have hl2 := hl1.keeps g2.keeps (by simp)
      have g02 := g1.trans g2
      simp only [bin_neq, pureW_some, forkW_bne]
      refine ⟨fun h => absurd rfl h, fun _ => ?_⟩
      simp only [fa_29_0, fa_29_2, fa_29_3, ld_5, ld_25, ld_26, cell_row r2.row, letC, cellOf, isT_int, isT_string, hl.one.2, cond_false, bin_quo (show (256 : Int) ≠ 0 by decide), bin_rem (show (256 : Int) ≠ 0 by decide), cv_26_5, bothW_ok, pureW_some, Nat.zero_add]
      rw [tdiv256, tmod256, wrap_u16 (by omega) (by omega), byte_wrap, byte_wrap]
      refine bslice4 g2.fine (by omega) fun A3 m3 => ?_
      have n3 := m3.next
      have k3 := m3.keeps g2.fine
      have r3 := r2.keeps k3 (by simp)
      have hl3 := hl2.keeps k3 (by simp)
      have g03 := g02.trans (.made m3 g2.fine)
      have hhead : [Value.int .u8 (kd : Int), .int .u8 (xa : Int), .int .u8 ((UInt8.ofNat (no / 256)).toNat : Int), .int .u8 ((UInt8.ofNat (no % 256)).toNat : Int)] = bytesV (lhead kd xa no) := by
        rw [byteN hkd, byteN hxa]
        unfold lhead
        rw [be2]
        rfl
      have b3 : Buf 5 A3 (.slice (some ⟨A2.next, 0, none⟩) 4 4) (lhead kd xa no) [A2.next] := by
        have := m3.row1
        rw [hhead] at this
        exact bufN this (by rw [lhead_length]; omega)
      have ht : A3.cells? ⟨A.next, 1, none⟩ 3 = some [.int .u32 (x.f : Int), .string x.g, .string x.b] := by rw [cells_row r3.row]; rfl
      simp only [fa_29_0, fa_29_1, fa_29_4, ld_5, ld_24, ld_27, ht, cell_row r3.row, letC, cellOf, isT_int, isT_string, hl.one.2, hl3.len, cond_false, bin_neq, bin_eql, pureW_some, forkW_bne, forkW_beq, Nat.zero_add]
      refine ⟨fun h5 => ⟨fun h21 => ?_, fun h21 => ⟨fun _ => ?_, fun h => absurd h21 h⟩⟩, fun h5 => ⟨fun h21 => absurd h21 (by omega), fun _ => ?_⟩⟩
      · have hkk : kd ≠ 5 ∧ kd ≠ 21 := ⟨by omega, by omega⟩
        have hx0 : xchk x.g x.b = 0 := hlk.2.2.1 hkk
        have hnb := nb_length hx0
        refine wc24 (f := x.f) (g := x.g) (b := x.b) m3.fine (by omega) hxf hx0 fun A4 v4 F4 g4 b4 hF4 => ?_
        have n4 := g4.next
        have le4' := g4.le
        have r4 := r3.keeps g4.keeps (by simp)
        have hl4 := hl3.keeps g4.keeps (by simp)
        simp only [ex_0, ex_1, pureW_some]
        refine appendBuf tb (b3.keeps g4.keeps (by simp)) (src_slice tb b4.rd) g4.fine (by omega) (by rw [lhead_length]; unfold nb at hnb; omega) fun v5 A5 F5 b5 k5 hF5 n5 f5 => ?_
        have r5 := r4.keeps k5 (by simp; omega)
        simp only [fa_29_0, ld_5, cell_row r5.row, letC, cellOf, isT_int, isT_string, hl.one.2, cond_false, bin_eql, pureW_some, forkW_beq, Nat.zero_add]
        refine ⟨fun h => absurd h h21, fun _ => ?_⟩
        refine hend (((g03.trans g4).own k5 (by simp; omega) (m := 1) (by omega) f5).more (by omega)) b5 ?_ ?_
        · unfold lbytes lmid ltail
          rw [if_neg (by omega), if_neg (by omega), List.append_nil]
          rfl
        · rw [List.length_append, lhead_length]; unfold nb at hnb; omega
      · have h21' : kd = 21 := by omega
        simp only [bin_quo (show (256 : Int) ≠ 0 by decide), bin_rem (show (256 : Int) ≠ 0 by decide), cv_3_5, fa_29_4, ld_27, cell_row r3.row, letC, cellOf, isT_int, isT_string, hl.one.2, hl3.len, cond_false, bothW_ok, pureW_some, Nat.zero_add]
        rw [tdiv256, tmod256, wrap_i64 (by omega) (by omega), byte_wrap, byte_wrap]
        refine bslice2 m3.fine (by omega) fun A4 m4 => ?_
        have n4 := m4.next
        have k4 := m4.keeps m3.fine
        have r4 := r3.keeps k4 (by simp)
        have hl4 := hl3.keeps k4 (by simp)
        have g04 := g03.trans (.made m4 m3.fine)
        refine appendBuf tb (b3.keeps k4 (by simp)) (src_slice tb (buf2 m4.row1).rd) m4.fine (by omega) (by rw [lhead_length]; simp only [List.length_cons, List.length_nil]; omega) fun v5 A5 F5 b5 k5 hF5 n5 f5 => ?_
        have r5 := r4.keeps k5 (by simp; omega)
        have hl5 := hl4.keeps k5 (fun y hy hm => by have := hF y hy; simp at hm; omega)
        refine cutW_self.2 ⟨l.length, rfl, 0, v5, F5, rfl, by omega, h21', ?_, fun y hy => ?_, r5, hl5, (g04.own k5 (by simp; omega) (m := 1) (by omega) f5).more (by omega), rfl⟩
        · rw [List.take_zero]
          unfold lbody
          rw [be2]
          simpa using b5
        · rcases hF5 y hy with h | h
          · simp at h; omega
          · omega
      · refine hend (g03.more (by omega)) b3 ?_ (by rw [lhead_length]; omega)
        unfold lbytes lmid ltail
        rw [if_pos (.inl (by omega)), if_neg (by omega), List.append_nil, List.append_nil]
  · rw [lput_no hlk, lchk_no hlk] at hk
    refine w9 _ _ (c9 (I := fun _ _ _ _ => False) (by intro g id vals A' d h; exact h.elim)) ?_
    rw [e9]; unfold qe9_1 qe9_0
    refine newP_made (cs := (Value.cells (letV kd xa no x sv)).toList) hf (by omega) (by simp [letV, letC, Value.cells, one_int, one_string, hl.one.1]) fun A1 m1 => ?_
    have n1 := m1.next
    have r1 : Go.Abs.Row1 A1 A.next (letC kd xa no x sv) 29 := m1.row1
    have g1 := Grow.made m1 hf
    rw [letW_load r1 hl.one.2]
    simp only [pureW_some]
    refine wc23 m1.fine (by omega) (hl.keeps (m1.keeps hf) (by simp)) fun A2 g2 => ?_
    rw [lchk_no hlk]
    simp only [bin_neq, pureW_some, forkW_bne]
    exact ⟨fun _ => hk A2 ((g1.trans g2).more (by omega)), fun h => absurd h (by decide)⟩
end
end Go.Proofs.YtjiglbmjhecobaaGreatDoor


namespace Go.Proofs.YtjiglbmjhecobaaGreatDoor
open Go.Abs Go.Crc
section
variable {W0 : World} {m0 : Inj Tryz.prog}
theorem head_kn (hhd : KC.Holds Tryz.prog W0 m0 ⟨7, [], [.bool true]⟩) (A' : AW) {K : Value → AW → Prop} (hk : K (.bool true) A') : knW Tryz.prog W0 m0 7 [] A' K := .inl ⟨[.bool true], by decide, hhd, rfl, fun v hv => by
  obtain rfl : v = .bool true := by simpa using hv
  exact hk⟩
theorem wc3 {kd xa no : Nat} {x : Nm} {sv : Value} {l : List Nm} {F : List Nat} {A : AW} (hhd : KC.Holds Tryz.prog W0 m0 ⟨7, [], [.bool true]⟩) (hkd : kd < 256) (hxa : xa < 256) (hn0 : no < 65536) (hxf : x.f < 4294967296) (hlf : ∀ p ∈ l, p.f < 4294967296) (hf : Fine A) (hg0 : Glb A) (hA : A.next + 100000 < maxId) (hl : RdN A sv l F) :
    Wc Tryz.prog theX W0 m0 3 [letV kd xa no x sv] A fun v _ => v = .bool true := by
  refine w3 _ _ (cuts_none (S := fun _ _ _ => False) fun _ _ _ h => h) ?_
  rw [e3]
  refine newP_made (cs := (Value.cells (letV kd xa no x sv)).toList) hf (by omega) (by simp [letV, letC, Value.cells, one_int, one_string, hl.one.1]) fun A1 m1 => ?_
  have n1 := m1.next
  have r1 : Go.Abs.Row1 A1 A.next (letC kd xa no x sv) 29 := m1.row1
  have hl1 := hl.keeps (m1.keeps hf) (by simp)
  have g1 := Grow.made m1 hf
  have e1 := letW_load r1 hl.one.2
  simp only [fa_29_4, ld_27, cell_row r1.row, letC, cellOf, isT_int, isT_string, hl.one.2, hl1.len, cond_false, bin_gtr, pureW_some, forkW_dec, Nat.zero_add]
  refine ⟨fun _ => head_kn hhd _ rfl, fun _ => ?_⟩
  rw [e1]
  simp only [pureW_some]
  refine wc8 hkd hxa hn0 hxf hlf m1.fine (hg0.keeps g1.keeps (by simp)) (by omega) hl1 fun A2 g2 => ?_
  have n2 := g2.next
  have r2 := r1.keeps g2.keeps (by simp)
  have hl2 := hl1.keeps g2.keeps (by simp)
  simp only [ex_0, ex_1, letW_load r2 hl.one.2, pureW_some]
  refine wc9 hkd hxa hn0 hxf hlf g2.fine (by omega) hl2 fun A3 g3 => ?_
  have n3 := g3.next
  have r3 := r2.keeps g3.keeps (by simp)
  have hl3 := hl2.keeps g3.keeps (by simp)
  simp only [ex_0, ex_1, letW_load r3 hl.one.2, bin_streq, bin_eql, pureW_some, forkW_beq]
  refine forkW_bool.2 ⟨fun _ => ⟨fun _ => ?_, fun h => absurd rfl h⟩, fun h => by simp at h⟩
  refine wc10 hkd g3.fine (by omega) hl3 fun A4 g4 => ?_
  simp only [bin_eql, pureW_some, forkW_beq]
  exact ⟨fun _ => head_kn hhd _ rfl, fun h => absurd rfl h⟩
end
end Go.Proofs.YtjiglbmjhecobaaGreatDoor
