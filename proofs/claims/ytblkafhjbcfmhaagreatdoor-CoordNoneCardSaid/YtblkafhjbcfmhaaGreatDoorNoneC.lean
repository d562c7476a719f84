/-
  The document's Put of a letter tells some text; and so does the statement's. Conditions: those of each theorem.
-/
import Derived.Test.YtblkafhjbcfmhaaGreatDoorNoneB

namespace Go.Proofs.YtblkafhjbcfmhaaGreatDoor
open Go.Abs

section
variable {W0 : World} {m0 : Inj Tryz.prog}
noncomputable def putTail (W0 : World) (m0 : Inj Tryz.prog) (S : Nat → List Value → AW → Prop) (Q : Value → AW → Prop) (t0 v : Value) (A : AW) : Prop := (pureW (fieldAddrA Tryz.prog 30 t0 0) fun t63 => pureW (loadP Tryz.prog A 5 t63) fun t64 => pureW (binA Tryz.prog .eql 5 (.tmp 44) (.const (.int .u8 21)) t64 (.int .u8 21)) fun t65 => forkW t65 (pureW (fieldAddrA Tryz.prog 30 t0 4) fun t66 => pureW (loadP Tryz.prog A 28 t66) fun t67 => pureW (lenA Tryz.prog A 28 t67) fun t68 => pureW (binA Tryz.prog .quo 3 (.tmp 49) (.const (.int .i64 256)) t68 (.int .i64 256)) fun t69 => bothW (convertA Tryz.prog A 3 5 t69) fun t70 At70 => pureW (fieldAddrA Tryz.prog 30 t0 4) fun t71 => pureW (loadP Tryz.prog At70 28 t71) fun t72 => pureW (lenA Tryz.prog At70 28 t72) fun t73 => pureW (binA Tryz.prog .rem 3 (.tmp 54) (.const (.int .i64 256)) t73 (.int .i64 256)) fun t74 => bothW (convertA Tryz.prog At70 3 5 t74) fun t75 At75 => bothW (buildSliceA Tryz.prog At75 22 2 [(0, t70), (1, t75)]) fun t76 At76 => bothW (appendA Tryz.prog At76 22 22 v t76) fun t77 At77 => cutW (T54 0) (T54 0) (S 0 [t0, t77, (.int .i64 0)] At77)) (Wc Tryz.prog theX W0 m0 123 [v] A fun t78 At78 => bothW (convertA Tryz.prog At78 22 9 t78) fun t79 At79 => Q (.tuple ⟨[t79, (.int .i64 0)]⟩) At79))
theorem bslice2 {A : AW} {a b : Int} {K : Value → AW → Prop} (hf : Fine A) (h : A.next < maxId) (hk : ∀ A', Made A A' [.int .u8 a, .int .u8 b] 5 → K (.slice (some ⟨A.next, 0, none⟩) 2 2) A') : bothW (buildSliceA Tryz.prog A 22 2 [(0, .int .u8 a), (1, .int .u8 b)]) K := by
  rw [bs22_2]
  unfold AW.newRow AW.new
  have hc : ([Value.int .u8 a, .int .u8 b].all oneCell) = true := rfl
  simp only [hc, cond_true, blt_true.2 h]
  exact bothW_ok.2 (hk (A.push (.row [.int .u8 a, .int .u8 b] 5 A.next 0 false)) ⟨AW.push_ext _ h, rfl, by rw [AW.push_get _ h, if_pos rfl], hf.alone (Nat.le_refl _), hf.push _ h⟩)
theorem putTail_ok {A0 A : AW} {n q : Nat} {kd : Int} {f : Nat} {g b : ByteArray} {xa no : Int} {sv v : Value} {l : List Nm} {F Fb : List Nat} {lb : List UInt8} {S : Nat → List Value → AW → Prop} {Q : Value → AW → Prop} (h0 : Grow A0 A n) (hr : Row1 A q (letC kd f g b xa no sv) 30) (hl : RdN A sv l F) (hb : Buf 5 A v lb Fb) (hA : A.next + 100 < maxId) (hlb : lb.length ≤ 1000) (hFb : ∀ y ∈ Fb, A0.next ≤ y) (hqb : q ∉ Fb) (hFF : ∀ y ∈ F, y ∉ Fb)
    (hQ : ∀ A' s, Grow A0 A' (n + 10) → Q (.tuple ⟨[.string s, .int .i64 0]⟩) A')
    (hS : ∀ A' v' lb' Fb', Grow A0 A' (n + 10) → Row1 A' q (letC kd f g b xa no sv) 30 → RdN A' sv l F → Buf 5 A' v' lb' Fb' → lb'.length ≤ 1002 → (∀ y ∈ Fb', y ∈ Fb ∨ A.next ≤ y) → S 0 [.pointer (some ⟨q, 0, none⟩), v', .int .i64 0] A') :
    putTail W0 m0 S Q (.pointer (some ⟨q, 0, none⟩)) v A := by
  have hroom : room = 68719476736 := rfl
  unfold putTail
  simp only [fa_30_0, fa_30_4, ld_5, ld_28, cell_row hr.row, letC, cellOf, isT_int, isT_string, hl.one.2, cond_false, hl.len, bin_eql, pureW_some, forkW_beq, Nat.zero_add]
  refine ⟨fun _ => ?_, fun _ => ?_⟩
  · rw [bin_quo (by decide)]
    simp only [pureW_some, cv_3_5, bothW_ok, cell_row hr.row, letC, cellOf, isT_int, isT_string, hl.one.2, cond_false, hl.len]
    rw [bin_rem (by decide)]
    simp only [pureW_some, cv_3_5, bothW_ok]
    obtain ⟨c0, e0⟩ := byte_any (IntKind.i64.wrap ((l.length : Int).tdiv 256))
    obtain ⟨c1, e1⟩ := byte_any ((l.length : Int).tmod 256)
    rw [e0, e1]
    refine bslice2 h0.fine (by omega) fun A2 m2 => ?_
    have n2 := m2.next
    have r2 : Row1 A2 A.next (bytesV [c0, c1]) 5 := m2.row1
    have b2 : Buf 5 A2 (.slice (some ⟨A.next, 0, none⟩) 2 2) [c0, c1] [A.next] := bufN r2 (by simp)
    refine appendBuf tb (hb.keeps (m2.keeps h0.fine) (by simp)) (src_slice tb b2.rd) m2.fine (by omega) (by simp; omega) fun v3 A3 F3 b3 k3 hF3 n3 f3 => ?_
    refine cutW_self.2 (hS A3 v3 _ F3 (((h0.trans (.made m2 h0.fine)).own k3 hFb (m := 1) (by omega) f3).more (by omega)) ((hr.keeps (m2.keeps h0.fine) (by simp)).keeps k3 hqb) ((hl.keeps (m2.keeps h0.fine) (by simp)).keeps k3 hFF) b3 (by simp; omega) fun y hy => ?_)
    rcases hF3 y hy with h | h
    · exact .inl h
    · exact .inr (by omega)
  · refine wc123 hb.rd h0.fine (by omega) (by omega) fun A2 v2 l2 F2 g2 b2 => ?_
    simp only [b2.rd.str tb, bothW_ok]
    exact hQ A2 _ ((h0.trans g2).more (by omega))
end
end Go.Proofs.YtblkafhjbcfmhaaGreatDoor


namespace Go.Proofs.YtblkafhjbcfmhaaGreatDoor
open Go.Abs

section
variable {W0 : World} {m0 : Inj Tryz.prog}
theorem loadLet {A : AW} {q : Nat} {kd : Int} {f : Nat} {g b : ByteArray} {xa no : Int} {sv : Value} (h : Row1 A q (letC kd f g b xa no sv) 30) (hs : isTuple sv = false) : loadP Tryz.prog A 30 (.pointer (some ⟨q, 0, none⟩)) = some (letV kd f g b xa no sv) := by
  rw [ld_30, cells_row h.row]
  simp [letC, takeCells, isT_int, isT_string, hs, letV]
set_option maxRecDepth 100000 in
theorem wc54 {kd : Int} {f : Nat} {g b : ByteArray} {xa no : Int} {sv : Value} {l : List Nm} {F : List Nat} {A : AW} {K : Value → AW → Prop} (hf : Fine A) (hA : A.next + 30000 < maxId) (hl : RdN A sv l F) (hfl : f < 4294967296) (hw : ∀ p ∈ l, p.f < 4294967296) {kc xc : UInt8} (hkd : kd = (kc.toNat : Int)) (hxa : xa = (xc.toNat : Int))
    (hk : ∀ A' s r, Grow A A' 20000 → K (.tuple ⟨[.string s, .int .i64 r]⟩) A') : Wc Tryz.prog theX W0 m0 54 [letV kd f g b xa no sv] A K := by
  have hF := hl.fam
  have hroom : room = 68719476736 := rfl
  let I : Nat → Nat → List Value → AW → Prop := fun g' id vals A' => id = 0 ∧ ∃ (i : Nat) (v : Value) (lb : List UInt8) (Fb : List Nat), vals = [.pointer (some ⟨A.next, 0, none⟩), v, .int .i64 (i : Int)] ∧ i ≤ l.length ∧ LetOk kd g b l ∧ Buf 5 A' v lb Fb ∧ lb.length ≤ 1010 + 200 * i ∧ (∀ y ∈ Fb, A.next < y) ∧
    Row1 A' A.next (letC kd f g b xa no sv) 30 ∧ RdN A' sv l F ∧ Grow A A' (5100 + 40 * i) ∧ g' = l.length - i
  refine w54 _ _ (c54 (I := I) ?_) ?_
  · rintro g' id vals A' d ⟨rfl, i, v, lb, Fb, rfl, hi, hok, hb, hlb, hFb, hr, hl', hg, rfl⟩ hd
    rw [l54_0]
    simp only [L54, List.map_cons, List.map_nil, List.cons.injEq, and_true] at hd
    obtain ⟨h1, h4, h7⟩ := hd
    obtain ⟨h200, hxs, _⟩ := hok
    have hnx := hg.next
    simp only [h1, h4, h7, fa_30_4, ld_28, cell_row hr.row, letC, cellOf, isT_int, isT_string, hl'.one.2, cond_false, hl'.len, bin_lss, pureW_some, forkW_dec, Nat.zero_add]
    refine ⟨fun hlt => ?_, fun hge => ?_⟩
    · have hlt : i < l.length := by omega
      obtain ⟨p, hp⟩ : ∃ p, l[i]? = some p := ⟨l[i], List.getElem?_eq_getElem hlt⟩
      have hpm : p ∈ l := List.mem_of_getElem? hp
      obtain ⟨r, o, a1, a2⟩ := hl'.at hp
      have a3 : A'.cells? ⟨r, o, none⟩ 3 = some [.int .u32 (p.f : Int), .string p.g, .string p.b] := a2
      obtain ⟨q1, q2, q3⟩ := xchk_zero (hxs p hpm)
      simp only [a1, ld_25, a3, pureW_some]
      refine wc122 (f := p.f) (g := p.g) (b := p.b) hg.fine (by omega) (hw p hpm) (hxs p hpm) fun A2 v2 F2 g2 b2 hF2 => ?_
      have n2 := g2.next
      have l2 := g2.le
      simp only [extractP, List.getElem?_cons_zero, List.getElem?_cons_succ, pureW_some]
      refine appendBuf tb (hb.keeps g2.keeps (by simp)) (src_slice tb b2.rd) g2.fine (by omega) (by rw [xb_length]; omega) fun v3 A3 F3 b3 k3 hF3 n3 f3 => ?_
      simp only [bin_add, pureW_some]
      rw [wrap_i64 (by omega) (by omega)]
      have hlr := hr.lt
      refine cutW_self.2 ⟨l.length - (i + 1), by omega, rfl, i + 1, v3, _, F3, rfl, by omega, ⟨h200, hxs, by assumption⟩, b3, by rw [List.length_append, xb_length]; omega, fun y hy => ?_, (hr.keeps g2.keeps (by simp)).keeps k3 (fun hm => by have := hFb _ hm; omega), (hl'.keeps g2.keeps (by simp)).keeps k3 (fun y hy hm => by have := hF y hy; have := hFb _ hm; omega), ((hg.trans g2).own k3 (fun y hy => by have := hFb y hy; omega) (m := 1) (by omega) f3).more (by omega), rfl⟩
      rcases hF3 y hy with h | h
      · exact hFb y h
      · omega
    · refine wc123 hb.rd hg.fine (by omega) (by omega) fun A2 v2 l2 F2 g2 b2 => ?_
      simp only [b2.rd.str tb, bothW_ok]
      exact hk A2 _ _ ((hg.trans g2).more (by omega))
  · rw [e54]
    refine newP_made (cs := (Value.cells (letV kd f g b xa no sv)).toList) hf (by omega) (by simp [letV, letC, Value.cells, one_int, one_string, hl.one.1]) fun A1 m1 => ?_
    have n1 := m1.next
    have r1 : Row1 A1 A.next (letC kd f g b xa no sv) 30 := m1.row1
    have hl1 := hl.keeps (m1.keeps hf) (by simp)
    rw [loadLet r1 hl.one.2]
    simp only [pureW_some]
    refine wc121 m1.fine (by omega) hl1 fun A2 r g2 hok => ?_
    have n2 := g2.next
    have l2 := g2.le
    have r2 := r1.keeps g2.keeps (by simp)
    have hl2 := hl1.keeps g2.keeps (by simp)
    have g02 := (Grow.made m1 hf).trans g2
    simp only [bin_neq, pureW_some, forkW_bne]
    refine ⟨fun _ => hk A2 _ 250 (g02.more (by omega)), fun h0 => ?_⟩
    obtain ⟨h200, hxs, hx⟩ := hok h0
    simp only [fa_30_0, fa_30_2, fa_30_3, ld_5, ld_26, ld_27, cell_row r2.row, letC, cellOf, isT_int, isT_string, cond_false, pureW_some, Nat.zero_add]
    rw [bin_quo (by decide)]
    simp only [cv_27_5, bothW_ok, ld_27, cell_row r2.row, letC, cellOf, isT_int, isT_string, cond_false, pureW_some]
    rw [bin_rem (by decide)]
    simp only [cv_27_5, bothW_ok, pureW_some]
    obtain ⟨c2, e2⟩ := byte_any (IntKind.u16.wrap (no.tdiv 256))
    obtain ⟨c3, e3⟩ := byte_any (no.tmod 256)
    rw [e2, e3]
    refine bslice4 g2.fine (by omega) fun A3 m3 => ?_
    have n3 := m3.next
    have q3 : Row1 A3 A2.next (bytesV [kc, xc, c2, c3]) 5 := by
      have := m3.row1
      rw [hkd, hxa] at this
      exact this
    have b3 : Buf 5 A3 (.slice (some ⟨A2.next, 0, none⟩) 4 4) [kc, xc, c2, c3] [A2.next] := bufN q3 (by simp)
    have r3 := r2.keeps (m3.keeps g2.fine) (by simp)
    have hl3 := hl2.keeps (m3.keeps g2.fine) (by simp)
    have g3 : Grow A A3 5010 := (g02.trans (.made m3 g2.fine)).more (by omega)
    have hok' : LetOk kd g b l := ⟨h200, hxs, hx⟩
    have hlr := r1.lt
    have tail : ∀ (A4 : AW) (v : Value) (lb : List UInt8) (Fb : List Nat), Grow A A4 5050 → Row1 A4 A.next (letC kd f g b xa no sv) 30 → RdN A4 sv l F → Buf 5 A4 v lb Fb → lb.length ≤ 1000 → (∀ y ∈ Fb, A.next < y) → putTail W0 m0 (fun id v A => ∃ g, I g id v A) K (.pointer (some ⟨A.next, 0, none⟩)) v A4 := by
      intro A4 v lb Fb g4 r4 hl4 b4 hlb hFb
      have n4 := g4.next
      refine putTail_ok g4 r4 hl4 b4 (by omega) hlb (fun y hy => by have := hFb y hy; omega) (fun hm => by have := hFb _ hm; omega) (fun y hy hm => by have := hF y hy; have := hFb _ hm; omega) (fun A5 s g5 => hk A5 s 0 (g5.more (by omega))) fun A5 v5 lb5 Fb5 g5 r5 hl5 b5 hlb5 hFb5 => ?_
      refine ⟨l.length, rfl, 0, v5, lb5, Fb5, rfl, by omega, hok', b5, by omega, fun y hy => ?_, r5, hl5, g5.more (by omega), rfl⟩
      rcases hFb5 y hy with h | h
      · exact hFb y h
      · have := g4.le; have := r4.lt; omega
    have r3' : Row1 A3 A.next [.int .u8 kd, .int .u32 (f : Int), .string g, .string b, .int .u8 xa, .int .u16 no, sv] 30 := r3
    have ht : A3.cells? ⟨A.next, 1, none⟩ 3 = some [.int .u32 (f : Int), .string g, .string b] := by rw [cells_row r3'.row]; rfl
    have hle2 := l2
    simp only [fa_30_0, ld_5, cell_row r3'.row, cellOf, isT_int, cond_false, bin_neq, pureW_some, forkW_bne]
    refine ⟨fun h5 => ⟨fun h21 => ?_, fun _ => ?_⟩, fun _ => ?_⟩
    · have hx0 := hx h5 h21
      obtain ⟨p1, p2, p3⟩ := xchk_zero hx0
      simp only [fa_30_1, ld_25, ht, pureW_some, Nat.zero_add]
      refine wc122 (f := f) (g := g) (b := b) m3.fine (by omega) hfl hx0 fun A4 v4 F4 g4 b4 hF4 => ?_
      have n4 := g4.next
      simp only [extractP, List.getElem?_cons_zero, List.getElem?_cons_succ, pureW_some]
      refine appendBuf tb (b3.keeps g4.keeps (by simp)) (src_slice tb b4.rd) g4.fine (by omega) (by rw [xb_length]; simp; omega) fun v5 A5 F5 b5 k5 hF5 n5 f5 => ?_
      have hF5' : ∀ y ∈ F5, A.next < y := fun y hy => by
        have := g4.le
        rcases hF5 y hy with h | h
        · simp at h; omega
        · omega
      have tl := tail A5 v5 _ F5 (((g3.trans g4).own k5 (by simp; omega) (m := 1) (by omega) f5).more (by omega)) ((r3.keeps g4.keeps (by simp)).keeps k5 (by simp; omega)) ((hl3.keeps g4.keeps (by simp)).keeps k5 (fun y hy => by have := hF y hy; simp; omega)) b5 (by rw [List.length_append, xb_length]; simp; omega) hF5'
      unfold putTail at tl
      simp only [fa_30_0, ld_5, cell_row r3'.row, cellOf, isT_int, cond_false, bin_neq, pureW_some, forkW_bne] at tl
      exact tl
    · have tl := tail A3 _ _ _ (g3.more (by omega)) r3 hl3 b3 (by simp) (by simp; omega)
      unfold putTail at tl
      simp only [fa_30_0, ld_5, cell_row r3'.row, cellOf, isT_int, cond_false, bin_neq, pureW_some, forkW_bne] at tl
      exact tl
    · have tl := tail A3 _ _ _ (g3.more (by omega)) r3 hl3 b3 (by simp) (by simp; omega)
      unfold putTail at tl
      simp only [fa_30_0, ld_5, cell_row r3'.row, cellOf, isT_int, cond_false, bin_neq, pureW_some, forkW_bne] at tl
      exact tl
end
end Go.Proofs.YtblkafhjbcfmhaaGreatDoor


namespace Go.Proofs.YtblkafhjbcfmhaaGreatDoor
open Go.Abs

section
variable {W0 : World} {m0 : Inj Tryz.prog}
theorem wc20 {kd : Int} {f : Nat} {g b : ByteArray} {xa no : Int} {sv : Value} {l : List Nm} {F : List Nat} {A : AW} {K : Value → AW → Prop} (hf : Fine A) (hA : A.next + 40000 < maxId) (hl : RdN A sv l F) (hfl : f < 4294967296) (hw : ∀ p ∈ l, p.f < 4294967296) {kc xc : UInt8} (hkd : kd = (kc.toNat : Int)) (hxa : xa = (xc.toNat : Int))
    (hk : ∀ A' s, Grow A A' 20001 → K (.string s) A') : Wc Tryz.prog theX W0 m0 20 [letV kd f g b xa no sv] A K := by
  refine w20 _ _ (cuts_none (S := fun _ _ _ => False) fun _ _ _ h => h) ?_
  rw [e20]
  refine newP_made (cs := (Value.cells (letV kd f g b xa no sv)).toList) hf (by omega) (by simp [letV, letC, Value.cells, one_int, one_string, hl.one.1]) fun A1 m1 => ?_
  have n1 := m1.next
  have r1 : Row1 A1 A.next (letC kd f g b xa no sv) 30 := m1.row1
  have hl1 := hl.keeps (m1.keeps hf) (by simp)
  rw [loadLet r1 hl.one.2]
  simp only [pureW_some]
  refine wc54 m1.fine (by omega) hl1 hfl hw hkd hxa fun A2 s r g2 => ?_
  have g02 : Grow A A2 20001 := ((Grow.made m1 hf).trans g2).more (by omega)
  simp only [extractP, List.getElem?_cons_zero, List.getElem?_cons_succ, bin_neq, pureW_some, forkW_bne]
  exact ⟨fun _ => hk A2 _ g02, fun _ => hk A2 _ g02⟩
end
end Go.Proofs.YtblkafhjbcfmhaaGreatDoor


namespace Go.Proofs.YtblkafhjbcfmhaaGreatDoor
open Go.Abs

/-- an act -/
structure ActP where
  wh : UInt8
  nv : Value
  f : Nat
  g : ByteArray
  b : ByteArray
  t : Bool
  nd : Int
  kc : UInt8
  lf : Nat
  lg : ByteArray
  lb : ByteArray
  xc : UInt8
  no : Int
  sv : Value
  n : Int
  kv : Value
def ActP.cells (p : ActP) : List Value := [.int .u8 (p.wh.toNat : Int), p.nv, .int .u32 (p.f : Int), .string p.g, .string p.b, .bool p.t, .int .u8 p.nd,
  .int .u8 (p.kc.toNat : Int), .int .u32 (p.lf : Int), .string p.lg, .string p.lb, .int .u8 (p.xc.toNat : Int), .int .u16 p.no, p.sv, .int .i64 p.n, p.kv]
def ActP.val (p : ActP) : Value := .agg ⟨p.cells⟩
/-- what is known of an act's parts: its slices are slices, the letter's names are read from the families F -/
structure ActOk (A : AW) (p : ActP) (l : List Nm) (F : List Nat) : Prop where
  nv : ∃ o n c, p.nv = .slice o n c
  kv : ∃ o n c, p.kv = .slice o n c
  sv : RdN A p.sv l F
  lf : p.lf < 4294967296
  wf : ∀ q ∈ l, q.f < 4294967296
theorem ActOk.keeps {A A' : AW} {p : ActP} {l : List Nm} {F S : List Nat} (h : ActOk A p l F) (k : Keeps A A' S) (hd : ∀ x ∈ F, x ∉ S) : ActOk A' p l F := ⟨h.nv, h.kv, h.sv.keeps k hd, h.lf, h.wf⟩
theorem ActOk.one {A : AW} {p : ActP} {l : List Nm} {F : List Nat} (h : ActOk A p l F) : (Value.cells p.val).toList.all oneCell = true := by
  obtain ⟨o, n, c, h1⟩ := h.nv
  obtain ⟨o2, n2, c2, h2⟩ := h.kv
  have h3 := h.sv.one.1
  simp [ActP.val, ActP.cells, Value.cells, h1, h2, h3, one_int, one_bool, one_string, one_slice]
theorem loadAct {A B : AW} {q : Nat} {p : ActP} {l : List Nm} {F : List Nat} (h : ActOk B p l F) (hr : Row1 A q p.cells 33) : loadP Tryz.prog A 33 (.pointer (some ⟨q, 0, none⟩)) = some p.val := by
  obtain ⟨o, n, c, h1⟩ := h.nv
  obtain ⟨o2, n2, c2, h2⟩ := h.kv
  have h3 := h.sv.one.2
  rw [ld_33, cells_row hr.row]
  simp [ActP.cells, takeCells, isT_int, isT_string, isT_bool, h1, h2, h3, isT_slice, ActP.val]

section
variable {W0 : World} {m0 : Inj Tryz.prog}
/-- great: it answers -/
theorem wc5 {p : ActP} {l : List Nm} {F : List Nat} {A : AW} {K : Value → AW → Prop} (hf : Fine A) (hA : A.next + 10 < maxId) (ha : ActOk A p l F) (hk : ∀ A' t, Grow A A' 1 → K (.bool t) A') : Wc Tryz.prog theX W0 m0 5 [p.val] A K := by
  refine w5 _ _ (cuts_none (S := fun _ _ _ => False) fun _ _ _ h => h) ?_
  rw [e5]
  refine newP_made (cs := (Value.cells p.val).toList) hf (by omega) ha.one fun A1 m1 => ?_
  have r1 : Row1 A1 A.next p.cells 33 := m1.row1
  have g1 := Grow.made m1 hf
  obtain ⟨o, n, c, h1⟩ := ha.nv
  obtain ⟨o2, n2, c2, h2⟩ := ha.kv
  have h3 := ha.sv.one.2
  simp only [fa_33_1, fa_33_5, fa_33_7, fa_30_4, ld_22, ld_28, ld_31, cell_row r1.row, ActP.cells, cellOf, isT_slice, h1, h2, h3, cond_false, ln_22, ln_31, ha.sv.len, bin_gtr, pureW_some, forkW_dec, Nat.zero_add, Nat.reduceAdd]
  exact ⟨fun _ => hk _ _ g1, fun _ => ⟨fun _ => hk _ _ g1, fun _ => hk _ _ g1⟩⟩

theorem xid0_v : xidV 0 ⟨⟨[]⟩⟩ ⟨⟨[]⟩⟩ = xid0 := rfl
theorem mod9 (n : UInt8) : 0 ≤ (n.toNat : Int).tmod 9 := Int.tmod_nonneg _ (by omega)
/-- the zero of a name is stored, loaded and told -/
theorem told {A0 A : AW} {t m n : Nat} {zs : List Value} {v : Value} {K : Value → AW → Prop} (h0 : Grow A0 A n) (ht : Row1 A t zs 25) (hz : zs.length = 3) (hA : A.next ≤ maxId) (hlo : A0.next ≤ t) (hm : n ≤ m)
    (hk : ∀ A', Grow A0 A' m → K (.tuple ⟨[xid0, v]⟩) A') : effW (storeP Tryz.prog A 25 (.pointer (some ⟨t, 0, none⟩)) xid0) fun A' => pureW (loadP Tryz.prog A' 25 (.pointer (some ⟨t, 0, none⟩))) fun x => K (.tuple ⟨[x, v]⟩) A' := by
  refine store25 (f := 0) (g := ⟨⟨[]⟩⟩) (b := ⟨⟨[]⟩⟩) ht hz h0.fine hA fun A4 t4 k4 n4 f4 => ?_
  rw [load25 t4]
  simp only [pureW_some]
  exact hk A4 ((h0.own k4 (by simp; omega) (m := 0) (by omega) f4).more (by omega))
theorem cells_at {A : AW} {q : Nat} {p : ActP} (r : Row1 A q p.cells 33) : A.cells? ⟨q, 2, none⟩ 3 = some [.int .u32 (p.f : Int), .string p.g, .string p.b] := by
  rw [cells_row r.row]; rfl
theorem let_at {A B : AW} {q : Nat} {p : ActP} {l : List Nm} {F : List Nat} (h : ActOk B p l F) (r : Row1 A q p.cells 33) : A.cells? ⟨q, 7, none⟩ 7 = some (letC (p.kc.toNat : Int) p.lf p.lg p.lb (p.xc.toNat : Int) p.no p.sv) := by
  have h3 := h.sv.one.2
  rw [cells_row r.row]
  simp [ActP.cells, takeCells, isT_int, isT_string, h3, letC]
/-- does -/
theorem wc7 {p : ActP} {l : List Nm} {F : List Nat} {A : AW} {c : Value} {K : Value → AW → Prop} (hc : NoC A c) (hf : Fine A) (hA : A.next + 41000 < maxId) (ha : ActOk A p l F)
    (hk : ∀ A' r, Grow A A' 20100 → (r = 1 ∧ (p.wh.toNat : Int).tmod 9 < 6 ∨ r = 0 ∧ 6 ≤ (p.wh.toNat : Int).tmod 9) → K (.tuple ⟨[xid0, .int .i64 r]⟩) A') : Wc Tryz.prog theX W0 m0 7 [c, p.val] A K := by
  have hF := ha.sv.fam
  refine w7 _ _ _ (cuts_none (S := fun _ _ _ => False) fun _ _ _ h => h) ?_
  rw [e7]
  refine newP_made (cs := (Value.cells p.val).toList) hf (by omega) ha.one fun A1 m1 => ?_
  have n1 := m1.next
  have r1 : Row1 A1 A.next p.cells 33 := m1.row1
  refine allocP_made zero25 m1.fine (by omega) rfl fun A2 m2 => ?_
  have n2 := m2.next
  have g2 := (Grow.made m1 hf).trans (.made m2 m1.fine)
  have r2 : Row1 A2 A.next p.cells 33 := r1.keeps (m2.keeps m1.fine) (by simp)
  have t2 : Row1 A2 A1.next [.int .u32 0, .string ⟨⟨[]⟩⟩, .string ⟨⟨[]⟩⟩] 25 := m2.row1
  have hc2 := hc.keeps g2.keeps (by simp)
  have ha2 := ha.keeps g2.keeps (by simp)
  have h0 := mod9 p.wh
  obtain ⟨o, n, k, h1⟩ := ha.nv
  have ic0 : loadP Tryz.prog A2 5 (.pointer (some ⟨A.next, 0, none⟩)) = some (.int .u8 (p.wh.toNat : Int)) := by rw [ld_5, cell_row r2.row]; rfl
  have ic1 : loadP Tryz.prog A2 22 (.pointer (some ⟨A.next, 0 + 1, none⟩)) = some (.slice o n k) := by rw [ld_22, cell_row r2.row]; simp only [ActP.cells, cellOf, h1, isT_slice, cond_false]
  have ic2 : loadP Tryz.prog A2 25 (.pointer (some ⟨A.next, 0 + 2, none⟩)) = some (xidV (p.f : Int) p.g p.b) := by rw [ld_25, cells_at r2]; rfl
  have ic3 : loadP Tryz.prog A2 4 (.pointer (some ⟨A.next, 0 + 5, none⟩)) = some (.bool p.t) := by rw [ld_4, cell_row r2.row]; simp only [ActP.cells, cellOf, h1, isT_slice, cond_false, isT_bool]
  have ic4 : ∀ {B : AW}, Row1 B A.next p.cells 33 → loadP Tryz.prog B 5 (.pointer (some ⟨A.next, 0 + 6, none⟩)) = some (.int .u8 p.nd) := fun r => by rw [ld_5, cell_row r.row]; simp only [ActP.cells, cellOf, h1, isT_slice, cond_false, isT_int]
  have ic5 : loadP Tryz.prog A2 30 (.pointer (some ⟨A.next, 0 + 7, none⟩)) = some (letV (p.kc.toNat : Int) p.lf p.lg p.lb (p.xc.toNat : Int) p.no p.sv) := by rw [ld_30, let_at ha r2]; rfl
  have bx : buildA Tryz.prog 25 [] = some xid0 := ba25
  simp only [fa_33_0, ic0, pureW_some]
  rw [bin_rem (by decide)]
  simp only [pureW_some, bin_eql, forkW_beq]
  refine ⟨fun e => ?_, fun e0 => ⟨fun e => ?_, fun e1 => ⟨fun e => ?_, fun e2 => ⟨fun e => ?_, fun e3 => ⟨fun e => ?_, fun e4 => ⟨fun e => ?_, fun e5 => ?_⟩⟩⟩⟩⟩⟩
  · simp only [fa_33_1, ic1, pureW_some]
    refine wc17 hc2 g2.fine (by omega) fun A3 g3 => ?_
    have n3 := g3.next
    simp only [extractP, List.getElem?_cons_zero, List.getElem?_cons_succ, pureW_some]
    refine allocP_made zero25 g3.fine (by omega) rfl fun A4 m4 => ?_
    have n4 := m4.next
    have g4 := (g2.trans g3).trans (.made m4 g3.fine)
    have t4 : Row1 A4 A3.next [.int .u32 0, .string ⟨⟨[]⟩⟩, .string ⟨⟨[]⟩⟩] 25 := m4.row1
    refine store25 (f := 0) (g := ⟨⟨[]⟩⟩) (b := ⟨⟨[]⟩⟩) t4 rfl g4.fine (by omega) fun A5 t5 k5 n5 f5 => ?_
    rw [load25 t5]
    simp only [pureW_some]
    have l3 := g3.le
    have t5' : Row1 A5 A1.next [.int .u32 0, .string ⟨⟨[]⟩⟩, .string ⟨⟨[]⟩⟩] 25 := ((t2.keeps g3.keeps (by simp)).keeps (m4.keeps g3.fine) (by simp)).keeps k5 (by simp; omega)
    exact told (m := 100) (g4.own k5 (by simp; omega) (m := 0) (by omega) f5) t5' rfl (by omega) (by omega) (by omega) fun A6 g6 => hk A6 1 (g6.more (by omega)) (.inl ⟨rfl, by omega⟩)
  · simp only [fa_33_2, fa_33_3, bx, ic2, ic3, pureW_some]
    refine wc18 hc2 g2.fine (by omega) fun A3 g3 => ?_
    have n3 := g3.next
    exact told (m := 100) (g2.trans g3) (t2.keeps g3.keeps (by simp)) rfl (by omega) (by omega) (by omega) fun A6 g6 => hk A6 1 (g6.more (by omega)) (.inl ⟨rfl, by omega⟩)
  · simp only [fa_33_4, fa_33_5, bx, ic4 r2, ic5, pureW_some]
    refine wc20 g2.fine (by omega) ha2.sv ha.lf ha.wf rfl rfl fun A3 s g3 => ?_
    have n3 := g3.next
    simp only [ic4 (r2.keeps g3.keeps (by simp)), pureW_some, eqW_self]
    refine wc19 (hc2.keeps g3.keeps (by simp)) g3.fine (by omega) fun A4 g4 => ?_
    have n4 := g4.next
    exact told (m := 20100) ((g2.trans g3).trans g4) ((t2.keeps g3.keeps (by simp)).keeps g4.keeps (by simp)) rfl (by omega) (by omega) (by omega) fun A6 g6 => hk A6 1 (g6.more (by omega)) (.inl ⟨rfl, by omega⟩)
  · simp only [fa_33_4, fa_33_5, bx, ic4 r2, ic5, pureW_some]
    refine wc20 g2.fine (by omega) ha2.sv ha.lf ha.wf rfl rfl fun A3 s g3 => ?_
    have n3 := g3.next
    simp only [ic4 (r2.keeps g3.keeps (by simp)), pureW_some, eqW_self]
    refine wc19 (hc2.keeps g3.keeps (by simp)) g3.fine (by omega) fun A4 g4 => ?_
    have n4 := g4.next
    exact told (m := 20100) ((g2.trans g3).trans g4) ((t2.keeps g3.keeps (by simp)).keeps g4.keeps (by simp)) rfl (by omega) (by omega) (by omega) fun A6 g6 => hk A6 1 (g6.more (by omega)) (.inl ⟨rfl, by omega⟩)
  · simp only [bx, pureW_some]
    refine wc21 hc2 g2.fine (by omega) fun A3 g3 => ?_
    have n3 := g3.next
    exact told (m := 100) (g2.trans g3) (t2.keeps g3.keeps (by simp)) rfl (by omega) (by omega) (by omega) fun A6 g6 => hk A6 1 (g6.more (by omega)) (.inl ⟨rfl, by omega⟩)
  · simp only [fa_33_2, bx, ic2, pureW_some]
    refine wc22 hc2 g2.fine (by omega) fun A3 g3 => ?_
    have n3 := g3.next
    exact told (m := 100) (g2.trans g3) (t2.keeps g3.keeps (by simp)) rfl (by omega) (by omega) (by omega) fun A6 g6 => hk A6 1 (g6.more (by omega)) (.inl ⟨rfl, by omega⟩)
  · simp only [bx, pureW_some]
    exact told (m := 100) g2 t2 rfl (by omega) (by omega) (by omega) fun A6 g6 => hk A6 0 (g6.more (by omega)) (.inr ⟨rfl, by omega⟩)
end
end Go.Proofs.YtblkafhjbcfmhaaGreatDoor


namespace Go.Proofs.YtblkafhjbcfmhaaGreatDoor
open Go.Abs

section
variable {W0 : World} {m0 : Inj Tryz.prog}
theorem freshW_25 {A : AW} {b : Nat} {p : Prop} (h : A.get b = some (.row [.int .u32 0, .string ⟨⟨[]⟩⟩, .string ⟨⟨[]⟩⟩] 25 b 0 false)) (hp : p) : freshW (freshOf Tryz.prog (fun _ => undef) (.alloc 25)) A (.pointer (some ⟨b, 0, none⟩)) p := by
  refine ⟨⟨_, fresh25, ?_⟩, hp⟩
  simp only [stillFresh, rowHas, h, sameL, Bool.true_and, Nat.beq_refl]
  rfl
theorem pn34 (xo yo : Operand) : binA Tryz.prog .neq 34 xo yo (.pointer none) (.pointer none) = some (.bool false) := by kernel_rfl
theorem ln45z (A : AW) : lenA Tryz.prog A 45 (.slice none 0 0) = some (.int .i64 0) := by kernel_rfl
theorem ln52z (A : AW) : lenA Tryz.prog A 52 (.slice none 0 0) = some (.int .i64 0) := by kernel_rfl
theorem neqX0 (xo yo : Operand) : binA Tryz.prog .neq 25 xo yo xid0 xid0 = some (.bool false) := by
  show binA Tryz.prog .neq 25 xo yo (.agg ⟨[.int .u32 0, .string ⟨⟨[]⟩⟩, .string ⟨⟨[]⟩⟩]⟩) (.agg ⟨[.int .u32 0, .string ⟨⟨[]⟩⟩, .string ⟨⟨[]⟩⟩]⟩) = _
  rw [neq25]; rfl
theorem newSlice2 {A : AW} {q : Nat} {K : Value → AW → Prop} (hf : Fine A) (h : A.next < maxId) (hk : ∀ A', Made A A' [.pointer none, .pointer (some ⟨q, 0, none⟩)] 34 → K (.slice (some ⟨A.next, 0, none⟩) 2 2) A') : bothW (buildSliceA Tryz.prog A 48 2 [(0, .pointer none), (1, .pointer (some ⟨q, 0, none⟩))]) K := by
  rw [bs48]
  unfold AW.newRow AW.new
  have hc : ([Value.pointer none, .pointer (some ⟨q, 0, none⟩)].all oneCell) = true := rfl
  simp only [hc, cond_true, blt_true.2 h]
  exact bothW_ok.2 (hk (A.push (.row [.pointer none, .pointer (some ⟨q, 0, none⟩)] 34 A.next 0 false)) ⟨AW.push_ext _ h, rfl, by rw [AW.push_get _ h, if_pos rfl], hf.alone (Nat.le_refl _), hf.push _ h⟩)

/-- what the loop knows -/
structure Lp (A : AW) (q sr q1 : Nat) (p : ActP) (l : List Nm) (F : List Nat) : Prop where
  fine : Fine A
  act : Row1 A q p.cells 33
  ok : ActOk A p l F
  sl : Row1 A sr [.pointer none, .pointer (some ⟨q1, 0, none⟩)] 34
  one : Row1 A q1 zc 47
theorem Lp.grow {A A' : AW} {q sr q1 n : Nat} {p : ActP} {l : List Nm} {F : List Nat} (h : Lp A q sr q1 p l F) (g : Grow A A' n) : Lp A' q sr q1 p l F :=
  ⟨g.fine, h.act.keeps g.keeps (by simp), h.ok.keeps g.keeps (by simp), h.sl.keeps g.keeps (by simp), h.one.keeps g.keeps (by simp)⟩
theorem Lp.at {A : AW} {q sr q1 : Nat} {p : ActP} {l : List Nm} {F : List Nat} (h : Lp A q sr q1 p l F) {i : Nat} (hi : i < 2) : ∃ c, (∀ {A' n}, Grow A A' n → NoC A' c ∧ loadP Tryz.prog A' 34 (.pointer (some ⟨sr, i, none⟩)) = some c) := by
  have hi : i = 0 ∨ i = 1 := by omega
  rcases hi with rfl | rfl
  · refine ⟨.pointer none, fun {A' n} g => ⟨.inl rfl, ?_⟩⟩
    rw [ld_34, cell_row (h.grow g).sl.row]; rfl
  · refine ⟨.pointer (some ⟨q1, 0, none⟩), fun {A' n} g => ⟨.inr ⟨q1, rfl, (h.grow g).one⟩, ?_⟩⟩
    rw [ld_34, cell_row (h.grow g).sl.row]; rfl
theorem ia48 {sr i : Nat} (hi : i < 2) : indexAddrA Tryz.prog 48 (.slice (some ⟨sr, 0, none⟩) 2 2) (.int .i64 (i : Int)) = some (.pointer (some ⟨sr, i, none⟩)) := by
  have hi : i = 0 ∨ i = 1 := by omega
  rcases hi with rfl | rfl
  · exact ia_48 sr 0 2 2 0 .i64
  · exact ia_48 sr 0 2 2 1 .i64
set_option maxRecDepth 100000 in
theorem wc3 {p : ActP} {l : List Nm} {F : List Nat} {A : AW} (hhd : KC.Holds Tryz.prog W0 m0 ⟨6, [], [.bool true]⟩) (hf : Fine A) (hA : A.next + 200000 < maxId) (ha : ActOk A p l F) : Wc Tryz.prog theX W0 m0 3 [p.val] A (fun v _ => v = .bool true) := by
  have hkn : ∀ A', knW Tryz.prog W0 m0 6 [] A' fun v _ => v = .bool true := fun A' => ⟨[.bool true], by decide, hhd, rfl, fun v hv => by simpa using hv⟩
  let I : Nat → Nat → List Value → AW → Prop := fun g' id vals A' => id = 0 ∧ ∃ (i q sr q1 : Nat), vals = [.pointer (some ⟨q, 0, none⟩), .slice (some ⟨sr, 0, none⟩) 2 2, .int .i64 (i : Int)] ∧ i ≤ 2 ∧ Lp A' q sr q1 p l F ∧ A'.next ≤ A.next + 10 + 21000 * i ∧ g' = 2 - i
  refine w3 _ _ (c3 (I := I) ?_) ?_
  · rintro g' id vals A' d ⟨rfl, i, q, sr, q1, rfl, hi, hL, hnx, rfl⟩ hd
    rw [l3_0]
    simp only [L3, List.map_cons, List.map_nil, List.cons.injEq, and_true] at hd
    obtain ⟨h1, h6, h7⟩ := hd
    simp only [h1, h6, h7, ln_48, bin_lss, pureW_some, forkW_dec]
    refine ⟨fun hlt => ?_, fun hge => hkn _⟩
    have hlt : i < 2 := by omega
    obtain ⟨c, hc⟩ := hL.at hlt
    refine allocP_made zero25 hL.fine (by omega) rfl fun A2 m2 => ?_
    have n2 := m2.next
    have g2 := Grow.made m2 hL.fine
    have t2 : Row1 A2 A'.next [.int .u32 0, .string ⟨⟨[]⟩⟩, .string ⟨⟨[]⟩⟩] 25 := m2.row1
    have L2 := hL.grow g2
    refine freshW_25 t2.row ?_
    simp only [ia48 hlt, (hc g2).2, loadAct L2.ok L2.act, pureW_some]
    refine wc7 (hc g2).1 L2.fine (by omega) L2.ok fun A3 r g3 hr => ?_
    have n3 := g3.next
    have g03 := g2.trans g3
    have t3 := t2.keeps g3.keeps (by simp)
    refine freshW_25 t3.row ?_
    simp only [extractP, List.getElem?_cons_zero, List.getElem?_cons_succ, pureW_some]
    refine store25 (f := 0) (g := ⟨⟨[]⟩⟩) (b := ⟨⟨[]⟩⟩) t3 rfl g3.fine (by omega) fun A4 t4 k4 n4 f4 => ?_
    have g04 : Grow A' A4 21000 := (g03.own k4 (by simp) (m := 0) (by omega) f4).more (by omega)
    have L4 := hL.grow g04
    have ic : loadP Tryz.prog A4 5 (.pointer (some ⟨q, 0, none⟩)) = some (.int .u8 (p.wh.toNat : Int)) := by rw [ld_5, cell_row L4.act.row]; rfl
    have lx : loadP Tryz.prog A4 25 (.pointer (some ⟨A'.next, 0, none⟩)) = some xid0 := load25 t4
    have bx : buildA Tryz.prog 25 [] = some xid0 := ba25
    simp only [fa_33_0, ic, eqW_self, pureW_some]
    rw [bin_rem (by decide)]
    simp only [lx, bx, neqX0, bin_geq, pureW_some, forkW_dec]
    have tail : ∀ {B : AW}, B = A4 → Lp B q sr q1 p l F ∧ NoC B c ∧ loadP Tryz.prog B 34 (.pointer (some ⟨sr, i, none⟩)) = some c := fun e => by subst e; exact ⟨L4, (hc g04).1, (hc g04).2⟩
    refine ⟨fun h6 => ?_, fun h6 => ?_⟩
    · refine forkW_bool.2 ⟨fun h => by simp at h, fun _ => ?_⟩
      obtain rfl : r = 0 := by omega
      simp only [bin_neq, pureW_some, forkW_bne]
      refine ⟨fun h => absurd rfl h, fun _ => ?_⟩
      simp only [ia48 hlt, (hc g04).2, pureW_some]
      refine wc8 (hc g04).1 ?_
      simp only [ln45z, bin_neq, pureW_some, forkW_bne]
      refine ⟨fun h => absurd rfl h, fun _ => ?_⟩
      simp only [ia48 hlt, (hc g04).2, pureW_some]
      refine wc9 (hc g04).1 ?_
      simp only [ln52z, bin_neq, pureW_some, forkW_bne]
      refine ⟨fun h => absurd rfl h, fun _ => ?_⟩
      simp only [ia48 hlt, (hc g04).2, pureW_some]
      refine wc10 (hc g04).1 ?_
      simp only [bin_neq, pureW_some, forkW_bne]
      refine ⟨fun h => absurd rfl h, fun _ => ?_⟩
      simp only [ia48 hlt, (hc g04).2, pureW_some]
      refine wc11 (hc g04).1 ?_
      simp only [un_not, pureW_some]
      refine forkW_bool.2 ⟨fun h => by simp at h, fun _ => ?_⟩
      simp only [bin_add, pureW_some]
      rw [wrap_i64 (by omega) (by omega)]
      exact cutW_self.2 ⟨2 - (i + 1), by omega, rfl, i + 1, q, sr, q1, rfl, by omega, L4, by omega, rfl⟩
    · refine forkW_bool.2 ⟨fun h => by simp at h, fun _ => ?_⟩
      obtain rfl : r = 1 := by omega
      simp only [bin_neq, pureW_some, forkW_bne]
      refine ⟨fun h => absurd rfl h, fun _ => ?_⟩
      simp only [ia48 hlt, (hc g04).2, pureW_some]
      refine wc8 (hc g04).1 ?_
      simp only [ln45z, bin_neq, pureW_some, forkW_bne]
      refine ⟨fun h => absurd rfl h, fun _ => ?_⟩
      simp only [ia48 hlt, (hc g04).2, pureW_some]
      refine wc9 (hc g04).1 ?_
      simp only [ln52z, bin_neq, pureW_some, forkW_bne]
      refine ⟨fun h => absurd rfl h, fun _ => ?_⟩
      simp only [ia48 hlt, (hc g04).2, pureW_some]
      refine wc10 (hc g04).1 ?_
      simp only [bin_neq, pureW_some, forkW_bne]
      refine ⟨fun h => absurd rfl h, fun _ => ?_⟩
      simp only [ia48 hlt, (hc g04).2, pureW_some]
      refine wc11 (hc g04).1 ?_
      simp only [un_not, pureW_some]
      refine forkW_bool.2 ⟨fun h => by simp at h, fun _ => ?_⟩
      simp only [bin_add, pureW_some]
      rw [wrap_i64 (by omega) (by omega)]
      exact cutW_self.2 ⟨2 - (i + 1), by omega, rfl, i + 1, q, sr, q1, rfl, by omega, L4, by omega, rfl⟩
  · rw [e3]
    refine newP_made (cs := (Value.cells p.val).toList) hf (by omega) ha.one fun A1 m1 => ?_
    have n1 := m1.next
    have r1 : Row1 A1 A.next p.cells 33 := m1.row1
    have a1 := ha.keeps (m1.keeps hf) (by simp)
    refine wc4 ?_
    simp only [extractP, List.getElem?_cons_zero, List.getElem?_cons_succ, pn34, pureW_some]
    refine forkW_bool.2 ⟨fun h => by simp at h, fun _ => ?_⟩
    simp only [bin_neq, pureW_some, forkW_bne]
    refine ⟨fun h => absurd rfl h, fun _ => ?_⟩
    simp only [loadAct a1 r1, pureW_some]
    refine wc5 m1.fine (by omega) a1 fun A2 t g2 => ?_
    have n2 := g2.next
    refine forkW_bool.2 ⟨fun _ => hkn _, fun _ => ?_⟩
    simp only [ba47, pureW_some]
    refine newP_made (cs := zc) g2.fine (by omega) rfl fun A3 m3 => ?_
    have n3 := m3.next
    refine newSlice2 m3.fine (by omega) fun A4 m4 => ?_
    have n4 := m4.next
    have k2 := g2.keeps
    have k3 := m3.keeps g2.fine
    have k4 := m4.keeps m3.fine
    exact cutW_self.2 ⟨2, rfl, 0, A.next, A3.next, A2.next, rfl, by omega, ⟨m4.fine, ((r1.keeps k2 (by simp)).keeps k3 (by simp)).keeps k4 (by simp), ((a1.keeps k2 (by simp)).keeps k3 (by simp)).keeps k4 (by simp), m4.row1, m3.row1.keeps k4 (by simp)⟩, by omega, rfl⟩
end
end Go.Proofs.YtblkafhjbcfmhaaGreatDoor
