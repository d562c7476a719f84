/-
  What Put answers, of the program and of the document; and the law. Conditions: those of each theorem.
-/
import Derived.Test.YteooonkpannpbaaGreatDoorPutsB

namespace Go.Proofs.YteooonkpannpbaaGreatDoor
open Go.Abs

theorem bin_stradd {P : Program} {t : TypeId} {xo yo : Operand} {a b : List UInt8} (h : (a ++ b).length < 1099511627776) : binA P .add t xo yo (.string ⟨⟨a⟩⟩) (.string ⟨⟨b⟩⟩) = some (.string ⟨⟨a ++ b⟩⟩) := by
  show (bif Nat.blt (a ++ b).length 1099511627776 then some (Value.string ⟨⟨a ++ b⟩⟩) else none) = _
  rw [blt_true.2 h, cond_true]
/-- what Put tells -/
def dput (f : Nat) (g b : ByteArray) (l : List Pt) : List UInt8 := if dchk f g b l = 0 then db f g b l l else []

section
variable {W0 : World} {m0 : Inj Tryz.prog}
theorem wc7 {f : Nat} {g b : ByteArray} {sv : Value} {l : List Pt} {F : List Nat} {A : AW} {K : Value → AW → Prop} (hf : Fine A) (hA : A.next + 500 < maxId) (hl : RdPt A sv l F) (hn : l.length < 1000000) (hfl : f < 4294967296) (hw : ∀ p ∈ l, p.wf)
    (hk : ∀ A', Grow A A' 450 → K (.tuple ⟨[.string ⟨⟨dput f g b l⟩⟩, .int .i64 (dchk f g b l)]⟩) A') : Wc Tryz.prog theX W0 m0 7 [decV f g b sv] A K := by
  have hb1 : (IntKind.u8.wrap (l.length : Int)) = ((UInt8.ofNat l.length).toNat : Int) := by rw [wrap_u8, ofNat_u8]
  rcases dchk_cases f g b l with hd | hd
  · obtain ⟨hx0, h8, hxs⟩ := dchk_zero hd
    have hxt : ∀ i, ∀ p ∈ l.take i, xchk p.g p.b = 0 := fun i p hp => hxs p (List.mem_of_mem_take hp)
    have hdl : ∀ i, (db f g b l (l.take i)).length ≤ 2000 := fun i => db_length hx0 (hxt i) (by rw [List.length_take]; omega)
    let I : Nat → Nat → List Value → AW → Prop := fun g' id vals A' => id = 0 ∧ ∃ (i : Nat), vals = [.pointer (some ⟨A.next, 0, none⟩), .string ⟨⟨db f g b l (l.take i)⟩⟩, .int .i64 (i : Int)] ∧ i ≤ l.length ∧
      Row1 A' A.next (decCells f g b sv) 27 ∧ RdPt A' sv l F ∧ Grow A A' (80 + 40 * i) ∧ g' = l.length - i
    refine w7 _ _ (c7 (I := I) ?_) ?_
    · rintro g' id vals A' d ⟨rfl, i, rfl, hi, hr, hl', hg, rfl⟩ hd'
      rw [l7_0]
      simp only [L7, List.map_cons, List.map_nil, List.cons.injEq, and_true] at hd'
      obtain ⟨h1, h4, h5⟩ := hd'
      have hnx := hg.next
      have hle := hg.le
      simp only [h1, h4, h5, fa_27_1, ld_25, cell_row hr.row, decCells, cellOf, isT_int, isT_string, hl'.one.2, cond_false, hl'.len, bin_lss, pureW_some, forkW_dec, Nat.zero_add]
      refine ⟨fun hlt => ?_, fun hge => ?_⟩
      · have hlt : i < l.length := by omega
        obtain ⟨p, hp⟩ : ∃ p, l[i]? = some p := ⟨l[i], List.getElem?_eq_getElem hlt⟩
        have hpm : p ∈ l := List.mem_of_getElem? hp
        obtain ⟨r, o, a1, a2, a3, a4⟩ := hl'.at hp
        have hnb := node_byte (hw p hpm)
        simp only [a1, fa_50_0, ld_5, a3, pureW_some]
        rw [hnb]
        refine bslice1 hg.fine (by omega) fun A2 m2 => ?_
        have n2 := m2.next
        refine freshW_1 m2.row ?_
        have r2 := hr.keeps (m2.keeps hg.fine) (by simp)
        have hl2 := hl'.keeps (m2.keeps hg.fine) (by simp)
        have g2 := hg.trans (.made m2 hg.fine)
        obtain ⟨rb, ob, b1, b2, b3, b4⟩ := hl2.at hp
        obtain ⟨rfl, rfl⟩ : rb = r ∧ ob = o := by
          rw [a1] at b1
          cases b1; exact ⟨rfl, rfl⟩
        have hsb := (buf1 m2.row1).rd.str tb
        have e1 : (db f g b l (l.take i) ++ [UInt8.ofNat p.node]).length < 1099511627776 := by
          have := hdl i
          rw [List.length_append]; simp only [List.length_cons, List.length_nil]; omega
        simp only [a1, fa_50_0, fa_50_1, fa_27_1, ld_5, ld_24, ld_25, b3, b4, cell_row r2.row, decCells, cellOf, isT_int, isT_string, hl'.one.2, cond_false, pureW_some, hnb, eqW_self, hsb, bothW_ok, bin_stradd e1, Nat.zero_add]
        refine wc22 (f := p.f) (g := p.g) (b := p.b) m2.fine (by omega) (hw p hpm).2.1 (hxs p hpm) fun A3 g3 => ?_
        have n3 := g3.next
        have r3 := r2.keeps g3.keeps (by simp)
        have hl3 := hl2.keeps g3.keeps (by simp)
        have q3 := m2.row1.keeps g3.keeps (by simp)
        obtain ⟨rc, oc, c1, c2, c3, c4⟩ := hl3.at hp
        obtain ⟨rfl, rfl⟩ : rc = rb ∧ oc = ob := by
          rw [a1] at c1
          cases c1; exact ⟨rfl, rfl⟩
        have hsc := (buf1 q3).rd.str tb
        simp only [pureW_some, hsc, bothW_ok, bin_stradd e1, eqW_self]
        refine freshW_1 q3.row ?_
        have e2 : (db f g b l (l.take i) ++ [UInt8.ofNat p.node] ++ xb p.f p.g p.b).length < 1099511627776 := by
          have := hdl i
          have := xchk_zero (hxs p hpm)
          rw [List.length_append, List.length_append, xb_length]; simp only [List.length_cons, List.length_nil]; omega
        simp only [a1, fa_50_0, fa_50_1, fa_27_1, ld_5, ld_24, ld_25, c3, c4, cell_row r3.row, decCells, cellOf, isT_int, isT_string, hl'.one.2, cond_false, pureW_some, hnb, eqW_self, bin_stradd e2, bin_add, Nat.zero_add]
        rw [wrap_i64 (by omega) (by omega)]
        have e3 : db f g b l (l.take (i + 1)) = db f g b l (l.take i) ++ [UInt8.ofNat p.node] ++ xb p.f p.g p.b := by
          rw [take_snoc hp]
          unfold db
          rw [pb_snoc]
          simp only [List.append_assoc]
        rw [← e3]
        exact cutW_self.2 ⟨l.length - (i + 1), by omega, rfl, i + 1, rfl, by omega, r3, hl3, (g2.trans g3).more (by omega), rfl⟩
      · have hi : i = l.length := by omega
        subst hi
        have := hk A' (hg.more (by omega))
        unfold dput at this
        rw [hd, if_pos rfl] at this
        rw [List.take_length]
        exact this
    · rw [e7]
      refine newP_made (cs := (Value.cells (decV f g b sv)).toList) hf (by omega) (by simp [decV, decCells, Value.cells, one_int, one_string, hl.one.1]) fun A1 m1 => ?_
      have n1 := m1.next
      have r1 : Row1 A1 A.next (decCells f g b sv) 27 := m1.row1
      have hl1 := hl.keeps (m1.keeps hf) (by simp)
      have ht : A1.cells? ⟨A.next, 0, none⟩ 4 = some (decCells f g b sv) := by
        rw [cells_row r1.row]; simp [decCells, takeCells, isT_int, isT_string, hl.one.2]
      simp only [ld_27, ht, pureW_some]
      refine wc21 (f := f) (g := g) (b := b) m1.fine (by omega) hl1 hn fun A2 g2 => ?_
      have n2 := g2.next
      have r2 := r1.keeps g2.keeps (by simp)
      have hl2 := hl1.keeps g2.keeps (by simp)
      rw [hd]
      simp only [bin_neq, pureW_some, forkW_bne]
      refine ⟨fun h => absurd rfl h, fun _ => ?_⟩
      have ht2 : A2.cells? ⟨A.next, 0, none⟩ 3 = some [.int .u32 (f : Int), .string g, .string b] := by rw [cells_row r2.row]; rfl
      simp only [fa_27_0, fa_27_1, ld_24, ld_25, ht2, cell_row r2.row, decCells, cellOf, isT_int, isT_string, hl.one.2, cond_false, hl2.len, cv_3_5, bothW_ok, hb1, pureW_some, Nat.zero_add]
      refine bslice1 g2.fine (by omega) fun A3 m3 => ?_
      have n3 := m3.next
      refine freshW_1 m3.row ?_
      have r3 := r2.keeps (m3.keeps g2.fine) (by simp)
      have hl3 := hl2.keeps (m3.keeps g2.fine) (by simp)
      have ht3 : A3.cells? ⟨A.next, 0, none⟩ 3 = some [.int .u32 (f : Int), .string g, .string b] := by rw [cells_row r3.row]; rfl
      have hsb := (buf1 m3.row1).rd.str tb
      simp only [fa_27_0, fa_27_1, ld_24, ld_25, ht3, cell_row r3.row, decCells, cellOf, isT_int, isT_string, hl.one.2, cond_false, hl2.len, cv_3_5, bothW_ok, hb1, hsb, pureW_some, eqW_self, Nat.zero_add]
      have g03 := ((Grow.made m1 hf).trans g2).trans (.made m3 g2.fine)
      refine wc22 (f := f) (g := g) (b := b) m3.fine (by omega) hfl hx0 fun A4 g4 => ?_
      have q4 := m3.row1.keeps g4.keeps (by simp)
      have r4 := r3.keeps g4.keeps (by simp)
      have hl4 := hl3.keeps g4.keeps (by simp)
      have hsc := (buf1 q4).rd.str tb
      simp only [pureW_some, hsc, bothW_ok, eqW_self]
      refine freshW_1 q4.row ?_
      have e2 : (xb f g b ++ [UInt8.ofNat l.length]).length < 1099511627776 := by
        have := xchk_zero hx0
        rw [List.length_append, xb_length]; simp only [List.length_cons, List.length_nil]; omega
      simp only [fa_27_0, fa_27_1, ld_24, ld_25, cell_row r4.row, decCells, cellOf, isT_int, isT_string, hl.one.2, cond_false, hl2.len, cv_3_5, bothW_ok, hb1, pureW_some, eqW_self, bin_stradd e2, Nat.zero_add]
      refine cutW_self.2 ⟨l.length, rfl, 0, ?_, by omega, r4, hl4, (g03.trans g4).more (by omega), rfl⟩
      simp [db, pb]
  · refine w7 _ _ (cuts_none (S := fun _ _ _ => False) fun _ _ _ h => h) ?_
    rw [e7]
    refine newP_made (cs := (Value.cells (decV f g b sv)).toList) hf (by omega) (by simp [decV, decCells, Value.cells, one_int, one_string, hl.one.1]) fun A1 m1 => ?_
    have n1 := m1.next
    have r1 : Row1 A1 A.next (decCells f g b sv) 27 := m1.row1
    have hl1 := hl.keeps (m1.keeps hf) (by simp)
    have ht : A1.cells? ⟨A.next, 0, none⟩ 4 = some (decCells f g b sv) := by
      rw [cells_row r1.row]; simp [decCells, takeCells, isT_int, isT_string, hl.one.2]
    simp only [ld_27, ht, pureW_some]
    refine wc21 (f := f) (g := g) (b := b) m1.fine (by omega) hl1 hn fun A2 g2 => ?_
    have := hk A2 (((Grow.made m1 hf).trans g2).more (by omega))
    unfold dput at this
    rw [hd, if_neg (by decide)] at this
    rw [hd]
    simp only [bin_neq, pureW_some, forkW_bne]
    exact ⟨fun _ => this, fun h => absurd h (by decide)⟩

theorem wc6 {f : Nat} {g b : ByteArray} {sv : Value} {l : List Pt} {F : List Nat} {A : AW} {K : Value → AW → Prop} (hf : Fine A) (hA : A.next + 600 < maxId) (hl : RdPt A sv l F) (hn : l.length < 1000000) (hfl : f < 4294967296) (hw : ∀ p ∈ l, p.wf)
    (hk : ∀ A', Grow A A' 450 → K (.tuple ⟨[.string ⟨⟨dput f g b l⟩⟩, .int .i64 (dchk f g b l)]⟩) A') : Wc Tryz.prog theX W0 m0 6 [decV f g b sv] A K := by
  refine w6 _ _ (cuts_none (S := fun _ _ _ => False) fun _ _ _ h => h) ?_
  rw [e6]
  refine newP_made (cs := (Value.cells (decV f g b sv)).toList) hf (by omega) (by simp [decV, decCells, Value.cells, one_int, one_string, hl.one.1]) fun A1 m1 => ?_
  have n1 := m1.next
  have r1 : Row1 A1 A.next (decCells f g b sv) 27 := m1.row1
  have hl1 := hl.keeps (m1.keeps hf) (by simp)
  have ht : A1.cells? ⟨A.next, 0, none⟩ 4 = some (decCells f g b sv) := by
    rw [cells_row r1.row]; simp [decCells, takeCells, isT_int, isT_string, hl.one.2]
  simp only [ld_27, ht, pureW_some]
  refine wc8 (f := f) (g := g) (b := b) m1.fine (by omega) hl1 hn fun A2 g2 => ?_
  have n2 := g2.next
  have g02 := (Grow.made m1 hf).trans g2
  have r2 := r1.keeps g2.keeps (by simp)
  have hl2 := hl1.keeps g2.keeps (by simp)
  have ht2 : A2.cells? ⟨A.next, 0, none⟩ 4 = some (decCells f g b sv) := by
    rw [cells_row r2.row]; simp [decCells, takeCells, isT_int, isT_string, hl.one.2]
  rcases dchk_cases f g b l with hd | hd
  · rw [hd]
    simp only [bin_neq, ld_27, ht2, pureW_some, forkW_bne]
    refine ⟨fun h => absurd rfl h, fun _ => ?_⟩
    refine wc20 (f := f) (g := g) (b := b) g2.fine (by omega) hl2 hfl hw hd fun A3 v3 F3 g3 b3 hF3 => ?_
    have := hk A3 ((g02.trans g3).more (by omega))
    unfold dput at this
    rw [hd, if_pos rfl] at this
    simp only [b3.rd.str tb, bothW_ok]
    exact this
  · have := hk A2 (g02.more (by omega))
    unfold dput at this
    rw [hd, if_neg (by decide)] at this
    rw [hd]
    simp only [bin_neq, pureW_some, forkW_bne]
    exact ⟨fun _ => this, fun h => absurd h (by decide)⟩

/-- the law answers true -/
theorem wc3 {f : Nat} {g b : ByteArray} {sv : Value} {l : List Pt} {F : List Nat} {A : AW} (hhd : KC.Holds Tryz.prog W0 m0 ⟨5, [], [.bool true]⟩) (hf : Fine A) (hA : A.next + 2000 < maxId) (hl : RdPt A sv l F) (hfl : f < 4294967296) (hw : ∀ p ∈ l, p.wf) : Wc Tryz.prog theX W0 m0 3 [decV f g b sv] A (fun v _ => v = .bool true) := by
  refine w3 _ _ (cuts_none (S := fun _ _ _ => False) fun _ _ _ h => h) ?_
  rw [e3]
  refine newP_made (cs := (Value.cells (decV f g b sv)).toList) hf (by omega) (by simp [decV, decCells, Value.cells, one_int, one_string, hl.one.1]) fun A1 m1 => ?_
  have n1 := m1.next
  have r1 : Row1 A1 A.next (decCells f g b sv) 27 := m1.row1
  have hl1 := hl.keeps (m1.keeps hf) (by simp)
  simp only [fa_27_1, ld_25, ld_27, cell_row r1.row, decCells, cellOf, isT_int, isT_string, hl.one.2, cond_false, hl1.len, bin_gtr, pureW_some, forkW_dec, Nat.zero_add]
  have hkn : ∀ A', knW Tryz.prog W0 m0 5 [] A' fun v _ => v = .bool true := fun A' => ⟨[.bool true], by decide, hhd, rfl, fun v hv => by simpa using hv⟩
  refine ⟨fun h => hkn _, fun h => ?_⟩
  have hn : l.length < 1000000 := by omega
  have hc : [Value.int .u32 (f : Int), .string g, .string b, sv] = decCells f g b sv := rfl
  have ht : A1.cells? ⟨A.next, 0, none⟩ 4 = some (decCells f g b sv) := by
    rw [cells_row r1.row]; simp [decCells, takeCells, isT_int, isT_string, hl.one.2]
  simp only [ht, pureW_some]
  refine wc6 (f := f) (g := g) (b := b) m1.fine (by omega) hl1 hn hfl hw fun A2 g2 => ?_
  have n2 := g2.next
  have r2 := r1.keeps g2.keeps (by simp)
  have hl2 := hl1.keeps g2.keeps (by simp)
  have ht2 : A2.cells? ⟨A.next, 0, none⟩ 4 = some (decCells f g b sv) := by
    rw [cells_row r2.row]; simp [decCells, takeCells, isT_int, isT_string, hl.one.2]
  simp only [extractP, List.getElem?_cons_zero, List.getElem?_cons_succ, ht2, pureW_some]
  refine wc7 (f := f) (g := g) (b := b) g2.fine (by omega) hl2 hn hfl hw fun A3 g3 => ?_
  have n3 := g3.next
  have r3 := r2.keeps g3.keeps (by simp)
  have hl3 := hl2.keeps g3.keeps (by simp)
  have ht3 : A3.cells? ⟨A.next, 0, none⟩ 4 = some (decCells f g b sv) := by
    rw [cells_row r3.row]; simp [decCells, takeCells, isT_int, isT_string, hl.one.2]
  simp only [extractP, List.getElem?_cons_zero, List.getElem?_cons_succ, ht3, pureW_some, bin_streq, bin_eql, forkW_beq]
  refine forkW_bool.2 ⟨fun _ => ⟨fun _ => ?_, fun h => absurd rfl h⟩, fun h => by simp at h⟩
  refine wc8 (f := f) (g := g) (b := b) g3.fine (by omega) hl3 hn fun A4 g4 => ?_
  simp only [bin_eql, pureW_some, forkW_beq]
  exact ⟨fun _ => hkn _, fun h => absurd rfl h⟩
end
end Go.Proofs.YteooonkpannpbaaGreatDoor
