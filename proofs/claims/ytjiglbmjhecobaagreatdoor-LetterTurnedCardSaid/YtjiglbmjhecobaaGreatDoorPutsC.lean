/-
  Which letters may be: the document's look and the program's. Conditions: those of each theorem.
-/
import Derived.Test.YtjiglbmjhecobaaGreatDoorPutsB

namespace Go.Proofs.YtjiglbmjhecobaaGreatDoor
open Go.Abs
section
variable {W0 : World} {m0 : Inj Tryz.prog}
theorem ni_one {l : List Nm} : ni l = 1 ↔ l.length ≤ 200 ∧ Good l := by
  unfold ni
  by_cases h : nmsOk l = true
  · rw [if_pos h]; exact ⟨fun _ => nmsOk_iff.1 h, fun _ => rfl⟩
  · rw [if_neg h]; exact ⟨fun h => absurd h (by decide), fun h' => absurd (nmsOk_iff.2 h') h⟩
theorem ok_of {p : Nm} (h : xchk p.g p.b = 0) : okN p = true := by unfold okN; exact decide_eq_true h
theorem xchk_of {p : Nm} (h : okN p = true) : xchk p.g p.b = 0 := by unfold okN at h; exact of_decide_eq_true h
set_option maxRecDepth 100000 in
set_option maxHeartbeats 4000000 in
theorem wc23 {kd xa no : Nat} {x : Nm} {sv : Value} {l : List Nm} {F : List Nat} {A : AW} {K : Value → AW → Prop} (hf : Fine A) (hA : A.next + 10000 < maxId) (hl : RdN A sv l F)
    (hk : ∀ A', Grow A A' 5000 → K (.int .i64 (lchk kd xa no x l)) A') : Wc Tryz.prog theX W0 m0 23 [letV kd xa no x sv] A K := by
  have hF := hl.fam
  have hno : ∀ A', Grow A A' 5000 → ¬ Lok kd xa no (zi x) (xchk x.g x.b) (ni l) l.length → K (.int .i64 250) A' := fun A' g h => by have := hk A' g; rw [lchk_no h] at this; exact this
  have hyes : ∀ A', Grow A A' 5000 → Lok kd xa no (zi x) (xchk x.g x.b) (ni l) l.length → K (.int .i64 0) A' := fun A' g h => by have := hk A' g; rw [lchk_ok h] at this; exact this
  let Pre : Prop := l.length ≤ 200 ∧ ∀ n : Int, (kd = 21 ∨ l.length = 0) → n = 1 → Lok kd xa no (zi x) (xchk x.g x.b) n l.length
  let I : Nat → Nat → List Value → AW → Prop := fun g' id vals A' => id = 0 ∧ ∃ i : Nat, vals = [.pointer (some ⟨A.next, 0, none⟩), .int .i64 (i : Int)] ∧ i ≤ l.length ∧ Pre ∧ (0 < i → kd = 21) ∧ (∀ p ∈ l.take i, okN p = true) ∧ Asc (l.take i) ∧ Go.Abs.Row1 A' A.next (letC kd xa no x sv) 29 ∧ RdN A' sv l F ∧ Grow A A' (10 + 4 * i) ∧ g' = l.length - i
  refine w23 _ _ (c23 (I := I) ?_) ?_
  · rintro g' id vals A' d ⟨rfl, i, rfl, hi, ⟨h200, hpre⟩, h21, hall, hasc, hr, hl', hg, rfl⟩ hd
    rw [l23_0]
    simp only [L23, List.map_cons, List.map_nil, List.cons.injEq, and_true] at hd
    obtain ⟨h1, h5⟩ := hd
    have hnx := hg.next
    simp only [h1, h5, fa_29_0, fa_29_4, ld_5, ld_27, cell_row hr.row, letC, cellOf, isT_int, isT_string, hl'.one.2, cond_false, hl'.len, bin_lss, bin_neq, pureW_some, forkW_dec, forkW_bne, Nat.zero_add]
    refine ⟨fun hlt => ⟨fun hne => hno A' (hg.more (by omega)) fun h => ?_, fun h21' => ?_⟩, fun hge => hyes A' (hg.more (by omega)) ?_⟩
    · have := h.2.2.2.2.2.2.2.1; omega
    · have hlt : i < l.length := by omega
      obtain ⟨p, hp⟩ : ∃ p, l[i]? = some p := ⟨l[i], List.getElem?_eq_getElem hlt⟩
      have hpm : p ∈ l := List.mem_of_getElem? hp
      obtain ⟨r, o, a1, a2⟩ := hl'.at hp
      simp only [a1, ld_24, a2, pureW_some]
      refine wc62 (f := (p.f : Int)) (g := p.g) (b := p.b) hg.fine (by omega) fun A2 g2 => ?_
      have n2 := g2.next
      have g02 := hg.trans g2
      have r2 := hr.keeps g2.keeps (by simp)
      have hl2 := hl'.keeps g2.keeps (by simp)
      have et : l.take (i + 1) = l.take i ++ [p] := by rw [List.take_add_one, hp]; rfl
      simp only [bin_neq, bin_gtr, bin_sub, bin_add, pureW_some, forkW_bne, forkW_dec]
      refine ⟨fun hx => hno A2 (g02.more (by omega)) fun h => hx (xchk_of ((ni_one.1 h.2.2.2.2.2.2.2.2).2.1 p hpm)), fun hx => ?_⟩
      have hall' : ∀ q ∈ l.take (i + 1), okN q = true := fun q hq => by
        rw [et] at hq
        rcases List.mem_append.1 hq with hq | hq
        · exact hall q hq
        · rw [List.mem_singleton.1 hq]; exact ok_of hx
      refine ⟨fun hpos => ?_, fun hz => ?_⟩
      · obtain ⟨q, hq⟩ : ∃ q, l[i - 1]? = some q := ⟨l[i - 1], List.getElem?_eq_getElem (by omega)⟩
        have hxq : xchk q.g q.b = 0 := xchk_of (hall q (List.mem_of_getElem? (i := i - 1) (by rw [List.getElem?_take, if_pos (by omega)]; exact hq)))
        obtain ⟨hg1, hg2, hg3⟩ := xchk_zero hxq
        obtain ⟨r', o', b1, b2⟩ := hl2.at hq
        obtain ⟨r'', o'', c1, c2⟩ := hl2.at hp
        rw [wrap_i64 (n := (i : Int) - 1) (by omega) (by omega), show (i : Int) - 1 = ((i - 1 : Nat) : Int) by omega]
        simp only [fa_29_4, ld_27, cell_row r2.row, letC, cellOf, isT_int, isT_string, hl'.one.2, cond_false, b1, c1, ld_24, b2, c2, pureW_some, Nat.zero_add]
        refine wc63 (p := q) (q := p) g2.fine (by omega) (by omega) (by omega) fun A3 rr g3 hrr => ?_
        have g03 := g02.trans g3
        simp only [bin_geq, pureW_some, forkW_dec]
        refine ⟨fun hge => hno A3 (g03.more (by omega)) fun h => ?_, fun hlt' => ?_⟩
        · have := (ni_one.1 h.2.2.2.2.2.2.2.2).2.2 (i - 1) q p hq (by rw [show i - 1 + 1 = i by omega]; exact hp)
          have := hrr.2 this
          omega
        · have hqp : xcmp q p < 0 := hrr.1 (by omega)
          rw [wrap_i64 (by omega) (by omega)]
          refine cutW_self.2 ⟨l.length - (i + 1), by omega, rfl, i + 1, rfl, by omega, ⟨h200, hpre⟩, fun _ => by omega, hall', ?_, r2.keeps g3.keeps (by simp), hl2.keeps g3.keeps (by simp), g03.more (by omega), rfl⟩
          intro j a b ha hb
          rw [List.getElem?_take] at ha hb
          split at hb
          · rw [if_pos (by omega)] at ha
            by_cases hji : j + 1 = i
            · obtain rfl : j = i - 1 := by omega
              rw [show i - 1 + 1 = i by omega, hp] at hb
              rw [hq] at ha
              cases ha; cases hb
              exact hqp
            · exact hasc j a b (by rw [List.getElem?_take, if_pos (by omega)]; exact ha) (by rw [List.getElem?_take, if_pos (by omega)]; exact hb)
          · cases hb
      · rw [wrap_i64 (by omega) (by omega)]
        refine cutW_self.2 ⟨l.length - (i + 1), by omega, rfl, i + 1, rfl, by omega, ⟨h200, hpre⟩, fun _ => by omega, hall', ?_, r2, hl2, g02.more (by omega), rfl⟩
        intro j a b ha hb
        rw [List.getElem?_take, if_neg (by omega)] at hb
        cases hb
    · have hi' : i = l.length := Nat.le_antisymm hi (by omega)
      rw [hi', List.take_length] at hall hasc
      exact hpre _ (by omega) (ni_one.2 ⟨h200, hall, hasc⟩)
  · rw [e23]; unfold qe23_8 qe23_7 qe23_6 qe23_5 qe23_4 qe23_3 qe23_2 qe23_1 qe23_0
    refine newP_made (cs := (Value.cells (letV kd xa no x sv)).toList) hf (by omega) (by simp [letV, letC, Value.cells, one_int, one_string, hl.one.1]) fun A1 m1 => ?_
    have n1 := m1.next
    have r1 : Go.Abs.Row1 A1 A.next (letC kd xa no x sv) 29 := m1.row1
    have hl1 := hl.keeps (m1.keeps hf) (by simp)
    have g1 := Grow.made m1 hf
    have ht : A1.cells? ⟨A.next, 1, none⟩ 3 = some [.int .u32 (x.f : Int), .string x.g, .string x.b] := by rw [cells_row r1.row]; rfl
    have hz := zneq x
    unfold Nm.cells at hz
    have hn1 : ∀ h : ¬ Lok kd xa no (zi x) (xchk x.g x.b) (ni l) l.length, K (.int .i64 250) A1 := hno A1 (g1.more (by omega))
    have h200 : ni l = 1 → l.length ≤ 200 := fun h => (ni_one.1 h).1
    have hasc0 : Asc (l.take 0) := fun j a b ha hb => by simp at ha
    simp only [fa_29_0, fa_29_1, fa_29_2, fa_29_3, fa_29_4, ld_5, ld_24, ld_25, ld_26, ld_27, ht, cell_row r1.row, letC, cellOf, isT_int, isT_string, hl.one.2, cond_false, hl1.len, bin_eql, bin_geq, bin_leq, bin_lss, bin_gtr, bin_neq, un_not, ba24, hz, pureW_some, forkW_dec, forkW_beq, forkW_bne, forkW_bool, Nat.zero_add, Bool.not_true, Bool.not_false, Bool.not_eq_true', Bool.not_eq_false', decide_eq_true_eq, decide_eq_false_iff_not, beq_iff_eq, beq_eq_false_iff_ne, bne_iff_ne, bne_eq_false_iff_eq, ne_eq, Bool.false_eq_true, Bool.true_eq_false, reduceCtorEq, false_implies, implies_true, forall_const, true_and, and_true]
    repeat' (first | intro _ | with_reducible apply And.intro)
    all_goals first
      | exact hn1 (by unfold Lok; omega)
      | exact cutW_self.2 ⟨l.length, rfl, 0, rfl, by omega, ⟨by omega, fun n hn1 hn2 => by unfold Lok; omega⟩, fun h => absurd h (by decide), by simp, hasc0, r1, hl1, g1.more (by omega), rfl⟩
      | (refine wc62 (f := (x.f : Int)) (g := x.g) (b := x.b) m1.fine (by omega) fun A2 g2 => ?_
         have n2 := g2.next
         have r2 := r1.keeps g2.keeps (by simp)
         have hl2 := hl1.keeps g2.keeps (by simp)
         have g02 := g1.trans g2
         have hn2 : ∀ h : ¬ Lok kd xa no (zi x) (xchk x.g x.b) (ni l) l.length, K (.int .i64 250) A2 := hno A2 (g02.more (by omega))
         simp only [fa_29_0, fa_29_1, fa_29_2, fa_29_3, fa_29_4, ld_5, ld_24, ld_25, ld_26, ld_27, cell_row r2.row, letC, cellOf, isT_int, isT_string, hl.one.2, cond_false, hl2.len, bin_eql, bin_geq, bin_leq, bin_lss, bin_gtr, bin_neq, un_not, ba24, hz, pureW_some, forkW_dec, forkW_beq, forkW_bne, forkW_bool, Nat.zero_add, Bool.not_true, Bool.not_false, Bool.not_eq_true', Bool.not_eq_false', decide_eq_true_eq, decide_eq_false_iff_not, beq_iff_eq, beq_eq_false_iff_ne, bne_iff_ne, bne_eq_false_iff_eq, ne_eq, Bool.false_eq_true, Bool.true_eq_false, reduceCtorEq, false_implies, implies_true, forall_const, true_and, and_true]
         repeat' (first | intro _ | with_reducible apply And.intro)
         all_goals first
           | exact hn2 (by unfold Lok; omega)
           | exact cutW_self.2 ⟨l.length, rfl, 0, rfl, by omega, ⟨by omega, fun n hn1 hn2 => by unfold Lok; omega⟩, fun h => absurd h (by decide), by simp, hasc0, r2, hl2, g02.more (by omega), rfl⟩)
end
end Go.Proofs.YtjiglbmjhecobaaGreatDoor
