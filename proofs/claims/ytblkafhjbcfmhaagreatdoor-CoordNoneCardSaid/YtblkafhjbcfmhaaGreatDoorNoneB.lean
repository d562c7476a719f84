/-
  What the document's Check answers of a letter. Conditions: those of each theorem.
-/
import Derived.Test.YtblkafhjbcfmhaaGreatDoorNoneA

namespace Go.Proofs.YtblkafhjbcfmhaaGreatDoor
open Go.Abs

/-- a name -/
structure Nm where
  f : Nat
  g : ByteArray
  b : ByteArray
def Nm.cells (p : Nm) : List Value := [.int .u32 (p.f : Int), .string p.g, .string p.b]
/-- v is a slice of these names, in these families -/
def RdN (A : AW) (v : Value) (l : List Nm) (F : List Nat) : Prop :=
  (l = [] ∧ F = [] ∧ ∃ o c, v = .slice o 0 c) ∨ ∃ r o c cs e f b ro, v = .slice (some ⟨r, o, none⟩) l.length c ∧ A.get r = some (.row cs e f b ro) ∧ f < A.next ∧ F = [f] ∧ ∀ (i : Nat) p, l[i]? = some p → ∃ rest, cs.drop (o + i * 3) = p.cells ++ rest
theorem RdN.keeps {A A' : AW} {v : Value} {l : List Nm} {F S : List Nat} (h : RdN A v l F) (k : Keeps A A' S) (hd : ∀ x ∈ F, x ∉ S) : RdN A' v l F := by
  rcases h with h | ⟨r, o, c, cs, e, f, b, ro, h1, h2, h3, rfl, h4⟩
  · exact .inl h
  · exact .inr ⟨r, o, c, cs, e, f, b, ro, h1, k.get r _ h2 h3 (hd f (by simp)), Nat.lt_of_lt_of_le h3 k.next, rfl, h4⟩
theorem RdN.one {A : AW} {v : Value} {l : List Nm} {F : List Nat} (h : RdN A v l F) : oneCell v = true ∧ isTuple v = false := by
  rcases h with ⟨_, _, o, c, rfl⟩ | ⟨r, o, c, cs, e, f, b, ro, rfl, _⟩ <;> exact ⟨rfl, rfl⟩
theorem RdN.len {A B : AW} {v : Value} {l : List Nm} {F : List Nat} (h : RdN A v l F) : lenA Tryz.prog B 28 v = some (.int .i64 (l.length : Int)) := by
  rcases h with ⟨rfl, _, o, c, rfl⟩ | ⟨r, o, c, cs, e, f, b, ro, rfl, _⟩ <;> exact ln_28 _ _ _ _
theorem RdN.at {A : AW} {v : Value} {l : List Nm} {F : List Nat} (h : RdN A v l F) {i : Nat} {p : Nm} (hi : l[i]? = some p) :
    ∃ r o, indexAddrA Tryz.prog 28 v (.int .i64 (i : Int)) = some (.pointer (some ⟨r, o, none⟩)) ∧ A.cells? ⟨r, o, none⟩ 3 = some p.cells := by
  rcases h with ⟨rfl, _⟩ | ⟨r, o, c, cs, e, f, b, ro, rfl, h2, h3, _, h4⟩
  · simp at hi
  · have hlt : i < l.length := (List.getElem?_eq_some_iff.1 hi).1
    obtain ⟨rest, hr⟩ := h4 i p hi
    refine ⟨r, o + i * 3, ?_, ?_⟩
    · show indexAddrA Tryz.prog 28 _ (.int .i64 (.ofNat i)) = _
      rw [ia_28, blt_true.2 hlt, cond_true]
      unfold addA
      cases hb : Nat.beq (i * 3) 0 with
      | true => rw [cond_true, Nat.eq_of_beq_eq_true hb, Nat.add_zero]
      | false => rfl
    · rw [cells_row h2, hr]; simp [Nm.cells, takeCells, isTuple]
theorem RdN.fam {A : AW} {v : Value} {l : List Nm} {F : List Nat} (h : RdN A v l F) : ∀ x ∈ F, x < A.next := by
  rcases h with ⟨_, rfl, _⟩ | ⟨r, o, c, cs, e, f, b, ro, _, _, h3, rfl, _⟩
  · simp
  · simpa using h3

/-- a letter -/
def letC (kd : Int) (f : Nat) (g b : ByteArray) (xa no : Int) (sv : Value) : List Value := [.int .u8 kd, .int .u32 (f : Int), .string g, .string b, .int .u8 xa, .int .u16 no, sv]
def letV (kd : Int) (f : Nat) (g b : ByteArray) (xa no : Int) (sv : Value) : Value := .agg ⟨letC kd f g b xa no sv⟩
/-- what is known of a letter that may be -/
def LetOk (kd : Int) (g b : ByteArray) (l : List Nm) : Prop := l.length ≤ 200 ∧ (∀ p ∈ l, xchk p.g p.b = 0) ∧ (kd ≠ 5 → kd ≠ 21 → xchk g b = 0)

set_option maxRecDepth 100000 in
theorem neq25 (f f' : Int) (g g' b b' : ByteArray) (xo yo : Operand) : binA Tryz.prog .neq 25 xo yo (.agg ⟨[.int .u32 f, .string g, .string b]⟩) (.agg ⟨[.int .u32 f', .string g', .string b']⟩) = some (.bool !(sameX f f' g g' b b')) := by
  have hg : eqGuardA Tryz.prog 25 xo yo (.agg ⟨[.int .u32 f, .string g, .string b]⟩) (.agg ⟨[.int .u32 f', .string g', .string b']⟩) = true := by
    show (!Tryz.prog.eqGuardType Tryz.prog.depth 25) = true
    kernel_rfl
  show (bif eqGuardA Tryz.prog 25 xo yo (.agg ⟨[.int .u32 f, .string g, .string b]⟩) (.agg ⟨[.int .u32 f', .string g', .string b']⟩) then (match eqA Tryz.prog 25 (.agg ⟨[.int .u32 f, .string g, .string b]⟩) (.agg ⟨[.int .u32 f', .string g', .string b']⟩) with | some b => some (Value.bool !b) | none => none) else none) = _
  rw [hg, cond_true]
  have he : eqA Tryz.prog 25 (.agg ⟨[.int .u32 f, .string g, .string b]⟩) (.agg ⟨[.int .u32 f', .string g', .string b']⟩) = some (sameX f f' g g' b b') := by
    unfold eqA
    have hc : (closedV 4 (.agg ⟨[.int .u32 f, .string g, .string b]⟩) && closedV 4 (.agg ⟨[.int .u32 f', .string g', .string b']⟩)) = true := rfl
    rw [hc, cond_true]
    exact quiet25 f f' g g' b b'
  simp only [he]

section
variable {W0 : World} {m0 : Inj Tryz.prog}
set_option maxRecDepth 100000 in
set_option maxHeartbeats 4000000 in
theorem wc121 {kd : Int} {f : Nat} {g b : ByteArray} {xa no : Int} {sv : Value} {l : List Nm} {F : List Nat} {A : AW} {K : Value → AW → Prop} (hf : Fine A) (hA : A.next + 10000 < maxId) (hl : RdN A sv l F)
    (hk : ∀ A' r, Grow A A' 5000 → (r = 0 → LetOk kd g b l) → K (.int .i64 r) A') : Wc Tryz.prog theX W0 m0 121 [letV kd f g b xa no sv] A K := by
  have hF := hl.fam
  let I : Nat → Nat → List Value → AW → Prop := fun g' id vals A' => id = 0 ∧ ∃ i : Nat, vals = [.pointer (some ⟨A.next, 0, none⟩), .int .i64 (i : Int)] ∧ i ≤ l.length ∧ l.length ≤ 200 ∧ (kd ≠ 5 → kd ≠ 21 → xchk g b = 0) ∧ (∀ p ∈ l.take i, xchk p.g p.b = 0) ∧ Row1 A' A.next (letC kd f g b xa no sv) 30 ∧ RdN A' sv l F ∧ Grow A A' (10 + 4 * i) ∧ g' = l.length - i
  refine w121 _ _ (c121 (I := I) ?_) ?_
  · rintro g' id vals A' d ⟨rfl, i, rfl, hi, h200, hX, hall, hr, hl', hg, rfl⟩ hd
    rw [l121_0]
    simp only [L121, List.map_cons, List.map_nil, List.cons.injEq, and_true] at hd
    obtain ⟨h1, h5⟩ := hd
    have hnx := hg.next
    simp only [h1, h5, fa_30_0, fa_30_4, ld_5, ld_28, cell_row hr.row, letC, cellOf, isT_int, isT_string, hl'.one.2, cond_false, hl'.len, bin_lss, bin_neq, pureW_some, forkW_dec, forkW_bne, Nat.zero_add]
    refine ⟨fun hlt => ⟨fun _ => hk A' 250 (hg.more (by omega)) (fun h => absurd h (by decide)), fun _ => ?_⟩, fun hge => hk A' 0 (hg.more (by omega)) fun _ => ⟨h200, ?_, hX⟩⟩
    · have hlt : i < l.length := by omega
      obtain ⟨p, hp⟩ : ∃ p, l[i]? = some p := ⟨l[i], List.getElem?_eq_getElem hlt⟩
      obtain ⟨r, o, a1, a2⟩ := hl'.at hp
      have a3 : A'.cells? ⟨r, o, none⟩ 3 = some [.int .u32 (p.f : Int), .string p.g, .string p.b] := a2
      simp only [a1, ld_25, a3, pureW_some]
      refine wc191 (f := (p.f : Int)) (g := p.g) (b := p.b) hg.fine (by omega) fun A2 g2 => ?_
      have n2 := g2.next
      have g02 := hg.trans g2
      have r2 := hr.keeps g2.keeps (by simp)
      have hl2 := hl'.keeps g2.keeps (by simp)
      have et : l.take (i + 1) = l.take i ++ [p] := by rw [List.take_add_one, hp]; rfl
      simp only [bin_neq, bin_gtr, bin_sub, bin_add, pureW_some, forkW_bne, forkW_dec]
      refine ⟨fun _ => hk A2 250 (g02.more (by omega)) (fun h => absurd h (by decide)), fun hx => ?_⟩
      have hall' : ∀ q ∈ l.take (i + 1), xchk q.g q.b = 0 := fun q hq => by
        rw [et] at hq
        rcases List.mem_append.1 hq with hq | hq
        · exact hall q hq
        · rw [List.mem_singleton.1 hq]; exact hx
      refine ⟨fun hpos => ?_, fun hz => ?_⟩
      · obtain ⟨q, hq⟩ : ∃ q, l[i - 1]? = some q := ⟨l[i - 1], List.getElem?_eq_getElem (by omega)⟩
        have hxq : xchk q.g q.b = 0 := hall q (List.mem_of_getElem? (i := i - 1) (by rw [List.getElem?_take, if_pos (by omega)]; exact hq))
        obtain ⟨hg1, hg2, hg3⟩ := xchk_zero hxq
        obtain ⟨r', o', b1, b2⟩ := hl2.at hq
        obtain ⟨r'', o'', c1, c2⟩ := hl2.at hp
        have b3 : A2.cells? ⟨r', o', none⟩ 3 = some [.int .u32 (q.f : Int), .string q.g, .string q.b] := b2
        have c3 : A2.cells? ⟨r'', o'', none⟩ 3 = some [.int .u32 (p.f : Int), .string p.g, .string p.b] := c2
        rw [wrap_i64 (n := (i : Int) - 1) (by omega) (by omega), show (i : Int) - 1 = ((i - 1 : Nat) : Int) by omega]
        simp only [fa_30_4, ld_28, cell_row r2.row, letC, cellOf, isT_int, isT_string, hl'.one.2, cond_false, b1, c1, ld_25, b3, c3, pureW_some, Nat.zero_add]
        refine wc192 (f := (q.f : Int)) (f' := (p.f : Int)) (g := q.g) (b := q.b) (g' := p.g) (b' := p.b) g2.fine (by omega) (by omega) (by omega) fun A3 rr g3 => ?_
        have g03 := g02.trans g3
        simp only [bin_geq, pureW_some, forkW_dec]
        refine ⟨fun _ => hk A3 250 (g03.more (by omega)) (fun h => absurd h (by decide)), fun _ => ?_⟩
        rw [wrap_i64 (by omega) (by omega)]
        exact cutW_self.2 ⟨l.length - (i + 1), by omega, rfl, i + 1, rfl, by omega, h200, hX, hall', r2.keeps g3.keeps (by simp), hl2.keeps g3.keeps (by simp), g03.more (by omega), rfl⟩
      · rw [wrap_i64 (by omega) (by omega)]
        exact cutW_self.2 ⟨l.length - (i + 1), by omega, rfl, i + 1, rfl, by omega, h200, hX, hall', r2, hl2, g02.more (by omega), rfl⟩
    · have hi' : i = l.length := Nat.le_antisymm hi (by omega)
      rw [hi', List.take_length] at hall
      exact hall
  · rw [e121]
    refine newP_made (cs := (Value.cells (letV kd f g b xa no sv)).toList) hf (by omega) (by simp [letV, letC, Value.cells, one_int, one_string, hl.one.1]) fun A1 m1 => ?_
    have n1 := m1.next
    have r1 : Row1 A1 A.next (letC kd f g b xa no sv) 30 := m1.row1
    have hl1 := hl.keeps (m1.keeps hf) (by simp)
    have g1 := Grow.made m1 hf
    have ht : A1.cells? ⟨A.next, 1, none⟩ 3 = some [.int .u32 (f : Int), .string g, .string b] := by rw [cells_row r1.row]; rfl
    have no250 : K (.int .i64 250) A1 := hk A1 250 (g1.more (by omega)) (fun h => absurd h (by decide))
    simp only [fa_30_0, fa_30_1, fa_30_2, fa_30_3, fa_30_4, ld_5, ld_25, ld_26, ld_27, ld_28, ht, cell_row r1.row, letC, cellOf, isT_int, isT_string, hl.one.2, cond_false, hl1.len, bin_eql, bin_geq, bin_leq, bin_lss, bin_gtr, bin_neq, un_not, ba25, neq25, pureW_some, forkW_dec, forkW_beq, forkW_bne, forkW_bool, no250, Nat.zero_add, Bool.not_true, Bool.not_false, Bool.not_eq_true', Bool.not_eq_false', decide_eq_true_eq, decide_eq_false_iff_not, beq_iff_eq, beq_eq_false_iff_ne, bne_iff_ne, bne_eq_false_iff_eq, ne_eq, Bool.false_eq_true, Bool.true_eq_false, reduceCtorEq, false_implies, implies_true, forall_const, true_and, and_true]
    repeat' (first | intro _ | with_reducible apply And.intro)
    all_goals first
      | exact cutW_self.2 ⟨l.length, rfl, 0, rfl, by omega, by omega, by intro h1 h2; omega, by simp, r1, hl1, g1.more (by omega), rfl⟩
      | (refine wc191 (f := (f : Int)) (g := g) (b := b) m1.fine (by omega) fun A2 g2 => ?_
         have n2 := g2.next
         have r2 := r1.keeps g2.keeps (by simp)
         have hl2 := hl1.keeps g2.keeps (by simp)
         have g02 := g1.trans g2
         have no251 : K (.int .i64 250) A2 := hk A2 250 (g02.more (by omega)) (fun h => absurd h (by decide))
         simp only [fa_30_0, fa_30_1, fa_30_2, fa_30_3, fa_30_4, ld_5, ld_25, ld_26, ld_27, ld_28, cell_row r2.row, letC, cellOf, isT_int, isT_string, hl.one.2, cond_false, hl2.len, bin_eql, bin_geq, bin_leq, bin_lss, bin_gtr, bin_neq, un_not, ba25, neq25, pureW_some, forkW_dec, forkW_beq, forkW_bne, forkW_bool, no251, Nat.zero_add, Bool.not_true, Bool.not_false, Bool.not_eq_true', Bool.not_eq_false', decide_eq_true_eq, decide_eq_false_iff_not, beq_iff_eq, beq_eq_false_iff_ne, bne_iff_ne, bne_eq_false_iff_eq, ne_eq, Bool.false_eq_true, Bool.true_eq_false, reduceCtorEq, false_implies, implies_true, forall_const, true_and, and_true]
         repeat' (first | intro _ | with_reducible apply And.intro)
         all_goals exact cutW_self.2 ⟨l.length, rfl, 0, rfl, by omega, by omega, by intro h1 h2; omega, by simp, r2, hl2, g02.more (by omega), rfl⟩)
end
end Go.Proofs.YtblkafhjbcfmhaaGreatDoor
