/-
  Rows of scores compared; how many deeds a name has, by the document. Conditions: those of each theorem.
-/
import Derived.Test.YtdpdajpiadohjaaGreatDoorSumB
import Derived.Test.YtdpdajpiadohjaaGreatDoorAbsI

namespace Go.Proofs.YtdpdajpiadohjaaGreatDoor
open Go.Abs

theorem ft48 : quiet Tryz.prog (underlying 48) = some (.struct (Tryz.prog.fieldsOf 48)) := by kernel_rfl
noncomputable def F48 (i : Nat) : Field := (Tryz.prog.fieldsOf 48).toList.getD i default
theorem fs48 : (Tryz.prog.fieldsOf 48).toList = [F48 0, F48 1, F48 2, F48 3, F48 4, F48 5] := by kernel_rfl
theorem pt48_0 (f : Int) (g b : ByteArray) (c1 c2 c3 c4 c5 : Int) : quiet Tryz.prog (part (F48 0).type ⟨[.int .u32 f, .string g, .string b, .int .i64 c1, .int .i64 c2, .int .i64 c3, .int .i64 c4, .int .i64 c5]⟩ (F48 0).offset) = some (.agg ⟨[.int .u32 f, .string g, .string b]⟩) := by kernel_rfl
theorem pt48_1 (f : Int) (g b : ByteArray) (c1 c2 c3 c4 c5 : Int) : quiet Tryz.prog (part (F48 1).type ⟨[.int .u32 f, .string g, .string b, .int .i64 c1, .int .i64 c2, .int .i64 c3, .int .i64 c4, .int .i64 c5]⟩ (F48 1).offset) = some (.int .i64 c1) := by kernel_rfl
theorem pt48_2 (f : Int) (g b : ByteArray) (c1 c2 c3 c4 c5 : Int) : quiet Tryz.prog (part (F48 2).type ⟨[.int .u32 f, .string g, .string b, .int .i64 c1, .int .i64 c2, .int .i64 c3, .int .i64 c4, .int .i64 c5]⟩ (F48 2).offset) = some (.int .i64 c2) := by kernel_rfl
theorem pt48_3 (f : Int) (g b : ByteArray) (c1 c2 c3 c4 c5 : Int) : quiet Tryz.prog (part (F48 3).type ⟨[.int .u32 f, .string g, .string b, .int .i64 c1, .int .i64 c2, .int .i64 c3, .int .i64 c4, .int .i64 c5]⟩ (F48 3).offset) = some (.int .i64 c3) := by kernel_rfl
theorem pt48_4 (f : Int) (g b : ByteArray) (c1 c2 c3 c4 c5 : Int) : quiet Tryz.prog (part (F48 4).type ⟨[.int .u32 f, .string g, .string b, .int .i64 c1, .int .i64 c2, .int .i64 c3, .int .i64 c4, .int .i64 c5]⟩ (F48 4).offset) = some (.int .i64 c4) := by kernel_rfl
theorem pt48_5 (f : Int) (g b : ByteArray) (c1 c2 c3 c4 c5 : Int) : quiet Tryz.prog (part (F48 5).type ⟨[.int .u32 f, .string g, .string b, .int .i64 c1, .int .i64 c2, .int .i64 c3, .int .i64 c4, .int .i64 c5]⟩ (F48 5).offset) = some (.int .i64 c5) := by kernel_rfl
theorem ty48_0 : (F48 0).type = 46 := by kernel_rfl
theorem ty48_1 : (F48 1).type = 3 := by kernel_rfl
theorem ty48_2 : (F48 2).type = 3 := by kernel_rfl
theorem ty48_3 : (F48 3).type = 3 := by kernel_rfl
theorem ty48_4 : (F48 4).type = 3 := by kernel_rfl
theorem ty48_5 : (F48 5).type = 3 := by kernel_rfl
noncomputable def keqS (a b : Sc) : Bool := @decide (a = b) (Classical.propDecidable _)
theorem keqS_iff {a b : Sc} : keqS a b = true ↔ a = b := by unfold keqS; exact @decide_eq_true_iff _ (Classical.propDecidable _)
theorem keqS_not {p q : Sc} : keqS p q = false ↔ p ≠ q := by
  rw [← Bool.not_eq_true, keqS_iff]
theorem quiet48 (n : Nat) (f f' : Int) (g g' b b' : ByteArray) (c1 c2 c3 c4 c5 d1 d2 d3 d4 d5 : Int) : quiet Tryz.prog (Op.equalIn (n + 1 + 1 + 1) 48 (.agg ⟨[.int .u32 f, .string g, .string b, .int .i64 c1, .int .i64 c2, .int .i64 c3, .int .i64 c4, .int .i64 c5]⟩) (.agg ⟨[.int .u32 f', .string g', .string b', .int .i64 d1, .int .i64 d2, .int .i64 d3, .int .i64 d4, .int .i64 d5]⟩)) = some (sameX f f' g g' b b' && (c1 == d1 && (c2 == d2 && (c3 == d3 && (c4 == d4 && c5 == d5))))) := by
  rw [quiet_struct (n + 1 + 1) 48 _ _ ft48 (by kernel_rfl), fs48]
  rw [quiet_fieldR (by kernel_rfl) (pt48_0 f g b c1 c2 c3 c4 c5) (pt48_0 f' g' b' d1 d2 d3 d4 d5) (by rw [ty48_0]; exact quiet46 n _ _ _ _ _ _)]
  rw [quiet_fieldR (by kernel_rfl) (pt48_1 f g b c1 c2 c3 c4 c5) (pt48_1 f' g' b' d1 d2 d3 d4 d5) (by rw [ty48_1]; exact quiet_eq_int (n + 1) 3 _ _ _ _ ut3)]
  rw [quiet_fieldR (by kernel_rfl) (pt48_2 f g b c1 c2 c3 c4 c5) (pt48_2 f' g' b' d1 d2 d3 d4 d5) (by rw [ty48_2]; exact quiet_eq_int (n + 1) 3 _ _ _ _ ut3)]
  rw [quiet_fieldR (by kernel_rfl) (pt48_3 f g b c1 c2 c3 c4 c5) (pt48_3 f' g' b' d1 d2 d3 d4 d5) (by rw [ty48_3]; exact quiet_eq_int (n + 1) 3 _ _ _ _ ut3)]
  rw [quiet_fieldR (by kernel_rfl) (pt48_4 f g b c1 c2 c3 c4 c5) (pt48_4 f' g' b' d1 d2 d3 d4 d5) (by rw [ty48_4]; exact quiet_eq_int (n + 1) 3 _ _ _ _ ut3)]
  rw [quiet_fieldR (by kernel_rfl) (pt48_5 f g b c1 c2 c3 c4 c5) (pt48_5 f' g' b' d1 d2 d3 d4 d5) (by rw [ty48_5]; exact quiet_eq_int (n + 1) 3 _ _ _ _ ut3)]
  cases sameX f f' g g' b b' <;> cases c1 == d1 <;> cases c2 == d2 <;> cases c3 == d3 <;> cases c4 == d4 <;> cases c5 == d5 <;> rfl
theorem sc_kq (s t : Sc) : (sameX (s.x.f : Int) (t.x.f : Int) s.x.g t.x.g s.x.b t.x.b && ((s.c1 : Int) == (t.c1 : Int) && ((s.c2 : Int) == (t.c2 : Int) && ((s.c3 : Int) == (t.c3 : Int) && ((s.c4 : Int) == (t.c4 : Int) && (s.c5 : Int) == (t.c5 : Int)))))) = keqS s t := by
  rw [Bool.eq_iff_iff, keqS_iff]
  simp only [Bool.and_eq_true, beq_iff_eq, sameX_iff]
  constructor
  · rintro ⟨h0, h1, h2, h3, h4, h5⟩
    obtain ⟨x, c1, c2, c3, c4, c5⟩ := s
    obtain ⟨x', d1, d2, d3, d4, d5⟩ := t
    simp only at h0 h1 h2 h3 h4 h5
    have h1 : c1 = d1 := by omega
    have h2 : c2 = d2 := by omega
    have h3 : c3 = d3 := by omega
    have h4 : c4 = d4 := by omega
    have h5 : c5 = d5 := by omega
    rw [h0, h1, h2, h3, h4, h5]
  · rintro rfl
    exact ⟨rfl, rfl, rfl, rfl, rfl, rfl⟩
theorem quiet48S (s t : Sc) : quiet Tryz.prog (Op.equalIn (9997 + 1 + 1 + 1) 48 (vS s) (vS t)) = some (keqS s t) :=
  (quiet48 9997 (s.x.f : Int) (t.x.f : Int) s.x.g t.x.g s.x.b t.x.b s.c1 s.c2 s.c3 s.c4 s.c5 t.c1 t.c2 t.c3 t.c4 t.c5).trans (congrArg some (sc_kq s t))
theorem eqAS (s t : Sc) : eqA Tryz.prog 48 (vS s) (vS t) = some (keqS s t) := by
  unfold eqA
  have hc : (closedV 4 (vS s) && closedV 4 (vS t)) = true := rfl
  rw [hc, cond_true]
  exact quiet48S s t
set_option maxHeartbeats 4000000 in
set_option maxRecDepth 100000 in
theorem neqS (s t : Sc) (xo yo : Operand) : binA Tryz.prog .neq 48 xo yo (.agg ⟨s.cells⟩) (.agg ⟨t.cells⟩) = some (.bool !(keqS s t)) := by
  have hg : eqGuardA Tryz.prog 48 xo yo (vS s) (vS t) = true := by
    show (!Tryz.prog.eqGuardType Tryz.prog.depth 48) = true
    kernel_rfl
  have he := eqAS s t
  show (bif eqGuardA Tryz.prog 48 xo yo (.agg ⟨s.cells⟩) (.agg ⟨t.cells⟩) then (match eqA Tryz.prog 48 (.agg ⟨s.cells⟩) (.agg ⟨t.cells⟩) with | some b => some (Value.bool !b) | none => none) else none) = _
  have hg : eqGuardA Tryz.prog 48 xo yo (.agg ⟨s.cells⟩) (.agg ⟨t.cells⟩) = true := hg
  have he : eqA Tryz.prog 48 (.agg ⟨s.cells⟩) (.agg ⟨t.cells⟩) = some (keqS s t) := he
  rw [hg, cond_true, he]
noncomputable def eqLS (a b : List Sc) : Bool := @decide (a = b) (Classical.propDecidable _)
theorem eqLS_true {a b : List Sc} (h : a = b) : eqLS a b = true := by unfold eqLS; exact @decide_eq_true _ (Classical.propDecidable _) h
theorem eqLS_false {a b : List Sc} (h : ¬ a = b) : eqLS a b = false := by unfold eqLS; exact @decide_eq_false _ (Classical.propDecidable _) h
theorem take_split : ∀ (n : Nat) (l cs : List Value), takeCells l n = some cs → ∃ rest, l = cs ++ rest
  | 0, l, cs, h => by simp [takeCells] at h; subst h; exact ⟨l, rfl⟩
  | n + 1, [], cs, h => by simp [takeCells] at h
  | n + 1, x :: l, cs, h => by
    unfold takeCells at h
    cases hx : isTuple x with
    | true => rw [hx] at h; cases h
    | false =>
      rw [hx, cond_false] at h
      cases hr : takeCells l n with
      | none => rw [hr] at h; cases h
      | some q =>
        rw [hr] at h
        simp only [Option.some.injEq] at h
        subst h
        obtain ⟨rest, rfl⟩ := take_split n l q hr
        exact ⟨rest, rfl⟩
theorem cells_at {A : AW} {r o m : Nat} {cs : List Value} (h : A.cells? ⟨r, o, none⟩ (m + 1) = some cs) : ∃ cs0 e g b ro rest, A.get r = some (.row cs0 e g b ro) ∧ cs0.drop o = cs ++ rest := by
  unfold AW.cells? at h
  simp only at h
  split at h
  · rename_i cs0 e g b ro hg
    obtain ⟨rest, hr⟩ := take_split _ _ _ h
    exact ⟨cs0, e, g, b, ro, rest, hg, hr⟩
  · cases h
/-- a name among an element's cells -/
theorem load_part {A : AW} {r o m : Nat} {pre post : List Value} {p : Nm} (h : A.cells? ⟨r, o, none⟩ (m + 1) = some (pre ++ (p.cells ++ post))) : loadP Tryz.prog A 46 (.pointer (some ⟨r, o + pre.length, none⟩)) = some (.agg ⟨p.cells⟩) := by
  obtain ⟨cs0, e, g, b, ro, rest, h1, h2⟩ := cells_at h
  have h3 : takeCells (p.cells ++ (post ++ rest)) 3 = some p.cells := takeCells_app p.cells _ rfl
  rw [ld_46, cells_row h1, ← List.drop_drop, h2, List.append_assoc, List.drop_left, List.append_assoc, h3]
section
variable {W0 : World} {m0 : Inj Tryz.prog}
theorem wc8 {v1 v2 : Value} {l1 l2 : List Sc} {F1 F2 : List Nat} {A : AW} {K : Value → AW → Prop} (h1 : RdE 7 Sc.cells A v1 l1 F1) (h2 : RdE 7 Sc.cells A v2 l2 F2) (hl : l1.length < 1000000) (hk : K (.bool (eqLS l1 l2)) A) : Wc Tryz.prog theX W0 m0 8 [v1, v2] A K := by
  let I : Nat → Nat → List Value → AW → Prop := fun g id vals A' => id = 0 ∧ A' = A ∧ ∃ i : Nat, vals = [v1, v2, .int .i64 (i : Int)] ∧ g = l1.length - i ∧ i ≤ l1.length ∧ l1.length = l2.length ∧ ∀ j, j < i → l1[j]? = l2[j]?
  refine w8 _ _ _ (c8 (I := I) ?_) ?_
  · rintro g id vals A' d ⟨rfl, rfl, i, rfl, rfl, hi, hlen, hs⟩ hd
    rw [l8_0]
    simp only [L8, List.map_cons, List.map_nil, List.cons.injEq, and_true] at hd
    obtain ⟨h0, h1', h5⟩ := hd
    simp only [h0, h1', h5, h1.len etS, bin_lss, pureW_some, forkW_dec]
    refine ⟨fun hlt => ?_, fun hge => ?_⟩
    · have hlt : i < l1.length := by omega
      have hp := List.getElem?_eq_getElem hlt
      have hq := List.getElem?_eq_getElem (show i < l2.length by omega)
      obtain ⟨r, o, a1, _, a2⟩ := h1.at etS hp
      obtain ⟨r', o', b1, _, b2⟩ := h2.at etS hq
      simp only [a1, b1, a2, b2, pureW_some, neqS, bin_add]
      rw [wrap_i64 (by omega) (by omega)]
      refine forkW_bool.2 ⟨fun h => ?_, fun h => ?_⟩
      · have hne : l1[i] ≠ l2[i]'(by omega) := keqS_not.1 (by simpa using h)
        rw [eqLS_false (fun e => hne (by simp [e]))] at hk
        exact hk
      · have he : l1[i] = l2[i]'(by omega) := keqS_iff.1 (by simpa using h)
        refine cutW_self.2 ⟨l1.length - (i + 1), by omega, rfl, rfl, i + 1, rfl, rfl, by omega, hlen, fun j hj => ?_⟩
        by_cases hji : j = i
        · subst hji; rw [hp, hq, he]
        · exact hs j (by omega)
    · have : l1 = l2 := List.ext_getElem? fun j => by
        by_cases hj : j < i
        · exact hs j hj
        · rw [List.getElem?_eq_none (by omega), List.getElem?_eq_none (by omega)]
      rw [eqLS_true this] at hk
      exact hk
  · rw [e8]
    simp only [h1.len etS, h2.len etS, bin_neq, pureW_some, forkW_bne]
    refine ⟨fun hne => ?_, fun he => ?_⟩
    · rw [eqLS_false (fun e => hne (by rw [e]))] at hk
      exact hk
    · exact cutW_self.2 ⟨l1.length, rfl, rfl, 0, rfl, rfl, by omega, by omega, fun j hj => by omega⟩
theorem wc30 {v : Value} {l : List Dd} {Fd : List Nat} {p : Nm} {w : Nat} {A : AW} {K : Value → AW → Prop} (hv : RdE 4 Dd.cells A v l Fd) (hl : l.length < 10000) (hf : Fine A) (hA : A.next + 10 + 3 * l.length < maxId)
    (hk : ∀ A', Grow A A' (1 + 3 * l.length) → K (.int .i64 (cnt l p w : Int)) A') : Wc Tryz.prog theX W0 m0 30 [v, .agg ⟨p.cells⟩, .int .u8 (w : Int)] A K := by
  let I : Nat → Nat → List Value → AW → Prop := fun g id vals A' => id = 0 ∧ ∃ i : Nat, vals = [v, .int .u8 (w : Int), .pointer (some ⟨A.next, 0, none⟩), .int .i64 (cnt (l.take i) p w : Int), .int .i64 (i : Int)] ∧ i ≤ l.length ∧ Go.Abs.Row1 A' A.next p.cells 46 ∧ Grow A A' (1 + 3 * i) ∧ g = l.length - i
  refine w30 _ _ _ _ (c30 (I := I) ?_) ?_
  · rintro g id vals A' d ⟨rfl, i, rfl, hi, hr, gr, rfl⟩ hd
    rw [l30_0]
    simp only [L30, List.map_cons, List.map_nil, List.cons.injEq, and_true] at hd
    obtain ⟨d0, d2, d4, d7, d8⟩ := hd
    have nx := gr.next
    have le := gr.le
    have hv' := hv.keeps gr.keeps (fun x _ => by simp)
    simp only [d0, d2, d4, d7, d8, hv'.len etD, bin_lss, pureW_some, forkW_dec]
    refine ⟨fun hlt => ?_, fun hge => ?_⟩
    · have hlt : i < l.length := by omega
      have hp := List.getElem?_eq_getElem hlt
      generalize hdd : l[i] = dd at hp
      obtain ⟨r, o, a1, a2, _⟩ := hv'.at etD hp
      have hcw : A'.cell? ⟨r, o + 4, none⟩ = some (.int .u8 (dd.w : Int)) := cell_of a2 (k := 4) rfl
      have hcn : cnt (l.take i) p w ≤ i := Nat.le_trans (cnt_le _ _ _) (by rw [List.length_take]; omega)
      have hsn : cnt (l.take (i + 1)) p w = cnt (l.take i) p w + Go.Abs.one dd p w := by
        rw [List.take_add_one, hp, cnt_app]; simp [cnt]
      have hx : loadP Tryz.prog A' 46 (.pointer (some ⟨r, o + 1, none⟩)) = some (.agg ⟨dd.x.cells⟩) := load_part (pre := [.int .u8 (dd.n : Int)]) (post := [.int .u8 (dd.w : Int)]) a2
      simp only [a1, fa_56_2, fa_56_1, ld_5, hcw, hx, pureW_some, bin_eql, bin_add, forkW_beq, eqW_self]
      rw [wrap_i64 (n := (cnt (l.take i) p w : Int) + 1) (by omega) (by omega), wrap_i64 (n := (i : Int) + 1) (by omega) (by omega)]
      have hno : ∀ {B : AW}, Grow A' B 2 → Go.Abs.one dd p w = 0 → cutW (T30 0) (T30 0) (∃ g', g' < l.length - i ∧ I g' 0 [v, .int .u8 (w : Int), .pointer (some ⟨A.next, 0, none⟩), .int .i64 (cnt (l.take i) p w : Int), .int .i64 ((i : Int) + 1)] B) := fun gB h1 =>
        cutW_self.2 ⟨l.length - (i + 1), by omega, rfl, i + 1, by rw [hsn, h1]; rfl, by omega, hr.keeps gB.keeps (by simp), (gr.trans gB).more (by omega), rfl⟩
      refine ⟨fun hw => ?_, fun hw => ?_⟩
      · have hw : dd.w = w := by omega
        simp only [load46 hr, pureW_some]
        refine wc29 gr.fine (by omega) fun A2 g2 => ?_
        have hr2 := hr.keeps g2.keeps (by simp)
        simp only [load46 hr2, pureW_some, eqW_self, eqN]
        refine forkW_bool.2 ⟨fun h => ?_, fun h => hno g2 (one_no fun h2 => keqN_not.1 h h2.2)⟩
        have h1 : Go.Abs.one dd p w = 1 := one_yes ⟨hw, keqN_iff.1 h⟩
        exact cutW_self.2 ⟨l.length - (i + 1), by omega, rfl, i + 1, by rw [hsn, h1]; rfl, by omega, hr2, (gr.trans g2).more (by omega), rfl⟩
      · exact hno ((Grow.refl gr.fine).more (by omega)) (one_no fun h2 => hw (by rw [h2.1]))
    · have hil : i = l.length := by omega
      subst hil
      have := hk A' gr
      rw [List.take_length]
      exact this
  · rw [e30]
    refine newP_made (cs := p.cells) hf (by omega) rfl fun A1 m1 => ?_
    exact cutW_self.2 ⟨l.length, rfl, 0, by simp [cnt], by omega, m1.row1, (Grow.made m1 hf).more (by omega), by simp⟩
end
end Go.Proofs.YtdpdajpiadohjaaGreatDoor


namespace Go.Proofs.YtdpdajpiadohjaaGreatDoor
open Go.Abs

theorem sl_nil_to (A : AW) : sliceA Tryz.prog A 28 (.slice none 0 0) none (some (.int .i64 0)) none = some (.slice none 0 0) := by kernel_rfl
theorem sl_nil_from (A : AW) : sliceA Tryz.prog A 28 (.slice none 0 0) (some (.int .i64 0)) none none = some (.slice none 0 0) := by kernel_rfl
/-- what is ahead, the name, what is behind: three lists in one -/
theorem addTail {v : Value} {l : List Nm} {F : List Nat} {p : Nm} {q i : Nat} {A : AW} {K : Value → AW → Prop} (h : OwnE 46 2 Nm.cells A v l F) (hq : Go.Abs.Row1 A q p.cells 46) (hi : i ≤ l.length) (hl : l.length < 10000) (hf : Fine A) (hA : A.next + 10 < maxId)
    (hk : ∀ A' v' F', OwnE 46 2 Nm.cells A' v' (l.take i ++ p :: l.drop i) F' → (∀ x ∈ F', A.next ≤ x) → Grow A A' 4 → K v' A') :
    pureW (sliceA Tryz.prog A 28 v none (some (.int .i64 (i : Int))) none) fun t14 => bothW (appendA Tryz.prog A 28 28 (.slice none 0 0) t14) fun t15 A1 => pureW (loadP Tryz.prog A1 46 (.pointer (some ⟨q, 0, none⟩))) fun t16 => bothW (buildSliceA Tryz.prog A1 28 1 [(0, t16)]) fun t17 A2 =>
      bothW (appendA Tryz.prog A2 28 28 t15 t17) fun t18 A3 => pureW (sliceA Tryz.prog A3 28 v (some (.int .i64 (i : Int))) none none) fun t19 => bothW (appendA Tryz.prog A3 28 28 t18 t19) fun t20 A4 => K t20 A4 := by
  obtain ⟨v1, F1, e1, r1, s1⟩ := h.to etN hi (sl_nil_to A)
  simp only [e1, pureW_some]
  have h0 : OwnE 46 2 Nm.cells A (.slice none 0 0) [] [] := .nil A
  refine h0.appendL etN r1 hf (by omega) (by simp) (by rw [List.length_take]; omega) fun o1 A1 G1 ho1 k1 hG1 n1 f1 => ?_
  have hG1 : ∀ x ∈ G1, A.next ≤ x := fun x hx => by
    rcases hG1 x hx with h | h
    · cases h
    · omega
  simp only [load46 (hq.keeps k1 (by simp)), pureW_some]
  refine newNm1 f1 (by omega) fun A2 m2 => ?_
  have n2 := m2.next
  have k2 := m2.keeps f1
  have l1 := k1.next
  refine OwnE.append etN (ho1.keeps k2 (by simp)) m2.row1 m2.fine (by omega) (by rw [List.nil_append, List.length_take]; omega) fun o3 A3 G3 ho3 k3 hG3 n3 f3 => ?_
  have K3 : Keeps A A3 [] := (k1.trans k2 (by simp)).trans k3 (fun x hx => .inr (hG1 x hx))
  have hG3 : ∀ x ∈ G3, A.next ≤ x := fun x hx => by
    rcases hG3 x hx with h | h
    · exact hG1 x h
    · omega
  obtain ⟨v4, F4, e4, r4, s4⟩ := (h.keeps K3 (by simp)).from etN hi (sl_nil_from A3)
  simp only [e4, pureW_some]
  refine ho3.appendL etN r4 f3 (by omega) (by simp only [List.nil_append, List.length_append, List.length_take, List.length_cons, List.length_nil]; omega) (by rw [List.length_drop]; omega) fun o5 A5 G5 ho5 k5 hG5 n5 f5 => ?_
  refine hk A5 o5 G5 ?_ (fun x hx => ?_) ⟨K3.trans k5 (fun x hx => .inr (hG3 x hx)), f5, by omega⟩
  · simpa using ho5
  · have l3 := K3.next
    rcases hG5 x hx with h | h
    · exact hG3 x h
    · omega
end Go.Proofs.YtdpdajpiadohjaaGreatDoor


namespace Go.Proofs.YtdpdajpiadohjaaGreatDoor
open Go.Abs

theorem addN_yes {l : List Nm} {p : Nm} (h : l[Go.Abs.ahead l p]? = some p) : addN l p = l := if_pos h
theorem addN_no {l : List Nm} {p : Nm} (h : ¬ l[Go.Abs.ahead l p]? = some p) : addN l p = l.take (Go.Abs.ahead l p) ++ p :: l.drop (Go.Abs.ahead l p) := if_neg h
section
variable {W0 : World} {m0 : Inj Tryz.prog}
theorem wc28 {v : Value} {l : List Nm} {F : List Nat} {p : Nm} {A : AW} {K : Value → AW → Prop} (h : OwnE 46 2 Nm.cells A v l F) (hl : l.length < 10000) (hs : ∀ q ∈ l, slen q.g < 9223372036854775808 ∧ slen q.b < 9223372036854775808) (hf : Fine A) (hA : A.next + 30 + 2 * l.length < maxId)
    (hk : ∀ A' v' F', OwnE 46 2 Nm.cells A' v' (addN l p) F' → (∀ x ∈ F', x ∈ F ∨ A.next ≤ x) → Grow A A' (10 + 2 * l.length) → K v' A') : Wc Tryz.prog theX W0 m0 28 [v, .agg ⟨p.cells⟩] A K := by
  let I : Nat → Nat → List Value → AW → Prop := fun g id vals A' => id = 0 ∧ ∃ i : Nat, vals = [v, .pointer (some ⟨A.next, 0, none⟩), .int .i64 (i : Int)] ∧ i ≤ l.length ∧ (∀ j y, j < i → l[j]? = some y → xcmp y p < 0) ∧ Go.Abs.Row1 A' A.next p.cells 46 ∧ Grow A A' (1 + 2 * i) ∧ g = l.length - i
  refine w28 _ _ _ (c28 (I := I) ?_) ?_
  · rintro g id vals A' d ⟨rfl, i, rfl, hi, hlo, hr, gr, rfl⟩ hd
    rw [l28_0]
    simp only [L28, List.map_cons, List.map_nil, List.cons.injEq, and_true] at hd
    obtain ⟨d0, d3, d5⟩ := hd
    have nx := gr.next
    have le := gr.le
    have h' := h.keeps gr.keeps (by simp)
    have rd' := h'.rd etN.len
    simp only [d0, d3, d5, rd'.len etN, bin_lss, pureW_some, forkW_dec]
    refine ⟨fun hlt => ?_, fun hge => ⟨fun h2 => absurd h2 hge, fun _ => ?_⟩⟩
    · have hlt : i < l.length := by omega
      have hp := List.getElem?_eq_getElem hlt
      generalize hpp : l[i] = y at hp
      obtain ⟨r, o, a1, _, a2⟩ := rd'.at etN hp
      have hy := hs y (List.mem_of_getElem? hp)
      simp only [a1, a2, load46 hr, pureW_some]
      refine wc59 gr.fine (by omega) hy.1 hy.2 fun A2 c g2 hc => ?_
      have n2 := g2.next
      have l2 := g2.le
      have hr2 := hr.keeps g2.keeps (by simp)
      have h2 := h'.keeps g2.keeps (by simp)
      have rd2 := h2.rd etN.len
      have G2 := gr.trans g2
      simp only [rd2.len etN, bin_lss, pureW_some, forkW_dec, bin_add]
      refine ⟨fun hneg => ?_, fun hneg => ⟨fun _ => ?_, fun h3 => absurd hlt (by omega)⟩⟩
      · rw [wrap_i64 (by omega) (by omega)]
        refine cutW_self.2 ⟨l.length - (i + 1), by omega, rfl, i + 1, rfl, by omega, fun j z hj hz => ?_, hr2, G2.more (by omega), rfl⟩
        by_cases hji : j = i
        · subst hji
          rw [hp, Option.some.injEq] at hz
          rw [← hz]; exact hc.1 hneg
        · exact hlo j z (by omega) hz
      · have hah : i = Go.Abs.ahead l p := ahead_is (by omega) hlo fun z hz => by
          rw [hp, Option.some.injEq] at hz
          rw [← hz]; exact fun hh => hneg (hc.2 hh)
        obtain ⟨r', o', b1, _, b2⟩ := rd2.at etN hp
        have e := b1.symm.trans a1
        simp only [Option.some.injEq, Value.pointer.injEq, Addr.mk.injEq, and_true] at e
        obtain ⟨rfl, rfl⟩ := e
        simp only [a1, b2, load46 hr2, pureW_some, eqN]
        refine forkW_bool.2 ⟨fun he => ?_, fun he => ?_⟩
        · refine hk A2 v F ?_ (fun x hx => .inl hx) (G2.more (by omega))
          rw [addN_yes (by rw [← hah, hp, keqN_iff.1 he])]
          exact h2
        · refine addTail h2 hr2 hi hl G2.fine (by omega) fun A' v' F' ho hF g4 => hk A' v' F' ?_ (fun x hx => .inr (by have := hF x hx; omega)) ((G2.trans g4).more (by omega))
          rw [addN_no (by rw [← hah, hp]; exact fun e => keqN_not.1 he (Option.some.inj e)), ← hah]
          exact ho
    · have hil : i = l.length := by omega
      have hah : i = Go.Abs.ahead l p := ahead_is hi hlo fun z hz => by
        rw [hil, List.getElem?_eq_none (Nat.le_refl _)] at hz; cases hz
      refine addTail h' hr hi hl gr.fine (by omega) fun A' v' F' ho hF g4 => hk A' v' F' ?_ (fun x hx => .inr (by have := hF x hx; omega)) ((gr.trans g4).more (by omega))
      rw [addN_no (by rw [← hah, hil, List.getElem?_eq_none (Nat.le_refl _)]; exact fun e => by cases e), ← hah]
      exact ho
  · rw [e28]
    refine newP_made (cs := p.cells) hf (by omega) rfl fun A1 m1 => ?_
    exact cutW_self.2 ⟨l.length, rfl, 0, rfl, by omega, fun j y hj => by omega, m1.row1, (Grow.made m1 hf).more (by omega), by simp⟩
end
end Go.Proofs.YtdpdajpiadohjaaGreatDoor


namespace Go.Proofs.YtdpdajpiadohjaaGreatDoor
open Go.Abs

theorem ba48 (f : Int) (g b : ByteArray) (c1 c2 c3 c4 c5 : Int) : buildA Tryz.prog 48 [(0, .agg ⟨[.int .u32 f, .string g, .string b]⟩), (1, .int .i64 c1), (2, .int .i64 c2), (3, .int .i64 c3), (4, .int .i64 c4), (5, .int .i64 c5)] = some (.agg ⟨[.int .u32 f, .string g, .string b, .int .i64 c1, .int .i64 c2, .int .i64 c3, .int .i64 c4, .int .i64 c5]⟩) := by kernel_rfl
theorem ba48S (l : List Dd) (p : Nm) : buildA Tryz.prog 48 [(0, .agg ⟨p.cells⟩), (1, .int .i64 (cnt l p 1 : Int)), (2, .int .i64 (cnt l p 2 : Int)), (3, .int .i64 (cnt l p 3 : Int)), (4, .int .i64 (cnt l p 4 : Int)), (5, .int .i64 (cnt l p 5 : Int))] = some (vS (scOf l p)) := ba48 _ _ _ _ _ _ _ _
theorem fresh25 (f : Int) (g b : ByteArray) (c1 c2 c3 c4 c5 : Int) : freshOf Tryz.prog (evalT (Tm.fill ⟨1, .nil⟩ 0 [.agg ⟨[.int .u32 f, .string g, .string b, .int .i64 c1, .int .i64 c2, .int .i64 c3, .int .i64 c4, .int .i64 c5]⟩])) (.buildSlice 25 1 #[(0, .tmp 0)]) = some (.slice [.int .u32 f, .string g, .string b, .int .i64 c1, .int .i64 c2, .int .i64 c3, .int .i64 c4, .int .i64 c5] 48 1) := by kernel_rfl
theorem freshW_25 {s : Sc} {A : AW} {q : Nat} {p : Prop} (h : A.get q = some (.row s.cells 48 q 0 false)) (hp : p) : freshW (freshOf Tryz.prog (evalT (Tm.fill ⟨1, .nil⟩ 0 [vS s])) (.buildSlice 25 1 #[(0, .tmp 0)])) A (.slice (some ⟨q, 0, none⟩) 1 1) p := by
  refine ⟨⟨_, fresh25 _ _ _ _ _ _ _ _, ?_⟩, hp⟩
  unfold Sc.cells at h
  simp only [stillFresh, rowHas, h, sameL, same_int, same_string, Bool.and_self, Option.isNone_none, Bool.true_and, Nat.beq_refl]
end Go.Proofs.YtdpdajpiadohjaaGreatDoor


namespace Go.Proofs.YtdpdajpiadohjaaGreatDoor
open Go.Abs

theorem eqB4 (a b : Bool) (xo yo : Operand) : binA Tryz.prog .eql 4 xo yo (.bool a) (.bool b) = some (.bool (a == b)) := by
  cases a <;> cases b <;> kernel_rfl
/-- the deeds' texts are no longer than there are numbers for -/
def Txt (l : List Dd) : Prop := ∀ d ∈ l, slen d.x.g < 9223372036854775808 ∧ slen d.x.b < 9223372036854775808
theorem txt_names {l r : List Dd} {a : List Nm} (h : Txt (l ++ r)) (ha : NamesOf l a) : ∀ q ∈ a, slen q.g < 9223372036854775808 ∧ slen q.b < 9223372036854775808 := by
  intro q hq
  obtain ⟨d, hd, _, h2⟩ := (ha.2 q).1 hq
  have := h d (List.mem_append_left _ hd)
  subst h2
  exact ⟨this.1, by show (0 : Nat) < _; decide⟩
theorem names_nil : NamesOf [] [] := ⟨.nil, fun k => by simp [Has]⟩
section
variable {W0 : World} {m0 : Inj Tryz.prog}
set_option maxHeartbeats 1000000 in
theorem wc10 {v : Value} {l : List Dd} {Fd : List Nat} {A : AW} {K : Value → AW → Prop} (hv : RdE 4 Dd.cells A v l Fd) (hl : l.length ≤ 60) (ht : Txt l) (hf : Fine A) (hA : A.next + 100000 < maxId)
    (hk : ∀ A' sv a F, NamesOf l a → OwnE 48 7 Sc.cells A' sv (tally l a) F → (∀ x ∈ F, A.next ≤ x) → Grow A A' 80000 → K sv A') : Wc Tryz.prog theX W0 m0 10 [v] A K := by
  let I : Nat → Nat → List Value → AW → Prop := fun g id vals A' =>
    (id = 0 ∧ ∃ (i : Nat) (out : Value) (a : List Nm) (F : List Nat), vals = [v, out, .int .i64 (i : Int)] ∧ i ≤ l.length ∧ OwnE 46 2 Nm.cells A' out a F ∧ NamesOf (l.take i) a ∧ (∀ x ∈ F, A.next ≤ x) ∧ Grow A A' (150 * i) ∧ g = 1000 + (l.length - i)) ∨
    (id = 2 ∧ ∃ (i : Nat) (nm out : Value) (a : List Nm) (F Fo : List Nat) (A1 : AW), vals = [v, nm, out, .int .i64 (i : Int)] ∧ i ≤ a.length ∧ OwnE 46 2 Nm.cells A' nm a F ∧ NamesOf l a ∧ (∀ x ∈ F, x < A1.next) ∧ Grow A A1 9000 ∧
      OwnE 48 7 Sc.cells A' out (tally l (a.take i)) Fo ∧ (∀ x ∈ Fo, A1.next ≤ x) ∧ Keeps A1 A' [] ∧ Fine A' ∧ A'.next ≤ A1.next + 1000 * i ∧ g = a.length - i)
  refine w10 _ _ (c10 (I := I) ?_) ?_
  · rintro g id vals A' d (⟨rfl, i, out, a, F, rfl, hi, ho, ha, hF, gr, rfl⟩ | ⟨rfl, i, nm, out, a, F, Fo, A1, rfl, hi, hn, ha, hF, g1, ho, hFo, k, f, nx, rfl⟩) hd
    · rw [l10_0]
      simp only [L10, List.map_cons, List.map_nil, List.cons.injEq, and_true] at hd
      obtain ⟨d0, d3, d4⟩ := hd
      have nx := gr.next
      have le := gr.le
      have hv' := hv.keeps gr.keeps (fun x _ => by simp)
      simp only [d0, d3, d4, hv'.len etD, bin_lss, pureW_some, forkW_dec]
      have hal := names_len ha
      rw [List.length_take] at hal
      refine ⟨fun hlt => ?_, fun hge => ?_⟩
      · have hlt : i < l.length := by omega
        have hp := List.getElem?_eq_getElem hlt
        generalize hdd : l[i] = dd at hp
        have hsn : l.take (i + 1) = l.take i ++ [dd] := by rw [List.take_add_one, hp]; rfl
        obtain ⟨r, o, a1, a2, _⟩ := hv'.at etD hp
        have hcw : A'.cell? ⟨r, o + 4, none⟩ = some (.int .u8 (dd.w : Int)) := cell_of a2 (k := 4) rfl
        have hx : loadP Tryz.prog A' 46 (.pointer (some ⟨r, o + 1, none⟩)) = some (.agg ⟨dd.x.cells⟩) := load_part (pre := [.int .u8 (dd.n : Int)]) (post := [.int .u8 (dd.w : Int)]) a2
        simp only [a1, fa_56_2, fa_56_1, ld_5, hcw, hx, pureW_some, bin_geq, bin_leq, bin_add, forkW_dec]
        rw [wrap_i64 (n := (i : Int) + 1) (by omega) (by omega)]
        have hno : ¬ (1 ≤ dd.w ∧ dd.w ≤ 5) → cutW (T10 0) (T10 0) (∃ g', g' < 1000 + (l.length - i) ∧ I g' 0 [v, out, .int .i64 ((i : Int) + 1)] A') := fun h1 =>
          cutW_self.2 ⟨1000 + (l.length - (i + 1)), by omega, .inl ⟨rfl, i + 1, out, a, F, rfl, by omega, ho, by rw [hsn]; exact names_skip ha (decide_eq_false h1), hF, gr.more (by omega), rfl⟩⟩
        refine ⟨fun h1 => ⟨fun h2 => ?_, fun h2 => hno (by omega)⟩, fun h1 => hno (by omega)⟩
        refine wc29 gr.fine (by omega) fun A2 g2 => ?_
        have n2 := g2.next
        have l2 := g2.le
        have hts : Txt (l.take i ++ l.drop i) := by rw [List.take_append_drop]; exact ht
        refine wc28 (ho.keeps g2.keeps (by simp)) (by omega) (txt_names hts ha) g2.fine (by omega) fun A3 v' F' ho3 hF3 g3 => ?_
        have n3 := g3.next
        refine cutW_self.2 ⟨1000 + (l.length - (i + 1)), by omega, .inl ⟨rfl, i + 1, v', _, F', rfl, by omega, ho3, by rw [hsn]; exact names_snoc ha (decide_eq_true (by omega)), fun x hx => ?_, ((gr.trans g2).trans g3).more (by omega), rfl⟩⟩
        rcases hF3 x hx with h | h
        · exact hF x h
        · omega
      · have hil : i = l.length := by omega
        subst hil
        rw [List.take_length] at ha
        exact cutW_self.2 ⟨a.length, by omega, .inr ⟨rfl, 0, out, .slice none 0 0, a, F, [], A', rfl, by omega, ho, ha, fun x hx => ho.lt x hx, gr.more (by omega), .nil _, by simp, .refl _ _, gr.fine, by omega, rfl⟩⟩
    · rw [l10_2]
      simp only [L10, List.map_cons, List.map_nil, List.cons.injEq, and_true] at hd
      obtain ⟨d0, d3, d5, d6⟩ := hd
      have n1 := g1.next
      have l1 := g1.le
      have lk := k.next
      have hal := names_len ha
      simp only [d0, d3, d5, d6, (hn.rd etN.len).len etN, bin_lss, pureW_some, forkW_dec]
      refine ⟨fun hlt => ?_, fun hge => ?_⟩
      · have hlt : i < a.length := by omega
        have hp := List.getElem?_eq_getElem hlt
        generalize hpp : a[i] = p at hp
        obtain ⟨r, o, a1, _, a2⟩ := (hn.rd etN.len).at etN hp
        simp only [a1, a2, pureW_some]
        refine allocP_made zero46 f (by omega) rfl fun A2 m2 => ?_
        have n2 := m2.next
        have k2 := m2.keeps f
        refine putNm (p := p) m2.row1 rfl m2.fine (by omega) fun A3 r3 k3 n3 f3 => ?_
        have K3 : Keeps A' A3 [] := k2.trans k3 (by simp)
        have KA : Keeps A A3 [] := (g1.keeps.trans k (by simp)).trans K3 (by simp)
        have hv3 := hv.keeps KA (fun x _ => by simp)
        simp only [load46 r3, pureW_some]
        refine wc30 (w := 1) hv3 (by omega) f3 (by omega) fun A4 g4 => ?_
        have q4 := g4.next
        have r4 := r3.keeps g4.keeps (by simp)
        simp only [load46 r4, pureW_some, eqW_self]
        refine wc30 (w := 2) (hv3.keeps g4.keeps (fun x _ => by simp)) (by omega) g4.fine (by omega) fun A5 g5 => ?_
        have G5 := g4.trans g5
        have q5 := G5.next
        have r5 := r3.keeps G5.keeps (by simp)
        simp only [load46 r5, pureW_some, eqW_self]
        refine wc30 (w := 3) (hv3.keeps G5.keeps (fun x _ => by simp)) (by omega) G5.fine (by omega) fun A6 g6 => ?_
        have G6 := G5.trans g6
        have q6 := G6.next
        have r6 := r3.keeps G6.keeps (by simp)
        simp only [load46 r6, pureW_some, eqW_self]
        refine wc30 (w := 4) (hv3.keeps G6.keeps (fun x _ => by simp)) (by omega) G6.fine (by omega) fun A7 g7 => ?_
        have G7 := G6.trans g7
        have q7 := G7.next
        have r7 := r3.keeps G7.keeps (by simp)
        simp only [load46 r7, pureW_some, eqW_self]
        refine wc30 (w := 5) (hv3.keeps G7.keeps (fun x _ => by simp)) (by omega) G7.fine (by omega) fun A8 g8 => ?_
        have G8 := G7.trans g8
        have q8 := G8.next
        have p8 := G8.le
        have r8 := r3.keeps G8.keeps (by simp)
        simp only [load46 r8, pureW_some, eqW_self, ba48S]
        refine newSc1 G8.fine (by omega) fun A9 m9 => ?_
        have n9 := m9.next
        have k9 := m9.keeps G8.fine
        have r9 := r8.keeps k9 (by simp)
        refine freshW_25 m9.row ?_
        simp only [load46 r9, pureW_some, eqW_self]
        have K9 : Keeps A' A9 [] := (K3.trans G8.keeps (by simp)).trans k9 (by simp)
        refine OwnE.append etS (ho.keeps K9 (by simp)) m9.row1 m9.fine (by omega) (by unfold tally; rw [List.length_map, List.length_take]; omega) fun out' Aa Fo' hoa ka hFa na fa => ?_
        simp only [bin_add, pureW_some]
        rw [wrap_i64 (n := (i : Int) + 1) (by omega) (by omega)]
        refine cutW_self.2 ⟨a.length - (i + 1), by omega, .inr ⟨rfl, i + 1, nm, out', a, F, Fo', A1, rfl, by omega, (hn.keeps K9 (by simp)).keeps ka (fun x hx h => by have := hF x hx; have := hFo x h; omega), ha, hF, g1, ?_, fun x hx => ?_, ?_, fa, by omega, rfl⟩⟩
        · have e : tally l (a.take (i + 1)) = tally l (a.take i) ++ [scOf l p] := by
            unfold tally
            rw [List.take_add_one, hp, List.map_append]; rfl
          rw [e]; exact hoa
        · rcases hFa x hx with h | h
          · exact hFo x h
          · omega
        · exact (k.trans K9 (by simp)).trans ka (fun x hx => .inr (hFo x hx))
      · have hia : i = a.length := by omega
        subst hia
        rw [List.take_length] at ho
        exact hk A' out a Fo ha ho (fun x hx => by have := hFo x hx; omega) ⟨g1.keeps.trans k (by simp), f, by omega⟩
  · rw [e10]
    exact cutW_self.2 ⟨1000 + l.length, .inl ⟨rfl, 0, .slice none 0 0, [], [], rfl, by omega, .nil _, names_nil, by simp, (Grow.refl hf).more (by omega), rfl⟩⟩
set_option maxHeartbeats 1000000 in
theorem wc13 {v : Value} {l : List Dd} {Fd : List Nat} (dec : Bool) {A : AW} {K : Value → AW → Prop} (hv : RdE 4 Dd.cells A v l Fd) (hl : l.length ≤ 60) (ht : Txt l) (hf : Fine A) (hA : A.next + 200000 < maxId)
    (hk : ∀ A' sv a F, NamesOf l a → OwnE 46 2 Nm.cells A' sv (bothN l a dec) F → (∀ x ∈ F, A.next ≤ x) → Grow A A' 90000 → K sv A') : Wc Tryz.prog theX W0 m0 13 [v, .bool dec] A K := by
  let I : Nat → Nat → List Value → AW → Prop := fun g id vals A' => id = 0 ∧ ∃ (i : Nat) (out ts : Value) (a : List Nm) (F Fo : List Nat) (A1 : AW), vals = [.bool dec, out, ts, .int .i64 (i : Int)] ∧ i ≤ a.length ∧ NamesOf l a ∧ Grow A A1 80000 ∧ OwnE 48 7 Sc.cells A' ts (tally l a) F ∧
      OwnE 46 2 Nm.cells A' out (bothN l (a.take i) dec) Fo ∧ (∀ x ∈ F, x < A1.next) ∧ (∀ x ∈ Fo, A1.next ≤ x) ∧ Keeps A1 A' [] ∧ Fine A' ∧ A'.next ≤ A1.next + 6 * i ∧ g = a.length - i
  refine w13 _ _ _ (c13 (I := I) ?_) ?_
  · rintro g id vals A' d ⟨rfl, i, out, ts, a, F, Fo, A1, rfl, hi, ha, g1, hts, ho, hF, hFo, k, f, nx, rfl⟩ hd
    rw [l13_0]
    simp only [L13, List.map_cons, List.map_nil, List.cons.injEq, and_true] at hd
    obtain ⟨d1, d5, d6, d7⟩ := hd
    have hn1 := g1.next
    have hle1 := g1.le
    have hle := k.next
    have hal := names_len ha
    have htl : (tally l a).length = a.length := by unfold tally; rw [List.length_map]
    have hlen := (hts.rd etS.len).len (B := A') etS
    rw [htl] at hlen
    simp only [d1, d5, d6, d7, hlen, bin_lss, pureW_some, forkW_dec]
    refine ⟨fun hlt => ?_, fun hge => ?_⟩
    · have hlt : i < a.length := by omega
      have hp := List.getElem?_eq_getElem hlt
      generalize hpp : a[i] = p at hp
      obtain ⟨r, o, a1, a2, _⟩ := (hts.rd etS.len).at etS (tally_get (l := l) hp)
      have hcb : ∀ w, cnt l p w < 10000 := fun w => Nat.lt_of_le_of_lt (cnt_le _ _ _) (by omega)
      have hsn : bothN l (a.take (i + 1)) dec = bothN l (a.take i) dec ++ (if bothS (scOf l p) && (decidedS (scOf l p) == dec) then [p] else []) := by
        rw [List.take_add_one, hp]
        exact bothN_snoc l (a.take i) p dec
      have h1 := hcb 1
      have h2 := hcb 2
      have h4 := hcb 4
      have h5 := hcb 5
      have e1 : A'.cell? ⟨r, o + 3, none⟩ = some (.int .i64 (cnt l p 1 : Int)) := cell_of a2 (k := 3) rfl
      have e2 : A'.cell? ⟨r, o + 4, none⟩ = some (.int .i64 (cnt l p 2 : Int)) := cell_of a2 (k := 4) rfl
      have e4 : A'.cell? ⟨r, o + 6, none⟩ = some (.int .i64 (cnt l p 4 : Int)) := cell_of a2 (k := 6) rfl
      have e5 : A'.cell? ⟨r, o + 7, none⟩ = some (.int .i64 (cnt l p 5 : Int)) := cell_of a2 (k := 7) rfl
      have hx : loadP Tryz.prog A' 46 (.pointer (some ⟨r, o, none⟩)) = some (.agg ⟨p.cells⟩) := load_part (pre := []) (post := [.int .i64 (cnt l p 1 : Int), .int .i64 (cnt l p 2 : Int), .int .i64 (cnt l p 3 : Int), .int .i64 (cnt l p 4 : Int), .int .i64 (cnt l p 5 : Int)]) a2
      simp only [a1, fa_48_1, fa_48_2, fa_48_4, fa_48_5, fa_48_0, ld_3, e1, e2, e4, e5, hx, pureW_some, bin_add, bin_gtr, eqB4, forkW_dec]
      rw [wrap_i64 (n := (cnt l p 1 : Int) + (cnt l p 4 : Int)) (by omega) (by omega), wrap_i64 (n := (cnt l p 2 : Int) + (cnt l p 5 : Int)) (by omega) (by omega), wrap_i64 (n := (cnt l p 4 : Int) + (cnt l p 5 : Int)) (by omega) (by omega), wrap_i64 (n := (i : Int) + 1) (by omega) (by omega)]
      have hds : decidedS (scOf l p) = decide ((0 : Int) < (cnt l p 4 : Int) + (cnt l p 5 : Int)) := by
        unfold decidedS
        exact decide_eq_decide.2 (by show 0 < cnt l p 4 + cnt l p 5 ↔ _; omega)
      have hno : (bothS (scOf l p) && (decidedS (scOf l p) == dec)) = false → cutW (T13 0) (T13 0) (∃ g', g' < a.length - i ∧ I g' 0 [.bool dec, out, ts, .int .i64 ((i : Int) + 1)] A') := fun hb => by
        refine cutW_self.2 ⟨a.length - (i + 1), by omega, rfl, i + 1, out, ts, a, F, Fo, A1, rfl, by omega, ha, g1, hts, ?_, hF, hFo, k, f, by omega, rfl⟩
        rw [hsn, hb]
        simp only [Bool.false_eq_true, if_false, List.append_nil]
        exact ho
      rw [← hds]
      refine ⟨fun c1 => ⟨fun c2 => forkW_bool.2 ⟨fun c3 => ?_, fun c3 => hno (by rw [c3, Bool.and_false])⟩, fun c2 => hno ?_⟩, fun c1 => hno ?_⟩
      · have hbs : bothS (scOf l p) = true := by
          unfold bothS scOf
          simp only [Bool.and_eq_true, decide_eq_true_eq]
          omega
        refine newNm1 f (by omega) fun A5 m5 => ?_
        have n5 := m5.next
        have k5 := m5.keeps f
        have hbl := both_len l (a.take i) dec
        rw [List.length_take] at hbl
        refine OwnE.append etN (ho.keeps k5 (by simp)) m5.row1 m5.fine (by omega) (by omega) fun out' A6 Fo' ho6 k6 hF6 n6 f6 => ?_
        refine cutW_self.2 ⟨a.length - (i + 1), by omega, rfl, i + 1, out', ts, a, F, Fo', A1, rfl, by omega, ha, g1, (hts.keeps k5 (by simp)).keeps k6 (fun x hx h => by have := hF x hx; have := hFo x h; omega), ?_, hF, fun x hx => ?_, ?_, f6, by omega, rfl⟩
        · rw [hsn, hbs, c3]
          exact ho6
        · rcases hF6 x hx with h | h
          · exact hFo x h
          · omega
        · exact (k.trans k5 (by simp)).trans k6 (fun x hx => .inr (hFo x hx))
      · unfold bothS scOf
        rw [show decide (0 < cnt l p 2 + cnt l p 5) = false from decide_eq_false (by omega)]
        simp
      · unfold bothS scOf
        rw [show decide (0 < cnt l p 1 + cnt l p 4) = false from decide_eq_false (by omega)]
        simp
    · have hia : i = a.length := by omega
      subst hia
      rw [List.take_length] at ho
      exact hk A' out a Fo ha ho (fun x hx => by have := hFo x hx; omega) ⟨g1.keeps.trans k (by simp), f, by omega⟩
  · rw [e13]
    refine wc10 hv hl ht hf (by omega) fun A1 ts a F ha hts hF g1 => ?_
    exact cutW_self.2 ⟨a.length, rfl, 0, .slice none 0 0, ts, a, F, [], A1, rfl, by omega, ha, g1, hts, .nil _, fun x hx => hts.lt x hx, by simp, .refl _ _, g1.fine, by omega, rfl⟩
end
end Go.Proofs.YtdpdajpiadohjaaGreatDoor
