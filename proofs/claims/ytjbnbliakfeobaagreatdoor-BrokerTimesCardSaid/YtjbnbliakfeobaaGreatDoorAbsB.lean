/-
  The operations of the abstract machine, the first part: each gives what the operation of the model gives. Conditions: none beside those of each theorem.
-/
import Derived.Test.YtjbnbliakfeobaaGreatDoorAbsA
import Derived.Laws.Tables
import Derived.Lib.Strings
import Derived.IntWalk
set_option linter.all false
namespace Go.Abs

section
variable {P : Program}

theorem run_typeInfo_ok {t : TypeId} {i : TypeInfo} (h : P.info? t = some i) (w : World) : (typeInfo t).run P w = .ok i w := by
  simp [typeInfo, h]
theorem run_sizeOf_ok {t : TypeId} {n : Nat} (h : szT P t = some n) (w : World) : (sizeOf t).run P w = .ok n w := by
  unfold szT at h
  split at h
  · rename_i i hi
    simp only [Option.some.injEq] at h
    subst h
    simp [sizeOf, run_typeInfo_ok hi]
  · cases h
theorem szT_info {t : TypeId} {n : Nat} (h : szT P t = some n) : ∃ i, P.info? t = some i ∧ i.size = n := by
  unfold szT at h
  split at h
  · rename_i i hi
    simp only [Option.some.injEq] at h
    exact ⟨i, hi, h⟩
  · cases h
theorem bytesT_info {t : TypeId} {n : Nat} (h : bytesT P t = some n) : ∃ i, P.info? t = some i ∧ i.bytes = n := by
  unfold bytesT at h
  split at h
  · rename_i i hi
    simp only [Option.some.injEq] at h
    exact ⟨i, hi, h⟩
  · cases h
theorem run_isAgg_ok {t : TypeId} {b : Bool} (h : isAggT P t = some b) (w : World) : (isAgg t).run P w = .ok b w := by
  unfold isAggT at h
  unfold isAgg
  cases hu : P.underlying t with
  | none => rw [hu] at h; cases h
  | some d =>
    rw [hu] at h
    simp only [Sem.run_bind, run_underlying hu, Result.andThen_ok]
    cases d <;> simp_all
theorem zeroT_info {t : TypeId} {z : Value} (h : zeroT P t = some z) : (∃ i, P.info? t = some i ∧ i.zero = some z) ∧ closedV 4 z = true := by
  unfold zeroT at h
  split at h
  · rename_i i hi
    split at h
    · rename_i z0 hz
      cases hc : closedV 4 z0 with
      | false => rw [hc] at h; cases h
      | true => rw [hc] at h; simp only [cond_true, Option.some.injEq] at h; subst h; exact ⟨⟨i, hi, hz⟩, hc⟩
    · cases h
  · cases h
theorem run_zeroValue_ok {t : TypeId} {z : Value} (h : zeroT P t = some z) (w : World) : (zeroValue t).run P w = .ok z w := by
  obtain ⟨⟨i, hi, hz⟩, _⟩ := zeroT_info h
  simp [zeroValue, run_typeInfo_ok hi, hz]

theorem VRel.cells {m : Inj P} {v v' : Value} (h : VRel m v v') : VRels m v.cells.toList v'.cells.toList := by
  cases h with
  | agg h => exact h
  | bool b => exact .cons (.bool b) .nil
  | int k n => exact .cons (.int k n) .nil
  | float k n => exact .cons (.float k n) .nil
  | complex k a b => exact .cons (.complex k a b) .nil
  | string s => exact .cons (.string s) .nil
  | nilFunc => exact .cons .nilFunc .nil
  | nilIface => exact .cons .nilIface .nil
  | ptrNil => exact .cons .ptrNil .nil
  | ptr h => exact .cons (.ptr h) .nil
  | sliceNil => exact .cons .sliceNil .nil
  | slice a b c => exact .cons (.slice a b c) .nil
  | mapNil => exact .cons .mapNil .nil
  | map h => exact .cons (.map h) .nil
  | chanNil => exact .cons .chanNil .nil
  | func a b c => exact .cons (.func a b c) .nil
  | iface t h => exact .cons (.iface t h) .nil
  | tuple h => exact .cons (.tuple h) .nil

/-- what a run of the model must come to -/
def RVal {β : Type} (P : Program) (m : Inj P) (A : AW) (w : World) (V : Inj P → Value → β → Prop) (r : R Value) (s : Sem β) : Prop :=
  match r with
  | .ok v A' => ∃ v' w' m', s.run P w = .ok v' w' ∧ Ev m A w m' A' w' ∧ V m' v v'
  | .panic v A' => ∃ v' w' m', s.run P w = .halt (.panic v') w' ∧ Ev m A w m' A' w' ∧ VRel m' v v'
  | .fail _ => True

/-- a pure answer: the world stays -/
def RPure (P : Program) (m : Inj P) (w : World) (r : Option Value) (s : Sem Value) : Prop :=
  ∀ v, r = some v → ∃ v', s.run P w = .ok v' w ∧ VRel m v v'

theorem quiet_run {α : Type} : ∀ (s : Sem α) {a : α}, quiet P s = some a → ∀ w, s.run P w = .ok a w
  | .pure x, a, h, w => by simp only [quiet, Option.some.injEq] at h; subst h; rfl
  | .program k, a, h, w => by simp only [quiet] at h; exact quiet_run (k P) h w
  | .mark mk k, a, h, w => by simp only [quiet] at h; exact quiet_run k h w
  | .load .., a, h, w => by simp [quiet] at h
  | .store .., a, h, w => by simp [quiet] at h
  | .new .., a, h, w => by simp [quiet] at h
  | .shape .., a, h, w => by simp [quiet] at h
  | .freeze .., a, h, w => by simp [quiet] at h
  | .frozen .., a, h, w => by simp [quiet] at h
  | .getObj .., a, h, w => by simp [quiet] at h
  | .setObj .., a, h, w => by simp [quiet] at h
  | .choose .., a, h, w => by simp [quiet] at h
  | .sys .., a, h, w => by simp [quiet] at h
  | .halt .., a, h, w => by simp [quiet] at h

/-! addresses -/
theorem szT_sizeOf {t : TypeId} {n : Nat} (h : szT P t = some n) (w : World) : (sizeOf t).run P w = .ok n w := run_sizeOf_ok h w

theorem fieldT_spec {t : TypeId} {f : Nat} {fd : Field} (h : fieldT P t f = some fd) : ∃ fs, P.underlying t = some (.struct fs) ∧ fs[f]? = some fd := by
  unfold fieldT at h
  split at h
  · rename_i fs hu
    exact ⟨fs, hu, by simpa using h⟩
  · cases h

theorem fieldAddr_sound {m : Inj P} {s : TypeId} {x x' : Value} {f : Nat} (hx : VRel m x x') (w : World) : RPure P m w (fieldAddrA P s x f) (Instr.fieldAt s x' f) := by
  intro v h
  unfold fieldAddrA at h
  split at h
  · rename_i a
    cases hx with
    | ptr ha =>
      rename_i a'
      split at h
      · rename_i fd hf
        split at h
        · rename_i n hn
          simp only [Option.some.injEq] at h
          subst h
          obtain ⟨fs, hu, hfs⟩ := fieldT_spec hf
          refine ⟨.pointer (some (a'.add fd.offset)), ?_, .ptr (ha.add _)⟩
          simp [Instr.fieldAt, run_underlying hu, hfs, Instr.sureAddr, fieldPlace, run_sizeOf_ok hn]
        · cases h
      · cases h
  · cases h

theorem indexAddr_sound {m : Inj P} {t : TypeId} {x x' ix ix' : Value} (hx : VRel m x x') (hi : VRel m ix ix') (w : World) : RPure P m w (indexAddrA P t x ix) (Instr.indexAt t x' ix') := by
  intro v h
  unfold indexAddrA at h
  split at h
  · rename_i k i
    cases hi
    split at h
    · rename_i len e a hu
      cases hx with
      | ptr ha =>
        rename_i a'
        cases hl : Nat.blt i len with
        | false => simp [hl] at h
        | true =>
          simp only [hl, cond_true] at h
          split at h
          · rename_i n hn
            simp only [Option.some.injEq] at h
            subst h
            have hl := blt_true.1 hl
            refine ⟨.pointer (some (a'.add (i * n))), ?_, .ptr (ha.add _)⟩
            have h1 : (0 : Int) ≤ Int.ofNat i ∧ (Int.ofNat i : Int) < (len : Int) := ⟨Int.natCast_nonneg _, by simpa using hl⟩
            simp [Instr.indexAt, asIntOf, run_underlying hu, Instr.sureAddr, run_sizeOf_ok hn, hl]
          · cases h
    · rename_i e a len c hu
      cases hx with
      | slice hc hn ha =>
        rename_i a' c'
        cases hl : Nat.blt i len with
        | false => simp [hl] at h
        | true =>
          simp only [hl, cond_true] at h
          split at h
          · rename_i n hn'
            simp only [Option.some.injEq] at h
            subst h
            have hl := blt_true.1 hl
            refine ⟨.pointer (some (a'.add (i * n))), ?_, .ptr ((ha (by omega)).add _)⟩
            simp [Instr.indexAt, asIntOf, run_underlying hu, run_sizeOf_ok hn', hl]
          · cases h
    · cases h
  · cases h

theorem part_sound {m : Inj P} {t : TypeId} {l l' : List Value} {off : Nat} (hl : VRels m l l') (w : World) : RPure P m w (partA P t l off) (part t ⟨l'⟩ off) := by
  intro v h
  unfold partA at h
  split at h
  · rename_i hagg
    split at h
    · rename_i n hn
      split at h
      · rename_i cs hcs
        simp only [Option.some.injEq] at h
        subst h
        obtain ⟨rfl, _⟩ := takeAny_take hcs
        refine ⟨.agg ⟨(l'.drop off).take n⟩, ?_, .agg ((hl.drop off).take n)⟩
        simp only [part, Sem.run_bind, run_isAgg_ok hagg, Result.andThen_ok, if_true, run_sizeOf_ok hn, Sem.run_pure]
        congr 2
        apply Array.ext'
        simp
      · cases h
    · cases h
  · rename_i hagg
    obtain ⟨v', h1, h2⟩ := hl.get h
    refine ⟨v', ?_, h2⟩
    simp [part, run_isAgg_ok hagg, h1]
  · cases h

end
end Go.Abs

namespace Go.Abs

section
variable {P : Program}

theorem loadVar_sound {m : Inj P} {A : AW} {w : World} (r : Rel m A w) {t : TypeId} {a a' : Addr} {v : Value} (h : loadVarA P A t a = some v) (ha : ARel m a a') :
    ∃ v', (loadVar t a').run P w = .ok v' w ∧ VRel m v v' := by
  unfold loadVarA at h
  split at h
  · rename_i hagg
    split at h
    · rename_i n hn
      split at h
      · rename_i l hl
        simp only [Option.some.injEq] at h
        subst h
        obtain ⟨h1, l', h2, h3⟩ := r.cells hl (fun _ => ha)
        refine ⟨.agg ⟨l'⟩, ?_, .agg h2⟩
        have hlen : l'.length = n := by rw [h2.length, h1]
        have := run_loadCells_list (P := P) w a' l' h3
        rw [hlen] at this
        simp [loadVar, run_isAgg_ok hagg, run_sizeOf_ok hn, this]
      · cases h
    · cases h
  · rename_i hagg
    obtain ⟨v', h1, h2⟩ := r.cell h ha
    refine ⟨v', ?_, h2⟩
    simp [loadVar, run_isAgg_ok hagg, h1]
  · cases h

theorem storeVar_sound {m : Inj P} {A A' : AW} {w : World} (r : Rel m A w) {t : TypeId} {a a' : Addr} {v v' : Value} (h : storeVarA P A t a v = some A') (ha : ARel m a a') (hv : VRel m v v') :
    ∃ w', (storeVar t a' v').run P w = .ok () w' ∧ Ev m A w m A' w' ∧ A'.next = A.next := by
  unfold storeVarA at h
  split at h
  · rename_i n hn
    simp only at h
    cases hb : Nat.beq v.cells.toList.length n with
    | false => rw [hb] at h; cases h
    | true =>
      rw [hb, cond_true] at h
      have hb := beq_true.1 hb
      have hc := hv.cells
      obtain ⟨w', h1, h2, h3⟩ := Ev.setCells (i := 0) r hc (fun _ => by simpa [Addr.add] using ha) h
      refine ⟨w', ?_, h2, h3⟩
      have hs : v'.cells.size = n := by rw [← Array.length_toList, hc.length, hb]
      simp [storeVar, run_sizeOf_ok hn, hs, h1]
  · cases h

theorem load_sound {m : Inj P} {A : AW} {w : World} (r : Rel m A w) {t : TypeId} {x x' : Value} {v : Value} (hx : VRel m x x')
    (h : (match x with | .pointer (some a) => loadVarA P A t a | _ => none) = some v) : ∃ v', (Instr.loadAt t x').run P w = .ok v' w ∧ VRel m v v' := by
  cases hx with
  | ptr ha =>
    obtain ⟨v', h1, h2⟩ := loadVar_sound r h ha
    exact ⟨v', by simp [Instr.loadAt, Instr.sureAddr, h1], h2⟩
  | _ => cases h

theorem field_sound {m : Inj P} {s : TypeId} {x x' : Value} {f : Nat} (hx : VRel m x x') (w : World) : RPure P m w (fieldA P s x f) (Instr.field s x' f) := by
  intro v h
  unfold fieldA at h
  split at h
  · rename_i cs fd hf
    cases hx with
    | agg hl =>
      obtain ⟨fs, hu, hfs⟩ := fieldT_spec hf
      obtain ⟨v', h1, h2⟩ := part_sound hl w v h
      refine ⟨v', ?_, h2⟩
      simp [Instr.field, run_underlying hu, hfs, asAgg, h1]
  · cases h

theorem index_sound {m : Inj P} {t : TypeId} {x x' ix ix' : Value} (hx : VRel m x x') (hi : VRel m ix ix') (w : World) : RPure P m w (indexA P t x ix) (Instr.index t x' ix') := by
  intro v h
  unfold indexA at h
  split at h
  · rename_i k i
    cases hi
    split at h
    · rename_i len e cs hu
      cases hx with
      | agg hl =>
        cases hb : Nat.blt i len with
        | false => simp [hb] at h
        | true =>
          simp only [hb, cond_true] at h
          split at h
          · rename_i n hn
            have hb := blt_true.1 hb
            obtain ⟨v', h1, h2⟩ := part_sound hl w v h
            refine ⟨v', ?_, h2⟩
            simp [Instr.index, asIntOf, run_underlying hu, run_sizeOf_ok hn, hb, h1]
          · cases h
    · rename_i s hu
      cases hx
      split at h
      · rename_i b hb
        simp only [Option.some.injEq] at h
        subst h
        refine ⟨_, ?_, .int _ _⟩
        have : s[i]? = some b := by
          obtain ⟨hlt, rfl⟩ := List.getElem?_eq_some_iff.1 hb
          have hlt' : i < s.size := by rw [Lib.size_eq]; exact hlt
          rw [getElem?_pos s i hlt']
          rfl
        simp [Instr.index, asIntOf, run_underlying hu, this]
      · cases h
    · cases h
  · cases h

theorem extract_sound {m : Inj P} {t t' : Value} {i : Nat} (ht : VRel m t t') (w : World) :
    RPure P m w (match t with | .tuple vs => vs.toList[i]? | _ => none) (Instr.extract t' i) := by
  intro v h
  cases ht with
  | tuple hl =>
    obtain ⟨v', h1, h2⟩ := hl.get h
    exact ⟨v', by simp [Instr.extract, h1], h2⟩
  | _ => cases h

/-! build -/
def lay : List Value → Nat → List Value → List Value
  | l, _, [] => l
  | l, n, v :: vs => lay (l.set n v) (n + 1) vs

theorem lay_cons_zero : ∀ (vs : List Value) (x : Value) (r : List Value) (n : Nat), lay (x :: r) (n + 1) vs = x :: lay r n vs
  | [], _, _, _ => rfl
  | v :: vs, x, r, n => by simp only [lay, List.set_cons_succ]; exact lay_cons_zero vs x _ (n + 1)

theorem overlay_lay : ∀ {l : List Value} {n : Nat} {vs r : List Value}, overlay l n vs = some r → r = lay l n vs ∧ n + vs.length ≤ l.length ∨ (vs = [] ∧ r = l)
  | l, n, [], r, h => by simp [overlay] at h; exact .inr ⟨rfl, h.symm⟩
  | [], n, v :: vs, r, h => by simp [overlay] at h
  | x :: l, 0, v :: vs, r, h => by
    simp only [overlay] at h
    cases ho : overlay l 0 vs with
    | none => simp [ho] at h
    | some r' =>
      simp only [ho, Option.some.injEq] at h
      subst h
      left
      simp only [lay, List.set_cons_zero, lay_cons_zero]
      rcases overlay_lay ho with ⟨h1, h2⟩ | ⟨rfl, rfl⟩
      · exact ⟨by rw [h1], by simp; omega⟩
      · exact ⟨rfl, by simp⟩
  | x :: l, n + 1, v :: vs, r, h => by
    simp only [overlay] at h
    cases ho : overlay l n (v :: vs) with
    | none => simp [ho] at h
    | some r' =>
      simp only [ho, Option.some.injEq] at h
      subst h
      left
      rcases overlay_lay ho with ⟨h1, h2⟩ | ⟨h1, _⟩
      · refine ⟨?_, by simp at h2 ⊢; omega⟩
        rw [h1]
        exact (lay_cons_zero (v :: vs) x l n).symm
      · cases h1

theorem overlay_spec {l : List Value} {n : Nat} {vs r : List Value} (h : overlay l n vs = some r) : r = lay l n vs ∧ (vs ≠ [] → n + vs.length ≤ l.length) := by
  rcases overlay_lay h with ⟨h1, h2⟩ | ⟨rfl, rfl⟩
  · exact ⟨h1, fun _ => h2⟩
  · exact ⟨rfl, fun h => absurd rfl h⟩

theorem VRels.set {m : Inj P} : ∀ {l l' : List Value} (n : Nat) {v v' : Value}, VRels m l l' → VRel m v v' → VRels m (l.set n v) (l'.set n v')
  | _, _, _, _, _, .nil, _ => .nil
  | _, _, 0, _, _, .cons _ t, h => .cons h t
  | _, _, n + 1, _, _, .cons r t, h => .cons r (VRels.set n t h)

theorem VRels.lay {m : Inj P} : ∀ {vs vs' l l' : List Value} (n : Nat), VRels m l l' → VRels m vs vs' → VRels m (lay l n vs) (lay l' n vs')
  | _, _, _, _, _, h, .nil => h
  | _, _, _, _, n, h, .cons r t => VRels.lay (n + 1) (h.set n r) t

theorem fold_lay : ∀ (vs : List Value) (k off : Nat) (cells : Array Value),
    (vs.zipIdx k).foldl (fun cs x => cs.setIfInBounds (off + x.2) x.1) cells = ⟨lay cells.toList (off + k) vs⟩
  | [], k, off, cells => rfl
  | v :: vs, k, off, cells => by
    simp only [List.zipIdx_cons, List.foldl_cons, lay]
    rw [fold_lay vs (k + 1) off]
    simp [Nat.add_assoc]

def PartsRel (m : Inj P) (p p' : List (Nat × Value)) : Prop := All2 (fun x y => y.1 = x.1 ∧ VRel m x.2 y.2) p p'

theorem fill_sound {m : Inj P} {place place' : Nat → Option (Nat × Nat)} (hp : ∀ i x, place i = some x → place' i = some x) :
    ∀ {parts parts' : List (Nat × Value)} {cells cells' out : List Value}, PartsRel m parts parts' → VRels m cells cells' → fillA place cells parts = some out →
    ∃ out', Instr.fill place' ⟨cells'⟩ parts' = some ⟨out'⟩ ∧ VRels m out out'
  | _, _, cells, cells', out, .nil, hc, h => by
    simp only [fillA, Option.some.injEq] at h
    subst h
    exact ⟨cells', rfl, hc⟩
  | _, _, cells, cells', out, .cons (a := (i, v)) (b := (i', v')) ⟨he, hv⟩ ht, hc, h => by
    simp only at he hv
    subst he
    simp only [fillA] at h
    split at h
    · rename_i off size hpl
      cases hb : (Nat.beq v.cells.toList.length size && Nat.ble (off + size) cells.length) with
      | false => rw [hb] at h; cases h
      | true =>
        rw [hb, cond_true] at h
        simp only [Bool.and_eq_true] at hb
        have hb1 := beq_true.1 hb.1
        have hb2 := ble_true.1 hb.2
        split at h
        · rename_i cells2 ho
          obtain ⟨h1, _⟩ := overlay_spec ho
          have hvc := hv.cells
          obtain ⟨out', h3, h4⟩ := fill_sound hp ht (h1 ▸ VRels.lay off hc hvc) h
          refine ⟨out', ?_, h4⟩
          simp only [Instr.fill, hp _ _ hpl]
          have hsz : v'.cells.size = size := by rw [← Array.length_toList, hvc.length, hb1]
          have hl := hc.length
          have hfold : (v'.cells.zipIdx.foldl (fun cs x => cs.setIfInBounds (off + x.2) x.1) (⟨cells'⟩ : Array Value)) = ⟨lay cells' off v'.cells.toList⟩ := by
            rw [← Array.foldl_toList, Array.toList_zipIdx, fold_lay]
            simp
          have hcond : ¬ (v'.cells.size ≠ size ∨ off + v'.cells.size > (⟨cells'⟩ : Array Value).size) := by
            rintro (h | h)
            · exact h hsz
            · simp at h; omega
          rw [if_neg (by simpa using hcond)]
          rw [show (v'.cells.zipIdx.foldl (fun cs x => match x with | (c, j) => cs.setIfInBounds (off + j) c) (⟨cells'⟩ : Array Value)) = ⟨lay cells' off v'.cells.toList⟩ from hfold]
          exact h3
        · cases h
    · cases h

end
end Go.Abs

namespace Go.Abs

section
variable {P : Program}

theorem placesT_spec : ∀ {fs : List Field} {ps : List (Nat × Nat)}, placesT P fs = some ps → fs.mapM (fun f => (P.info? f.type).map fun i => (f.offset, i.size)) = some ps
  | [], ps, h => by simp [placesT] at h; subst h; rfl
  | f :: fs, ps, h => by
    simp only [placesT] at h
    split at h
    · rename_i n l hn hl
      simp only [Option.some.injEq] at h
      subst h
      obtain ⟨i, hi, rfl⟩ := szT_info hn
      simp [hi, placesT_spec hl]
    · cases h

theorem pickAt_rel {m : Inj P} {ρ ρ' : Operand → Value} : ∀ (parts : List (Nat × Operand)), (∀ x ∈ parts, VRel m (ρ x.2) (ρ' x.2)) → PartsRel m (pickAt parts ρ) (parts.map fun x => (x.1, ρ' x.2))
  | [], _ => .nil
  | (i, x) :: r, h => .cons ⟨rfl, h (i, x) (by simp)⟩ (pickAt_rel r fun y hy => h y (by simp [hy]))

theorem build_sound {m : Inj P} {t : TypeId} {parts : List (Nat × Value)} {parts' : Array (Nat × Value)} (hp : PartsRel m parts parts'.toList) (w : World) :
    RPure P m w (buildA P t parts) (Instr.build t parts') := by
  intro v h
  unfold buildA at h
  split at h
  · cases h
  · rename_i z hz
    obtain ⟨⟨i, hi, hiz⟩, hcl⟩ := zeroT_info hz
    have hzr : VRels m z.cells.toList z.cells.toList := (closedV_rel (m := m) 4 z hcl).cells
    split at h
    · rename_i fs hu
      split at h
      · rename_i ps hps
        split at h
        · rename_i l hl
          simp only [Option.some.injEq] at h
          subst h
          obtain ⟨out', h1, h2⟩ := fill_sound (place' := (ps.toArray[·]?)) (fun i x hx => by simpa using hx) hp hzr hl
          refine ⟨.agg ⟨out'⟩, run_build w t parts' ⟨out'⟩ ?_, .agg h2⟩
          simp only [Program.built, hi, hu, hiz, placesT_spec hps]
          exact h1
        · cases h
      · cases h
    · rename_i n e hu
      split at h
      · rename_i k hk
        split at h
        · rename_i l hl
          simp only [Option.some.injEq] at h
          subst h
          obtain ⟨ie, hie, rfl⟩ := szT_info hk
          obtain ⟨out', h1, h2⟩ := fill_sound (place' := fun i => some (i * ie.size, ie.size)) (fun i x hx => hx) hp hzr hl
          refine ⟨.agg ⟨out'⟩, run_build w t parts' ⟨out'⟩ ?_, .agg h2⟩
          simp only [Program.built, hi, hu, hiz, hie]
          exact h1
        · cases h
      · cases h
    · cases h

theorem rowRel_of_rels {m : Inj P} {l l' : List Value} (h : VRels m l l') (e : TypeId) (f b : Nat) (ro : Bool) : ORel m 0 (.row l e f b ro) (.cells ⟨l'⟩ e) := by
  refine ⟨⟨l'⟩, (0, 0), rfl, fun i v hv => ?_⟩
  obtain ⟨v', h1, h2⟩ := h.get hv
  exact ⟨v', by simpa using h1, fun _ => h2, fun _ => by omega⟩

/-- a new row of its own -/
theorem newRow_sound {m : Inj P} {A A' : AW} {w : World} (r : Rel m A w) {l l' : List Value} {e : TypeId} {a : Addr} (h : A.newRow l e = some (a, A')) (hl : VRels m l l') :
    ∃ m', Ev m A w m' A' { w with heap := w.heap.push (.cells ⟨l'⟩ e) } ∧ ARel m' a ⟨w.heap.size, 0, none⟩ ∧ A'.next = A.next + 1 := by
  unfold AW.newRow at h
  cases hc : l.all oneCell with
  | false => rw [hc] at h; cases h
  | true =>
    rw [hc, cond_true] at h
    split at h
    · rename_i b A1 hn
      simp only [Option.some.injEq, Prod.mk.injEq] at h
      obtain ⟨rfl, rfl⟩ := h
      obtain ⟨h1, h2, h3⟩ := Ev.new r hn (rowRel_of_rels hl e A.next 0 false) (fun f b hf => by simp [AO.fam] at hf; exact hf.1.symm) (R := 0) (el := 0) (st := 0) (fun h => absurd rfl h)
        (fun cs e f b ro h => ⟨fun h => absurd rfl h, _, _, _, rfl, Nat.zero_le _, fun _ k hk => by omega⟩)
      refine ⟨_, h3, ⟨rfl, rfl, 0, Inj.ext_self, rfl⟩, ?_⟩
      unfold AW.new at hn
      cases hb : Nat.blt A.next maxId with
      | false => rw [hb] at hn; cases hn
      | true => rw [hb] at hn; simp at hn; rw [← hn.2]
    · cases h

theorem run_newRow (w : World) (e : TypeId) (cs : Array Value) : (newRow e cs).run P w = .ok ⟨w.heap.size, 0, none⟩ { w with heap := w.heap.push (.cells cs e) } := by
  simp [newRow]

def VEq (m : Inj P) (v v' : Value) : Prop := VRel m v v'

theorem alloc_sound {m : Inj P} {A : AW} {w : World} (r : Rel m A w) {e : TypeId} {z : Value} (hz : zeroT P e = some z) {a : Addr} {A' : AW} (h : A.newRow z.cells.toList e = some (a, A')) :
    ∃ v' w' m', (Instr.alloc e true (.tuple #[])).run P w = .ok v' w' ∧ Ev m A w m' A' w' ∧ VRel m' (.pointer (some a)) v' := by
  obtain ⟨_, hcl⟩ := zeroT_info hz
  obtain ⟨m', h1, h2, _⟩ := newRow_sound r h (closedV_rel (m := m) 4 z hcl).cells
  exact ⟨_, _, m', by simp [Instr.alloc, run_zeroValue_ok hz, newVar, run_newRow], h1, .ptr h2⟩

theorem box_sound {m : Inj P} {A : AW} {w : World} (r : Rel m A w) {e : TypeId} {v v' : Value} (hv : VRel m v v') {a : Addr} {A' : AW} (h : A.newRow v.cells.toList e = some (a, A')) :
    ∃ x w' m', (Instr.box e v').run P w = .ok x w' ∧ Ev m A w m' A' w' ∧ VRel m' (.pointer (some a)) x := by
  obtain ⟨m', h1, h2, _⟩ := newRow_sound r h hv.cells
  exact ⟨_, _, m', by simp [Instr.box, newVar, run_newRow], h1, .ptr h2⟩

theorem zerosA_length (z : List Value) : ∀ n, (zerosA z n).length = n * z.length
  | 0 => by simp [zerosA]
  | n + 1 => by simp [zerosA, zerosA_length z n, Nat.succ_mul]; omega

theorem zerosA_get (z : List Value) : ∀ (n i : Nat), i < n * z.length → (zerosA z n)[i]? = z[i % z.length]?
  | 0, i, h => by simp at h
  | n + 1, i, h => by
    simp only [zerosA]
    rw [List.getElem?_append]
    split
    · rename_i hi
      rw [Nat.mod_eq_of_lt hi]
    · rename_i hi
      have hz : 0 < z.length := by
        rcases Nat.eq_zero_or_pos z.length with h0 | h0
        · rw [h0] at h; simp at h
        · exact h0
      rw [zerosA_get z n _ (by rw [Nat.succ_mul] at h; omega)]
      rw [Nat.mod_eq_sub_mod (by omega : z.length ≤ i)]

theorem range_map_zero (z : Array Value) (n : Nat) : ((Array.range (n * z.size)).map fun i => z[i % z.size]!) = ⟨zerosA z.toList n⟩ := by
  apply Array.ext'
  apply List.ext_getElem?
  intro i
  simp only [Array.toList_map, Array.toList_range, List.getElem?_map]
  by_cases hi : i < n * z.size
  · have hzs : 0 < z.size := by
      rcases Nat.eq_zero_or_pos z.size with h0 | h0
      · rw [h0] at hi; simp at hi
      · exact h0
    have hm := Nat.mod_lt i hzs
    rw [zerosA_get z.toList n i (by simpa using hi)]
    rw [List.getElem?_range hi]
    simp only [Option.map_some, Array.length_toList]
    rw [getElem!_pos z _ hm, List.getElem?_eq_getElem (by simpa using hm)]
    simp
  · rw [List.getElem?_eq_none (by simpa using hi), List.getElem?_eq_none (by rw [zerosA_length]; simpa using hi)]
    rfl

theorem sliceElemT_spec {t e : TypeId} (h : sliceElemT P t = some e) : P.underlying t = some (.slice e) := by
  unfold sliceElemT at h
  split at h
  · rename_i e' hu; simp only [Option.some.injEq] at h; subst h; exact hu
  · cases h

end
end Go.Abs

namespace Go.Abs

section
variable {P : Program}

theorem VRels.closed {m : Inj P} {v : Value} (h : closedV 4 v = true) : VRels m v.cells.toList v.cells.toList := (closedV_rel (m := m) 4 v h).cells

theorem VRels.zeros {m : Inj P} {z : List Value} (h : VRels m z z) : ∀ n, VRels m (zerosA z n) (zerosA z n)
  | 0 => .nil
  | n + 1 => h.append (VRels.zeros h n)

/-- zero cells, as the model lays them -/
theorem zerosT_spec {m : Inj P} {e : TypeId} {size n : Nat} {l : List Value} (h : zerosT P e size n = some l) :
    VRels m l l ∧ ∃ zero : Array Value, ((n * size = 0 ∧ zero = #[]) ∨ (n * size ≠ 0 ∧ ∃ z : Value, zero = z.cells ∧ ∀ w, (zeroValue e).run P w = .ok z w)) ∧
      (Array.range (n * size)).map (fun x => zero[x % zero.size]!) = ⟨l⟩ := by
  unfold zerosT at h
  by_cases h0 : n * size = 0
  · rw [beq_true.2 h0, cond_true] at h
    simp only [Option.some.injEq] at h
    subst h
    exact ⟨.nil, #[], .inl ⟨h0, rfl⟩, by simp [h0]⟩
  · rw [beq_false.2 h0, cond_false] at h
    split at h
    · rename_i z hz
      cases hb : Nat.beq z.cells.toList.length size with
      | false => rw [hb] at h; cases h
      | true =>
        rw [hb, cond_true] at h
        simp only [Option.some.injEq] at h
        subst h
        have hb := beq_true.1 hb
        refine ⟨VRels.zeros (VRels.closed (zeroT_info hz).2) n, z.cells, .inr ⟨h0, z, rfl, fun w => run_zeroValue_ok hz w⟩, ?_⟩
        rw [← hb, Array.length_toList, range_map_zero]
    · cases h

theorem wrap_nat {n : Nat} (h : n < 1099511627776) : IntKind.i64.wrap (n : Int) = n := IntWalk.i64_in _ ⟨by omega, by omega⟩

theorem makeSlice_sound {m : Inj P} {A : AW} {w : World} (r : Rel m A w) {t : TypeId} {x x' y y' : Value} (hx : VRel m x x') (hy : VRel m y y') :
    RVal P m A w VRel (makeSliceA P A t x y) (Instr.makeSlice t x' y') := by
  unfold makeSliceA
  split
  rotate_left
  · trivial
  rename_i e k l k2 c ht
  cases hx
  cases hy
  split
  rotate_left
  · trivial
  rename_i size bytes hs hby
  cases hc : (Nat.ble l c && Nat.blt c room && Nat.blt (c * bytes) room) with
  | false => simp only [cond_false]; trivial
  | true =>
    simp only [cond_true]
    simp only [Bool.and_eq_true] at hc
    have h1 := ble_true.1 hc.1.1
    have h2 := blt_true.1 hc.1.2
    have h3 := blt_true.1 hc.2
    unfold room at h2 h3
    split
    · trivial
    · rename_i cs hz
      split
      rotate_left
      · trivial
      rename_i a A' hn
      obtain ⟨hzr, zero, hrun, hmap⟩ := zerosT_spec (P := P) (m := m) hz
      obtain ⟨m', g1, g2, _⟩ := newRow_sound r hn hzr
      obtain ⟨i, hi, hib⟩ := bytesT_info hby
      refine ⟨.slice (some ⟨w.heap.size, 0, none⟩) l c, _, m', ?_, g1, .slice (.inl ⟨by unfold capU; omega, rfl⟩) h1 (fun _ => g2)⟩
      have hwl : IntKind.i64.wrap (Int.ofNat l) = l := wrap_nat (by omega)
      have hwc : IntKind.i64.wrap (Int.ofNat c) = c := wrap_nat (by omega)
      have hcb : ¬ ((bytes : Int) * (c : Int) > 2 ^ 48) := by
        have : (bytes : Int) * (c : Int) = ((c * bytes : Nat) : Int) := by rw [Nat.mul_comm]; simp
        rw [this]; omega
      have hcond : (((decide ((c : Int) < 0) || decide ((i.bytes : Int) * (c : Int) > 2 ^ 48)) || decide ((l : Int) < 0)) || decide ((l : Int) > (c : Int))) = false := by
        rw [hib]
        simp only [Bool.or_eq_false_iff, decide_eq_false_iff_not]
        exact ⟨⟨⟨by omega, hcb⟩, by omega⟩, by omega⟩
      simp only [Instr.makeSlice, Sem.run_bind, run_underlying (sliceElemT_spec ht), Result.andThen_ok, asInt, asIntOf, Sem.run_pure, run_typeInfo_ok hi, hwl, hwc, hcond]
      simp only [Bool.false_eq_true, if_false, Sem.run_bind, run_askRoom, Result.andThen_ok, run_sizeOf_ok hs, Int.toNat_natCast]
      rcases hrun with ⟨h0, rfl⟩ | ⟨h0, z, rfl, hzv⟩
      · simp only [if_pos h0, Sem.run_bind, Sem.run_pure, Result.andThen_ok, run_newRow, hmap]
      · simp only [if_neg h0, Sem.run_bind, hzv, Sem.run_pure, Result.andThen_ok, run_newRow, hmap]

theorem buildSlice_sound {m : Inj P} {A : AW} {w : World} (r : Rel m A w) {t : TypeId} {len : Nat} {parts : List (Nat × Value)} {parts' : Array (Nat × Value)} (hp : PartsRel m parts parts'.toList) :
    RVal P m A w VRel (buildSliceA P A t len parts) (Instr.buildSlice t len parts') := by
  unfold buildSliceA
  split
  rotate_left
  · trivial
  rename_i e ht
  split
  · trivial
  rename_i size hs
  cases hc : (Nat.ble (len * size) 16777216 && Nat.blt len room) with
  | false => simp only [cond_false]; trivial
  | true =>
    simp only [cond_true]
    simp only [Bool.and_eq_true] at hc
    have h1 := ble_true.1 hc.1
    have h2 := blt_true.1 hc.2
    unfold room at h2
    split
    · trivial
    rename_i zs hz
    split
    · trivial
    rename_i cs hcs
    split
    rotate_left
    · trivial
    rename_i a A' hn
    obtain ⟨hzr, zero, hrun, hmap⟩ := zerosT_spec (P := P) (m := m) hz
    obtain ⟨out', g3, g4⟩ := fill_sound (place' := fun i => some (i * size, size)) (fun i x hx => hx) hp hzr hcs
    obtain ⟨m', g1, g2, _⟩ := newRow_sound r hn g4
    refine ⟨.slice (some ⟨w.heap.size, 0, none⟩) len len, _, m', ?_, g1, .slice (.inl ⟨by unfold capU; omega, rfl⟩) (Nat.le_refl _) (fun _ => g2)⟩
    have hlim : ¬ (len * size > 2 ^ 24) := by omega
    simp only [Instr.buildSlice, Sem.run_bind, run_underlying (sliceElemT_spec ht), Result.andThen_ok, run_sizeOf_ok hs, if_neg hlim]
    rcases hrun with ⟨h0, rfl⟩ | ⟨h0, z, rfl, hzv⟩
    · simp only [if_pos h0, Sem.run_bind, Sem.run_pure, Result.andThen_ok, hmap, g3, run_newRow]
    · simp only [if_neg h0, Sem.run_bind, hzv, Sem.run_pure, Result.andThen_ok, hmap, g3, run_newRow]

/-! slices of slices -/
def OptRel (m : Inj P) : Option Value → Option Value → Prop
  | none, none => True
  | some x, some x' => VRel m x x'
  | _, _ => False

theorem boundA_sound {m : Inj P} {v v' : Option Value} {d y n : Nat} (hv : OptRel m v v')
    (h : boundA v d y = some n) : (v = none ∧ v' = none ∧ n = d) ∨ ∃ k, v' = some (.int k (n : Int)) ∧ v.isSome = true ∧ n ≤ y := by
  unfold boundA at h
  split at h
  · simp only [Option.some.injEq] at h
    subst h
    cases v' with
    | none => exact .inl ⟨rfl, rfl, rfl⟩
    | some x => simp [OptRel] at hv
  · rename_i k i
    cases hb : Nat.ble i y with
    | false => rw [hb] at h; cases h
    | true =>
      rw [hb] at h
      simp only [cond_true, Option.some.injEq] at h
      subst h
      cases v' with
      | none => simp [OptRel] at hv
      | some x =>
        simp only [OptRel] at hv
        cases hv
        exact .inr ⟨k, rfl, rfl, ble_true.1 hb⟩
  · cases h

theorem run_sliceBound {k : IntKind} {n y : Nat} (h : n ≤ y) (c : BoundsCode) (w : World) : (Instr.sliceBound (.int k (n : Int)) y c).run P w = .ok n w := by
  simp [Instr.sliceBound, asIntOf, h]

end
end Go.Abs

namespace Go.Abs

section
variable {P : Program}

def Bnd (v' : Option Value) (d y n : Nat) : Prop := (v' = none ∧ n = d) ∨ ((∃ k, v' = some (.int k (n : Int))) ∧ n ≤ y)

theorem Bnd.of {m : Inj P} {v v' : Option Value} {d y n : Nat} (hv : OptRel m v v') (h : boundA v d y = some n) : Bnd v' d y n ∧ v'.isSome = v.isSome := by
  rcases boundA_sound (m := m) hv h with ⟨rfl, rfl, rfl⟩ | ⟨k, rfl, h1, h2⟩
  · exact ⟨.inl ⟨rfl, rfl⟩, rfl⟩
  · exact ⟨.inr ⟨⟨k, rfl⟩, h2⟩, by rw [h1]; rfl⟩

theorem Bnd.mono {v' : Option Value} {d y y' n : Nat} (h : Bnd v' d y n) (hy : y ≤ y') : Bnd v' d y' n := by
  rcases h with h | ⟨h1, h2⟩
  · exact .inl h
  · exact .inr ⟨h1, by omega⟩

theorem run_sliceBounds {isS : Bool} {len cap l h mm : Nat} {lo hi mx : Option Value} (h1 : Bnd mx cap cap mm) (h2 : mx.isSome = true → hi.isSome = true) (h3 : Bnd hi len mm h) (h4 : Bnd lo 0 h l) (w : World) :
    (Instr.sliceBounds isS len cap lo hi mx).run P w = .ok (l, h, mm) w := by
  rcases h1 with ⟨rfl, rfl⟩ | ⟨⟨k1, rfl⟩, h1⟩ <;> rcases h3 with ⟨rfl, rfl⟩ | ⟨⟨k3, rfl⟩, h3⟩ <;> rcases h4 with ⟨rfl, rfl⟩ | ⟨⟨k4, rfl⟩, h4⟩ <;>
    first
      | (simp at h2; done)
      | simp only [Instr.sliceBounds, Sem.run_bind, Sem.run_pure, Result.andThen_ok, run_sliceBound h4, run_sliceBound h3, run_sliceBound h1]
      | simp only [Instr.sliceBounds, Sem.run_bind, Sem.run_pure, Result.andThen_ok, run_sliceBound h4, run_sliceBound h3]
      | simp only [Instr.sliceBounds, Sem.run_bind, Sem.run_pure, Result.andThen_ok, run_sliceBound h3, run_sliceBound h1]
      | simp only [Instr.sliceBounds, Sem.run_bind, Sem.run_pure, Result.andThen_ok, run_sliceBound h4]
      | simp only [Instr.sliceBounds, Sem.run_bind, Sem.run_pure, Result.andThen_ok, run_sliceBound h3]
      | simp only [Instr.sliceBounds, Sem.run_bind, Sem.run_pure, Result.andThen_ok]

theorem capU_pos : 0 < capU := by unfold capU; omega

theorem bounds_sound {m : Inj P} {len cap l h mm : Nat} {lo hi mx lo' hi' mx' : Option Value} (hlo : OptRel m lo lo') (hhi : OptRel m hi hi') (hmx : OptRel m mx mx')
    (hb : bounds len cap lo hi mx = some (l, h, mm)) :
    Bnd mx' cap cap mm ∧ (mx'.isSome = true → hi'.isSome = true) ∧ Bnd hi' len mm h ∧ Bnd lo' 0 h l ∧ l ≤ h ∧ (hi'.isSome = true → h ≤ mm) ∧ mm ≤ cap := by
  unfold bounds at hb
  cases ho : okMax mx hi with
  | false => rw [ho] at hb; cases hb
  | true =>
    rw [ho, cond_true] at hb
    split at hb
    · cases hb
    rename_i m3 hm3
    split at hb
    · cases hb
    rename_i h3 hh3
    split at hb
    · cases hb
    rename_i l3 hl3
    simp only [Option.some.injEq, Prod.mk.injEq] at hb
    obtain ⟨rfl, rfl, rfl⟩ := hb
    obtain ⟨b1, s1⟩ := Bnd.of hhi hh3
    obtain ⟨b2, s2⟩ := Bnd.of hlo hl3
    obtain ⟨b3, s3⟩ := Bnd.of hmx hm3
    refine ⟨b3, ?_, b1, b2, ?_, ?_, ?_⟩
    · rw [s1, s3]
      intro hq
      simpa [okMax, hq] using ho
    · rcases b2 with ⟨_, rfl⟩ | ⟨_, h⟩ <;> omega
    · intro hq
      rcases b1 with ⟨rfl, _⟩ | ⟨_, h⟩
      · cases hq
      · exact h
    · rcases b3 with ⟨_, rfl⟩ | ⟨_, h⟩ <;> omega

theorem addA_block (a : Addr) (n : Nat) : (addA a n).block = a.block := by unfold addA; cases Nat.beq n 0 <;> rfl
theorem addA_off (a : Addr) (n : Nat) : (addA a n).off = a.off + n := by
  unfold addA
  by_cases h : n = 0
  · subst h; rfl
  · rw [beq_false.2 h]; rfl

theorem moved_rel {m : Inj P} {a a' : Addr} (h : ARel m a a') (n : Nat) : ∃ x, moved (some a) n = some x ∧ ARel m x (a'.add n) := ⟨_, rfl, h.add n⟩

theorem slice_sound {m : Inj P} {A : AW} {w : World} (r : Rel m A w) {t : TypeId} {x x' : Value} {lo hi mx lo' hi' mx' : Option Value} (hx : VRel m x x') (hlo : OptRel m lo lo') (hhi : OptRel m hi hi') (hmx : OptRel m mx mx') :
    RPure P m w (sliceA P A t x lo hi mx) (Instr.sliceAt t x' lo' hi' mx') := by
  intro v h
  unfold sliceA at h
  split at h
  · -- a string
    rename_i s hu
    cases hx
    split at h
    · rename_i l hh mm hb
      simp only [Option.some.injEq] at h
      subst h
      cases mx' with
      | some y => simp [OptRel] at hmx
      | none =>
        obtain ⟨b1, b2, b3, b4, _⟩ := bounds_sound hlo hhi (mx := none) (mx' := none) trivial hb
        rw [← Lib.size_eq] at b1 b3
        have hrun := run_sliceBounds (P := P) (isS := false) b1 b2 b3 b4 w
        refine ⟨_, ?_, .string _⟩
        simp only [Instr.sliceAt, Sem.run_bind, run_underlying hu, Result.andThen_ok, Instr.slice, Option.isSome_none, Bool.false_eq_true, if_false, hrun, Sem.run_pure, Lib.extract_eq]
        rw [List.drop_take]
    · cases h
  · -- a slice
    rename_i e a len cap hu
    split at h
    · cases h
    rename_i size hs
    cases hcap : Nat.ble capU cap with
    | true =>
      rw [hcap] at h
      simp only [cond_true] at h
      have hcap := ble_true.1 hcap
      cases hx with
      | sliceNil => have := capU_pos; omega
      | slice hc hn ha =>
        rename_i a a' c'
        obtain ⟨_, hlb, hcl, hcr, xx, hxx⟩ := hc.resolve_left (fun h => by omega)
        cases mx with
        | none =>
          simp only at h
          split at h
          · rename_i l hh mm hb
            cases hmb : (Nat.ble hh mm && rowIs A (some a) e) with
            | false => rw [hmb] at h; cases h
            | true =>
              rw [hmb] at h
              simp only [cond_true, Option.some.injEq] at h
              subst h
              simp only [Bool.and_eq_true] at hmb
              obtain ⟨hmb, hrow⟩ := hmb
              have hmb := ble_true.1 hmb
              have hst : 0 < c' → m.st a.block = size := by
                intro hp
                unfold rowIs at hrow
                split at hrow
                · rename_i a0 ha0
                  cases ha0
                  split at hrow
                  · rename_i cs0 e0 f0 b0 ro0 hg
                    have hee := beq_true.1 hrow
                    subst hee
                    have h1 := (r.room _ _ _ _ _ _ xx.1 xx.2 hg hxx).1 (hcr hp)
                    have h2 := m.ok _ (hcr hp)
                    rw [h1, hs] at h2
                    simpa using h2.symm
                  · cases hrow
                · cases hrow
              cases mx' with
              | some y => simp [OptRel] at hmx
              | none =>
                obtain ⟨b1, b2, b3, b4, hl, _, hm2⟩ := bounds_sound hlo hhi (mx := none) (mx' := none) trivial hb
                have hmm : mm = cap - capU := by rcases b1 with ⟨_, h⟩ | ⟨⟨_, h⟩, _⟩; exact h; cases h
                have b3' : Bnd hi' len c' hh := b3.mono (by omega)
                have hrun := run_sliceBounds (P := P) (isS := true) (len := len) (cap := c') (mx := none) (mm := c') (.inl ⟨rfl, rfl⟩) (by simp) b3' b4 w
                refine ⟨.slice (some (if c' = l then a' else a'.add (l * size))) (hh - l) (c' - l), ?_, .slice (.inr ⟨by omega, by omega, ?_, ?_, ?_⟩) (by omega) (fun hp => ?_)⟩
                · simp only [Instr.sliceAt, Sem.run_bind, run_underlying hu, Result.andThen_ok, Instr.slice, hrun, run_sizeOf_ok hs, Sem.run_pure]
                  split <;> rfl
                · rw [addA_block, addA_off]
                  rcases Nat.eq_zero_or_pos c' with h0 | h0
                  · subst h0
                    have : l = 0 := by omega
                    subst this
                    simpa using hcl
                  · rw [hst h0] at hcl ⊢
                    have : l * size + (c' - l) * size = c' * size := by rw [← Nat.add_mul]; congr 1; omega
                    omega
                · intro hp
                  rw [addA_block]
                  exact hcr (by omega)
                · rw [addA_block]; exact ⟨_, hxx⟩
                · rw [if_neg (by omega)]
                  exact (ha (by omega)).add _
          · cases h
        | some mv =>
          simp only at h
          split at h
          · rename_i l hh mm hb
            cases hmb : Nat.blt mm capU with
            | false => rw [hmb] at h; cases h
            | true =>
              rw [hmb] at h
              simp only [cond_true, Option.some.injEq] at h
              subst h
              have hmb := blt_true.1 hmb
              obtain ⟨b1, b2, b3, b4, hl, hm1, hm2⟩ := bounds_sound hlo hhi hmx hb
              have hsm : mx'.isSome = true := by cases mx' with | none => simp [OptRel] at hmx | some y => rfl
              have hm1 := hm1 (b2 hsm)
              have b1' : Bnd mx' c' c' mm := by
                rcases b1 with ⟨rfl, _⟩ | ⟨h1, h2⟩
                · cases hsm
                · exact .inr ⟨h1, by omega⟩
              have hrun := run_sliceBounds (P := P) (isS := true) (len := len) (cap := c') b1' b2 b3 b4 w
              refine ⟨.slice (some (if mm = l then a' else a'.add (l * size))) (hh - l) (mm - l), ?_, .slice (.inl ⟨by omega, rfl⟩) (by omega) (fun hp => ?_)⟩
              · simp only [Instr.sliceAt, Sem.run_bind, run_underlying hu, Result.andThen_ok, Instr.slice, hrun, run_sizeOf_ok hs, Sem.run_pure]
                split <;> rfl
              · rw [if_neg (by omega)]
                exact (ha (by omega)).add _
          · cases h
    | false =>
      rw [hcap] at h
      simp only [cond_false] at h
      have hcap := ble_false.1 hcap
      split at h
      · rename_i l hh mm hb
        simp only [Option.some.injEq] at h
        subst h
        obtain ⟨b1, b2, b3, b4, hl, hm1, hm2⟩ := bounds_sound hlo hhi hmx hb
        have hrun := run_sliceBounds (P := P) (isS := true) (len := len) (cap := cap) b1 b2 b3 b4 w
        cases hx with
        | sliceNil =>
          have hl0 : l = 0 ∧ hh = 0 ∧ mm = 0 := by
            rcases b3 with ⟨_, rfl⟩ | ⟨_, h⟩ <;> omega
          obtain ⟨rfl, rfl, rfl⟩ := hl0
          refine ⟨.slice none 0 0, ?_, .sliceNil⟩
          simp only [Instr.sliceAt, Sem.run_bind, run_underlying hu, Result.andThen_ok, Instr.slice, hrun, run_sizeOf_ok hs, Sem.run_pure]
          rfl
        | slice hc hn ha =>
          rename_i a a' c'
          rcases hc with ⟨_, rfl⟩ | ⟨h1, _⟩
          rotate_left
          · omega
          have hhm : hh ≤ mm := by
            cases hs2 : hi'.isSome with
            | true => exact hm1 hs2
            | false =>
              have hmn : mx' = none := by
                cases mx' with
                | none => rfl
                | some y => have := b2 rfl; rw [hs2] at this; cases this
              subst hmn
              rcases b1 with ⟨_, rfl⟩ | ⟨⟨_, h⟩, _⟩
              · rcases b3 with ⟨_, rfl⟩ | ⟨_, h⟩ <;> omega
              · cases h
          refine ⟨.slice (if mm = l then some a' else some (a'.add (l * size))) (hh - l) (mm - l), ?_, ?_⟩
          · simp only [Instr.sliceAt, Sem.run_bind, run_underlying hu, Result.andThen_ok, Instr.slice, hrun, run_sizeOf_ok hs, Sem.run_pure]
            rfl
          · by_cases hml : mm = l
            · rw [beq_true.2 hml, cond_true, if_pos hml]
              exact .slice (.inl ⟨by omega, rfl⟩) (by omega) (fun hp => by omega)
            · rw [beq_false.2 hml, cond_false, if_neg hml]
              exact .slice (.inl ⟨by omega, rfl⟩) (by omega) (fun hp => (ha (by omega)).add _)
      · cases h
  · -- an array behind a pointer
    rename_i n e a hu
    cases hx with
    | ptr ha =>
      rename_i a'
      split at h
      · cases h
      rename_i size hs
      split at h
      · rename_i l hh mm hb
        cases hmb : Nat.blt mm capU with
        | false => rw [hmb] at h; cases h
        | true =>
          rw [hmb] at h
          simp only [cond_true, Option.some.injEq] at h
          subst h
          have hmb := blt_true.1 hmb
          obtain ⟨b1, b2, b3, b4, hl, hm1, hm2⟩ := bounds_sound hlo hhi hmx hb
          have hrun := run_sliceBounds (P := P) (isS := false) (len := n) (cap := n) b1 b2 b3 b4 w
          have hhm : hh ≤ mm := by
            cases hs2 : hi'.isSome with
            | true => exact hm1 hs2
            | false =>
              have hmn : mx' = none := by
                cases mx' with
                | none => rfl
                | some y => have := b2 rfl; rw [hs2] at this; cases this
              subst hmn
              rcases b1 with ⟨_, rfl⟩ | ⟨⟨_, h⟩, _⟩
              · rcases b3 with ⟨_, rfl⟩ | ⟨_, h⟩ <;> omega
              · cases h
          refine ⟨.slice (some (if mm = l then a' else a'.add (l * size))) (hh - l) (mm - l), ?_, ?_⟩
          · simp only [Instr.sliceAt, Sem.run_bind, run_underlying hu, Result.andThen_ok, Instr.sureAddr, hrun, run_sizeOf_ok hs, Sem.run_pure]
          · by_cases hml : mm = l
            · rw [beq_true.2 hml, cond_true, if_pos hml]
              exact .slice (.inl ⟨by omega, rfl⟩) (by omega) (fun hp => by omega)
            · rw [beq_false.2 hml, cond_false, if_neg hml]
              exact .slice (.inl ⟨by omega, rfl⟩) (by omega) (fun hp => ha.add _)
      · cases h
  · cases h

end
end Go.Abs

namespace Go.Abs

section
variable {P : Program}

theorem RPure.of_quiet {m : Inj P} {s : Sem Value} {v : Value} (h : quiet P s = some v) (hv : VRel m v v) (w : World) : ∃ v', s.run P w = .ok v' w ∧ VRel m v v' :=
  ⟨v, quiet_run s h w, hv⟩

theorem toList_eq (s : ByteArray) : s.toList = s.data.toList := Lib.toList_data s

theorem append_data (x y : ByteArray) : x ++ y = ⟨⟨x.data.toList ++ y.data.toList⟩⟩ := by
  apply ByteArray.ext
  rw [ByteArray.data_append]
  apply Array.ext'
  simp

theorem strOp_sound {m : Inj P} {op : BinOp} {x y : ByteArray} {v : Value} (h : strOpA op x y = some v) (w : World) : ∃ v', (Op.stringOp op x y).run P w = .ok v' w ∧ VRel m v v' := by
  unfold strOpA at h
  simp only at h
  cases op <;> simp only at h <;> try (cases h; done)
  case add =>
    cases hb : Nat.blt (x.data.toList ++ y.data.toList).length 1099511627776 with
    | false => rw [hb] at h; cases h
    | true =>
      rw [hb] at h
      simp only [cond_true, Option.some.injEq] at h
      subst h
      have hb := blt_true.1 hb
      refine ⟨_, ?_, .string _⟩
      have : ¬ (((x.size + y.size : Nat) : Int) > IntKind.i64.max) := by
        rw [Lib.size_eq, Lib.size_eq]
        simp only [List.length_append] at hb
        have : IntKind.i64.max = 9223372036854775807 := by decide
        rw [this]; omega
      simp only [Op.stringOp, if_neg this, Sem.run_pure, append_data]
  all_goals
    simp only [Option.some.injEq] at h
    subst h
    refine ⟨_, ?_, .bool _⟩
    simp only [Op.stringOp, toList_eq, Sem.run_pure]

theorem VRel.int_inv {m : Inj P} {k : IntKind} {n : Int} {v : Value} (h : VRel m (.int k n) v) : v = .int k n := by cases h; rfl

theorem run_sameAddr_block {a b : Addr} (h : a.block = b.block) (w : World) : (sameAddr a b).run P w = .ok (a == b) w := by
  simp [sameAddr, h]

/-- equality -/
theorem eq_sound {m : Inj P} {t : TypeId} {x y x' y' : Value} {b : Bool} (hx : VRel m x x') (hy : VRel m y y') (h : eqA P t x y = some b) (w : World) : (Op.equal t x' y').run P w = .ok b w := by
  unfold eqA at h
  cases hc : (closedV 4 x && closedV 4 y) with
  | true =>
    rw [hc, cond_true] at h
    simp only [Bool.and_eq_true] at hc
    rw [closedV_eq 4 _ _ hc.1 hx, closedV_eq 4 _ _ hc.2 hy]
    exact quiet_run _ h w
  | false =>
  rw [hc, cond_false] at h
  clear hc
  show (Op.equalIn 10000 t x' y').run P w = _
  obtain ⟨d0, hd0⟩ : ∃ d : Nat, 10000 = d + 1 := ⟨9999, rfl⟩
  rw [hd0]
  clear hd0
  split at h
  · rename_i e c hu
    cases hx
    cases hy with
    | ptrNil => simp only [Option.some.injEq] at h; subst h; simp [Op.equalIn, run_underlying hu]
    | ptr ha => simp only [Option.some.injEq] at h; subst h; simp [Op.equalIn, run_underlying hu]
  · rename_i e c hu
    cases hx with
    | ptr ha =>
      cases hy
      simp only [Option.some.injEq] at h; subst h; simp [Op.equalIn, run_underlying hu]
  · rename_i e c d hu
    cases hx with
    | ptr ha =>
      rename_i a'
      cases hy with
      | ptr hb =>
        rename_i b'
        split at h
        · rename_i n hn hs1 hs2
          cases hbl : Nat.beq c.block d.block with
          | false => rw [hbl] at h; cases h
          | true =>
            rw [hbl] at h
            simp only [cond_true, Option.some.injEq] at h
            subst h
            have hbl := beq_true.1 hbl
            obtain ⟨_, h1, d1, h2, h3⟩ := ha
            obtain ⟨_, k1, d2, k2, k3⟩ := hb
            rw [hbl, k2] at h2
            simp only [Option.some.injEq, Prod.mk.injEq] at h2
            obtain ⟨h4, h5⟩ := h2
            have hab : (a' == b') = Nat.beq c.off d.off := by
              obtain ⟨ab, ao, asp⟩ := a'
              obtain ⟨bb, bo, bsp⟩ := b'
              simp only at *
              subst h1; subst k1; subst h4; subst h5
              cases hq : Nat.beq c.off d.off with
              | true =>
                have := beq_true.1 hq
                simp [h3, k3, this]
              | false =>
                have := beq_false.1 hq
                simp [h3, k3, this]
            simp only [Op.equalIn, Sem.run_bind, run_underlying hu, Result.andThen_ok, run_sizeOf_ok hn]
            simp [run_sameAddr_block h4.symm, hab]
        · cases h
  · rename_i e a b0 c d hu
    cases hx
    cases hy <;> simp only [Option.some.injEq] at h <;> subst h <;> simp [Op.equalIn, run_underlying hu]
  · rename_i e a b0 c d c0 d0 hu
    cases hx
    cases hy <;> simp only [Option.some.injEq] at h <;> subst h <;> simp [Op.equalIn, run_underlying hu]
  · rename_i k e c hu
    cases hx
    cases hy <;> simp only [Option.some.injEq] at h <;> subst h <;> simp [Op.equalIn, run_underlying hu]
  · rename_i k e c hu
    cases hx
    cases hy <;> simp only [Option.some.injEq] at h <;> subst h <;> simp [Op.equalIn, run_underlying hu]
  · rename_i k e c hu
    cases hx
    cases hy <;> simp only [Option.some.injEq] at h <;> subst h <;> simp [Op.equalIn, run_underlying hu]
  · rename_i k e c hu
    cases hx
    cases hy <;> simp only [Option.some.injEq] at h <;> subst h <;> simp [Op.equalIn, run_underlying hu]
  · rename_i k e c hu
    cases hx
    cases hy <;> simp only [Option.some.injEq] at h <;> subst h <;> simp [Op.equalIn, run_underlying hu]
  · rename_i k e c hu
    cases hx
    cases hy <;> simp only [Option.some.injEq] at h <;> subst h <;> simp [Op.equalIn, run_underlying hu]
  · cases h

theorem closedO_spec {m : Inj P} {o : Option Value} {v : Value} (h : closedO o = some v) : o = some v ∧ VRel m v v := by
  unfold closedO at h
  split at h
  · rename_i x
    cases hc : closedV 4 x with
    | false => rw [hc] at h; cases h
    | true =>
      rw [hc] at h
      simp only [cond_true, Option.some.injEq] at h
      subst h
      exact ⟨rfl, closedV_rel 4 x hc⟩
  · cases h

theorem un_sound {m : Inj P} {op : UnOp} {x x' : Value} (hx : VRel m x x') (w : World) : RPure P m w (unA P op x) (Op.unary op x') := by
  intro v h
  unfold unA at h
  cases hc : closedV 1 x with
  | false => rw [hc] at h; cases h
  | true =>
    rw [hc, cond_true] at h
    rw [closedV_eq 1 _ _ hc hx]
    obtain ⟨h1, h2⟩ := closedO_spec (m := m) h
    exact ⟨v, quiet_run _ h1 w, h2⟩

/-- neither both numbers nor both texts -/
def mixed : Value → Value → Bool
  | .int _ _, .int _ _ => false
  | .string _, .string _ => false
  | .float _ _, .float _ _ => false
  | .complex _ _ _, .complex _ _ _ => false
  | _, _ => true

theorem binOp_eql (t : TypeId) (x y : Value) (h : mixed x y = true) : binOp .eql t x y = (do pure (.bool (← Op.equal t x y))) := by
  cases x <;> cases y <;> first | rfl | (simp [mixed] at h; done)
theorem binOp_neq (t : TypeId) (x y : Value) (h : mixed x y = true) : binOp .neq t x y = (do pure (.bool (!(← Op.equal t x y)))) := by
  cases x <;> cases y <;> first | rfl | (simp [mixed] at h; done)

theorem VRel.mixed {m : Inj P} {x y x' y' : Value} (hx : VRel m x x') (hy : VRel m y y') : mixed x' y' = mixed x y := by
  cases hx <;> cases hy <;> rfl

theorem eqGuard_sound {m : Inj P} {op : BinOp} {t : TypeId} {xo yo : Operand} {x y x' y' : Value} (hx : VRel m x x') (hy : VRel m y y') (h : eqGuardA P t xo yo x y = true) (w : World) :
    (eqGuard op t xo yo x' y').run P w = .ok () w := by
  unfold eqGuardA at h
  cases hx <;> cases hy <;> first | (cases op <;> rfl) | skip
  · -- nil interfaces
    simp only at h
    cases op <;> first | rfl | (simp only [eqGuard]; cases xo <;> cases yo <;> first | rfl | (simp [isConst] at h; done))
  · simp only [Bool.not_eq_true'] at h
    cases op <;> first | rfl | simp [eqGuard, h]

theorem eqGuard_other (op : BinOp) (t : TypeId) (xo yo : Operand) (x y : Value) (h1 : x ≠ .nilIface) (h2 : ∀ c, x ≠ .agg c) (w : World) : (eqGuard op t xo yo x y).run P w = .ok () w := by
  cases x <;> first | (exact absurd rfl h1) | (exact absurd rfl (h2 _)) | (cases op <;> rfl)

theorem bin_sound {m : Inj P} {op : BinOp} {t : TypeId} {xo yo : Operand} {x y x' y' : Value} (hx : VRel m x x') (hy : VRel m y y') (w : World) :
    RPure P m w (binA P op t xo yo x y) (do eqGuard op t xo yo x' y'; binOp op t x' y') := by
  intro v h
  unfold binA at h
  split at h
  · cases hx; cases hy
    obtain ⟨h1, h2⟩ := closedO_spec (m := m) h
    refine ⟨v, ?_, h2⟩
    rw [Sem.run_bind, eqGuard_other _ _ _ _ _ _ (by simp) (by simp), Result.andThen_ok]
    exact quiet_run _ h1 w
  · rename_i a b
    cases hx; cases hy
    obtain ⟨v', h1, h2⟩ := strOp_sound (P := P) (m := m) h w
    refine ⟨v', ?_, h2⟩
    have hbs : binOp op t (.string a) (.string b) = Op.stringOp op a b := by cases op <;> rfl
    rw [Sem.run_bind, eqGuard_other _ _ _ _ _ _ (by simp) (by simp), Result.andThen_ok, hbs]
    exact h1
  · cases h
  · cases h
  · rename_i n1 n2 n3 n4
    have hmix : mixed x y = true := by
      unfold mixed
      split
      · exact (n1 _ _ _ _ rfl rfl).elim
      · exact (n2 _ _ rfl rfl).elim
      · exact (n3 _ _ _ _ rfl rfl).elim
      · exact (n4 _ _ _ _ _ _ rfl rfl).elim
      · rfl
    have hmix' : mixed x' y' = true := by rw [hx.mixed hy]; exact hmix
    split at h
    · cases hg : eqGuardA P t xo yo x y with
      | false => rw [hg] at h; cases h
      | true =>
        rw [hg, cond_true] at h
        split at h
        · rename_i b hb
          simp only [Option.some.injEq] at h
          subst h
          refine ⟨_, ?_, .bool b⟩
          rw [Sem.run_bind, eqGuard_sound hx hy hg, Result.andThen_ok, binOp_eql _ _ _ hmix']
          simp [eq_sound hx hy hb w]
        · cases h
    · cases hg : eqGuardA P t xo yo x y with
      | false => rw [hg] at h; cases h
      | true =>
        rw [hg, cond_true] at h
        split at h
        · rename_i b hb
          simp only [Option.some.injEq] at h
          subst h
          refine ⟨_, ?_, .bool (!b)⟩
          rw [Sem.run_bind, eqGuard_sound hx hy hg, Result.andThen_ok, binOp_neq _ _ _ hmix']
          simp [eq_sound hx hy hb w]
        · cases h
    · cases h

end
end Go.Abs

namespace Go.Abs

section
variable {P : Program}

theorem mapTypes_spec {t k e : TypeId} (h : mapTypes P t = some (k, e)) : P.underlying t = some (.map k e) := by
  unfold mapTypes at h
  split at h
  · rename_i k' e' hu
    simp only [Option.some.injEq, Prod.mk.injEq] at h
    obtain ⟨rfl, rfl⟩ := h
    exact hu
  · cases h

/-- a map, read -/
theorem mapRef_sound {m : Inj P} {A : AW} {w : World} (r : Rel m A w) {x x' : Value} {es : List MapEntry} (hx : VRel m x x') (h : mapRef A x = some es) :
    (x = .map none ∧ x' = .map none ∧ es = []) ∨ ∃ i c es' clock ro, x = .map (some i) ∧ x' = .map (some c) ∧ m i = some (c, 0) ∧ A.get i = some (.map es clock ro) ∧ w.heap[c]? = some (.map ⟨es'⟩ clock) ∧ All2 (ERel m) es es' := by
  cases hx with
  | mapNil => simp only [mapRef, Option.some.injEq] at h; exact .inl ⟨rfl, rfl, h.symm⟩
  | map hm =>
    rename_i i c
    simp only [mapRef] at h
    split at h
    · rename_i es0 clock ro hg
      simp only [Option.some.injEq] at h
      subst h
      obtain ⟨c0, d0, o', h1, h2, hd, es', rfl, h4⟩ := r.objAt hg hm
      rw [hm] at h1
      simp only [Option.some.injEq, Prod.mk.injEq] at h1
      obtain ⟨rfl, rfl⟩ := h1
      exact .inr ⟨i, c, es', clock, ro, rfl, rfl, hm, hg, h2, h4⟩
    · cases h
  | _ => simp [mapRef] at h

theorem keyQ_sound {m : Inj P} {empty : Bool} {kt : TypeId} {k k' : Value} (hk : VRel m k k') (h : keyQ P empty kt k = true) (w : World) :
    closedV 4 k = true ∧ k' = k ∧ (Instr.checkKey empty 10000 kt k').run P w = .ok () w := by
  unfold keyQ at h
  simp only [Bool.and_eq_true] at h
  obtain ⟨h1, h2⟩ := h
  have e := closedV_eq 4 _ _ h1 hk
  refine ⟨h1, e, ?_⟩
  rw [e]
  split at h2
  · rename_i u hu
    exact quiet_run _ hu w
  · cases h2

theorem underlying_of_checkKey {empty : Bool} {kt : TypeId} {k : Value} {u : Unit} (h : quiet P (Instr.checkKey empty 10000 kt k) = some u) : ∃ d, P.underlying kt = some d := by
  cases hu : P.underlying kt with
  | some d => exact ⟨d, rfl⟩
  | none =>
    exfalso
    obtain ⟨d0, hd0⟩ : ∃ d : Nat, 10000 = d + 1 := ⟨9999, rfl⟩
    rw [hd0] at h
    clear hd0
    have : ∀ {β : Type} (f : TypeDesc → Sem β), quiet P ((underlying kt).bind f) = none := by
      intro β f
      simp only [underlying, program, Bind.bind, Sem.bind, quiet, hu, stuck]
    simp only [Instr.checkKey, Bind.bind] at h
    rw [this] at h
    cases h

theorem keyQ_under {empty : Bool} {kt : TypeId} {k : Value} (h : keyQ P empty kt k = true) : ∃ d, P.underlying kt = some d := by
  unfold keyQ at h
  simp only [Bool.and_eq_true] at h
  obtain ⟨_, h2⟩ := h
  split at h2
  · rename_i u hu
    exact underlying_of_checkKey hu
  · cases h2

theorem sameNow_eq {kt : TypeId} {d : TypeDesc} {x y : Value} {b c : Bool} {w : World} (hu : P.underlying kt = some d) (h : (Op.equal kt x y).run P w = .ok b w) (hs : Instr.sameNow d x y = some c) : c = b := by
  have h' : (Op.equalIn 10000 kt x y).run P w = .ok b w := h
  obtain ⟨d0, hd0⟩ : ∃ d : Nat, 10000 = d + 1 := ⟨9999, rfl⟩
  rw [hd0] at h'
  clear hd0 h
  unfold Instr.sameNow at hs
  split at hs
  · rename_i kk k1 a k2 b'
    split at hs
    · rename_i hkk
      subst hkk
      simp only [Option.some.injEq] at hs
      simp [Op.equalIn, run_underlying hu] at h'
      rw [← hs, ← h']
    · cases hs
  · simp only [Option.some.injEq] at hs
    simp [Op.equalIn, run_underlying hu] at h'
    rw [← hs, ← h']
  · simp only [Option.some.injEq] at hs
    simp [Op.equalIn, run_underlying hu] at h'
    rw [← hs, ← h']
  · cases hs

/-- what a search among the entries has to find -/
def Found (m : Inj P) (es es' : List MapEntry) (i : Nat) (r : Option Nat) (q : Option (Nat × Value)) : Prop :=
  match r with
  | none => q = none
  | some j => ∃ e e', i ≤ j ∧ es[j - i]? = some e ∧ es'[j - i]? = some e' ∧ q = some (j, e'.val) ∧ ERel m e e'

theorem Found.skip {m : Inj P} {es es' : List MapEntry} {x x' : MapEntry} {i : Nat} {r : Option Nat} {q : Option (Nat × Value)} (h : Found m es es' (i + 1) r q) : Found m (x :: es) (x' :: es') i r q := by
  cases r with
  | none => exact h
  | some j =>
    obtain ⟨e, e', h1, h2, h3, h4, h5⟩ := h
    refine ⟨e, e', by omega, ?_, ?_, h4, h5⟩
    · rw [show j - i = (j - (i + 1)) + 1 by omega]; simpa using h2
    · rw [show j - i = (j - (i + 1)) + 1 by omega]; simpa using h3

theorem findAsking_sound {m : Inj P} {kt : TypeId} {k k' : Value} (hk : VRel m k k') (w : World) : ∀ {es es' : List MapEntry} {i : Nat} {r : Option Nat}, All2 (ERel m) es es' → findA P kt k es i = some r →
    ∃ q, (Instr.findAsking kt k' es' i).run P w = .ok q w ∧ Found m es es' i r q
  | _, _, i, r, .nil, h => by
    simp only [findA, Option.some.injEq] at h
    subst h
    exact ⟨none, rfl, rfl⟩
  | _, _, i, r, .cons (a := e) (b := e') he ht, h => by
    simp only [findA] at h
    split at h
    · rename_i hb
      simp only [Option.some.injEq] at h
      subst h
      refine ⟨some (i, e'.val), ?_, e, e', Nat.le_refl _, by simp, by simp, rfl, he⟩
      simp [Instr.findAsking, eq_sound hk he.key hb w]
    · rename_i hb
      obtain ⟨q, h1, h2⟩ := findAsking_sound hk w ht h
      refine ⟨q, ?_, h2.skip⟩
      simp [Instr.findAsking, eq_sound hk he.key hb w, h1]
    · cases h

theorem findNow_sound {m : Inj P} {kt : TypeId} {d : TypeDesc} {k k' : Value} (hk : VRel m k k') (hu : P.underlying kt = some d) (w : World) : ∀ {es es' : List MapEntry} {i : Nat} {r : Option Nat}, All2 (ERel m) es es' →
    findA P kt k es i = some r → ∀ {q}, Instr.findNow d k' es' i = some q → Found m es es' i r q
  | _, _, i, r, .nil, h, q, hq => by
    simp only [findA, Option.some.injEq] at h
    subst h
    simp only [Instr.findNow, Option.some.injEq] at hq
    subst hq
    rfl
  | _, _, i, r, .cons (a := e) (b := e') he ht, h, q, hq => by
    simp only [findA] at h
    simp only [Instr.findNow] at hq
    split at h
    · rename_i hb
      have he1 := eq_sound hk he.key hb w
      simp only [Option.some.injEq] at h
      subst h
      split at hq
      · simp only [Option.some.injEq] at hq
        subst hq
        exact ⟨e, e', Nat.le_refl _, by simp, by simp, rfl, he⟩
      · rename_i hs
        have := sameNow_eq hu he1 hs
        cases this
      · cases hq
    · rename_i hb
      have he1 := eq_sound hk he.key hb w
      split at hq
      · rename_i hs
        have := sameNow_eq hu he1 hs
        cases this
      · exact (findNow_sound hk hu w ht h hq).skip
      · cases hq
    · cases h

theorem find_sound {m : Inj P} {kt : TypeId} {d : TypeDesc} {k k' : Value} (hk : VRel m k k') (hu : P.underlying kt = some d) (w : World) {es es' : List MapEntry} {r : Option Nat} (he : All2 (ERel m) es es')
    (h : findA P kt k es 0 = some r) : ∃ q, (Instr.findKey kt k' es').run P w = .ok q w ∧ Found m es es' 0 r q := by
  unfold Instr.findKey
  rw [Sem.run_bind, run_underlying hu, Result.andThen_ok]
  cases hn : Instr.findNow d k' es' 0 with
  | some q => exact ⟨q, rfl, findNow_sound hk hu w he h hn⟩
  | none => exact findAsking_sound hk w he h

theorem isEmpty_eq {m : Inj P} {es es' : List MapEntry} (h : All2 (ERel m) es es') : es'.isEmpty = es.isEmpty := by cases h <;> rfl

theorem lookup_sound {m : Inj P} {A : AW} {w : World} (r : Rel m A w) {t : TypeId} {x x' k k' : Value} {ok : Bool} (hx : VRel m x x') (hk : VRel m k k') :
    RPure P m w (lookupA P A t x k ok) (Instr.lookup t x' k' ok) := by
  intro v h
  unfold lookupA at h
  split at h
  · cases h
  rename_i kt et hmt
  split at h
  · cases h
  rename_i es hes
  cases hq : keyQ P es.isEmpty kt k with
  | false => rw [hq] at h; cases h
  | true =>
    rw [hq, cond_true] at h
    obtain ⟨_, _, hck⟩ := keyQ_sound (P := P) hk hq w
    obtain ⟨kd, hkd⟩ := keyQ_under hq
    split at h
    · cases h
    · rename_i i hf
      split at h
      · rename_i e hei
        simp only [Option.some.injEq] at h
        subst h
        rcases mapRef_sound r hx hes with ⟨_, _, rfl⟩ | ⟨ib, c, es', clock, ro, rfl, rfl, hm, hg, hc, he⟩
        · simp at hei
        · obtain ⟨q, h1, e1, e1', _, h3, h4, h5, h6⟩ := find_sound hk hkd w he hf
          simp only [Nat.sub_zero] at h3 h4
          rw [hei] at h3
          simp only [Option.some.injEq] at h3
          subst h3
          subst h5
          rw [← isEmpty_eq he] at hck
          refine ⟨if ok then .tuple #[e1'.val, .bool true] else e1'.val, ?_, ?_⟩
          · simp only [Instr.lookup, Sem.run_bind, run_underlying (mapTypes_spec hmt), Result.andThen_ok, run_getObj_ok P w c _ hc (by simp)]
            have : (⟨es'⟩ : Array MapEntry).isEmpty = es'.isEmpty := by simp
            simp only [Sem.run_pure, Result.andThen_ok, Sem.run_bind, this, hck, h1]
          · cases ok
            · exact h6.val
            · exact .tuple (.cons h6.val (.cons (.bool true) .nil))
      · cases h
    · rename_i hf
      split at h
      · rename_i z hz
        simp only [Option.some.injEq] at h
        subst h
        have hzr := closedV_rel (m := m) 4 z (zeroT_info hz).2
        have hvr : VRel m (bif ok then .tuple #[z, .bool false] else z) (if ok then .tuple #[z, .bool false] else z) := by
          cases ok
          · exact hzr
          · exact .tuple (.cons hzr (.cons (.bool false) .nil))
        rcases mapRef_sound r hx hes with ⟨_, rfl, rfl⟩ | ⟨ib, c, es', clock, ro, rfl, rfl, hm, hg, hc, he⟩
        · obtain ⟨q, h1, h2⟩ := find_sound hk hkd w .nil hf
          simp only [Found] at h2
          subst h2
          refine ⟨_, ?_, hvr⟩
          simp only [Instr.lookup, Sem.run_bind, run_underlying (mapTypes_spec hmt), Result.andThen_ok, Sem.run_pure]
          have : (#[] : Array MapEntry).isEmpty = true := rfl
          simp only [List.isEmpty_nil] at hck
          simp only [this, hck, Result.andThen_ok, h1, Sem.run_bind, run_zeroValue_ok hz, Sem.run_pure]
        · obtain ⟨q, h1, h2⟩ := find_sound hk hkd w he hf
          simp only [Found] at h2
          subst h2
          rw [← isEmpty_eq he] at hck
          refine ⟨_, ?_, hvr⟩
          simp only [Instr.lookup, Sem.run_bind, run_underlying (mapTypes_spec hmt), Result.andThen_ok, run_getObj_ok P w c _ hc (by simp)]
          have : (⟨es'⟩ : Array MapEntry).isEmpty = es'.isEmpty := by simp
          simp only [Sem.run_pure, Result.andThen_ok, Sem.run_bind, this, hck, h1, run_zeroValue_ok hz]
      · cases h

theorem arr_isEmpty (l : List MapEntry) : (⟨l⟩ : Array MapEntry).isEmpty = l.isEmpty := by simp

/-- a map that may be written -/
theorem Rel.map {m : Inj P} {A : AW} {w : World} (r : Rel m A w) {i : Nat} {es : List MapEntry} {clock : Nat} {ro : Bool} {x' : Value} (hg : A.get i = some (.map es clock ro)) (hx : VRel m (.map (some i)) x') :
    ∃ c es', x' = .map (some c) ∧ m i = some (c, 0) ∧ w.heap[c]? = some (.map ⟨es'⟩ clock) ∧ All2 (ERel m) es es' := by
  cases hx with
  | map hm =>
    rename_i c
    obtain ⟨c0, d0, o', h1, h2, hd, es', rfl, h4⟩ := r.objAt hg hm
    rw [hm] at h1
    simp only [Option.some.injEq, Prod.mk.injEq] at h1
    obtain ⟨rfl, rfl⟩ := h1
    exact ⟨c, es', rfl, hm, h2, h4⟩

theorem All2.setVal {m : Inj P} : ∀ {es es' : List MapEntry} (i : Nat) {k v k' v' : Value} (f : MapEntry → MapEntry), All2 (ERel m) es es' → VRel m k k' → VRel m v v' →
    (∀ e, es'[i]? = some e → f e = { e with key := k', val := v' }) → All2 (ERel m) (setVal es i k v) (es'.modify i f)
  | _, _, _, _, _, _, _, _, .nil, _, _, _ => by simp [Abs.setVal]; exact .nil
  | _, _, 0, _, _, _, _, f, .cons r t, hk, hv, hf => by
    simp only [Abs.setVal, List.modify_zero_cons]
    rw [hf _ (by simp)]
    exact .cons ⟨hk, hv, r.born⟩ t
  | _, _, i + 1, _, _, _, _, f, .cons r t, hk, hv, hf => by
    simp only [Abs.setVal, List.modify_succ_cons]
    exact .cons r (All2.setVal i f t hk hv fun e he => hf e (by simpa using he))

theorem modify_arr (l : List MapEntry) (i : Nat) (f : MapEntry → MapEntry) : (⟨l⟩ : Array MapEntry).modify i f = ⟨l.modify i f⟩ := by
  apply Array.ext'
  simp

theorem mapUpdate_sound {m : Inj P} {A A' : AW} {w : World} (r : Rel m A w) {t : TypeId} {x x' k k' v v' : Value} (hx : VRel m x x') (hk : VRel m k k') (hv : VRel m v v')
    (h : mapUpdateA P A t x k v = some A') : ∃ w', (Instr.mapUpdate t x' k' v').run P w = .ok () w' ∧ Ev m A w m A' w' := by
  unfold mapUpdateA at h
  split at h
  rotate_left
  · cases h
  rename_i kt et i hmt
  cases hq : keyQ P false kt k with
  | false => rw [hq] at h; cases h
  | true =>
    rw [hq, cond_true] at h
    obtain ⟨hkc, rfl, hck⟩ := keyQ_sound (P := P) hk hq w
    obtain ⟨kd, hkd⟩ := keyQ_under hq
    split at h
    rotate_left
    · cases h
    rename_i es clock hg
    obtain ⟨c, es', rfl, hm, hc, he⟩ := r.map hg hx
    split at h
    · cases h
    · rename_i j hf
      split at h
      · rename_i e hej
        cases hsb : (closedV 4 e.key && Instr.sameBits 10000 e.key k') with
        | false => rw [hsb] at h; cases h
        | true =>
          rw [hsb, cond_true] at h
          simp only [Option.some.injEq] at h
          subst h
          simp only [Bool.and_eq_true] at hsb
          obtain ⟨q, h1, e1, e1', _, h3, h4, h5, h6⟩ := find_sound hk hkd w he hf
          simp only [Nat.sub_zero] at h3 h4
          rw [hej] at h3
          simp only [Option.some.injEq] at h3
          subst h3
          subst h5
          have hkey : e1'.key = e.key := closedV_eq 4 _ _ hsb.1 h6.key
          have hkeep : ((((⟨es'⟩ : Array MapEntry)[j]?).map (·.key)).getD k') = e.key := by
            simp [h4, hkey]
          refine ⟨{ w with heap := w.heap.setIfInBounds c (.map ⟨es'.modify j fun e => { e with key := k', val := v' }⟩ clock) }, ?_, ?_⟩
          · simp only [Instr.mapUpdate, Sem.run_bind, run_underlying (mapTypes_spec hmt), Result.andThen_ok, run_getObj_ok P w c _ hc (by simp), hck, h1]
            simp only [hkeep, Instr.keyThatStays, hsb.2, if_true, Sem.run_pure, Result.andThen_ok, modify_arr]
            exact run_setObj_ok P w c _ _ hc (by simp)
          · exact Ev.putObj r hg rfl rfl hm hc ⟨rfl, _, rfl, All2.setVal j _ he hk hv (fun _ _ => rfl)⟩ rfl rfl
      · cases h
    · rename_i hf
      simp only [Option.some.injEq] at h
      subst h
      obtain ⟨q, h1, h2⟩ := find_sound hk hkd w he hf
      simp only [Found] at h2
      subst h2
      refine ⟨{ w with heap := w.heap.setIfInBounds c (.map ⟨es' ++ [{ key := k', val := v', born := clock }]⟩ (clock + 1)) }, ?_, ?_⟩
      · simp only [Instr.mapUpdate, Sem.run_bind, run_underlying (mapTypes_spec hmt), Result.andThen_ok, run_getObj_ok P w c _ hc (by simp), hck, h1]
        rw [show (⟨es'⟩ : Array MapEntry).push { key := k', val := v', born := clock } = ⟨es' ++ [{ key := k', val := v', born := clock }]⟩ from by simp]
        exact run_setObj_ok P w c _ _ hc (by simp)
      · exact Ev.putObj r hg rfl rfl hm hc ⟨rfl, _, rfl, he.append (.cons ⟨hk, hv, rfl⟩ .nil)⟩ rfl rfl

theorem VRel.tuple2 {m : Inj P} {a b a' b' : Value} (ha : VRel m a a') (hb : VRel m b b') : VRel m (.tuple #[a, b]) (.tuple #[a', b']) := .tuple (.cons ha (.cons hb .nil))

theorem mapEntry_sound {m : Inj P} {A A' : AW} {w : World} (r : Rel m A w) {t : TypeId} {x x' k k' v : Value} (hx : VRel m x x') (hk : VRel m k k')
    (h : mapEntryA P A t x k = some (v, A')) : ∃ v' w', (Instr.mapEntry t x' k').run P w = .ok v' w' ∧ Ev m A w m A' w' ∧ VRel m v v' := by
  unfold mapEntryA at h
  split at h
  rotate_left
  · cases h
  rename_i kt et i hmt
  cases hq : keyQ P false kt k with
  | false => rw [hq] at h; cases h
  | true =>
    rw [hq, cond_true] at h
    obtain ⟨hkc, rfl, hck⟩ := keyQ_sound (P := P) hk hq w
    obtain ⟨kd, hkd⟩ := keyQ_under hq
    split at h
    rotate_left
    · cases h
    rename_i es clock hg
    obtain ⟨c, es', rfl, hm, hc, he⟩ := r.map hg hx
    split at h
    · cases h
    · rename_i j hf
      split at h
      · rename_i e hej
        cases hsb : (closedV 4 e.key && Instr.sameBits 10000 e.key k') with
        | false => rw [hsb] at h; cases h
        | true =>
          rw [hsb, cond_true] at h
          simp only [Option.some.injEq, Prod.mk.injEq] at h
          obtain ⟨rfl, rfl⟩ := h
          simp only [Bool.and_eq_true] at hsb
          obtain ⟨q, h1, e1, e1', _, h3, h4, h5, h6⟩ := find_sound hk hkd w he hf
          simp only [Nat.sub_zero] at h3 h4
          rw [hej] at h3
          simp only [Option.some.injEq] at h3
          subst h3
          subst h5
          have hkey : e1'.key = e.key := closedV_eq 4 _ _ hsb.1 h6.key
          have hkeep : ((((⟨es'⟩ : Array MapEntry)[j]?).map (·.key)).getD k') = e.key := by
            simp [h4, hkey]
          have hborn : ((((⟨es'⟩ : Array MapEntry)[j]?).map (fun x => (x.born : Int))).getD 0) = (e.born : Int) := by
            simp [h4, h6.born]
          refine ⟨.tuple #[e1'.val, .int .i64 e.born], { w with heap := w.heap.setIfInBounds c (.map ⟨es'.modify j fun e => { e with key := k' }⟩ clock) }, ?_, ?_, .tuple2 h6.val (.int _ _)⟩
          · simp only [Instr.mapEntry, Sem.run_bind, run_underlying (mapTypes_spec hmt), Result.andThen_ok, run_getObj_ok P w c _ hc (by simp), hck, h1]
            simp only [hkeep, hborn, Instr.keyThatStays, hsb.2, if_true, Sem.run_pure, Result.andThen_ok, modify_arr]
            rw [run_setObj_ok P w c _ _ hc (by simp)]
            rfl
          · refine Ev.putObj r hg rfl rfl hm hc ⟨rfl, _, rfl, All2.setVal j _ he hk h6.val (fun x hx => ?_)⟩ rfl rfl
            rw [h4] at hx
            simp only [Option.some.injEq] at hx
            subst hx
            rfl
      · cases h
    · rename_i hf
      split at h
      · rename_i z hz
        simp only [Option.some.injEq, Prod.mk.injEq] at h
        obtain ⟨rfl, rfl⟩ := h
        obtain ⟨q, h1, h2⟩ := find_sound hk hkd w he hf
        simp only [Found] at h2
        subst h2
        have hzr := closedV_rel (m := m) 4 z (zeroT_info hz).2
        refine ⟨.tuple #[z, .int .i64 clock], { w with heap := w.heap.setIfInBounds c (.map ⟨es' ++ [{ key := k', val := z, born := clock }]⟩ (clock + 1)) }, ?_, ?_, .tuple2 hzr (.int _ _)⟩
        · simp only [Instr.mapEntry, Sem.run_bind, run_underlying (mapTypes_spec hmt), Result.andThen_ok, run_getObj_ok P w c _ hc (by simp), hck, h1, run_zeroValue_ok hz]
          rw [show (⟨es'⟩ : Array MapEntry).push { key := k', val := z, born := clock } = ⟨es' ++ [{ key := k', val := z, born := clock }]⟩ from by simp]
          rw [run_setObj_ok P w c _ _ hc (by simp)]
          rfl
        · exact Ev.putObj r hg rfl rfl hm hc ⟨rfl, _, rfl, he.append (.cons ⟨hk, hzr, rfl⟩ .nil)⟩ rfl rfl
      · cases h

theorem findBorn_sound {m : Inj P} {n : Nat} : ∀ {es es' : List MapEntry} {i j : Nat}, All2 (ERel m) es es' → findBorn n es i = some j → i ≤ j ∧ es'.findIdx? (fun e => (e.born : Int) == (n : Int)) = some (j - i) ∧ (∃ e, es[j - i]? = some e ∧ e.born = n)
  | _, _, i, j, .nil, h => by simp [findBorn] at h
  | _, _, i, j, .cons (a := e) (b := e') he ht, h => by
    simp only [findBorn] at h
    cases hb : Nat.beq e.born n with
    | true =>
      rw [hb, cond_true] at h
      simp only [Option.some.injEq] at h
      subst h
      have hb := beq_true.1 hb
      refine ⟨Nat.le_refl _, ?_, e, by simp, hb⟩
      rw [List.findIdx?_cons]
      simp [he.born, hb]
    | false =>
      rw [hb, cond_false] at h
      have hb := beq_false.1 hb
      obtain ⟨h1, h2, e0, h3, h4⟩ := findBorn_sound ht h
      refine ⟨by omega, ?_, e0, ?_, h4⟩
      · rw [List.findIdx?_cons]
        have hne : ((e'.born : Int) == (n : Int)) = false := by
          rw [he.born]
          simp; omega
        rw [if_neg (by simp [hne]), h2]
        simp; omega
      · rw [show j - i = (j - (i + 1)) + 1 by omega]; simpa using h3

end
end Go.Abs

namespace Go.Abs

section
variable {P : Program}

theorem setVal_key : ∀ (es : List MapEntry) (i : Nat) (v : Value) (e : MapEntry), es[i]? = some e → setVal es i e.key v = es.modify i fun e => { e with val := v }
  | [], i, v, e, h => by simp at h
  | x :: r, 0, v, e, h => by simp at h; subst h; simp [setVal]
  | x :: r, i + 1, v, e, h => by simp only [setVal, List.modify_succ_cons]; rw [setVal_key r i v e (by simpa using h)]

theorem All2.modifyVal {m : Inj P} : ∀ {es es' : List MapEntry} (i : Nat) {v v' : Value}, All2 (ERel m) es es' → VRel m v v' →
    All2 (ERel m) (es.modify i fun e => { e with val := v }) (es'.modify i fun e => { e with val := v' })
  | _, _, _, _, _, .nil, _ => by simp; exact .nil
  | _, _, 0, _, _, .cons r t, hv => by simp only [List.modify_zero_cons]; exact .cons ⟨r.key, hv, r.born⟩ t
  | _, _, i + 1, _, _, .cons r t, hv => by simp only [List.modify_succ_cons]; exact .cons r (All2.modifyVal i t hv)

theorem entryStore_sound {m : Inj P} {A A' : AW} {w : World} (r : Rel m A w) {t : TypeId} {x x' s s' v v' : Value} (hx : VRel m x x') (hs : VRel m s s') (hv : VRel m v v')
    (h : entryStoreA A x s v = some A') : ∃ w', (Instr.entryStore t x' s' v').run P w = .ok () w' ∧ Ev m A w m A' w' := by
  unfold entryStoreA at h
  split at h
  rotate_left
  · cases h
  rename_i i k n
  cases hs
  split at h
  rotate_left
  · cases h
  rename_i es clock hg
  obtain ⟨c, es', rfl, hm, hc, he⟩ := r.map hg hx
  split at h
  rotate_left
  · cases h
  rename_i j hj
  obtain ⟨_, h2, e0, h3, h4⟩ := findBorn_sound he hj
  simp only [Nat.sub_zero] at h2 h3
  split at h
  rotate_left
  · cases h
  rename_i e hej
  rw [h3] at hej
  simp only [Option.some.injEq] at hej
  subst hej
  simp only [Option.some.injEq] at h
  subst h
  refine ⟨{ w with heap := w.heap.setIfInBounds c (.map ⟨es'.modify j fun e => { e with val := v' }⟩ clock) }, ?_, ?_⟩
  · simp only [Instr.entryStore, Sem.run_bind, run_getObj_ok P w c _ hc (by simp), Result.andThen_ok, asInt, asIntOf, Sem.run_pure]
    rw [show (⟨es'⟩ : Array MapEntry).findIdx? (fun e => (e.born : Int) == Int.ofNat n) = some j from by simpa using h2]
    simp only [modify_arr]
    exact run_setObj_ok P w c _ _ hc (by simp)
  · rw [setVal_key es j v e0 h3]
    exact Ev.putObj r hg rfl rfl hm hc ⟨rfl, _, rfl, he.modifyVal j hv⟩ rfl rfl

theorem All2.eraseIdx {m : Inj P} : ∀ {es es' : List MapEntry} (i : Nat), All2 (ERel m) es es' → All2 (ERel m) (es.eraseIdx i) (es'.eraseIdx i)
  | _, _, _, .nil => by simp; exact .nil
  | _, _, 0, .cons _ t => by simpa using t
  | _, _, i + 1, .cons r t => by simpa using .cons r (All2.eraseIdx i t)

theorem delete_sound {m : Inj P} {A A' : AW} {w : World} (r : Rel m A w) {t t2 ty : TypeId} {x x' k k' : Value} (hx : VRel m x x') (hk : VRel m k k')
    (h : deleteA P A t x k = some A') : ∃ w', (Builtin.delete_ #[t, t2] ty #[x', k']).run P w = .ok (.tuple #[]) w' ∧ Ev m A w m A' w' := by
  unfold deleteA at h
  split at h
  rotate_left
  · cases h
  rename_i kt et hmt
  split at h
  · cases hx
    cases hq : keyQ P true kt k with
    | false => rw [hq] at h; cases h
    | true =>
      rw [hq, cond_true] at h
      simp only [Option.some.injEq] at h
      subst h
      obtain ⟨_, rfl, hck⟩ := keyQ_sound (P := P) hk hq w
      refine ⟨w, ?_, .refl r⟩
      simp [Builtin.delete_, run_underlying (mapTypes_spec hmt), hck]
  · rename_i i
    split at h
    rotate_left
    · cases h
    rename_i es clock hg
    obtain ⟨c, es', rfl, hm, hc, he⟩ := r.map hg hx
    cases hq : keyQ P es.isEmpty kt k with
    | false => rw [hq] at h; cases h
    | true =>
      rw [hq, cond_true] at h
      obtain ⟨_, rfl, hck⟩ := keyQ_sound (P := P) hk hq w
      obtain ⟨kd, hkd⟩ := keyQ_under hq
      rw [← isEmpty_eq he] at hck
      split at h
      · cases h
      · rename_i j hf
        simp only [Option.some.injEq] at h
        subst h
        obtain ⟨q, h1, e1, e1', _, h3, h4, h5, h6⟩ := find_sound hk hkd w he hf
        subst h5
        refine ⟨{ w with heap := w.heap.setIfInBounds c (.map ⟨es'.eraseIdx j⟩ clock) }, ?_, Ev.putObj r hg rfl rfl hm hc ⟨rfl, _, rfl, he.eraseIdx j⟩ rfl rfl⟩
        have hsize : j < es'.length := by
          have := (List.getElem?_eq_some_iff.1 h4).1
          simpa using this
        have herase : (⟨es'⟩ : Array MapEntry).eraseIdxIfInBounds j = ⟨es'.eraseIdx j⟩ := by
          apply Array.ext'
          simp [Array.eraseIdxIfInBounds, hsize]
        simp [Builtin.delete_, run_underlying (mapTypes_spec hmt), run_getObj_ok P w c _ hc, hck, h1, run_setObj_ok P w c _ _ hc]
      · rename_i hf
        simp only [Option.some.injEq] at h
        subst h
        obtain ⟨q, h1, h2⟩ := find_sound hk hkd w he hf
        simp only [Found] at h2
        subst h2
        refine ⟨{ w with heap := w.heap.setIfInBounds c (.map ⟨es'⟩ clock) }, ?_, Ev.putObj r hg rfl rfl hm hc ⟨rfl, _, rfl, he⟩ rfl rfl⟩
        simp [Builtin.delete_, run_underlying (mapTypes_spec hmt), run_getObj_ok P w c _ hc, hck, h1, run_setObj_ok P w c _ _ hc]
  · cases h

theorem len_sound {m : Inj P} {A : AW} {w : World} (r : Rel m A w) {t ty : TypeId} {x x' : Value} (hx : VRel m x x') : RPure P m w (lenA P A t x) (Builtin.len_ #[t] ty #[x']) := by
  intro v h
  unfold lenA at h
  split at h
  · rename_i s hu
    cases hx
    simp only [Option.some.injEq] at h
    subst h
    rw [← Lib.size_eq]
    exact ⟨_, by simp [Builtin.len_, run_underlying hu, goInt], .int _ _⟩
  · rename_i n e hu
    simp only [Option.some.injEq] at h
    subst h
    refine ⟨_, ?_, .int _ _⟩
    cases hx <;> simp [Builtin.len_, run_underlying hu, goInt]
  · rename_i e a n c hu
    simp only [Option.some.injEq] at h
    subst h
    cases hx with
    | sliceNil => exact ⟨_, by simp [Builtin.len_, run_underlying hu, goInt], .int _ _⟩
    | slice hc hn ha => exact ⟨_, by simp [Builtin.len_, run_underlying hu, goInt], .int _ _⟩
  · rename_i k e hu
    cases hx
    simp only [Option.some.injEq] at h
    subst h
    exact ⟨_, by simp [Builtin.len_, run_underlying hu, goInt], .int _ _⟩
  · rename_i k e i hu
    split at h
    · rename_i es clock ro hg
      simp only [Option.some.injEq] at h
      subst h
      obtain ⟨c, es', rfl, hm, hc, he⟩ := r.map hg hx
      refine ⟨_, ?_, .int _ _⟩
      simp [Builtin.len_, run_underlying hu, goInt, run_getObj_ok P w c _ hc, he.length]
    · cases h
  · cases h

theorem clear_sound {m : Inj P} {A A' : AW} {w : World} (r : Rel m A w) {t ty : TypeId} {x x' : Value} (hx : VRel m x x')
    (h : clearA P A t x = some A') : ∃ w', (Builtin.clear_ #[t] ty #[x']).run P w = .ok (.tuple #[]) w' ∧ Ev m A w m A' w' := by
  unfold clearA at h
  split at h
  · rename_i d hu
    cases hx
    simp only [Option.some.injEq] at h
    subst h
    exact ⟨w, by simp [Builtin.clear_, run_underlying hu], .refl r⟩
  · rename_i d n c hu
    cases hx
    simp only [Option.some.injEq] at h
    subst h
    exact ⟨w, by simp [Builtin.clear_, run_underlying hu], .refl r⟩
  · rename_i d a c hu
    simp only [Option.some.injEq] at h
    subst h
    cases hx <;> exact ⟨w, by simp [Builtin.clear_, run_underlying hu], .refl r⟩
  · rename_i kt et i hu
    split at h
    · rename_i es clock hg
      obtain ⟨c, es', rfl, hm, hc, he⟩ := r.map hg hx
      simp only [Option.some.injEq] at h
      subst h
      exact ⟨{ w with heap := w.heap.setIfInBounds c (.map #[] clock) }, by simp [Builtin.clear_, run_underlying hu, run_getObj_ok P w c _ hc, run_setObj_ok P w c _ _ hc], Ev.putObj r hg rfl rfl hm hc ⟨rfl, [], rfl, .nil⟩ rfl rfl⟩
    · cases h
  · rename_i e a n c hne hu
    split at h
    · rename_i z hz
      have hzr := VRels.zeros (VRels.closed (m := m) (zeroT_info hz).2) n
      cases hx with
      | slice hcc hn ha =>
        rename_i a' c'
        have hn0 : n ≠ 0 := fun e => hne e
        obtain ⟨w', h1, h2, _⟩ := Ev.setCells (i := 0) r hzr (fun _ => by simpa [Addr.add] using ha (by omega)) h
        refine ⟨w', ?_, h2⟩
        have hzc : (Builtin.zeroCells z.cells n).toList = zerosA z.cells.toList n := by
          rw [Builtin.zeroCells, range_map_zero]
        cases n with
        | zero => exact absurd rfl hn0
        | succ n => simp [Builtin.clear_, run_underlying hu, run_zeroValue_ok hz, hzc, h1]
    · cases h
  · cases h

end
end Go.Abs

namespace Go.Abs

section
variable {P : Program}

/-- how many elements are appended, and which cells: as the model reckons them -/
structure Src (P : Program) (e : TypeId) (d2 : TypeDesc) (i : TypeInfo) (x : Value) (m : Nat) (new : List Value) (w : World) : Prop where
  zeros : ∀ k, d2 = .int k → ∃ k', x = .int k' (m : Int) ∧ m < 68719476736 ∧ ((m * i.size = 0 ∧ new = []) ∨ (m * i.size ≠ 0 ∧ ∃ z : Value, (∀ w, (zeroValue e).run P w = .ok z w) ∧ Builtin.zeroCells z.cells m = ⟨new⟩))
  cells : (∀ k, d2 ≠ .int k) → (Builtin.lenOf x).run P w = .ok m w ∧ (Builtin.firstCells i.size m x).run P w = .ok ⟨new⟩ w

theorem bytes_no {m bytes need : Nat} (h : need * bytes < 68719476736) (hm : m ≤ need) : ¬ (281474976710656 < (m : Int) * (bytes : Int)) := by
  have h1 : m * bytes ≤ need * bytes := Nat.mul_le_mul_right _ hm
  have : (m : Int) * (bytes : Int) = ((m * bytes : Nat) : Int) := by simp
  rw [this]; omega

set_option maxHeartbeats 1000000 in
theorem run_append_in {w w' : World} {t t2 ty e : TypeId} {d2 : TypeDesc} {i : TypeInfo} {a : Addr} {n c m : Nat} {x : Value} {new : List Value} (hu : P.underlying t = some (.slice e)) (h2 : P.underlying t2 = some d2)
    (hi : P.info? e = some i) (hsrc : Src P e d2 i x m new w) (h : n + m ≤ c) (hb : (n + m) * i.bytes < 68719476736) (hst : (storeCells (a.add (n * i.size)) new).run P w = .ok () w') :
    (Builtin.append_ #[t, t2] ty #[.slice (some a) n c, x]).run P w = .ok (.slice (some a) (n + m) c) w' := by
  by_cases hk : ∃ k, d2 = .int k
  · obtain ⟨k, rfl⟩ := hk
    obtain ⟨k', rfl, hm, hz⟩ := hsrc.zeros k rfl
    have hw : IntKind.i64.wrap (m : Int) = m := wrap_nat (by omega)
    have h0 : ¬ ((m : Int) < 0) := by omega
    have hbn := bytes_no (m := m) hb (by omega)
    rcases hz with ⟨h3, rfl⟩ | ⟨h3, z, hz, hzc⟩
    · simp [Builtin.append_, run_underlying hu, run_underlying h2, sizeOf, run_typeInfo_ok hi, asInt, asIntOf, hw, h0, hbn, h, h3, hst]
    · simp [Builtin.append_, run_underlying hu, run_underlying h2, sizeOf, run_typeInfo_ok hi, asInt, asIntOf, hw, h0, hbn, h, h3, hz, hzc, hst]
  · have hk' : ∀ k, d2 ≠ .int k := fun k e => hk ⟨k, e⟩
    obtain ⟨hl, hc⟩ := hsrc.cells hk'
    cases d2 <;> first
      | (exact absurd rfl (hk' _))
      | simp [Builtin.append_, run_underlying hu, run_underlying h2, sizeOf, run_typeInfo_ok hi, hl, hc, h, hst]

theorem growBy_le (newLen : Nat) : ∀ (r c : Nat), c < newLen → Builtin.growBy newLen r c ≤ newLen + (newLen + 768) / 4 + 768
  | 0, c, h => by simp only [Builtin.growBy]; omega
  | r + 1, c, h => by
    simp only [Builtin.growBy]
    rw [if_neg (by omega)]
    by_cases h' : c + (c + 768) / 4 < newLen
    · exact growBy_le newLen r _ h'
    · cases r with
      | zero => simp only [Builtin.growBy]; omega
      | succ r => simp only [Builtin.growBy]; rw [if_pos (by omega)]; omega

theorem nextslicecap_le {need c : Nat} (h : c < need) : Builtin.nextslicecap need c ≤ 2 * need + 2000 := by
  unfold Builtin.nextslicecap
  split
  · omega
  · split
    · omega
    · have := growBy_le need 4 c h
      omega

theorem nextslicecap_bytes {need c bytes : Nat} (h : c < need) (hb : need * bytes < 68719476736) : ¬ (281474976710656 < Builtin.nextslicecap need c * bytes) := by
  have h1 := nextslicecap_le h
  have h2 : Builtin.nextslicecap need c * bytes ≤ (2 * need + 2000) * bytes := Nat.mul_le_mul_right _ h1
  have h3 : (2 * need + 2000) * bytes = 2 * (need * bytes) + 2000 * bytes := by rw [Nat.add_mul, Nat.mul_assoc]
  have h4 : bytes ≤ need * bytes := Nat.le_mul_of_pos_left _ (by omega)
  have : 2000 * bytes ≤ 2000 * (need * bytes) := Nat.mul_le_mul_left _ h4
  omega

theorem appendCap_cut (need old : Nat) (e : TypeId) (t : Nat) : need ≤ (Question.appendCap need old e).cut t := by
  simp [Question.cut]

theorem arr3 (old new : List Value) (X : Array Value) : (⟨old⟩ : Array Value) ++ ((⟨new⟩ : Array Value) ++ X) = (old ++ new).toArray ++ X := by
  apply Array.ext'
  simp

theorem grow_fin (w : World) (old new : List Value) (X : Array Value) (e : TypeId) : w.drew.alloc (.cells ((⟨old⟩ : Array Value) ++ ((⟨new⟩ : Array Value) ++ X)) e) =
    { heap := w.heap.push (.cells ((old ++ new).toArray ++ X) e), tape := w.tape, drawn := w.drawn + 1, os := w.os, output := w.output } := by
  rw [arr3]
  rfl

set_option maxHeartbeats 1000000 in
theorem run_append_grow {w : World} {t t2 ty e : TypeId} {d2 : TypeDesc} {i : TypeInfo} {base : Option Addr} {n c m : Nat} {x z : Value} {old new : List Value} (hu : P.underlying t = some (.slice e)) (h2 : P.underlying t2 = some d2)
    (hi : P.info? e = some i) (hsrc : ∀ w1 : World, w1.heap = w.heap → Src P e d2 i x m new w1) (h : c < n + m) (hb : (n + m) * i.bytes < 68719476736) (hnm : n + m < 68719476736) (hz : zeroT P e = some z)
    (hold : ∀ w1 : World, w1.heap = w.heap → (Builtin.firstCells i.size n (.slice base n c)).run P w1 = .ok ⟨old⟩ w1) :
    ∃ (newCap : Nat) (rest : Array Value), n + m ≤ newCap ∧ rest.size = (newCap - (n + m)) * z.cells.size ∧
      (Builtin.append_ #[t, t2] ty #[.slice base n c, x]).run P w = .ok (.slice (some ⟨w.heap.size, 0, none⟩) (n + m) newCap) { w with drawn := w.drawn + 1, heap := w.heap.push (.cells (⟨old⟩ ++ ⟨new⟩ ++ rest) e) } := by
  have hle : ¬ (n + m ≤ c) := by omega
  have hcap := nextslicecap_bytes h hb
  have hmax' : ¬ (9223372036854775807 < (n : Int) + (m : Int)) := by omega
  refine ⟨(Question.appendCap (n + m) c e).cut (w.tape w.drawn (.appendCap (n + m) c e)), Builtin.zeroCells z.cells ((Question.appendCap (n + m) c e).cut (w.tape w.drawn (.appendCap (n + m) c e)) - (n + m)), appendCap_cut _ _ _ _, by rw [Builtin.zeroCells, range_map_zero]; simp [zerosA_length], ?_⟩
  have hf : (Question.appendCap (n + m) c e).forced = false := rfl
  have ho := hold w.drew rfl
  have hs1 := hsrc w.drew rfl
  by_cases hk : ∃ k, d2 = .int k
  · obtain ⟨k, rfl⟩ := hk
    obtain ⟨k', rfl, hm, hz'⟩ := hs1.zeros k rfl
    have hw : IntKind.i64.wrap (m : Int) = m := wrap_nat (by omega)
    have h0 : ¬ ((m : Int) < 0) := by omega
    have hbn := bytes_no (m := m) hb (by omega)
    rcases hz' with ⟨h3, rfl⟩ | ⟨h3, z', hz', hzc⟩
    · simp [Builtin.append_, run_underlying hu, run_underlying h2, sizeOf, run_typeInfo_ok hi, asInt, asIntOf, hw, h0, hbn, hle, h3, hcap, hmax', hf, ho, run_zeroValue_ok hz, run_newRow]
      rfl
    · simp [Builtin.append_, run_underlying hu, run_underlying h2, sizeOf, run_typeInfo_ok hi, asInt, asIntOf, hw, h0, hbn, hle, h3, hz', hzc, hcap, hmax', hf, ho, run_newRow]
      have hzz := hz' w
      rw [run_zeroValue_ok hz] at hzz
      injection hzz with hzz
      subst hzz
      exact grow_fin _ _ _ _ _
  · have hk' : ∀ k, d2 ≠ .int k := fun k e => hk ⟨k, e⟩
    obtain ⟨hl, hc⟩ := hs1.cells hk'
    obtain ⟨hl0, _⟩ := (hsrc w rfl).cells hk'
    cases d2 <;> first
      | (exact absurd rfl (hk' _))
      | (simp [Builtin.append_, run_underlying hu, run_underlying h2, sizeOf, run_typeInfo_ok hi, hl0, hc, hle, hcap, hmax', hf, ho, run_zeroValue_ok hz, run_newRow]; exact grow_fin _ _ _ _ _)

end
end Go.Abs

namespace Go.Abs

section
variable {P : Program}

/-- cells written into a row of the world -/
theorem storeCells_row (c : Nat) (e : TypeId) (fr : Nat × Nat) (a : Addr) (hac : a.block = c) (has : a.spot = none) : ∀ (l : List Value) (i : Nat) (cs : Array Value) (w : World), w.heap[c]? = some (.cells cs e fr) → a.off + i + l.length ≤ cs.size →
    (∀ k, k < l.length → ¬ (fr.1 ≤ a.off + i + k ∧ a.off + i + k < fr.2)) → (∀ v ∈ l, oneCell v = true) →
    ∃ w' cs2, (storeCells a l i).run P w = .ok () w' ∧ w'.heap[c]? = some (.cells cs2 e fr) ∧ cs2.size = cs.size ∧ (∀ j, (j < a.off + i ∨ a.off + i + l.length ≤ j) → cs2[j]? = cs[j]?) ∧
      (∀ j, j < l.length → cs2[a.off + i + j]? = l[j]?) ∧ (∀ b, b ≠ c → w'.heap[b]? = w.heap[b]?) ∧ w'.heap.size = w.heap.size ∧ w'.os = w.os ∧ w'.tape = w.tape ∧ w'.output = w.output ∧ w'.drawn = w.drawn
  | [], i, cs, w, hw, _, _, _ => ⟨w, cs, rfl, hw, rfl, fun _ _ => rfl, fun j hj => by simp at hj, fun _ _ => rfl, rfl, rfl, rfl, rfl, rfl⟩
  | v :: l, i, cs, w, hw, hlen, hfr, h1 => by
    have hsp : (a.add i).spot = none := Addr.add_spot a i has
    have hbl : (a.add i).block = c := by rw [Addr.add_block, hac]
    have hof : (a.add i).off = a.off + i := Addr.add_off a i
    simp only [List.length_cons] at hlen hfr
    have hlt : a.off + i < cs.size := by omega
    have hcell : (w.cell? (a.add i)).isSome = true := by simp [World.cell?, hbl, hw, hsp, hof, hlt]
    have hfz : w.frozen? (a.add i) = false := by
      simp only [World.frozen?, hbl, hw, hof]
      have := hfr 0 (by omega)
      cases hx : (decide (fr.1 ≤ a.off + i) && decide (a.off + i < fr.2)) with
      | false => rfl
      | true => simp at hx; exact (this (by simpa using hx)).elim
    have hst := run_store_ok P w (a.add i) v (h1 v (by simp)) hcell hfz
    have hself : (w.setCell (a.add i) v).heap[c]? = some (.cells (cs.setIfInBounds (a.off + i) v) e fr) := by
      have := cells_setCell_same w (a.add i) v cs e fr (by rw [hbl]; exact hw) hsp
      rw [hbl, hof] at this
      exact this
    obtain ⟨w', cs2, g1, g2, g3, g4, g5, g6, g7, g8, g9, g10, g11⟩ := storeCells_row c e fr a hac has l (i + 1) (cs.setIfInBounds (a.off + i) v) (w.setCell (a.add i) v) hself (by simp; omega)
      (fun k hk => by have := hfr (k + 1) (by omega); rw [show a.off + (i + 1) + k = a.off + i + (k + 1) by omega]; exact this) (fun u hu => h1 u (by simp [hu]))
    refine ⟨w', cs2, ?_, g2, by simpa using g3, ?_, ?_, ?_, by rw [g7]; simp [World.setCell], g8, g9, g10, g11⟩
    · simp only [storeCells, Sem.run_bind, hst, Result.andThen_ok]
      exact g1
    · intro j hj
      simp only [List.length_cons] at hj
      rw [g4 j (by omega), Array.getElem?_setIfInBounds_ne (by omega)]
    · intro j hj
      simp only [List.length_cons] at hj
      cases j with
      | zero =>
        rw [g4 _ (by omega)]
        simp [hlt]
      | succ j =>
        have := g5 j (by omega)
        rw [show a.off + i + (j + 1) = a.off + (i + 1) + j by omega, this]
        simp
    · intro b hb
      rw [g6 b hb, heap_setCell_other _ _ _ _ (by rw [hbl]; exact hb)]

/-- the heap behind 'newIn' -/
theorem newIn_spec {A A' : AW} {cs : List Value} {e fam base : Nat} {a : Addr} (h : A.newIn cs e fam base = some (a, A')) (hf : fam < maxId) :
    a = ⟨A.next, 0, none⟩ ∧ A.next < maxId ∧ A'.next = A.next + 1 ∧ (∀ j, A'.get j = if j = A.next then some (.row cs e fam base false) else A.get j) ∧
      (∀ f, A'.fams.get? f = if f = fam then some (A.next :: A.members fam) else A.fams.get? f) := by
  unfold AW.newIn AW.new at h
  cases hlt : Nat.blt A.next maxId with
  | false => simp [hlt] at h
  | true =>
    simp only [hlt, cond_true, Option.some.injEq, Prod.mk.injEq] at h
    obtain ⟨rfl, rfl⟩ := h
    have hmax := blt_true.1 hlt
    refine ⟨rfl, hmax, rfl, fun j => A.get_put A.next j _ hmax, fun f => ?_⟩
    exact Trie.get?_put depth _ fam f _ (by unfold depth; unfold maxId at hf; omega)

/-- A row of an old family: rows of that family keep what they hold below 'coord'. The world: the old block, written from there on, or a block that is new. -/
theorem Ev.newIn {m : Inj P} {A A1 A' : AW} {w w' : World} (r : Rel m A w) {cells : List Value} {e fam b0 coord : Nat} {a : Addr} {ib : Nat} {csb : List Value}
    (hb : A.get ib = some (.row csb e fam b0 false)) {c d : Nat} (hm : m ib = some (c, d))
    (hA1 : A1 = poisonFrom coord (A.members fam) A) {off : Nat} (h : A1.newIn cells e fam (b0 + off) = some (a, A'))
    {cn dn R st : Nat} (hR : R ≠ 0 → szT P e = some st)
    (hos : w'.os = w.os) (htape : w'.tape = w.tape) (hout : w'.output = w.output) (hdr : w.drawn ≤ w'.drawn) (hsz : w.heap.size ≤ w'.heap.size)
    (hkeep : ∀ b, b < w.heap.size → b ≠ c → w'.heap[b]? = w.heap[b]?)
    (hnew : ∃ cs' fr, w'.heap[cn]? = some (.cells cs' e fr) ∧ RowRel m dn cells false cs' fr ∧ dn + R ≤ cs'.size ∧ (∀ k, k < R → ¬ (fr.1 ≤ dn + k ∧ dn + k < fr.2)))
    (hcase : (cn = c ∧ dn = d + off ∧ ∃ cs1 cs2 e1 fr, w.heap[c]? = some (.cells cs1 e1 fr) ∧ w'.heap[c]? = some (.cells cs2 e1 fr) ∧ cs2.size = cs1.size ∧ ∀ j, j + b0 < coord + d → cs2[j]? = cs1[j]?) ∨
      (cn = w.heap.size ∧ ∀ b, b < w.heap.size → w'.heap[b]? = w.heap[b]?)) :
    Ev m A w (m.ext A.next (cn, dn) R e st hR) A' w' ∧ a = ⟨A.next, 0, none⟩ := by
  obtain ⟨_, hfam⟩ := r.mem ib _ fam b0 hb rfl
  have hfmax : fam < maxId := Nat.lt_of_lt_of_le hfam r.lim
  obtain ⟨hp1, hp2, hp3⟩ := get_poisonFrom coord (A.members fam) A (fun i o hi => r.ltMax hi)
  rw [← hA1] at hp1 hp2 hp3
  obtain ⟨rfl, hn1, hn2, hn3, hn4⟩ := newIn_spec h hfmax
  rw [hp1] at hn1 hn2 hn3 hn4
  have hmn := (r.fresh A.next (Nat.le_refl _)).2.1
  have hle : m.le (m.ext A.next (cn, dn) R e st hR) := Inj.le_ext hmn
  have hmem1 : A1.members fam = A.members fam := members_congr hp2 fam
  have hlt : ∀ {i : Nat} {o : AO}, A.get i = some o → i ≠ A.next := fun {i o} hi e => by have := r.lt hi; omega
  -- what an old object was
  have hwas : ∀ i o, i ≠ A.next → A'.get i = some o → ∃ o0, A.get i = some o0 ∧ o.ro = o0.ro ∧ o.fam = o0.fam ∧ (o = o0 ∨ (i ∈ A.members fam ∧ o = poisF coord o0)) ∧ (∀ csx ex fx bx rox, o = .row csx ex fx bx rox → ∃ csy, o0 = .row csy ex fx bx rox) := by
    intro i o hne hi
    rw [hn3, if_neg hne, hp3] at hi
    split at hi
    · rename_i hmemi
      cases h0 : A.get i with
      | none => rw [h0] at hi; cases hi
      | some o0 =>
        rw [h0] at hi
        simp only [Option.map_some, Option.some.injEq] at hi
        subst hi
        refine ⟨o0, rfl, by cases o0 <;> rfl, by cases o0 <;> rfl, .inr ⟨hmemi, rfl⟩, ?_⟩
        intro csx ex fx bx rox he
        cases o0 <;> simp [poisF] at he
        obtain ⟨_, rfl, rfl, rfl, rfl⟩ := he
        exact ⟨_, rfl⟩
    · exact ⟨o, hi, rfl, rfl, .inl rfl, fun csx ex fx bx rox he => ⟨csx, he⟩⟩
  have hblk := fun {i c0 d0 : Nat} {o : AO} (hi : A.get i = some o) (hmi : m i = some (c0, d0)) => r.blockLt hi hmi
  have hpoisRow : ∀ {dd : Nat} {csx : List Value} {bx : Nat} {rox : Bool} {cs1 : Array Value} {fr : Nat × Nat}, RowRel m dd csx rox cs1 fr → RowRel m dd (poisonFromL csx (coord - bx)) rox cs1 fr := by
    intro dd csx bx rox cs1 fr hr k x hk
    obtain ⟨u, hu, hx⟩ := poisonFromL_get hk
    obtain ⟨v', g1, g2, g3⟩ := hr k u hu
    refine ⟨v', g1, fun t => ?_, g3⟩
    rcases hx with ⟨_, rfl⟩ | ⟨_, rfl⟩
    · exact g2 t
    · simp [poison, isTuple] at t
  refine ⟨⟨hle, ⟨?_, ?_, ?_, ?_, ?_, ?_, ?_⟩, hsz, hos, htape, hout, hdr, ?_, ?_, by rw [hn2]; omega, fun i hi => Inj.ext_other (by omega)⟩, by rw [hp1]⟩
  · -- obj
    intro i o c0 d0 hi g1
    by_cases hne : i = A.next
    · subst hne
      rw [hn3, if_pos rfl] at hi
      cases hi
      obtain ⟨cs', fr, g1', g2, _⟩ := hnew
      rw [Inj.ext_self] at g1; cases g1
      exact ⟨_, g1', cs', fr, rfl, g2.mono hle⟩
    · rw [Inj.ext_other hne] at g1
      obtain ⟨o0, h0, hro, hff, hcs, _⟩ := hwas i o hne hi
      obtain ⟨o', g2, g3⟩ := r.obj i o0 c0 d0 h0 g1
      have hlt0 := hblk h0 g1
      by_cases hc0 : c0 = c
      · subst hc0
        rcases hcase with ⟨_, _, cs1, cs2, e1, fr, k1, k2, k3, k4⟩ | ⟨_, k1⟩
        · -- written in place
          rw [k1] at g2
          cases g2
          refine ⟨_, k2, ?_⟩
          have hal : i = ib ∨ ∃ f bi bj, o0.fam = some (f, bi) ∧ (AO.row csb e fam b0 false).fam = some (f, bj) ∧ d0 + bj = d + bi := by
            by_cases hii : i = ib
            · exact .inl hii
            · rcases r.sep i ib o0 _ c0 d0 d hii h0 hb g1 hm with ⟨_, h2⟩ | h2
              · simp [AO.ro] at h2
              · exact .inr h2
          have hrow : ∃ csx ex bx rox, o0 = .row csx ex fam bx rox ∧ d0 + b0 = d + bx := by
            rcases hal with rfl | ⟨f, bi, bj, q1, q2, q3⟩
            · rw [hb] at h0
              cases h0
              rw [hm] at g1
              cases g1
              exact ⟨csb, e, b0, false, rfl, rfl⟩
            · simp only [AO.fam, Option.some.injEq, Prod.mk.injEq] at q2
              obtain ⟨rfl, rfl⟩ := q2
              cases o0 with
              | row csx ex fx bx rox =>
                simp only [AO.fam, Option.some.injEq, Prod.mk.injEq] at q1
                obtain ⟨rfl, rfl⟩ := q1
                exact ⟨csx, ex, bx, rox, rfl, q3⟩
              | _ => simp [AO.fam] at q1
          obtain ⟨csx, ex, bx, rox, rfl, hbx⟩ := hrow
          have himem := (r.mem i _ fam bx h0 rfl).1
          obtain ⟨cs1', fr', he1, hrr⟩ := g3
          cases he1
          have ho : o = poisF coord (.row csx e1 fam bx rox) := by
            rw [hn3, if_neg hne, hp3, if_pos himem, h0] at hi
            simpa using hi.symm
          subst ho
          refine ⟨cs2, fr, rfl, fun k x hk => ?_⟩
          obtain ⟨u, hu, hx⟩ := poisonFromL_get hk
          obtain ⟨v', q1, q2, q3⟩ := hrr k u hu
          rcases hx with ⟨hkl, rfl⟩ | ⟨_, rfl⟩
          · exact ⟨v', by rw [k4 _ (by omega)]; exact q1, fun t => (q2 t).mono hle, q3⟩
          · have hks : d0 + k < cs2.size := by rw [k3]; exact (Array.getElem?_eq_some_iff.1 q1).1
            exact ⟨cs2[d0 + k], Array.getElem?_eq_getElem hks, (fun t => by simp [poison, isTuple] at t), q3⟩
        · refine ⟨o', by rw [k1 _ hlt0]; exact g2, ?_⟩
          rcases hcs with rfl | ⟨_, rfl⟩
          · exact g3.mono hle
          · cases o0 with
            | row csx ex fx bx rox =>
              obtain ⟨cs1', fr', he1, hrr⟩ := g3
              exact ⟨cs1', fr', he1, (hpoisRow hrr).mono hle⟩
            | _ => exact g3.mono hle
      · refine ⟨o', by rw [hkeep _ hlt0 hc0]; exact g2, ?_⟩
        rcases hcs with rfl | ⟨_, rfl⟩
        · exact g3.mono hle
        · cases o0 with
          | row csx ex fx bx rox =>
            obtain ⟨cs1', fr', he1, hrr⟩ := g3
            exact ⟨cs1', fr', he1, (hpoisRow hrr).mono hle⟩
          | _ => exact g3.mono hle
  · -- home
    intro i csx ex bx rox hi c0 d0 hmi
    by_cases hne : i = A.next
    · subst hne
      rw [hn3, if_pos rfl] at hi
      simp only [Option.some.injEq, AO.row.injEq] at hi
      obtain ⟨_, _, h3, _⟩ := hi
      omega
    · rw [Inj.ext_other hne] at hmi
      obtain ⟨o0, h0, _, _, _, hx⟩ := hwas i _ hne hi
      obtain ⟨csy, rfl⟩ := hx _ _ _ _ _ rfl
      exact r.home i csy ex bx rox h0 c0 d0 hmi
  · -- sep
    have hone : ∀ j oj c0 dj, j ≠ A.next → A'.get j = some oj → m j = some (c0, dj) → c0 = cn → ∃ f bj, oj.fam = some (f, bj) ∧ f = fam ∧ dn + bj = dj + (b0 + off) := by
      intro j oj c0 dj hne hj hmj hcc
      obtain ⟨o0, h0, _, hff, _, _⟩ := hwas j oj hne hj
      rw [hff]
      have hl := hblk h0 hmj
      rcases hcase with ⟨rfl, rfl, _⟩ | ⟨rfl, _⟩
      · subst hcc
        by_cases hji : j = ib
        · subst hji
          rw [hb] at h0
          cases h0
          rw [hm] at hmj
          cases hmj
          exact ⟨fam, b0, rfl, rfl, by omega⟩
        · rcases r.sep j ib o0 _ c0 dj d hji h0 hb hmj hm with ⟨_, h2⟩ | ⟨f, bi, bj, q1, q2, q3⟩
          · simp [AO.ro] at h2
          · simp only [AO.fam, Option.some.injEq, Prod.mk.injEq] at q2
            obtain ⟨rfl, rfl⟩ := q2
            exact ⟨_, bi, q1, rfl, by omega⟩
      · omega
    intro i j oi oj c0 di dj hij hi hj hmi hmj
    by_cases hni : i = A.next
    · subst hni
      rw [hn3, if_pos rfl] at hi
      cases hi
      rw [Inj.ext_self] at hmi
      cases hmi
      rw [Inj.ext_other (Ne.symm hij)] at hmj
      obtain ⟨f, bj, q1, rfl, q3⟩ := hone j oj _ dj (Ne.symm hij) hj hmj rfl
      exact .inr ⟨_, _, bj, rfl, q1, q3⟩
    · by_cases hnj : j = A.next
      · subst hnj
        rw [hn3, if_pos rfl] at hj
        cases hj
        rw [Inj.ext_self] at hmj
        cases hmj
        rw [Inj.ext_other hni] at hmi
        obtain ⟨f, bi, q1, rfl, q3⟩ := hone i oi _ di hni hi hmi rfl
        exact .inr ⟨_, bi, _, q1, rfl, by omega⟩
      · rw [Inj.ext_other hni] at hmi
        rw [Inj.ext_other hnj] at hmj
        obtain ⟨oi0, hi0, hir, hif, _⟩ := hwas i oi hni hi
        obtain ⟨oj0, hj0, hjr, hjf, _⟩ := hwas j oj hnj hj
        rw [hir, hjr, hif, hjf]
        exact r.sep i j oi0 oj0 c0 di dj hij hi0 hj0 hmi hmj
  · -- mem
    intro i o f b hi hfo
    have hmems : ∀ f, A'.members f = if f = fam then A.next :: A.members fam else A.members f := by
      intro f
      unfold AW.members
      rw [hn4]
      by_cases hff : f = fam
      · simp only [hff, if_true]
        rw [hmem1]
        rfl
      · simp only [hff, if_false, hp2]
    rw [hmems]
    by_cases hne : i = A.next
    · subst hne
      rw [hn3, if_pos rfl] at hi
      cases hi
      simp only [AO.fam, Option.some.injEq, Prod.mk.injEq] at hfo
      obtain ⟨rfl, _⟩ := hfo
      exact ⟨by simp, by omega⟩
    · obtain ⟨o0, h0, _, hff, _, _⟩ := hwas i o hne hi
      rw [hff] at hfo
      obtain ⟨h1, h2⟩ := r.mem i o0 f b h0 hfo
      refine ⟨?_, by omega⟩
      split
      · subst f; exact List.mem_cons_of_mem _ h1
      · exact h1
  · -- fresh
    intro i hi
    rw [hn2] at hi
    obtain ⟨h1, h2, h3⟩ := r.fresh i (by omega)
    refine ⟨?_, by rw [Inj.ext_other (by omega)]; exact h2, by rw [hn4, if_neg (by omega), hp2]; exact h3⟩
    rw [hn3, if_neg (by omega), hp3, h1]
    split <;> rfl
  · rw [hn2]; have := hn1; omega
  · -- room
    intro i csx ex fx bx rox c0 d0 hi hmi
    by_cases hne : i = A.next
    · subst hne
      rw [hn3, if_pos rfl] at hi
      simp only [Option.some.injEq, AO.row.injEq] at hi
      obtain ⟨rfl, rfl, rfl, rfl, rfl⟩ := hi
      rw [Inj.ext_self] at hmi
      cases hmi
      rw [Inj.ext_room, Inj.ext_el]
      obtain ⟨cs', fr, g1, _, g3, g4⟩ := hnew
      exact ⟨fun _ => rfl, cs', e, fr, g1, g3, fun _ => g4⟩
    · rw [Inj.ext_other hne] at hmi
      rw [Inj.ext_room_other hne, Inj.ext_el_other hne]
      obtain ⟨o0, h0, hro, _, _, hx⟩ := hwas i _ hne hi
      obtain ⟨csy, rfl⟩ := hx _ _ _ _ _ rfl
      obtain ⟨g1, cs1, e1, fr1, g2, g3, g4⟩ := r.room i csy ex fx bx rox c0 d0 h0 hmi
      refine ⟨g1, ?_⟩
      have hlt0 := hblk h0 hmi
      by_cases hc0 : c0 = c
      · subst hc0
        rcases hcase with ⟨_, _, cs1', cs2, e1', fr, k1, k2, k3, _⟩ | ⟨_, k1⟩
        · rw [k1] at g2
          cases g2
          exact ⟨cs2, _, _, k2, by omega, g4⟩
        · exact ⟨cs1, e1, fr1, by rw [k1 _ hlt0]; exact g2, g3, g4⟩
      · exact ⟨cs1, e1, fr1, by rw [hkeep _ hlt0 hc0]; exact g2, g3, g4⟩
  · -- keep
    intro b hbl hno
    by_cases hbc : b = c
    · subst hbc
      exact absurd ⟨ib, _, d, hb, rfl, hm⟩ hno
    · exact hkeep b hbl hbc
  · -- own
    rintro b hbl ⟨i, o, d0, hi, hro, hmi⟩
    by_cases hne : i = A.next
    · subst hne
      rw [Inj.ext_self] at hmi
      simp only [Option.some.injEq, Prod.mk.injEq] at hmi
      obtain ⟨rfl, rfl⟩ := hmi
      rcases hcase with ⟨rfl, _⟩ | ⟨rfl, _⟩
      · exact ⟨ib, _, d, hb, rfl, hm⟩
      · omega
    · rw [Inj.ext_other hne] at hmi
      obtain ⟨o0, h0, hr0, _⟩ := hwas i o hne hi
      exact ⟨i, o0, d0, h0, by rw [← hr0]; exact hro, hmi⟩

end
end Go.Abs
