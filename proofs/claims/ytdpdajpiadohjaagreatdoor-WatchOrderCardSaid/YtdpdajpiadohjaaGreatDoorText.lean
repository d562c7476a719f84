/-
  What each function that the statement reaches asks, so that its answer is as is wanted: printed by a program of ours. Conditions: none.
-/
import Derived.Test.YtdpdajpiadohjaaGreatDoorAbsI
import Derived.Test.YtdpdajpiadohjaaGreatDoorAbsG
import Derived.Test.YtdpdajpiadohjaaGreatDoorProg
import Derived.KernelRfl

set_option maxRecDepth 100000
namespace Go.Proofs.YtdpdajpiadohjaaGreatDoor
open Go.Abs

def theX : XNames := { clone := [], noEscape := [], noZero := [], known := [7, 54] }
/-- the part of a code that a path leads to -/
def sub : Code → List Nat → Code
  | c, [] => c
  | .seq a _, 0 :: p => sub a p
  | .seq _ b, _ :: p => sub b p
  | .cond _ a _, 0 :: p => sub a p
  | .cond _ _ b, _ :: p => sub b p
  | .block _ b, _ :: p => sub b p
  | .loop b, _ :: p => sub b p
  | .rangeFunc _ _ a _, 0 :: p => sub a p
  | .rangeFunc _ _ _ b, _ :: p => sub b p
  | .scope b, _ :: p => sub b p
  | c, _ => c
noncomputable def cd (f : FuncId) (p : List Nat) : Code := match Tryz.prog.funcs[f]? with
  | some fn => (match fn.body with | some c => sub c p | none => .skip)
  | none => .skip
theorem gX : XOk Tryz.prog theX := ⟨fun f h => by simp [theX, memN] at h, fun f h => by simp [theX, memN] at h, fun f h => by simp [theX, memN] at h⟩
theorem gP : POk Tryz.prog := pok_of (by kernel_rfl) (by kernel_rfl)
theorem gPlain : Plain theX := ⟨rfl, rfl, rfl⟩
def Wf0 (f sz : Nat) (T : Nat → List Item) (L : Nat → List Tmp) : Prop := ∀ {W0 : World} {m0 : Inj Tryz.prog} {S : Nat → List Value → AW → Prop} {Q : Value → AW → Prop} (A : AW), Cuts Tryz.prog theX W0 m0 f T L S Q sz → wpgo Tryz.prog theX W0 m0 f T L S Q none 4000 (Tm.fill ⟨sz, .nil⟩ 0 []) [.code (cd f [])] false 0 0 0 [] A → Wc Tryz.prog theX W0 m0 f [] A Q
theorem wf0 {f sz : Nat} {T : Nat → List Item} {L : Nat → List Tmp} (n : enterA Tryz.prog f [] .normal = some (frM f (Tm.fill ⟨sz, .nil⟩ 0 []) [.code (cd f [])] false)) (hs : sz < maxId) (hz : (Tm.fill ⟨sz, .nil⟩ 0 []).sz = sz) : Wf0 f sz T L := fun _ hc h => wc_of gX gP gPlain hs hc (n) (hz) h
def Wf1 (f sz : Nat) (T : Nat → List Item) (L : Nat → List Tmp) : Prop := ∀ {W0 : World} {m0 : Inj Tryz.prog} {S : Nat → List Value → AW → Prop} {Q : Value → AW → Prop} (a0 : Value) (A : AW), Cuts Tryz.prog theX W0 m0 f T L S Q sz → wpgo Tryz.prog theX W0 m0 f T L S Q none 4000 (Tm.fill ⟨sz, .nil⟩ 0 [a0]) [.code (cd f [])] false 0 0 0 [] A → Wc Tryz.prog theX W0 m0 f [a0] A Q
theorem wf1 {f sz : Nat} {T : Nat → List Item} {L : Nat → List Tmp} (n : ∀ (a0 : Value), enterA Tryz.prog f [a0] .normal = some (frM f (Tm.fill ⟨sz, .nil⟩ 0 [a0]) [.code (cd f [])] false)) (hs : sz < maxId) (hz : ∀ (a0 : Value), (Tm.fill ⟨sz, .nil⟩ 0 [a0]).sz = sz) : Wf1 f sz T L := fun a0 _ hc h => wc_of gX gP gPlain hs hc (n a0) (hz a0) h
def Wf2 (f sz : Nat) (T : Nat → List Item) (L : Nat → List Tmp) : Prop := ∀ {W0 : World} {m0 : Inj Tryz.prog} {S : Nat → List Value → AW → Prop} {Q : Value → AW → Prop} (a0 a1 : Value) (A : AW), Cuts Tryz.prog theX W0 m0 f T L S Q sz → wpgo Tryz.prog theX W0 m0 f T L S Q none 4000 (Tm.fill ⟨sz, .nil⟩ 0 [a0, a1]) [.code (cd f [])] false 0 0 0 [] A → Wc Tryz.prog theX W0 m0 f [a0, a1] A Q
theorem wf2 {f sz : Nat} {T : Nat → List Item} {L : Nat → List Tmp} (n : ∀ (a0 a1 : Value), enterA Tryz.prog f [a0, a1] .normal = some (frM f (Tm.fill ⟨sz, .nil⟩ 0 [a0, a1]) [.code (cd f [])] false)) (hs : sz < maxId) (hz : ∀ (a0 a1 : Value), (Tm.fill ⟨sz, .nil⟩ 0 [a0, a1]).sz = sz) : Wf2 f sz T L := fun a0 a1 _ hc h => wc_of gX gP gPlain hs hc (n a0 a1) (hz a0 a1) h
def Wf3 (f sz : Nat) (T : Nat → List Item) (L : Nat → List Tmp) : Prop := ∀ {W0 : World} {m0 : Inj Tryz.prog} {S : Nat → List Value → AW → Prop} {Q : Value → AW → Prop} (a0 a1 a2 : Value) (A : AW), Cuts Tryz.prog theX W0 m0 f T L S Q sz → wpgo Tryz.prog theX W0 m0 f T L S Q none 4000 (Tm.fill ⟨sz, .nil⟩ 0 [a0, a1, a2]) [.code (cd f [])] false 0 0 0 [] A → Wc Tryz.prog theX W0 m0 f [a0, a1, a2] A Q
theorem wf3 {f sz : Nat} {T : Nat → List Item} {L : Nat → List Tmp} (n : ∀ (a0 a1 a2 : Value), enterA Tryz.prog f [a0, a1, a2] .normal = some (frM f (Tm.fill ⟨sz, .nil⟩ 0 [a0, a1, a2]) [.code (cd f [])] false)) (hs : sz < maxId) (hz : ∀ (a0 a1 a2 : Value), (Tm.fill ⟨sz, .nil⟩ 0 [a0, a1, a2]).sz = sz) : Wf3 f sz T L := fun a0 a1 a2 _ hc h => wc_of gX gP gPlain hs hc (n a0 a1 a2) (hz a0 a1 a2) h
def Wf4 (f sz : Nat) (T : Nat → List Item) (L : Nat → List Tmp) : Prop := ∀ {W0 : World} {m0 : Inj Tryz.prog} {S : Nat → List Value → AW → Prop} {Q : Value → AW → Prop} (a0 a1 a2 a3 : Value) (A : AW), Cuts Tryz.prog theX W0 m0 f T L S Q sz → wpgo Tryz.prog theX W0 m0 f T L S Q none 4000 (Tm.fill ⟨sz, .nil⟩ 0 [a0, a1, a2, a3]) [.code (cd f [])] false 0 0 0 [] A → Wc Tryz.prog theX W0 m0 f [a0, a1, a2, a3] A Q
theorem wf4 {f sz : Nat} {T : Nat → List Item} {L : Nat → List Tmp} (n : ∀ (a0 a1 a2 a3 : Value), enterA Tryz.prog f [a0, a1, a2, a3] .normal = some (frM f (Tm.fill ⟨sz, .nil⟩ 0 [a0, a1, a2, a3]) [.code (cd f [])] false)) (hs : sz < maxId) (hz : ∀ (a0 a1 a2 a3 : Value), (Tm.fill ⟨sz, .nil⟩ 0 [a0, a1, a2, a3]).sz = sz) : Wf4 f sz T L := fun a0 a1 a2 a3 _ hc h => wc_of gX gP gPlain hs hc (n a0 a1 a2 a3) (hz a0 a1 a2 a3) h
def Wf5 (f sz : Nat) (T : Nat → List Item) (L : Nat → List Tmp) : Prop := ∀ {W0 : World} {m0 : Inj Tryz.prog} {S : Nat → List Value → AW → Prop} {Q : Value → AW → Prop} (a0 a1 a2 a3 a4 : Value) (A : AW), Cuts Tryz.prog theX W0 m0 f T L S Q sz → wpgo Tryz.prog theX W0 m0 f T L S Q none 4000 (Tm.fill ⟨sz, .nil⟩ 0 [a0, a1, a2, a3, a4]) [.code (cd f [])] false 0 0 0 [] A → Wc Tryz.prog theX W0 m0 f [a0, a1, a2, a3, a4] A Q
theorem wf5 {f sz : Nat} {T : Nat → List Item} {L : Nat → List Tmp} (n : ∀ (a0 a1 a2 a3 a4 : Value), enterA Tryz.prog f [a0, a1, a2, a3, a4] .normal = some (frM f (Tm.fill ⟨sz, .nil⟩ 0 [a0, a1, a2, a3, a4]) [.code (cd f [])] false)) (hs : sz < maxId) (hz : ∀ (a0 a1 a2 a3 a4 : Value), (Tm.fill ⟨sz, .nil⟩ 0 [a0, a1, a2, a3, a4]).sz = sz) : Wf5 f sz T L := fun a0 a1 a2 a3 a4 _ hc h => wc_of gX gP gPlain hs hc (n a0 a1 a2 a3 a4) (hz a0 a1 a2 a3 a4) h
def Cutf (f sz : Nat) (T : Nat → List Item) (L : Nat → List Tmp) : Prop := ∀ {W0 : World} {m0 : Inj Tryz.prog} {Q : Value → AW → Prop} {I : Nat → Nat → List Value → AW → Prop}, (∀ g id vals A d, I g id vals A → (L id).map d = vals → wpgo Tryz.prog theX W0 m0 f T L (fun id v A => ∃ g2, g2 < g ∧ I g2 id v A) Q none 4000 (tmOf sz d) (T id) false 0 0 0 [] A) → Cuts Tryz.prog theX W0 m0 f T L (fun id v A => ∃ g, I g id v A) Q sz
theorem cutf {f sz : Nat} {T : Nat → List Item} {L : Nat → List Tmp} (hs : sz < maxId) : Cutf f sz T L := fun h => cuts_of gX gP gPlain hs h

/-! posthouse/posthouselaw30.WatchTallies -/
noncomputable def T3 : Nat → List Item := fun i => match i with
  | _ => []
def L3 : Nat → List Tmp := fun i => match i with
  | _ => []
theorem e3 (W0 : World) (m0 : Inj Tryz.prog) (S : Nat → List Value → AW → Prop) (Q : Value → AW → Prop) (a0 : Value) (A : AW) : wpgo Tryz.prog theX W0 m0 3 T3 L3 S Q none 4000 (Tm.fill ⟨29, .nil⟩ 0 [a0]) [.code (cd 3 [])] false 0 0 0 [] A = (pureW (lenA Tryz.prog A 22 a0) fun t0 => pureW (binA Tryz.prog .gtr 3 (.tmp 4) (.const (.int .i64 60)) t0 (.int .i64 60)) fun t1 => forkW t1 (knW Tryz.prog W0 m0 7 [] A fun t2 At2 => Q t2 At2) (Wc Tryz.prog theX W0 m0 9 [a0] A fun t3 At3 => Wc Tryz.prog theX W0 m0 10 [a0] At3 fun t4 At4 => Wc Tryz.prog theX W0 m0 8 [t3, t4] At4 fun t5 At5 => forkW t5 (Wc Tryz.prog theX W0 m0 12 [a0] At5 fun t6 At6 => Wc Tryz.prog theX W0 m0 13 [a0, (.bool false)] At6 fun t7 At7 => Wc Tryz.prog theX W0 m0 11 [t6, t7] At7 fun t8 At8 => forkW t8 (Wc Tryz.prog theX W0 m0 14 [a0] At8 fun t9 At9 => Wc Tryz.prog theX W0 m0 13 [a0, (.bool true)] At9 fun t10 At10 => Wc Tryz.prog theX W0 m0 11 [t9, t10] At10 fun t11 At11 => forkW t11 (knW Tryz.prog W0 m0 7 [] At11 fun t12 At12 => Q t12 At12) (Q (.bool false) At11)) (Q (.bool false) At8)) (Q (.bool false) At5))) := by kernel_rfl
theorem n3 (a0 : Value) : enterA Tryz.prog 3 [a0] .normal = some (frM 3 (Tm.fill ⟨29, .nil⟩ 0 [a0]) [.code (cd 3 [])] false) := by kernel_rfl
theorem w3 : Wf1 3 29 T3 L3 := wf1 n3 (by decide) fun _ => rfl

/-! posthouse/posthouselaw30.WatchOrder -/
noncomputable def T5 : Nat → List Item := fun i => match i with
  | 0 => [(.code (cd 5 [1, 1, 1, 1, 1, 1, 0, 1, 0, 0])), (.inLoop (cd 5 [1, 1, 1, 1, 1, 1, 0, 1, 0, 0])), (.inBlock 0), (.code (cd 5 [1, 1, 1, 1, 1, 1, 1]))]
  | 2 => [(.code (cd 5 [1, 1, 1, 1, 1, 1, 0, 1, 0, 0, 1, 0, 0, 1, 0, 1, 0, 0])), (.inLoop (cd 5 [1, 1, 1, 1, 1, 1, 0, 1, 0, 0, 1, 0, 0, 1, 0, 1, 0, 0])), (.inBlock 2), (.code (cd 5 [1, 1, 1, 1, 1, 1, 0, 1, 0, 0, 1, 0, 0, 1, 1])), (.inBlock 1), (.code (cd 5 [1, 1, 1, 1, 1, 1, 0, 1, 0, 0, 1, 1])), (.inLoop (cd 5 [1, 1, 1, 1, 1, 1, 0, 1, 0, 0])), (.inBlock 0), (.code (cd 5 [1, 1, 1, 1, 1, 1, 1]))]
  | 4 => [(.code (cd 5 [1, 1, 1, 1, 1, 1, 1, 1, 0, 1, 0, 0])), (.inLoop (cd 5 [1, 1, 1, 1, 1, 1, 1, 1, 0, 1, 0, 0])), (.inBlock 4), (.code (cd 5 [1, 1, 1, 1, 1, 1, 1, 1, 1]))]
  | _ => []
def L5 : Nat → List Tmp := fun i => match i with
  | 0 => [0, 5, 7, 8, 9]
  | 2 => [0, 5, 7, 8, 9, 10, 11]
  | 4 => [5, 12, 13]
  | _ => []
theorem e5 (W0 : World) (m0 : Inj Tryz.prog) (S : Nat → List Value → AW → Prop) (Q : Value → AW → Prop) (a0 a1 : Value) (A : AW) : wpgo Tryz.prog theX W0 m0 5 T5 L5 S Q none 4000 (Tm.fill ⟨127, .nil⟩ 0 [a0, a1]) [.code (cd 5 [])] false 0 0 0 [] A = (pureW (lenA Tryz.prog A 22 a0) fun t0 => pureW (lenA Tryz.prog A 22 a1) fun t1 => pureW (binA Tryz.prog .add 3 (.tmp 15) (.tmp 17) t0 t1) fun t2 => pureW (binA Tryz.prog .gtr 3 (.tmp 18) (.const (.int .i64 60)) t2 (.int .i64 60)) fun t3 => forkW t3 (knW Tryz.prog W0 m0 7 [] A fun t4 At4 => Q t4 At4) (bothW (appendA Tryz.prog A 22 22 (.slice none 0 0) a0) fun t5 At5 => bothW (appendA Tryz.prog At5 22 22 t5 a1) fun t6 At6 => bothW (appendA Tryz.prog At6 22 22 (.slice none 0 0) a1) fun t7 At7 => bothW (appendA Tryz.prog At7 22 22 t7 a0) fun t8 At8 => Wc Tryz.prog theX W0 m0 9 [a0] At8 fun t9 At9 => Wc Tryz.prog theX W0 m0 9 [t6] At9 fun t10 At10 => Wc Tryz.prog theX W0 m0 9 [t8] At10 fun t11 At11 => Wc Tryz.prog theX W0 m0 8 [t10, t11] At11 fun t12 At12 => pureW (unA Tryz.prog .not t12) fun t13 => forkW t13 (Q (.bool false) At12) (Wc Tryz.prog theX W0 m0 12 [t6] At12 fun t14 At14 => Wc Tryz.prog theX W0 m0 12 [t8] At14 fun t15 At15 => Wc Tryz.prog theX W0 m0 11 [t14, t15] At15 fun t16 At16 => pureW (unA Tryz.prog .not t16) fun t17 => forkW t17 (Q (.bool false) At16) (cutW (T5 0) (T5 0) (S 0 [a0, t6, t9, t10, (.int .i64 0)] At16))))) := by kernel_rfl
theorem l5_0 (W0 : World) (m0 : Inj Tryz.prog) (S : Nat → List Value → AW → Prop) (Q : Value → AW → Prop) (d : Nat → Value) (A : AW) : wpgo Tryz.prog theX W0 m0 5 T5 L5 S Q none 4000 (tmOf 127 d) (T5 0) false 0 0 0 [] A = (pureW (lenA Tryz.prog A 25 (d 7)) fun t0 => pureW (binA Tryz.prog .lss 3 (.tmp 46) (.tmp 48) (d 9) t0) fun t1 => forkW t1 (cutW (T5 2) (T5 2) (S 2 [(d 0), (d 5), (d 7), (d 8), (d 9), (.bool false), (.int .i64 0)] A)) (Wc Tryz.prog theX W0 m0 12 [(d 0)] A fun t2 At2 => cutW (T5 4) (T5 4) (S 4 [(d 5), t2, (.int .i64 0)] At2))) := by kernel_rfl
theorem l5_2 (W0 : World) (m0 : Inj Tryz.prog) (S : Nat → List Value → AW → Prop) (Q : Value → AW → Prop) (d : Nat → Value) (A : AW) : wpgo Tryz.prog theX W0 m0 5 T5 L5 S Q none 4000 (tmOf 127 d) (T5 2) false 0 0 0 [] A = (pureW (lenA Tryz.prog A 25 (d 8)) fun t0 => pureW (binA Tryz.prog .lss 3 (.tmp 52) (.tmp 54) (d 11) t0) fun t1 => forkW t1 (forkW (d 10) (pureW (binA Tryz.prog .add 3 (.tmp 56) (.const (.int .i64 1)) (d 11) (.int .i64 1)) fun t2 => cutW (T5 2) (T5 2) (S 2 [(d 0), (d 5), (d 7), (d 8), (d 9), (.bool true), t2] A)) (pureW (indexAddrA Tryz.prog 25 (d 8) (d 11)) fun t3 => pureW (fieldAddrA Tryz.prog 48 t3 0) fun t4 => pureW (loadP Tryz.prog A 46 t4) fun t5 => pureW (indexAddrA Tryz.prog 25 (d 7) (d 9)) fun t6 => pureW (fieldAddrA Tryz.prog 48 t6 0) fun t7 => pureW (loadP Tryz.prog A 46 t7) fun t8 => pureW (binA Tryz.prog .eql 46 (.tmp 64) (.tmp 69) t5 t8) fun t9 => forkW t9 (pureW (indexAddrA Tryz.prog 25 (d 8) (d 11)) fun t10 => pureW (fieldAddrA Tryz.prog 48 t10 1) fun t11 => pureW (loadP Tryz.prog A 3 t11) fun t12 => pureW (indexAddrA Tryz.prog 25 (d 7) (d 9)) fun t13 => pureW (fieldAddrA Tryz.prog 48 t13 1) fun t14 => pureW (loadP Tryz.prog A 3 t14) fun t15 => pureW (binA Tryz.prog .geq 3 (.tmp 76) (.tmp 81) t12 t15) fun t16 => forkW t16 (pureW (indexAddrA Tryz.prog 25 (d 8) (d 11)) fun t17 => pureW (fieldAddrA Tryz.prog 48 t17 2) fun t18 => pureW (loadP Tryz.prog A 3 t18) fun t19 => pureW (indexAddrA Tryz.prog 25 (d 7) (d 9)) fun t20 => pureW (fieldAddrA Tryz.prog 48 t20 2) fun t21 => pureW (loadP Tryz.prog A 3 t21) fun t22 => pureW (binA Tryz.prog .geq 3 (.tmp 89) (.tmp 94) t19 t22) fun t23 => pureW (binA Tryz.prog .add 3 (.tmp 56) (.const (.int .i64 1)) (d 11) (.int .i64 1)) fun t24 => cutW (T5 2) (T5 2) (S 2 [(d 0), (d 5), (d 7), (d 8), (d 9), t23, t24] A)) (pureW (binA Tryz.prog .add 3 (.tmp 56) (.const (.int .i64 1)) (d 11) (.int .i64 1)) fun t25 => cutW (T5 2) (T5 2) (S 2 [(d 0), (d 5), (d 7), (d 8), (d 9), (.bool false), t25] A))) (pureW (binA Tryz.prog .add 3 (.tmp 56) (.const (.int .i64 1)) (d 11) (.int .i64 1)) fun t26 => cutW (T5 2) (T5 2) (S 2 [(d 0), (d 5), (d 7), (d 8), (d 9), (.bool false), t26] A)))) (pureW (unA Tryz.prog .not (d 10)) fun t27 => forkW t27 (Q (.bool false) A) (pureW (binA Tryz.prog .add 3 (.tmp 50) (.const (.int .i64 1)) (d 9) (.int .i64 1)) fun t28 => cutW (T5 0) (T5 0) (S 0 [(d 0), (d 5), (d 7), (d 8), t28] A)))) := by kernel_rfl
theorem l5_4 (W0 : World) (m0 : Inj Tryz.prog) (S : Nat → List Value → AW → Prop) (Q : Value → AW → Prop) (d : Nat → Value) (A : AW) : wpgo Tryz.prog theX W0 m0 5 T5 L5 S Q none 4000 (tmOf 127 d) (T5 4) false 0 0 0 [] A = (pureW (lenA Tryz.prog A 28 (d 12)) fun t0 => pureW (binA Tryz.prog .lss 3 (.tmp 102) (.tmp 104) (d 13) t0) fun t1 => forkW t1 (pureW (indexAddrA Tryz.prog 28 (d 12) (d 13)) fun t2 => pureW (loadP Tryz.prog A 46 t2) fun t3 => Wc Tryz.prog theX W0 m0 12 [(d 5)] A fun t4 At4 => pureW (loadP Tryz.prog At4 46 t2) fun t5 => eqW t5 t3 (pureW (indexAddrA Tryz.prog 28 (d 12) (d 13)) fun t6 => eqW t6 t2 (eqW (d 13) (d 13) (eqW (d 12) (d 12) (Wc Tryz.prog theX W0 m0 18 [t4, t3] At4 fun t7 At7 => pureW (unA Tryz.prog .not t7) fun t8 => forkW t8 (pureW (indexAddrA Tryz.prog 28 (d 12) (d 13)) fun t9 => pureW (loadP Tryz.prog At7 46 t9) fun t10 => Wc Tryz.prog theX W0 m0 14 [(d 5)] At7 fun t11 At11 => pureW (loadP Tryz.prog At11 46 t9) fun t12 => eqW t12 t10 (pureW (indexAddrA Tryz.prog 28 (d 12) (d 13)) fun t13 => eqW t13 t9 (eqW (d 13) (d 13) (eqW (d 12) (d 12) (Wc Tryz.prog theX W0 m0 18 [t11, t10] At11 fun t14 At14 => pureW (unA Tryz.prog .not t14) fun t15 => forkW t15 (Q (.bool false) At14) (pureW (binA Tryz.prog .add 3 (.tmp 106) (.const (.int .i64 1)) (d 13) (.int .i64 1)) fun t16 => cutW (T5 4) (T5 4) (S 4 [(d 5), (d 12), t16] At14))))))) (eqW undef undef (eqW undef undef (eqW undef undef (eqW undef undef (pureW (binA Tryz.prog .add 3 (.tmp 106) (.const (.int .i64 1)) (d 13) (.int .i64 1)) fun t17 => cutW (T5 4) (T5 4) (S 4 [(d 5), (d 12), t17] At7))))))))))) (knW Tryz.prog W0 m0 7 [] A fun t18 At18 => Q t18 At18)) := by kernel_rfl
theorem n5 (a0 a1 : Value) : enterA Tryz.prog 5 [a0, a1] .normal = some (frM 5 (Tm.fill ⟨127, .nil⟩ 0 [a0, a1]) [.code (cd 5 [])] false) := by kernel_rfl
theorem w5 : Wf2 5 127 T5 L5 := wf2 n5 (by decide) fun _ _ => rfl
theorem c5 : Cutf 5 127 T5 L5 := cutf (by decide)

/-! posthouse/posthouselaw30.same -/
noncomputable def T8 : Nat → List Item := fun i => match i with
  | 0 => [(.code (cd 8 [1, 1, 0, 1, 0, 0])), (.inLoop (cd 8 [1, 1, 0, 1, 0, 0])), (.inBlock 0), (.code (cd 8 [1, 1, 1]))]
  | _ => []
def L8 : Nat → List Tmp := fun i => match i with
  | 0 => [0, 1, 5]
  | _ => []
theorem e8 (W0 : World) (m0 : Inj Tryz.prog) (S : Nat → List Value → AW → Prop) (Q : Value → AW → Prop) (a0 a1 : Value) (A : AW) : wpgo Tryz.prog theX W0 m0 8 T8 L8 S Q none 4000 (Tm.fill ⟨26, .nil⟩ 0 [a0, a1]) [.code (cd 8 [])] false 0 0 0 [] A = (pureW (lenA Tryz.prog A 25 a0) fun t0 => pureW (lenA Tryz.prog A 25 a1) fun t1 => pureW (binA Tryz.prog .neq 3 (.tmp 7) (.tmp 9) t0 t1) fun t2 => forkW t2 (Q (.bool false) A) (cutW (T8 0) (T8 0) (S 0 [a0, a1, (.int .i64 0)] A))) := by kernel_rfl
theorem l8_0 (W0 : World) (m0 : Inj Tryz.prog) (S : Nat → List Value → AW → Prop) (Q : Value → AW → Prop) (d : Nat → Value) (A : AW) : wpgo Tryz.prog theX W0 m0 8 T8 L8 S Q none 4000 (tmOf 26 d) (T8 0) false 0 0 0 [] A = (pureW (lenA Tryz.prog A 25 (d 0)) fun t0 => pureW (binA Tryz.prog .lss 3 (.tmp 11) (.tmp 13) (d 5) t0) fun t1 => forkW t1 (pureW (indexAddrA Tryz.prog 25 (d 0) (d 5)) fun t2 => pureW (loadP Tryz.prog A 48 t2) fun t3 => pureW (indexAddrA Tryz.prog 25 (d 1) (d 5)) fun t4 => pureW (loadP Tryz.prog A 48 t4) fun t5 => pureW (binA Tryz.prog .neq 48 (.tmp 20) (.tmp 24) t3 t5) fun t6 => forkW t6 (Q (.bool false) A) (pureW (binA Tryz.prog .add 3 (.tmp 15) (.const (.int .i64 1)) (d 5) (.int .i64 1)) fun t7 => cutW (T8 0) (T8 0) (S 0 [(d 0), (d 1), t7] A))) (Q (.bool true) A)) := by kernel_rfl
theorem n8 (a0 a1 : Value) : enterA Tryz.prog 8 [a0, a1] .normal = some (frM 8 (Tm.fill ⟨26, .nil⟩ 0 [a0, a1]) [.code (cd 8 [])] false) := by kernel_rfl
theorem w8 : Wf2 8 26 T8 L8 := wf2 n8 (by decide) fun _ _ => rfl
theorem c8 : Cutf 8 26 T8 L8 := cutf (by decide)

/-! posthouse/watch.Tally -/
noncomputable def T9 : Nat → List Item := fun i => match i with
  | 0 => [(.code (cd 9 [1, 1, 0, 1, 0, 0])), (.inLoop (cd 9 [1, 1, 0, 1, 0, 0])), (.inBlock 0), (.code (cd 9 [1, 1, 1]))]
  | 2 => [(.code (cd 9 [1, 1, 1, 1, 0, 1, 0, 0])), (.inLoop (cd 9 [1, 1, 1, 1, 0, 1, 0, 0])), (.inBlock 2), (.code (cd 9 [1, 1, 1, 1, 1]))]
  | _ => []
def L9 : Nat → List Tmp := fun i => match i with
  | 0 => [3, 11, 12, 13]
  | 2 => [3, 7, 46, 47, 48]
  | _ => []
theorem e9 (W0 : World) (m0 : Inj Tryz.prog) (S : Nat → List Value → AW → Prop) (Q : Value → AW → Prop) (a0 : Value) (A : AW) : wpgo Tryz.prog theX W0 m0 9 T9 L9 S Q none 4000 (Tm.fill ⟨60, .nil⟩ 0 [a0]) [.code (cd 9 [])] false 0 0 0 [] A = (bothW (newMapP A) fun t0 At0 => pureW (lenA Tryz.prog At0 22 a0) fun t1 => cutW (T9 0) (T9 0) (S 0 [t0, a0, t1, (.int .i64 0)] At0)) := by kernel_rfl
theorem l9_0 (W0 : World) (m0 : Inj Tryz.prog) (S : Nat → List Value → AW → Prop) (Q : Value → AW → Prop) (d : Nat → Value) (A : AW) : wpgo Tryz.prog theX W0 m0 9 T9 L9 S Q none 4000 (tmOf 60 d) (T9 0) false 0 0 0 [] A = (pureW (binA Tryz.prog .lss 3 (.tmp 13) (.tmp 12) (d 13) (d 12)) fun t0 => forkW t0 (pureW (indexAddrA Tryz.prog 22 (d 11) (d 13)) fun t1 => pureW (loadP Tryz.prog A 56 t1) fun t2 => bothW (allocP Tryz.prog A 56) fun t3 At3 => effW (storeP Tryz.prog At3 56 t3 t2) fun At4 => pureW (fieldAddrA Tryz.prog 56 t3 2) fun t5 => pureW (loadP Tryz.prog At4 5 t5) fun t6 => pureW (binA Tryz.prog .lss 5 (.tmp 18) (.const (.int .u8 1)) t6 (.int .u8 1)) fun t7 => forkW t7 (pureW (binA Tryz.prog .add 3 (.tmp 13) (.const (.int .i64 1)) (d 13) (.int .i64 1)) fun t8 => cutW (T9 0) (T9 0) (S 0 [(d 3), (d 11), (d 12), t8] At4)) (pureW (fieldAddrA Tryz.prog 56 t3 2) fun t9 => pureW (loadP Tryz.prog At4 5 t9) fun t10 => pureW (binA Tryz.prog .gtr 5 (.tmp 22) (.const (.int .u8 5)) t10 (.int .u8 5)) fun t11 => forkW t11 (pureW (binA Tryz.prog .add 3 (.tmp 13) (.const (.int .i64 1)) (d 13) (.int .i64 1)) fun t12 => cutW (T9 0) (T9 0) (S 0 [(d 3), (d 11), (d 12), t12] At4)) (pureW (fieldAddrA Tryz.prog 56 t3 1) fun t13 => pureW (loadP Tryz.prog At4 46 t13) fun t14 => Wc Tryz.prog theX W0 m0 23 [t14] At4 fun t15 At15 => pureW (lookupA Tryz.prog At15 57 (d 3) t15 false) fun t16 => bothW (allocP Tryz.prog At15 58) fun t17 At17 => effW (storeP Tryz.prog At17 58 t17 t16) fun At18 => pureW (fieldAddrA Tryz.prog 56 t3 1) fun t19 => pureW (loadP Tryz.prog At18 46 t19) fun t20 => Wc Tryz.prog theX W0 m0 23 [t20] At18 fun t21 At21 => pureW (fieldAddrA Tryz.prog 58 t17 0) fun t22 => effW (storeP Tryz.prog At21 46 t22 t21) fun At23 => pureW (fieldAddrA Tryz.prog 56 t3 2) fun t24 => pureW (loadP Tryz.prog At23 5 t24) fun t25 => Wc Tryz.prog theX W0 m0 24 [] At23 fun t26 At26 => pureW (loadP Tryz.prog At26 5 t24) fun t27 => eqW t27 t25 (pureW (fieldAddrA Tryz.prog 56 t3 2) fun t28 => eqW t28 t24 (pureW (indexA Tryz.prog 61 t26 t25) fun t29 => anW Tryz.prog theX W0 m0 (dynA Tryz.prog theX At26 t29 [t17]) fun t30 At30 => pureW (fieldAddrA Tryz.prog 58 t17 0) fun t31 => pureW (loadP Tryz.prog At30 46 t31) fun t32 => pureW (loadP Tryz.prog At30 58 t17) fun t33 => effW (mapUpdateA Tryz.prog At30 57 (d 3) t32 t33) fun At34 => pureW (binA Tryz.prog .add 3 (.tmp 13) (.const (.int .i64 1)) (d 13) (.int .i64 1)) fun t35 => cutW (T9 0) (T9 0) (S 0 [(d 3), (d 11), (d 12), t35] At34)))))) (Wc Tryz.prog theX W0 m0 26 [(d 3)] A fun t36 At36 => Wc Tryz.prog theX W0 m0 25 [t36, (.func (.func 27) #[] #[])] At36 fun t37 At37 => pureW (lenA Tryz.prog At37 28 t37) fun t38 => cutW (T9 2) (T9 2) (S 2 [(d 3), (.slice none 0 0), t37, t38, (.int .i64 0)] At37))) := by kernel_rfl
theorem l9_2 (W0 : World) (m0 : Inj Tryz.prog) (S : Nat → List Value → AW → Prop) (Q : Value → AW → Prop) (d : Nat → Value) (A : AW) : wpgo Tryz.prog theX W0 m0 9 T9 L9 S Q none 4000 (tmOf 60 d) (T9 2) false 0 0 0 [] A = (pureW (binA Tryz.prog .lss 3 (.tmp 48) (.tmp 47) (d 48) (d 47)) fun t0 => forkW t0 (pureW (indexAddrA Tryz.prog 28 (d 46) (d 48)) fun t1 => pureW (loadP Tryz.prog A 46 t1) fun t2 => bothW (allocP Tryz.prog A 46) fun t3 At3 => effW (storeP Tryz.prog At3 46 t3 t2) fun At4 => pureW (loadP Tryz.prog At4 46 t3) fun t5 => pureW (lookupA Tryz.prog At4 57 (d 3) t5 false) fun t6 => bothW (buildSliceA Tryz.prog At4 25 1 [(0, t6)]) fun t7 At7 => bothW (appendA Tryz.prog At7 25 25 (d 7) t7) fun t8 At8 => pureW (binA Tryz.prog .add 3 (.tmp 48) (.const (.int .i64 1)) (d 48) (.int .i64 1)) fun t9 => cutW (T9 2) (T9 2) (S 2 [(d 3), t8, (d 46), (d 47), t9] At8)) (Q (d 7) A)) := by kernel_rfl
theorem n9 (a0 : Value) : enterA Tryz.prog 9 [a0] .normal = some (frM 9 (Tm.fill ⟨60, .nil⟩ 0 [a0]) [.code (cd 9 [])] false) := by kernel_rfl
theorem w9 : Wf1 9 60 T9 L9 := wf1 n9 (by decide) fun _ => rfl
theorem c9 : Cutf 9 60 T9 L9 := cutf (by decide)

/-! posthouse/posthouseref30.Tally -/
noncomputable def T10 : Nat → List Item := fun i => match i with
  | 0 => [(.code (cd 10 [1, 1, 0, 1, 0, 0])), (.inLoop (cd 10 [1, 1, 0, 1, 0, 0])), (.inBlock 0), (.code (cd 10 [1, 1, 1]))]
  | 2 => [(.code (cd 10 [1, 1, 1, 1, 0, 1, 0, 0])), (.inLoop (cd 10 [1, 1, 1, 1, 0, 1, 0, 0])), (.inBlock 2), (.code (cd 10 [1, 1, 1, 1, 1]))]
  | _ => []
def L10 : Nat → List Tmp := fun i => match i with
  | 0 => [0, 3, 4]
  | 2 => [0, 3, 5, 6]
  | _ => []
theorem e10 (W0 : World) (m0 : Inj Tryz.prog) (S : Nat → List Value → AW → Prop) (Q : Value → AW → Prop) (a0 : Value) (A : AW) : wpgo Tryz.prog theX W0 m0 10 T10 L10 S Q none 4000 (Tm.fill ⟨67, .nil⟩ 0 [a0]) [.code (cd 10 [])] false 0 0 0 [] A = (cutW (T10 0) (T10 0) (S 0 [a0, (.slice none 0 0), (.int .i64 0)] A)) := by kernel_rfl
theorem l10_0 (W0 : World) (m0 : Inj Tryz.prog) (S : Nat → List Value → AW → Prop) (Q : Value → AW → Prop) (d : Nat → Value) (A : AW) : wpgo Tryz.prog theX W0 m0 10 T10 L10 S Q none 4000 (tmOf 67 d) (T10 0) false 0 0 0 [] A = (pureW (lenA Tryz.prog A 22 (d 0)) fun t0 => pureW (binA Tryz.prog .lss 3 (.tmp 8) (.tmp 10) (d 4) t0) fun t1 => forkW t1 (pureW (indexAddrA Tryz.prog 22 (d 0) (d 4)) fun t2 => pureW (fieldAddrA Tryz.prog 56 t2 2) fun t3 => pureW (loadP Tryz.prog A 5 t3) fun t4 => pureW (binA Tryz.prog .geq 5 (.tmp 18) (.const (.int .u8 1)) t4 (.int .u8 1)) fun t5 => forkW t5 (pureW (indexAddrA Tryz.prog 22 (d 0) (d 4)) fun t6 => pureW (fieldAddrA Tryz.prog 56 t6 2) fun t7 => pureW (loadP Tryz.prog A 5 t7) fun t8 => pureW (binA Tryz.prog .leq 5 (.tmp 25) (.const (.int .u8 5)) t8 (.int .u8 5)) fun t9 => forkW t9 (pureW (indexAddrA Tryz.prog 22 (d 0) (d 4)) fun t10 => pureW (fieldAddrA Tryz.prog 56 t10 1) fun t11 => pureW (loadP Tryz.prog A 46 t11) fun t12 => Wc Tryz.prog theX W0 m0 29 [t12] A fun t13 At13 => Wc Tryz.prog theX W0 m0 28 [(d 3), t13] At13 fun t14 At14 => pureW (binA Tryz.prog .add 3 (.tmp 12) (.const (.int .i64 1)) (d 4) (.int .i64 1)) fun t15 => cutW (T10 0) (T10 0) (S 0 [(d 0), t14, t15] At14)) (pureW (binA Tryz.prog .add 3 (.tmp 12) (.const (.int .i64 1)) (d 4) (.int .i64 1)) fun t16 => cutW (T10 0) (T10 0) (S 0 [(d 0), (d 3), t16] A))) (pureW (binA Tryz.prog .add 3 (.tmp 12) (.const (.int .i64 1)) (d 4) (.int .i64 1)) fun t17 => cutW (T10 0) (T10 0) (S 0 [(d 0), (d 3), t17] A))) (cutW (T10 2) (T10 2) (S 2 [(d 0), (d 3), (.slice none 0 0), (.int .i64 0)] A))) := by kernel_rfl
theorem l10_2 (W0 : World) (m0 : Inj Tryz.prog) (S : Nat → List Value → AW → Prop) (Q : Value → AW → Prop) (d : Nat → Value) (A : AW) : wpgo Tryz.prog theX W0 m0 10 T10 L10 S Q none 4000 (tmOf 67 d) (T10 2) false 0 0 0 [] A = (pureW (lenA Tryz.prog A 28 (d 3)) fun t0 => pureW (binA Tryz.prog .lss 3 (.tmp 36) (.tmp 38) (d 6) t0) fun t1 => forkW t1 (pureW (indexAddrA Tryz.prog 28 (d 3) (d 6)) fun t2 => pureW (loadP Tryz.prog A 46 t2) fun t3 => bothW (allocP Tryz.prog A 46) fun t4 At4 => effW (storeP Tryz.prog At4 46 t4 t3) fun At5 => pureW (loadP Tryz.prog At5 46 t4) fun t6 => pureW (loadP Tryz.prog At5 46 t4) fun t7 => pureW (loadP Tryz.prog At5 46 t4) fun t8 => pureW (loadP Tryz.prog At5 46 t4) fun t9 => pureW (loadP Tryz.prog At5 46 t4) fun t10 => pureW (loadP Tryz.prog At5 46 t4) fun t11 => Wc Tryz.prog theX W0 m0 30 [(d 0), t7, (.int .u8 1)] At5 fun t12 At12 => pureW (loadP Tryz.prog At12 46 t4) fun t13 => eqW t13 t11 (eqW (d 0) (d 0) (pureW (loadP Tryz.prog At12 46 t4) fun t14 => eqW t14 t10 (eqW (d 0) (d 0) (pureW (loadP Tryz.prog At12 46 t4) fun t15 => eqW t15 t9 (eqW (d 0) (d 0) (pureW (loadP Tryz.prog At12 46 t4) fun t16 => eqW t16 t8 (eqW (d 0) (d 0) (pureW (loadP Tryz.prog At12 46 t4) fun t17 => eqW t17 t6 (eqW (d 5) (d 5) (Wc Tryz.prog theX W0 m0 30 [(d 0), t8, (.int .u8 2)] At12 fun t18 At18 => pureW (loadP Tryz.prog At18 46 t4) fun t19 => eqW t19 t11 (eqW (d 0) (d 0) (pureW (loadP Tryz.prog At18 46 t4) fun t20 => eqW t20 t10 (eqW (d 0) (d 0) (pureW (loadP Tryz.prog At18 46 t4) fun t21 => eqW t21 t9 (eqW (d 0) (d 0) (pureW (loadP Tryz.prog At18 46 t4) fun t22 => eqW t22 t6 (eqW (d 5) (d 5) (Wc Tryz.prog theX W0 m0 30 [(d 0), t9, (.int .u8 3)] At18 fun t23 At23 => pureW (loadP Tryz.prog At23 46 t4) fun t24 => eqW t24 t11 (eqW (d 0) (d 0) (pureW (loadP Tryz.prog At23 46 t4) fun t25 => eqW t25 t10 (eqW (d 0) (d 0) (pureW (loadP Tryz.prog At23 46 t4) fun t26 => eqW t26 t6 (eqW (d 5) (d 5) (Wc Tryz.prog theX W0 m0 30 [(d 0), t10, (.int .u8 4)] At23 fun t27 At27 => pureW (loadP Tryz.prog At27 46 t4) fun t28 => eqW t28 t11 (eqW (d 0) (d 0) (pureW (loadP Tryz.prog At27 46 t4) fun t29 => eqW t29 t6 (eqW (d 5) (d 5) (Wc Tryz.prog theX W0 m0 30 [(d 0), t11, (.int .u8 5)] At27 fun t30 At30 => pureW (loadP Tryz.prog At30 46 t4) fun t31 => eqW t31 t6 (eqW (d 5) (d 5) (pureW (buildA Tryz.prog 48 [(0, t6), (1, t12), (2, t18), (3, t23), (4, t27), (5, t30)]) fun t32 => bothW (buildSliceA Tryz.prog At30 25 1 [(0, t32)]) fun t33 At33 => freshW (freshOf Tryz.prog (evalT (Tm.fill ⟨1, .nil⟩ 0 [t32])) (.buildSlice 25 1 #[(0, .tmp 0)])) At33 t33 (pureW (buildA Tryz.prog 48 [(0, t6), (1, t12), (2, t18), (3, t23), (4, t27), (5, t30)]) fun t34 => eqW t34 t32 (pureW (loadP Tryz.prog At33 46 t4) fun t35 => eqW t35 t11 (eqW (d 0) (d 0) (pureW (loadP Tryz.prog At33 46 t4) fun t36 => eqW t36 t10 (eqW (d 0) (d 0) (pureW (loadP Tryz.prog At33 46 t4) fun t37 => eqW t37 t9 (eqW (d 0) (d 0) (pureW (loadP Tryz.prog At33 46 t4) fun t38 => eqW t38 t8 (eqW (d 0) (d 0) (pureW (loadP Tryz.prog At33 46 t4) fun t39 => eqW t39 t7 (eqW (d 0) (d 0) (pureW (loadP Tryz.prog At33 46 t4) fun t40 => eqW t40 t6 (eqW (d 5) (d 5) (bothW (appendA Tryz.prog At33 25 25 (d 5) t33) fun t41 At41 => pureW (binA Tryz.prog .add 3 (.tmp 40) (.const (.int .i64 1)) (d 6) (.int .i64 1)) fun t42 => cutW (T10 2) (T10 2) (S 2 [(d 0), (d 3), t41, t42] At41)))))))))))))))))))))))))))))))))))))))))))))) (Q (d 5) A)) := by kernel_rfl
theorem n10 (a0 : Value) : enterA Tryz.prog 10 [a0] .normal = some (frM 10 (Tm.fill ⟨67, .nil⟩ 0 [a0]) [.code (cd 10 [])] false) := by kernel_rfl
theorem w10 : Wf1 10 67 T10 L10 := wf1 n10 (by decide) fun _ => rfl
theorem c10 : Cutf 10 67 T10 L10 := cutf (by decide)

/-! posthouse/posthouseref04.Same -/
noncomputable def T11 : Nat → List Item := fun i => match i with
  | 0 => [(.code (cd 11 [1, 1, 0, 1, 0, 0])), (.inLoop (cd 11 [1, 1, 0, 1, 0, 0])), (.inBlock 0), (.code (cd 11 [1, 1, 1]))]
  | _ => []
def L11 : Nat → List Tmp := fun i => match i with
  | 0 => [0, 1, 5]
  | _ => []
theorem e11 (W0 : World) (m0 : Inj Tryz.prog) (S : Nat → List Value → AW → Prop) (Q : Value → AW → Prop) (a0 a1 : Value) (A : AW) : wpgo Tryz.prog theX W0 m0 11 T11 L11 S Q none 4000 (Tm.fill ⟨26, .nil⟩ 0 [a0, a1]) [.code (cd 11 [])] false 0 0 0 [] A = (pureW (lenA Tryz.prog A 28 a0) fun t0 => pureW (lenA Tryz.prog A 28 a1) fun t1 => pureW (binA Tryz.prog .neq 3 (.tmp 7) (.tmp 9) t0 t1) fun t2 => forkW t2 (Q (.bool false) A) (cutW (T11 0) (T11 0) (S 0 [a0, a1, (.int .i64 0)] A))) := by kernel_rfl
theorem l11_0 (W0 : World) (m0 : Inj Tryz.prog) (S : Nat → List Value → AW → Prop) (Q : Value → AW → Prop) (d : Nat → Value) (A : AW) : wpgo Tryz.prog theX W0 m0 11 T11 L11 S Q none 4000 (tmOf 26 d) (T11 0) false 0 0 0 [] A = (pureW (lenA Tryz.prog A 28 (d 0)) fun t0 => pureW (binA Tryz.prog .lss 3 (.tmp 11) (.tmp 13) (d 5) t0) fun t1 => forkW t1 (pureW (indexAddrA Tryz.prog 28 (d 0) (d 5)) fun t2 => pureW (loadP Tryz.prog A 46 t2) fun t3 => pureW (indexAddrA Tryz.prog 28 (d 1) (d 5)) fun t4 => pureW (loadP Tryz.prog A 46 t4) fun t5 => pureW (binA Tryz.prog .neq 46 (.tmp 20) (.tmp 24) t3 t5) fun t6 => forkW t6 (Q (.bool false) A) (pureW (binA Tryz.prog .add 3 (.tmp 15) (.const (.int .i64 1)) (d 5) (.int .i64 1)) fun t7 => cutW (T11 0) (T11 0) (S 0 [(d 0), (d 1), t7] A))) (Q (.bool true) A)) := by kernel_rfl
theorem n11 (a0 a1 : Value) : enterA Tryz.prog 11 [a0, a1] .normal = some (frM 11 (Tm.fill ⟨26, .nil⟩ 0 [a0, a1]) [.code (cd 11 [])] false) := by kernel_rfl
theorem w11 : Wf2 11 26 T11 L11 := wf2 n11 (by decide) fun _ _ => rfl
theorem c11 : Cutf 11 26 T11 L11 := cutf (by decide)

/-! posthouse/watch.Torn -/
noncomputable def T12 : Nat → List Item := fun i => match i with
  | _ => []
def L12 : Nat → List Tmp := fun i => match i with
  | _ => []
theorem e12 (W0 : World) (m0 : Inj Tryz.prog) (S : Nat → List Value → AW → Prop) (Q : Value → AW → Prop) (a0 : Value) (A : AW) : wpgo Tryz.prog theX W0 m0 12 T12 L12 S Q none 4000 (Tm.fill ⟨5, .nil⟩ 0 [a0]) [.code (cd 12 [])] false 0 0 0 [] A = (Wc Tryz.prog theX W0 m0 31 [a0, (.func (.func 32) #[] #[])] A fun t0 At0 => Q t0 At0) := by kernel_rfl
theorem n12 (a0 : Value) : enterA Tryz.prog 12 [a0] .normal = some (frM 12 (Tm.fill ⟨5, .nil⟩ 0 [a0]) [.code (cd 12 [])] false) := by kernel_rfl
theorem w12 : Wf1 12 5 T12 L12 := wf1 n12 (by decide) fun _ => rfl

/-! posthouse/posthouseref30.Both -/
noncomputable def T13 : Nat → List Item := fun i => match i with
  | 0 => [(.code (cd 13 [1, 1, 1, 0, 1, 0, 0])), (.inLoop (cd 13 [1, 1, 1, 0, 1, 0, 0])), (.inBlock 0), (.code (cd 13 [1, 1, 1, 1]))]
  | _ => []
def L13 : Nat → List Tmp := fun i => match i with
  | 0 => [1, 5, 6, 7]
  | _ => []
theorem e13 (W0 : World) (m0 : Inj Tryz.prog) (S : Nat → List Value → AW → Prop) (Q : Value → AW → Prop) (a0 a1 : Value) (A : AW) : wpgo Tryz.prog theX W0 m0 13 T13 L13 S Q none 4000 (Tm.fill ⟨67, .nil⟩ 0 [a0, a1]) [.code (cd 13 [])] false 0 0 0 [] A = (Wc Tryz.prog theX W0 m0 10 [a0] A fun t0 At0 => cutW (T13 0) (T13 0) (S 0 [a1, (.slice none 0 0), t0, (.int .i64 0)] At0)) := by kernel_rfl
theorem l13_0 (W0 : World) (m0 : Inj Tryz.prog) (S : Nat → List Value → AW → Prop) (Q : Value → AW → Prop) (d : Nat → Value) (A : AW) : wpgo Tryz.prog theX W0 m0 13 T13 L13 S Q none 4000 (tmOf 67 d) (T13 0) false 0 0 0 [] A = (pureW (lenA Tryz.prog A 25 (d 6)) fun t0 => pureW (binA Tryz.prog .lss 3 (.tmp 10) (.tmp 12) (d 7) t0) fun t1 => forkW t1 (pureW (indexAddrA Tryz.prog 25 (d 6) (d 7)) fun t2 => pureW (fieldAddrA Tryz.prog 48 t2 1) fun t3 => pureW (loadP Tryz.prog A 3 t3) fun t4 => pureW (indexAddrA Tryz.prog 25 (d 6) (d 7)) fun t5 => pureW (fieldAddrA Tryz.prog 48 t5 4) fun t6 => pureW (loadP Tryz.prog A 3 t6) fun t7 => pureW (binA Tryz.prog .add 3 (.tmp 20) (.tmp 25) t4 t7) fun t8 => pureW (binA Tryz.prog .gtr 3 (.tmp 26) (.const (.int .i64 0)) t8 (.int .i64 0)) fun t9 => forkW t9 (pureW (indexAddrA Tryz.prog 25 (d 6) (d 7)) fun t10 => pureW (fieldAddrA Tryz.prog 48 t10 2) fun t11 => pureW (loadP Tryz.prog A 3 t11) fun t12 => pureW (indexAddrA Tryz.prog 25 (d 6) (d 7)) fun t13 => pureW (fieldAddrA Tryz.prog 48 t13 5) fun t14 => pureW (loadP Tryz.prog A 3 t14) fun t15 => pureW (binA Tryz.prog .add 3 (.tmp 33) (.tmp 38) t12 t15) fun t16 => pureW (binA Tryz.prog .gtr 3 (.tmp 39) (.const (.int .i64 0)) t16 (.int .i64 0)) fun t17 => forkW t17 (pureW (indexAddrA Tryz.prog 25 (d 6) (d 7)) fun t18 => pureW (fieldAddrA Tryz.prog 48 t18 4) fun t19 => pureW (loadP Tryz.prog A 3 t19) fun t20 => pureW (indexAddrA Tryz.prog 25 (d 6) (d 7)) fun t21 => pureW (fieldAddrA Tryz.prog 48 t21 5) fun t22 => pureW (loadP Tryz.prog A 3 t22) fun t23 => pureW (binA Tryz.prog .add 3 (.tmp 47) (.tmp 52) t20 t23) fun t24 => pureW (binA Tryz.prog .gtr 3 (.tmp 53) (.const (.int .i64 0)) t24 (.int .i64 0)) fun t25 => pureW (binA Tryz.prog .eql 4 (.tmp 54) (.tmp 55) t25 (d 1)) fun t26 => forkW t26 (pureW (indexAddrA Tryz.prog 25 (d 6) (d 7)) fun t27 => pureW (fieldAddrA Tryz.prog 48 t27 0) fun t28 => pureW (loadP Tryz.prog A 46 t28) fun t29 => bothW (buildSliceA Tryz.prog A 28 1 [(0, t29)]) fun t30 At30 => bothW (appendA Tryz.prog At30 28 28 (d 5) t30) fun t31 At31 => pureW (binA Tryz.prog .add 3 (.tmp 14) (.const (.int .i64 1)) (d 7) (.int .i64 1)) fun t32 => cutW (T13 0) (T13 0) (S 0 [(d 1), t31, (d 6), t32] At31)) (pureW (binA Tryz.prog .add 3 (.tmp 14) (.const (.int .i64 1)) (d 7) (.int .i64 1)) fun t33 => cutW (T13 0) (T13 0) (S 0 [(d 1), (d 5), (d 6), t33] A))) (pureW (binA Tryz.prog .add 3 (.tmp 14) (.const (.int .i64 1)) (d 7) (.int .i64 1)) fun t34 => cutW (T13 0) (T13 0) (S 0 [(d 1), (d 5), (d 6), t34] A))) (pureW (binA Tryz.prog .add 3 (.tmp 14) (.const (.int .i64 1)) (d 7) (.int .i64 1)) fun t35 => cutW (T13 0) (T13 0) (S 0 [(d 1), (d 5), (d 6), t35] A))) (Q (d 5) A)) := by kernel_rfl
theorem n13 (a0 a1 : Value) : enterA Tryz.prog 13 [a0, a1] .normal = some (frM 13 (Tm.fill ⟨67, .nil⟩ 0 [a0, a1]) [.code (cd 13 [])] false) := by kernel_rfl
theorem w13 : Wf2 13 67 T13 L13 := wf2 n13 (by decide) fun _ _ => rfl
theorem c13 : Cutf 13 67 T13 L13 := cutf (by decide)

/-! posthouse/watch.Mixed -/
noncomputable def T14 : Nat → List Item := fun i => match i with
  | _ => []
def L14 : Nat → List Tmp := fun i => match i with
  | _ => []
theorem e14 (W0 : World) (m0 : Inj Tryz.prog) (S : Nat → List Value → AW → Prop) (Q : Value → AW → Prop) (a0 : Value) (A : AW) : wpgo Tryz.prog theX W0 m0 14 T14 L14 S Q none 4000 (Tm.fill ⟨5, .nil⟩ 0 [a0]) [.code (cd 14 [])] false 0 0 0 [] A = (Wc Tryz.prog theX W0 m0 31 [a0, (.func (.func 33) #[] #[])] A fun t0 At0 => Q t0 At0) := by kernel_rfl
theorem n14 (a0 : Value) : enterA Tryz.prog 14 [a0] .normal = some (frM 14 (Tm.fill ⟨5, .nil⟩ 0 [a0]) [.code (cd 14 [])] false) := by kernel_rfl
theorem w14 : Wf1 14 5 T14 L14 := wf1 n14 (by decide) fun _ => rfl

/-! posthouse/posthouselaw30.in -/
noncomputable def T18 : Nat → List Item := fun i => match i with
  | 0 => [(.code (cd 18 [1, 0, 1, 0, 0])), (.inLoop (cd 18 [1, 0, 1, 0, 0])), (.inBlock 0), (.code (cd 18 [1, 1]))]
  | _ => []
def L18 : Nat → List Tmp := fun i => match i with
  | 0 => [0, 3, 5]
  | _ => []
theorem e18 (W0 : World) (m0 : Inj Tryz.prog) (S : Nat → List Value → AW → Prop) (Q : Value → AW → Prop) (a0 a1 : Value) (A : AW) : wpgo Tryz.prog theX W0 m0 18 T18 L18 S Q none 4000 (Tm.fill ⟨18, .nil⟩ 0 [a0, a1]) [.code (cd 18 [])] false 0 0 0 [] A = (bothW (newP A (Value.cells a1).toList 46) fun t0 At0 => cutW (T18 0) (T18 0) (S 0 [a0, t0, (.int .i64 0)] At0)) := by kernel_rfl
theorem l18_0 (W0 : World) (m0 : Inj Tryz.prog) (S : Nat → List Value → AW → Prop) (Q : Value → AW → Prop) (d : Nat → Value) (A : AW) : wpgo Tryz.prog theX W0 m0 18 T18 L18 S Q none 4000 (tmOf 18 d) (T18 0) false 0 0 0 [] A = (pureW (lenA Tryz.prog A 28 (d 0)) fun t0 => pureW (binA Tryz.prog .lss 3 (.tmp 6) (.tmp 8) (d 5) t0) fun t1 => forkW t1 (pureW (indexAddrA Tryz.prog 28 (d 0) (d 5)) fun t2 => pureW (loadP Tryz.prog A 46 t2) fun t3 => pureW (loadP Tryz.prog A 46 (d 3)) fun t4 => pureW (binA Tryz.prog .eql 46 (.tmp 15) (.tmp 16) t3 t4) fun t5 => forkW t5 (Q (.bool true) A) (pureW (binA Tryz.prog .add 3 (.tmp 10) (.const (.int .i64 1)) (d 5) (.int .i64 1)) fun t6 => cutW (T18 0) (T18 0) (S 0 [(d 0), (d 3), t6] A))) (Q (.bool false) A)) := by kernel_rfl
theorem n18 (a0 a1 : Value) : enterA Tryz.prog 18 [a0, a1] .normal = some (frM 18 (Tm.fill ⟨18, .nil⟩ 0 [a0, a1]) [.code (cd 18 [])] false) := by kernel_rfl
theorem w18 : Wf2 18 18 T18 L18 := wf2 n18 (by decide) fun _ _ => rfl
theorem c18 : Cutf 18 18 T18 L18 := cutf (by decide)

/-! posthouse/watch.global -/
noncomputable def T23 : Nat → List Item := fun i => match i with
  | _ => []
def L23 : Nat → List Tmp := fun i => match i with
  | _ => []
theorem e23 (W0 : World) (m0 : Inj Tryz.prog) (S : Nat → List Value → AW → Prop) (Q : Value → AW → Prop) (a0 : Value) (A : AW) : wpgo Tryz.prog theX W0 m0 23 T23 L23 S Q none 4000 (Tm.fill ⟨5, .nil⟩ 0 [a0]) [.code (cd 23 [])] false 0 0 0 [] A = (bothW (newP A (Value.cells a0).toList 46) fun t0 At0 => bothW (allocP Tryz.prog At0 46) fun t1 At1 => pureW (fieldAddrA Tryz.prog 46 t0 2) fun t2 => effW (storeP Tryz.prog At1 9 t2 (.string ⟨⟨[]⟩⟩)) fun At3 => pureW (loadP Tryz.prog At3 46 t0) fun t4 => effW (storeP Tryz.prog At3 46 t1 t4) fun At5 => pureW (loadP Tryz.prog At5 46 t1) fun t6 => Q t6 At5) := by kernel_rfl
theorem n23 (a0 : Value) : enterA Tryz.prog 23 [a0] .normal = some (frM 23 (Tm.fill ⟨5, .nil⟩ 0 [a0]) [.code (cd 23 [])] false) := by kernel_rfl
theorem w23 : Wf1 23 5 T23 L23 := wf1 n23 (by decide) fun _ => rfl

/-! posthouse/watch.adds -/
noncomputable def T24 : Nat → List Item := fun i => match i with
  | _ => []
def L24 : Nat → List Tmp := fun i => match i with
  | _ => []
theorem e24 (W0 : World) (m0 : Inj Tryz.prog) (S : Nat → List Value → AW → Prop) (Q : Value → AW → Prop) (A : AW) : wpgo Tryz.prog theX W0 m0 24 T24 L24 S Q none 4000 (Tm.fill ⟨2, .nil⟩ 0 []) [.code (cd 24 [])] false 0 0 0 [] A = (bothW (allocP Tryz.prog A 61) fun t0 At0 => pureW (buildA Tryz.prog 61 [(1, (.func (.func 48) #[] #[])), (2, (.func (.func 49) #[] #[])), (3, (.func (.func 50) #[] #[])), (4, (.func (.func 51) #[] #[])), (5, (.func (.func 52) #[] #[]))]) fun t1 => effW (storeP Tryz.prog At0 61 t0 t1) fun At2 => pureW (loadP Tryz.prog At2 61 t0) fun t3 => Q t3 At2) := by kernel_rfl
theorem n24 : enterA Tryz.prog 24 [] .normal = some (frM 24 (Tm.fill ⟨2, .nil⟩ 0 []) [.code (cd 24 [])] false) := by kernel_rfl
theorem w24 : Wf0 24 2 T24 L24 := wf0 n24 (by decide) rfl

/-! slices.SortedFunc[posthouse/api.Xid] -/
noncomputable def T25 : Nat → List Item := fun i => match i with
  | _ => []
def L25 : Nat → List Tmp := fun i => match i with
  | _ => []
theorem e25 (W0 : World) (m0 : Inj Tryz.prog) (S : Nat → List Value → AW → Prop) (Q : Value → AW → Prop) (a0 a1 : Value) (A : AW) : wpgo Tryz.prog theX W0 m0 25 T25 L25 S Q none 4000 (Tm.fill ⟨12, .nil⟩ 0 [a0, a1]) [.code (cd 25 [])] false 0 0 0 [] A = (Wc Tryz.prog theX W0 m0 53 [a0] A fun t0 At0 => knW Tryz.prog W0 m0 54 [t0, a1] At0 fun t1 At1 => Q t0 At1) := by kernel_rfl
theorem n25 (a0 a1 : Value) : enterA Tryz.prog 25 [a0, a1] .normal = some (frM 25 (Tm.fill ⟨12, .nil⟩ 0 [a0, a1]) [.code (cd 25 [])] false) := by kernel_rfl
theorem w25 : Wf2 25 12 T25 L25 := wf2 n25 (by decide) fun _ _ => rfl

/-! maps.Keys[map[posthouse/api.Xid]posthouse/watch.score,posthouse/api.Xid,posthouse/watch.score] -/
noncomputable def T26 : Nat → List Item := fun i => match i with
  | _ => []
def L26 : Nat → List Tmp := fun i => match i with
  | _ => []
theorem e26 (W0 : World) (m0 : Inj Tryz.prog) (S : Nat → List Value → AW → Prop) (Q : Value → AW → Prop) (a0 : Value) (A : AW) : wpgo Tryz.prog theX W0 m0 26 T26 L26 S Q none 4000 (Tm.fill ⟨4, .nil⟩ 0 [a0]) [.code (cd 26 [])] false 0 0 0 [] A = (bothW (newP A (Value.cells a0).toList 57) fun t0 At0 => Q (.func (.func 55) ⟨[]⟩ ⟨[t0]⟩) At0) := by kernel_rfl
theorem n26 (a0 : Value) : enterA Tryz.prog 26 [a0] .normal = some (frM 26 (Tm.fill ⟨4, .nil⟩ 0 [a0]) [.code (cd 26 [])] false) := by kernel_rfl
theorem w26 : Wf1 26 4 T26 L26 := wf1 n26 (by decide) fun _ => rfl

/-! posthouse/xid.Compare -/
noncomputable def T27 : Nat → List Item := fun i => match i with
  | _ => []
def L27 : Nat → List Tmp := fun i => match i with
  | _ => []
theorem e27 (W0 : World) (m0 : Inj Tryz.prog) (S : Nat → List Value → AW → Prop) (Q : Value → AW → Prop) (a0 a1 : Value) (A : AW) : wpgo Tryz.prog theX W0 m0 27 T27 L27 S Q none 4000 (Tm.fill ⟨22, .nil⟩ 0 [a0, a1]) [.code (cd 27 [])] false 0 0 0 [] A = (bothW (newP A (Value.cells a0).toList 46) fun t0 At0 => bothW (newP At0 (Value.cells a1).toList 46) fun t1 At1 => pureW (fieldAddrA Tryz.prog 46 t0 0) fun t2 => pureW (loadP Tryz.prog At1 44 t2) fun t3 => pureW (fieldAddrA Tryz.prog 46 t1 0) fun t4 => pureW (loadP Tryz.prog At1 44 t4) fun t5 => pureW (fieldAddrA Tryz.prog 46 t0 1) fun t6 => pureW (loadP Tryz.prog At1 9 t6) fun t7 => pureW (fieldAddrA Tryz.prog 46 t1 1) fun t8 => pureW (loadP Tryz.prog At1 9 t8) fun t9 => pureW (fieldAddrA Tryz.prog 46 t0 2) fun t10 => pureW (loadP Tryz.prog At1 9 t10) fun t11 => pureW (fieldAddrA Tryz.prog 46 t1 2) fun t12 => pureW (loadP Tryz.prog At1 9 t12) fun t13 => Wc Tryz.prog theX W0 m0 57 [t3, t5] At1 fun t14 At14 => pureW (loadP Tryz.prog At14 9 t12) fun t15 => eqW t15 t13 (pureW (fieldAddrA Tryz.prog 46 t1 2) fun t16 => eqW t16 t12 (pureW (loadP Tryz.prog At14 9 t10) fun t17 => eqW t17 t11 (pureW (fieldAddrA Tryz.prog 46 t0 2) fun t18 => eqW t18 t10 (pureW (loadP Tryz.prog At14 9 t8) fun t19 => eqW t19 t9 (pureW (fieldAddrA Tryz.prog 46 t1 1) fun t20 => eqW t20 t8 (pureW (loadP Tryz.prog At14 9 t6) fun t21 => eqW t21 t7 (pureW (fieldAddrA Tryz.prog 46 t0 1) fun t22 => eqW t22 t6 (Wc Tryz.prog theX W0 m0 58 [t7, t9] At14 fun t23 At23 => pureW (loadP Tryz.prog At23 9 t12) fun t24 => eqW t24 t13 (pureW (fieldAddrA Tryz.prog 46 t1 2) fun t25 => eqW t25 t12 (pureW (loadP Tryz.prog At23 9 t10) fun t26 => eqW t26 t11 (pureW (fieldAddrA Tryz.prog 46 t0 2) fun t27 => eqW t27 t10 (Wc Tryz.prog theX W0 m0 58 [t11, t13] At23 fun t28 At28 => bothW (buildSliceA Tryz.prog At28 143 3 [(0, t14), (1, t23), (2, t28)]) fun t29 At29 => freshW (freshOf Tryz.prog (evalT (Tm.fill ⟨3, .nil⟩ 0 [t14, t23, t28])) (.buildSlice 143 3 #[(0, .tmp 0), (1, .tmp 1), (2, .tmp 2)])) At29 t29 (pureW (loadP Tryz.prog At29 9 t12) fun t30 => eqW t30 t13 (pureW (fieldAddrA Tryz.prog 46 t1 2) fun t31 => eqW t31 t12 (pureW (loadP Tryz.prog At29 9 t10) fun t32 => eqW t32 t11 (pureW (fieldAddrA Tryz.prog 46 t0 2) fun t33 => eqW t33 t10 (pureW (loadP Tryz.prog At29 9 t8) fun t34 => eqW t34 t9 (pureW (fieldAddrA Tryz.prog 46 t1 1) fun t35 => eqW t35 t8 (pureW (loadP Tryz.prog At29 9 t6) fun t36 => eqW t36 t7 (pureW (fieldAddrA Tryz.prog 46 t0 1) fun t37 => eqW t37 t6 (pureW (loadP Tryz.prog At29 44 t4) fun t38 => eqW t38 t5 (pureW (fieldAddrA Tryz.prog 46 t1 0) fun t39 => eqW t39 t4 (pureW (loadP Tryz.prog At29 44 t2) fun t40 => eqW t40 t3 (pureW (fieldAddrA Tryz.prog 46 t0 0) fun t41 => eqW t41 t2 (Wc Tryz.prog theX W0 m0 56 [t29] At29 fun t42 At42 => Q t42 At42)))))))))))))))))))))))))) := by kernel_rfl
theorem n27 (a0 a1 : Value) : enterA Tryz.prog 27 [a0, a1] .normal = some (frM 27 (Tm.fill ⟨22, .nil⟩ 0 [a0, a1]) [.code (cd 27 [])] false) := by kernel_rfl
theorem w27 : Wf2 27 22 T27 L27 := wf2 n27 (by decide) fun _ _ => rfl

/-! posthouse/posthouseref30.add -/
noncomputable def T28 : Nat → List Item := fun i => match i with
  | 0 => [(.code (cd 28 [1, 1, 0, 0, 0])), (.inLoop (cd 28 [1, 1, 0, 0, 0])), (.inBlock 0), (.code (cd 28 [1, 1, 1]))]
  | _ => []
def L28 : Nat → List Tmp := fun i => match i with
  | 0 => [0, 3, 5]
  | _ => []
theorem e28 (W0 : World) (m0 : Inj Tryz.prog) (S : Nat → List Value → AW → Prop) (Q : Value → AW → Prop) (a0 a1 : Value) (A : AW) : wpgo Tryz.prog theX W0 m0 28 T28 L28 S Q none 4000 (Tm.fill ⟨49, .nil⟩ 0 [a0, a1]) [.code (cd 28 [])] false 0 0 0 [] A = (bothW (newP A (Value.cells a1).toList 46) fun t0 At0 => cutW (T28 0) (T28 0) (S 0 [a0, t0, (.int .i64 0)] At0)) := by kernel_rfl
theorem l28_0 (W0 : World) (m0 : Inj Tryz.prog) (S : Nat → List Value → AW → Prop) (Q : Value → AW → Prop) (d : Nat → Value) (A : AW) : wpgo Tryz.prog theX W0 m0 28 T28 L28 S Q none 4000 (tmOf 49 d) (T28 0) false 0 0 0 [] A = (pureW (lenA Tryz.prog A 28 (d 0)) fun t0 => pureW (binA Tryz.prog .lss 3 (.tmp 7) (.tmp 9) (d 5) t0) fun t1 => forkW t1 (pureW (indexAddrA Tryz.prog 28 (d 0) (d 5)) fun t2 => pureW (loadP Tryz.prog A 46 t2) fun t3 => pureW (loadP Tryz.prog A 46 (d 3)) fun t4 => Wc Tryz.prog theX W0 m0 59 [t3, t4] A fun t5 At5 => pureW (binA Tryz.prog .lss 3 (.tmp 17) (.const (.int .i64 0)) t5 (.int .i64 0)) fun t6 => forkW t6 (pureW (binA Tryz.prog .add 3 (.tmp 20) (.const (.int .i64 1)) (d 5) (.int .i64 1)) fun t7 => cutW (T28 0) (T28 0) (S 0 [(d 0), (d 3), t7] At5)) (pureW (lenA Tryz.prog At5 28 (d 0)) fun t8 => pureW (binA Tryz.prog .lss 3 (.tmp 22) (.tmp 24) (d 5) t8) fun t9 => forkW t9 (pureW (indexAddrA Tryz.prog 28 (d 0) (d 5)) fun t10 => pureW (loadP Tryz.prog At5 46 t10) fun t11 => pureW (loadP Tryz.prog At5 46 (d 3)) fun t12 => pureW (binA Tryz.prog .eql 46 (.tmp 30) (.tmp 31) t11 t12) fun t13 => forkW t13 (Q (d 0) At5) (pureW (sliceA Tryz.prog At5 28 (d 0) none (some (d 5)) none) fun t14 => bothW (appendA Tryz.prog At5 28 28 (.slice none 0 0) t14) fun t15 At15 => pureW (loadP Tryz.prog At15 46 (d 3)) fun t16 => bothW (buildSliceA Tryz.prog At15 28 1 [(0, t16)]) fun t17 At17 => bothW (appendA Tryz.prog At17 28 28 t15 t17) fun t18 At18 => pureW (sliceA Tryz.prog At18 28 (d 0) (some (d 5)) none none) fun t19 => bothW (appendA Tryz.prog At18 28 28 t18 t19) fun t20 At20 => Q t20 At20)) (pureW (sliceA Tryz.prog At5 28 (d 0) none (some (d 5)) none) fun t21 => bothW (appendA Tryz.prog At5 28 28 (.slice none 0 0) t21) fun t22 At22 => pureW (loadP Tryz.prog At22 46 (d 3)) fun t23 => bothW (buildSliceA Tryz.prog At22 28 1 [(0, t23)]) fun t24 At24 => bothW (appendA Tryz.prog At24 28 28 t22 t24) fun t25 At25 => pureW (sliceA Tryz.prog At25 28 (d 0) (some (d 5)) none none) fun t26 => bothW (appendA Tryz.prog At25 28 28 t25 t26) fun t27 At27 => Q t27 At27))) (pureW (lenA Tryz.prog A 28 (d 0)) fun t28 => pureW (binA Tryz.prog .lss 3 (.tmp 22) (.tmp 24) (d 5) t28) fun t29 => forkW t29 (pureW (indexAddrA Tryz.prog 28 (d 0) (d 5)) fun t30 => pureW (loadP Tryz.prog A 46 t30) fun t31 => pureW (loadP Tryz.prog A 46 (d 3)) fun t32 => pureW (binA Tryz.prog .eql 46 (.tmp 30) (.tmp 31) t31 t32) fun t33 => forkW t33 (Q (d 0) A) (pureW (sliceA Tryz.prog A 28 (d 0) none (some (d 5)) none) fun t34 => bothW (appendA Tryz.prog A 28 28 (.slice none 0 0) t34) fun t35 At35 => pureW (loadP Tryz.prog At35 46 (d 3)) fun t36 => bothW (buildSliceA Tryz.prog At35 28 1 [(0, t36)]) fun t37 At37 => bothW (appendA Tryz.prog At37 28 28 t35 t37) fun t38 At38 => pureW (sliceA Tryz.prog At38 28 (d 0) (some (d 5)) none none) fun t39 => bothW (appendA Tryz.prog At38 28 28 t38 t39) fun t40 At40 => Q t40 At40)) (pureW (sliceA Tryz.prog A 28 (d 0) none (some (d 5)) none) fun t41 => bothW (appendA Tryz.prog A 28 28 (.slice none 0 0) t41) fun t42 At42 => pureW (loadP Tryz.prog At42 46 (d 3)) fun t43 => bothW (buildSliceA Tryz.prog At42 28 1 [(0, t43)]) fun t44 At44 => bothW (appendA Tryz.prog At44 28 28 t42 t44) fun t45 At45 => pureW (sliceA Tryz.prog At45 28 (d 0) (some (d 5)) none none) fun t46 => bothW (appendA Tryz.prog At45 28 28 t45 t46) fun t47 At47 => Q t47 At47))) := by kernel_rfl
theorem n28 (a0 a1 : Value) : enterA Tryz.prog 28 [a0, a1] .normal = some (frM 28 (Tm.fill ⟨49, .nil⟩ 0 [a0, a1]) [.code (cd 28 [])] false) := by kernel_rfl
theorem w28 : Wf2 28 49 T28 L28 := wf2 n28 (by decide) fun _ _ => rfl
theorem c28 : Cutf 28 49 T28 L28 := cutf (by decide)

/-! posthouse/posthouseref30.Global -/
noncomputable def T29 : Nat → List Item := fun i => match i with
  | _ => []
def L29 : Nat → List Tmp := fun i => match i with
  | _ => []
theorem e29 (W0 : World) (m0 : Inj Tryz.prog) (S : Nat → List Value → AW → Prop) (Q : Value → AW → Prop) (a0 : Value) (A : AW) : wpgo Tryz.prog theX W0 m0 29 T29 L29 S Q none 4000 (Tm.fill ⟨8, .nil⟩ 0 [a0]) [.code (cd 29 [])] false 0 0 0 [] A = (bothW (newP A (Value.cells a0).toList 46) fun t0 At0 => bothW (allocP Tryz.prog At0 46) fun t1 At1 => pureW (fieldAddrA Tryz.prog 46 t0 0) fun t2 => pureW (loadP Tryz.prog At1 44 t2) fun t3 => pureW (fieldAddrA Tryz.prog 46 t0 1) fun t4 => pureW (loadP Tryz.prog At1 9 t4) fun t5 => pureW (buildA Tryz.prog 46 [(0, t3), (1, t5)]) fun t6 => effW (storeP Tryz.prog At1 46 t1 t6) fun At7 => pureW (loadP Tryz.prog At7 46 t1) fun t8 => Q t8 At7) := by kernel_rfl
theorem n29 (a0 : Value) : enterA Tryz.prog 29 [a0] .normal = some (frM 29 (Tm.fill ⟨8, .nil⟩ 0 [a0]) [.code (cd 29 [])] false) := by kernel_rfl
theorem w29 : Wf1 29 8 T29 L29 := wf1 n29 (by decide) fun _ => rfl

/-! posthouse/posthouseref30.count -/
noncomputable def T30 : Nat → List Item := fun i => match i with
  | 0 => [(.code (cd 30 [1, 1, 0, 1, 0, 0])), (.inLoop (cd 30 [1, 1, 0, 1, 0, 0])), (.inBlock 0), (.code (cd 30 [1, 1, 1]))]
  | _ => []
def L30 : Nat → List Tmp := fun i => match i with
  | 0 => [0, 2, 4, 7, 8]
  | _ => []
theorem e30 (W0 : World) (m0 : Inj Tryz.prog) (S : Nat → List Value → AW → Prop) (Q : Value → AW → Prop) (a0 a1 a2 : Value) (A : AW) : wpgo Tryz.prog theX W0 m0 30 T30 L30 S Q none 4000 (Tm.fill ⟨35, .nil⟩ 0 [a0, a1, a2]) [.code (cd 30 [])] false 0 0 0 [] A = (bothW (newP A (Value.cells a1).toList 46) fun t0 At0 => cutW (T30 0) (T30 0) (S 0 [a0, a2, t0, (.int .i64 0), (.int .i64 0)] At0)) := by kernel_rfl
theorem l30_0 (W0 : World) (m0 : Inj Tryz.prog) (S : Nat → List Value → AW → Prop) (Q : Value → AW → Prop) (d : Nat → Value) (A : AW) : wpgo Tryz.prog theX W0 m0 30 T30 L30 S Q none 4000 (tmOf 35 d) (T30 0) false 0 0 0 [] A = (pureW (lenA Tryz.prog A 22 (d 0)) fun t0 => pureW (binA Tryz.prog .lss 3 (.tmp 9) (.tmp 11) (d 8) t0) fun t1 => forkW t1 (pureW (indexAddrA Tryz.prog 22 (d 0) (d 8)) fun t2 => pureW (fieldAddrA Tryz.prog 56 t2 2) fun t3 => pureW (loadP Tryz.prog A 5 t3) fun t4 => pureW (binA Tryz.prog .eql 5 (.tmp 19) (.tmp 20) t4 (d 2)) fun t5 => forkW t5 (pureW (indexAddrA Tryz.prog 22 (d 0) (d 8)) fun t6 => pureW (fieldAddrA Tryz.prog 56 t6 1) fun t7 => pureW (loadP Tryz.prog A 46 t7) fun t8 => pureW (loadP Tryz.prog A 46 (d 4)) fun t9 => Wc Tryz.prog theX W0 m0 29 [t8] A fun t10 At10 => pureW (loadP Tryz.prog At10 46 (d 4)) fun t11 => eqW t11 t9 (pureW (binA Tryz.prog .eql 46 (.tmp 28) (.tmp 29) t10 t9) fun t12 => forkW t12 (pureW (binA Tryz.prog .add 3 (.tmp 32) (.const (.int .i64 1)) (d 7) (.int .i64 1)) fun t13 => pureW (binA Tryz.prog .add 3 (.tmp 13) (.const (.int .i64 1)) (d 8) (.int .i64 1)) fun t14 => cutW (T30 0) (T30 0) (S 0 [(d 0), (d 2), (d 4), t13, t14] At10)) (pureW (binA Tryz.prog .add 3 (.tmp 13) (.const (.int .i64 1)) (d 8) (.int .i64 1)) fun t15 => cutW (T30 0) (T30 0) (S 0 [(d 0), (d 2), (d 4), (d 7), t15] At10)))) (eqW undef undef (pureW (binA Tryz.prog .add 3 (.tmp 13) (.const (.int .i64 1)) (d 8) (.int .i64 1)) fun t16 => cutW (T30 0) (T30 0) (S 0 [(d 0), (d 2), (d 4), (d 7), t16] A)))) (Q (d 7) A)) := by kernel_rfl
theorem n30 (a0 a1 a2 : Value) : enterA Tryz.prog 30 [a0, a1, a2] .normal = some (frM 30 (Tm.fill ⟨35, .nil⟩ 0 [a0, a1, a2]) [.code (cd 30 [])] false) := by kernel_rfl
theorem w30 : Wf3 30 35 T30 L30 := wf3 n30 (by decide) fun _ _ _ => rfl
theorem c30 : Cutf 30 35 T30 L30 := cutf (by decide)

/-! posthouse/watch.pick -/
noncomputable def T31 : Nat → List Item := fun i => match i with
  | 0 => [(.code (cd 31 [1, 1, 0, 1, 0, 0])), (.inLoop (cd 31 [1, 1, 0, 1, 0, 0])), (.inBlock 0), (.code (cd 31 [1, 1, 1]))]
  | _ => []
def L31 : Nat → List Tmp := fun i => match i with
  | 0 => [1, 5, 9, 10, 11]
  | _ => []
theorem e31 (W0 : World) (m0 : Inj Tryz.prog) (S : Nat → List Value → AW → Prop) (Q : Value → AW → Prop) (a0 a1 : Value) (A : AW) : wpgo Tryz.prog theX W0 m0 31 T31 L31 S Q none 4000 (Tm.fill ⟨41, .nil⟩ 0 [a0, a1]) [.code (cd 31 [])] false 0 0 0 [] A = (Wc Tryz.prog theX W0 m0 9 [a0] A fun t0 At0 => pureW (lenA Tryz.prog At0 25 t0) fun t1 => cutW (T31 0) (T31 0) (S 0 [a1, (.slice none 0 0), t0, t1, (.int .i64 0)] At0)) := by kernel_rfl
theorem l31_0 (W0 : World) (m0 : Inj Tryz.prog) (S : Nat → List Value → AW → Prop) (Q : Value → AW → Prop) (d : Nat → Value) (A : AW) : wpgo Tryz.prog theX W0 m0 31 T31 L31 S Q none 4000 (tmOf 41 d) (T31 0) false 0 0 0 [] A = (pureW (binA Tryz.prog .lss 3 (.tmp 11) (.tmp 10) (d 11) (d 10)) fun t0 => forkW t0 (pureW (indexAddrA Tryz.prog 25 (d 9) (d 11)) fun t1 => pureW (loadP Tryz.prog A 48 t1) fun t2 => bothW (allocP Tryz.prog A 48) fun t3 At3 => effW (storeP Tryz.prog At3 48 t3 t2) fun At4 => pureW (fieldAddrA Tryz.prog 48 t3 1) fun t5 => pureW (loadP Tryz.prog At4 3 t5) fun t6 => pureW (fieldAddrA Tryz.prog 48 t3 4) fun t7 => pureW (loadP Tryz.prog At4 3 t7) fun t8 => pureW (binA Tryz.prog .add 3 (.tmp 16) (.tmp 18) t6 t8) fun t9 => pureW (binA Tryz.prog .gtr 3 (.tmp 19) (.const (.int .i64 0)) t9 (.int .i64 0)) fun t10 => forkW t10 (pureW (fieldAddrA Tryz.prog 48 t3 2) fun t11 => pureW (loadP Tryz.prog At4 3 t11) fun t12 => pureW (fieldAddrA Tryz.prog 48 t3 5) fun t13 => pureW (loadP Tryz.prog At4 3 t13) fun t14 => pureW (binA Tryz.prog .add 3 (.tmp 23) (.tmp 25) t12 t14) fun t15 => pureW (binA Tryz.prog .gtr 3 (.tmp 26) (.const (.int .i64 0)) t15 (.int .i64 0)) fun t16 => forkW t16 (pureW (loadP Tryz.prog At4 48 t3) fun t17 => anW Tryz.prog theX W0 m0 (dynA Tryz.prog theX At4 (d 1) [t17]) fun t18 At18 => forkW t18 (pureW (fieldAddrA Tryz.prog 48 t3 0) fun t19 => pureW (loadP Tryz.prog At18 46 t19) fun t20 => bothW (buildSliceA Tryz.prog At18 28 1 [(0, t20)]) fun t21 At21 => bothW (appendA Tryz.prog At21 28 28 (d 5) t21) fun t22 At22 => pureW (binA Tryz.prog .add 3 (.tmp 11) (.const (.int .i64 1)) (d 11) (.int .i64 1)) fun t23 => cutW (T31 0) (T31 0) (S 0 [(d 1), t22, (d 9), (d 10), t23] At22)) (pureW (binA Tryz.prog .add 3 (.tmp 11) (.const (.int .i64 1)) (d 11) (.int .i64 1)) fun t24 => cutW (T31 0) (T31 0) (S 0 [(d 1), (d 5), (d 9), (d 10), t24] At18))) (pureW (binA Tryz.prog .add 3 (.tmp 11) (.const (.int .i64 1)) (d 11) (.int .i64 1)) fun t25 => cutW (T31 0) (T31 0) (S 0 [(d 1), (d 5), (d 9), (d 10), t25] At4))) (pureW (binA Tryz.prog .add 3 (.tmp 11) (.const (.int .i64 1)) (d 11) (.int .i64 1)) fun t26 => cutW (T31 0) (T31 0) (S 0 [(d 1), (d 5), (d 9), (d 10), t26] At4))) (Q (d 5) A)) := by kernel_rfl
theorem n31 (a0 a1 : Value) : enterA Tryz.prog 31 [a0, a1] .normal = some (frM 31 (Tm.fill ⟨41, .nil⟩ 0 [a0, a1]) [.code (cd 31 [])] false) := by kernel_rfl
theorem w31 : Wf2 31 41 T31 L31 := wf2 n31 (by decide) fun _ _ => rfl
theorem c31 : Cutf 31 41 T31 L31 := cutf (by decide)

/-! posthouse/watch.Torn$1 -/
noncomputable def T32 : Nat → List Item := fun i => match i with
  | _ => []
def L32 : Nat → List Tmp := fun i => match i with
  | _ => []
theorem e32 (W0 : World) (m0 : Inj Tryz.prog) (S : Nat → List Value → AW → Prop) (Q : Value → AW → Prop) (a0 : Value) (A : AW) : wpgo Tryz.prog theX W0 m0 32 T32 L32 S Q none 4000 (Tm.fill ⟨6, .nil⟩ 0 [a0]) [.code (cd 32 [])] false 0 0 0 [] A = (bothW (newP A (Value.cells a0).toList 48) fun t0 At0 => pureW (loadP Tryz.prog At0 48 t0) fun t1 => Wc Tryz.prog theX W0 m0 33 [t1] At0 fun t2 At2 => pureW (unA Tryz.prog .not t2) fun t3 => Q t3 At2) := by kernel_rfl
theorem n32 (a0 : Value) : enterA Tryz.prog 32 [a0] .normal = some (frM 32 (Tm.fill ⟨6, .nil⟩ 0 [a0]) [.code (cd 32 [])] false) := by kernel_rfl
theorem w32 : Wf1 32 6 T32 L32 := wf1 n32 (by decide) fun _ => rfl

/-! posthouse/watch.decided -/
noncomputable def T33 : Nat → List Item := fun i => match i with
  | _ => []
def L33 : Nat → List Tmp := fun i => match i with
  | _ => []
theorem e33 (W0 : World) (m0 : Inj Tryz.prog) (S : Nat → List Value → AW → Prop) (Q : Value → AW → Prop) (a0 : Value) (A : AW) : wpgo Tryz.prog theX W0 m0 33 T33 L33 S Q none 4000 (Tm.fill ⟨9, .nil⟩ 0 [a0]) [.code (cd 33 [])] false 0 0 0 [] A = (bothW (newP A (Value.cells a0).toList 48) fun t0 At0 => pureW (fieldAddrA Tryz.prog 48 t0 4) fun t1 => pureW (loadP Tryz.prog At0 3 t1) fun t2 => pureW (fieldAddrA Tryz.prog 48 t0 5) fun t3 => pureW (loadP Tryz.prog At0 3 t3) fun t4 => pureW (binA Tryz.prog .add 3 (.tmp 4) (.tmp 6) t2 t4) fun t5 => pureW (binA Tryz.prog .gtr 3 (.tmp 7) (.const (.int .i64 0)) t5 (.int .i64 0)) fun t6 => Q t6 At0) := by kernel_rfl
theorem n33 (a0 : Value) : enterA Tryz.prog 33 [a0] .normal = some (frM 33 (Tm.fill ⟨9, .nil⟩ 0 [a0]) [.code (cd 33 [])] false) := by kernel_rfl
theorem w33 : Wf1 33 9 T33 L33 := wf1 n33 (by decide) fun _ => rfl

/-! (*posthouse/watch.score).commit -/
noncomputable def T48 : Nat → List Item := fun i => match i with
  | _ => []
def L48 : Nat → List Tmp := fun i => match i with
  | _ => []
theorem e48 (W0 : World) (m0 : Inj Tryz.prog) (S : Nat → List Value → AW → Prop) (Q : Value → AW → Prop) (a0 : Value) (A : AW) : wpgo Tryz.prog theX W0 m0 48 T48 L48 S Q none 4000 (Tm.fill ⟨9, .nil⟩ 0 [a0]) [.code (cd 48 [])] false 0 0 0 [] A = (pureW (nilP a0) fun t0 => pureW (fieldAddrA Tryz.prog 58 t0 1) fun t1 => pureW (loadP Tryz.prog A 3 t1) fun t2 => pureW (binA Tryz.prog .add 3 (.tmp 5) (.const (.int .i64 1)) t2 (.int .i64 1)) fun t3 => pureW (nilP a0) fun t4 => pureW (fieldAddrA Tryz.prog 58 t4 1) fun t5 => effW (storeP Tryz.prog A 3 t5 t3) fun At6 => Q (.tuple ⟨[]⟩) At6) := by kernel_rfl
theorem n48 (a0 : Value) : enterA Tryz.prog 48 [a0] .normal = some (frM 48 (Tm.fill ⟨9, .nil⟩ 0 [a0]) [.code (cd 48 [])] false) := by kernel_rfl
theorem w48 : Wf1 48 9 T48 L48 := wf1 n48 (by decide) fun _ => rfl

/-! (*posthouse/watch.score).back -/
noncomputable def T49 : Nat → List Item := fun i => match i with
  | _ => []
def L49 : Nat → List Tmp := fun i => match i with
  | _ => []
theorem e49 (W0 : World) (m0 : Inj Tryz.prog) (S : Nat → List Value → AW → Prop) (Q : Value → AW → Prop) (a0 : Value) (A : AW) : wpgo Tryz.prog theX W0 m0 49 T49 L49 S Q none 4000 (Tm.fill ⟨9, .nil⟩ 0 [a0]) [.code (cd 49 [])] false 0 0 0 [] A = (pureW (nilP a0) fun t0 => pureW (fieldAddrA Tryz.prog 58 t0 2) fun t1 => pureW (loadP Tryz.prog A 3 t1) fun t2 => pureW (binA Tryz.prog .add 3 (.tmp 5) (.const (.int .i64 1)) t2 (.int .i64 1)) fun t3 => pureW (nilP a0) fun t4 => pureW (fieldAddrA Tryz.prog 58 t4 2) fun t5 => effW (storeP Tryz.prog A 3 t5 t3) fun At6 => Q (.tuple ⟨[]⟩) At6) := by kernel_rfl
theorem n49 (a0 : Value) : enterA Tryz.prog 49 [a0] .normal = some (frM 49 (Tm.fill ⟨9, .nil⟩ 0 [a0]) [.code (cd 49 [])] false) := by kernel_rfl
theorem w49 : Wf1 49 9 T49 L49 := wf1 n49 (by decide) fun _ => rfl

/-! (*posthouse/watch.score).read -/
noncomputable def T50 : Nat → List Item := fun i => match i with
  | _ => []
def L50 : Nat → List Tmp := fun i => match i with
  | _ => []
theorem e50 (W0 : World) (m0 : Inj Tryz.prog) (S : Nat → List Value → AW → Prop) (Q : Value → AW → Prop) (a0 : Value) (A : AW) : wpgo Tryz.prog theX W0 m0 50 T50 L50 S Q none 4000 (Tm.fill ⟨9, .nil⟩ 0 [a0]) [.code (cd 50 [])] false 0 0 0 [] A = (pureW (nilP a0) fun t0 => pureW (fieldAddrA Tryz.prog 58 t0 3) fun t1 => pureW (loadP Tryz.prog A 3 t1) fun t2 => pureW (binA Tryz.prog .add 3 (.tmp 5) (.const (.int .i64 1)) t2 (.int .i64 1)) fun t3 => pureW (nilP a0) fun t4 => pureW (fieldAddrA Tryz.prog 58 t4 3) fun t5 => effW (storeP Tryz.prog A 3 t5 t3) fun At6 => Q (.tuple ⟨[]⟩) At6) := by kernel_rfl
theorem n50 (a0 : Value) : enterA Tryz.prog 50 [a0] .normal = some (frM 50 (Tm.fill ⟨9, .nil⟩ 0 [a0]) [.code (cd 50 [])] false) := by kernel_rfl
theorem w50 : Wf1 50 9 T50 L50 := wf1 n50 (by decide) fun _ => rfl

/-! (*posthouse/watch.score).heurCommit -/
noncomputable def T51 : Nat → List Item := fun i => match i with
  | _ => []
def L51 : Nat → List Tmp := fun i => match i with
  | _ => []
theorem e51 (W0 : World) (m0 : Inj Tryz.prog) (S : Nat → List Value → AW → Prop) (Q : Value → AW → Prop) (a0 : Value) (A : AW) : wpgo Tryz.prog theX W0 m0 51 T51 L51 S Q none 4000 (Tm.fill ⟨9, .nil⟩ 0 [a0]) [.code (cd 51 [])] false 0 0 0 [] A = (pureW (nilP a0) fun t0 => pureW (fieldAddrA Tryz.prog 58 t0 4) fun t1 => pureW (loadP Tryz.prog A 3 t1) fun t2 => pureW (binA Tryz.prog .add 3 (.tmp 5) (.const (.int .i64 1)) t2 (.int .i64 1)) fun t3 => pureW (nilP a0) fun t4 => pureW (fieldAddrA Tryz.prog 58 t4 4) fun t5 => effW (storeP Tryz.prog A 3 t5 t3) fun At6 => Q (.tuple ⟨[]⟩) At6) := by kernel_rfl
theorem n51 (a0 : Value) : enterA Tryz.prog 51 [a0] .normal = some (frM 51 (Tm.fill ⟨9, .nil⟩ 0 [a0]) [.code (cd 51 [])] false) := by kernel_rfl
theorem w51 : Wf1 51 9 T51 L51 := wf1 n51 (by decide) fun _ => rfl

/-! (*posthouse/watch.score).heurBack -/
noncomputable def T52 : Nat → List Item := fun i => match i with
  | _ => []
def L52 : Nat → List Tmp := fun i => match i with
  | _ => []
theorem e52 (W0 : World) (m0 : Inj Tryz.prog) (S : Nat → List Value → AW → Prop) (Q : Value → AW → Prop) (a0 : Value) (A : AW) : wpgo Tryz.prog theX W0 m0 52 T52 L52 S Q none 4000 (Tm.fill ⟨9, .nil⟩ 0 [a0]) [.code (cd 52 [])] false 0 0 0 [] A = (pureW (nilP a0) fun t0 => pureW (fieldAddrA Tryz.prog 58 t0 5) fun t1 => pureW (loadP Tryz.prog A 3 t1) fun t2 => pureW (binA Tryz.prog .add 3 (.tmp 5) (.const (.int .i64 1)) t2 (.int .i64 1)) fun t3 => pureW (nilP a0) fun t4 => pureW (fieldAddrA Tryz.prog 58 t4 5) fun t5 => effW (storeP Tryz.prog A 3 t5 t3) fun At6 => Q (.tuple ⟨[]⟩) At6) := by kernel_rfl
theorem n52 (a0 : Value) : enterA Tryz.prog 52 [a0] .normal = some (frM 52 (Tm.fill ⟨9, .nil⟩ 0 [a0]) [.code (cd 52 [])] false) := by kernel_rfl
theorem w52 : Wf1 52 9 T52 L52 := wf1 n52 (by decide) fun _ => rfl

/-! slices.Collect[posthouse/api.Xid] -/
noncomputable def T53 : Nat → List Item := fun i => match i with
  | _ => []
def L53 : Nat → List Tmp := fun i => match i with
  | _ => []
theorem e53 (W0 : World) (m0 : Inj Tryz.prog) (S : Nat → List Value → AW → Prop) (Q : Value → AW → Prop) (a0 : Value) (A : AW) : wpgo Tryz.prog theX W0 m0 53 T53 L53 S Q none 4000 (Tm.fill ⟨5, .nil⟩ 0 [a0]) [.code (cd 53 [])] false 0 0 0 [] A = (Wc Tryz.prog theX W0 m0 80 [(.slice none 0 0), a0] A fun t0 At0 => Q t0 At0) := by kernel_rfl
theorem n53 (a0 : Value) : enterA Tryz.prog 53 [a0] .normal = some (frM 53 (Tm.fill ⟨5, .nil⟩ 0 [a0]) [.code (cd 53 [])] false) := by kernel_rfl
theorem w53 : Wf1 53 5 T53 L53 := wf1 n53 (by decide) fun _ => rfl

/-! maps.Keys[map[posthouse/api.Xid]posthouse/watch.score,posthouse/api.Xid,posthouse/watch.score]$1 -/
noncomputable def T55 : Nat → List Item := fun i => match i with
  | 0 => [(.code (cd 55 [1, 0, 0])), (.inLoop (cd 55 [1, 0, 0])), (.inBlock 0)]
  | _ => []
def L55 : Nat → List Tmp := fun i => match i with
  | 0 => [0, 5]
  | _ => []
theorem e55 (W0 : World) (m0 : Inj Tryz.prog) (S : Nat → List Value → AW → Prop) (Q : Value → AW → Prop) (a0 a1 : Value) (A : AW) : wpgo Tryz.prog theX W0 m0 55 T55 L55 S Q none 4000 (Tm.fill ⟨14, .nil⟩ 0 [a0, a1]) [.code (cd 55 [])] false 0 0 0 [] A = (pureW (loadP Tryz.prog A 57 a1) fun t0 => anW Tryz.prog theX W0 m0 (rangeP Tryz.prog A 57 t0) fun t1 At1 => cutW (T55 0) (T55 0) (S 0 [a0, t1] At1)) := by kernel_rfl
theorem l55_0 (W0 : World) (m0 : Inj Tryz.prog) (S : Nat → List Value → AW → Prop) (Q : Value → AW → Prop) (d : Nat → Value) (A : AW) : wpgo Tryz.prog theX W0 m0 55 T55 L55 S Q none 4000 (tmOf 14 d) (T55 0) false 0 0 0 [] A = (anW Tryz.prog theX W0 m0 (nextA A (d 5) false) fun t0 At0 => pureW (extractP t0 0) fun t1 => forkW t1 (anW Tryz.prog theX W0 m0 (entryP At0 (d 5)) fun t2 At2 => pureW (extractP t2 0) fun t3 => bothW (allocP Tryz.prog At2 46) fun t4 At4 => effW (storeP Tryz.prog At4 46 t4 t3) fun At5 => pureW (loadP Tryz.prog At5 46 t4) fun t6 => anW Tryz.prog theX W0 m0 (dynA Tryz.prog theX At5 (d 0) [t6]) fun t7 At7 => pureW (unA Tryz.prog .not t7) fun t8 => forkW t8 (Q (.tuple ⟨[]⟩) At7) (cutW (T55 0) (T55 0) (S 0 [(d 0), (d 5)] At7))) (Q (.tuple ⟨[]⟩) At0)) := by kernel_rfl
theorem n55 (a0 a1 : Value) : enterA Tryz.prog 55 [a0, a1] .normal = some (frM 55 (Tm.fill ⟨14, .nil⟩ 0 [a0, a1]) [.code (cd 55 [])] false) := by kernel_rfl
theorem w55 : Wf2 55 14 T55 L55 := wf2 n55 (by decide) fun _ _ => rfl
theorem c55 : Cutf 55 14 T55 L55 := cutf (by decide)

/-! cmp.Or[int] -/
noncomputable def T56 : Nat → List Item := fun i => match i with
  | 0 => [(.code (cd 56 [1, 1, 0, 1, 0, 0])), (.inLoop (cd 56 [1, 1, 0, 1, 0, 0])), (.inBlock 0), (.code (cd 56 [1, 1, 1]))]
  | _ => []
def L56 : Nat → List Tmp := fun i => match i with
  | 0 => [3, 6, 7, 8]
  | _ => []
theorem e56 (W0 : World) (m0 : Inj Tryz.prog) (S : Nat → List Value → AW → Prop) (Q : Value → AW → Prop) (a0 : Value) (A : AW) : wpgo Tryz.prog theX W0 m0 56 T56 L56 S Q none 4000 (Tm.fill ⟨18, .nil⟩ 0 [a0]) [.code (cd 56 [])] false 0 0 0 [] A = (pureW (lenA Tryz.prog A 143 a0) fun t0 => cutW (T56 0) (T56 0) (S 0 [(.int .i64 0), a0, t0, (.int .i64 0)] A)) := by kernel_rfl
theorem l56_0 (W0 : World) (m0 : Inj Tryz.prog) (S : Nat → List Value → AW → Prop) (Q : Value → AW → Prop) (d : Nat → Value) (A : AW) : wpgo Tryz.prog theX W0 m0 56 T56 L56 S Q none 4000 (tmOf 18 d) (T56 0) false 0 0 0 [] A = (pureW (binA Tryz.prog .lss 3 (.tmp 8) (.tmp 7) (d 8) (d 7)) fun t0 => forkW t0 (pureW (indexAddrA Tryz.prog 143 (d 6) (d 8)) fun t1 => pureW (loadP Tryz.prog A 3 t1) fun t2 => pureW (binA Tryz.prog .neq 3 (.tmp 12) (.tmp 13) t2 (d 3)) fun t3 => forkW t3 (Q t2 A) (pureW (binA Tryz.prog .add 3 (.tmp 8) (.const (.int .i64 1)) (d 8) (.int .i64 1)) fun t4 => cutW (T56 0) (T56 0) (S 0 [(d 3), (d 6), (d 7), t4] A))) (Q (d 3) A)) := by kernel_rfl
theorem n56 (a0 : Value) : enterA Tryz.prog 56 [a0] .normal = some (frM 56 (Tm.fill ⟨18, .nil⟩ 0 [a0]) [.code (cd 56 [])] false) := by kernel_rfl
theorem w56 : Wf1 56 18 T56 L56 := wf1 n56 (by decide) fun _ => rfl
theorem c56 : Cutf 56 18 T56 L56 := cutf (by decide)

/-! cmp.Compare[uint32] -/
noncomputable def T57 : Nat → List Item := fun i => match i with
  | _ => []
def L57 : Nat → List Tmp := fun i => match i with
  | _ => []
theorem e57 (W0 : World) (m0 : Inj Tryz.prog) (S : Nat → List Value → AW → Prop) (Q : Value → AW → Prop) (a0 a1 : Value) (A : AW) : wpgo Tryz.prog theX W0 m0 57 T57 L57 S Q none 4000 (Tm.fill ⟨20, .nil⟩ 0 [a0, a1]) [.code (cd 57 [])] false 0 0 0 [] A = (Wc Tryz.prog theX W0 m0 83 [a0] A fun t0 At0 => Wc Tryz.prog theX W0 m0 83 [a1] At0 fun t1 At1 => forkW t0 (forkW t1 (Q (.int .i64 0) At1) (Q (.int .i64 (-1)) At1)) (forkW t1 (Q (.int .i64 1) At1) (pureW (binA Tryz.prog .lss 44 (.tmp 14) (.tmp 15) a0 a1) fun t2 => forkW t2 (Q (.int .i64 (-1)) At1) (pureW (binA Tryz.prog .gtr 44 (.tmp 17) (.tmp 18) a0 a1) fun t3 => forkW t3 (Q (.int .i64 1) At1) (Q (.int .i64 0) At1))))) := by kernel_rfl
theorem n57 (a0 a1 : Value) : enterA Tryz.prog 57 [a0, a1] .normal = some (frM 57 (Tm.fill ⟨20, .nil⟩ 0 [a0, a1]) [.code (cd 57 [])] false) := by kernel_rfl
theorem w57 : Wf2 57 20 T57 L57 := wf2 n57 (by decide) fun _ _ => rfl

/-! strings.Compare -/
noncomputable def T58 : Nat → List Item := fun i => match i with
  | _ => []
def L58 : Nat → List Tmp := fun i => match i with
  | _ => []
theorem e58 (W0 : World) (m0 : Inj Tryz.prog) (S : Nat → List Value → AW → Prop) (Q : Value → AW → Prop) (a0 a1 : Value) (A : AW) : wpgo Tryz.prog theX W0 m0 58 T58 L58 S Q none 4000 (Tm.fill ⟨8, .nil⟩ 0 [a0, a1]) [.code (cd 58 [])] false 0 0 0 [] A = (Wc Tryz.prog theX W0 m0 84 [a0, a1] A fun t0 At0 => Q t0 At0) := by kernel_rfl
theorem n58 (a0 a1 : Value) : enterA Tryz.prog 58 [a0, a1] .normal = some (frM 58 (Tm.fill ⟨8, .nil⟩ 0 [a0, a1]) [.code (cd 58 [])] false) := by kernel_rfl
theorem w58 : Wf2 58 8 T58 L58 := wf2 n58 (by decide) fun _ _ => rfl

/-! posthouse/posthouseref04.Compare -/
noncomputable def T59 : Nat → List Item := fun i => match i with
  | _ => []
def L59 : Nat → List Tmp := fun i => match i with
  | _ => []
theorem e59 (W0 : World) (m0 : Inj Tryz.prog) (S : Nat → List Value → AW → Prop) (Q : Value → AW → Prop) (a0 a1 : Value) (A : AW) : wpgo Tryz.prog theX W0 m0 59 T59 L59 S Q none 4000 (Tm.fill ⟨35, .nil⟩ 0 [a0, a1]) [.code (cd 59 [])] false 0 0 0 [] A = (bothW (newP A (Value.cells a0).toList 46) fun t0 At0 => bothW (newP At0 (Value.cells a1).toList 46) fun t1 At1 => pureW (loadP Tryz.prog At1 46 t0) fun t2 => pureW (loadP Tryz.prog At1 46 t1) fun t3 => pureW (binA Tryz.prog .eql 46 (.tmp 6) (.tmp 7) t2 t3) fun t4 => forkW t4 (Q (.int .i64 0) At1) (pureW (fieldAddrA Tryz.prog 46 t0 2) fun t5 => pureW (loadP Tryz.prog At1 9 t5) fun t6 => pureW (fieldAddrA Tryz.prog 46 t1 2) fun t7 => pureW (loadP Tryz.prog At1 9 t7) fun t8 => Wc Tryz.prog theX W0 m0 85 [t6, t8] At1 fun t9 At9 => pureW (fieldAddrA Tryz.prog 46 t0 1) fun t10 => pureW (loadP Tryz.prog At9 9 t10) fun t11 => pureW (fieldAddrA Tryz.prog 46 t1 1) fun t12 => pureW (loadP Tryz.prog At9 9 t12) fun t13 => pureW (binA Tryz.prog .neq 9 (.tmp 15) (.tmp 17) t11 t13) fun t14 => forkW t14 (pureW (fieldAddrA Tryz.prog 46 t0 1) fun t15 => pureW (loadP Tryz.prog At9 9 t15) fun t16 => pureW (fieldAddrA Tryz.prog 46 t1 1) fun t17 => pureW (loadP Tryz.prog At9 9 t17) fun t18 => Wc Tryz.prog theX W0 m0 85 [t16, t18] At9 fun t19 At19 => pureW (fieldAddrA Tryz.prog 46 t0 0) fun t20 => pureW (loadP Tryz.prog At19 44 t20) fun t21 => pureW (fieldAddrA Tryz.prog 46 t1 0) fun t22 => pureW (loadP Tryz.prog At19 44 t22) fun t23 => pureW (binA Tryz.prog .neq 44 (.tmp 25) (.tmp 27) t21 t23) fun t24 => forkW t24 (pureW (fieldAddrA Tryz.prog 46 t0 0) fun t25 => pureW (loadP Tryz.prog At19 44 t25) fun t26 => pureW (fieldAddrA Tryz.prog 46 t1 0) fun t27 => pureW (loadP Tryz.prog At19 44 t27) fun t28 => pureW (binA Tryz.prog .lss 44 (.tmp 30) (.tmp 32) t26 t28) fun t29 => forkW t29 (Q (.int .i64 (-1)) At19) (Q (.int .i64 1) At19)) (forkW t19 (Q (.int .i64 (-1)) At19) (Q (.int .i64 1) At19))) (pureW (fieldAddrA Tryz.prog 46 t0 0) fun t30 => pureW (loadP Tryz.prog At9 44 t30) fun t31 => pureW (fieldAddrA Tryz.prog 46 t1 0) fun t32 => pureW (loadP Tryz.prog At9 44 t32) fun t33 => pureW (binA Tryz.prog .neq 44 (.tmp 25) (.tmp 27) t31 t33) fun t34 => forkW t34 (pureW (fieldAddrA Tryz.prog 46 t0 0) fun t35 => pureW (loadP Tryz.prog At9 44 t35) fun t36 => pureW (fieldAddrA Tryz.prog 46 t1 0) fun t37 => pureW (loadP Tryz.prog At9 44 t37) fun t38 => pureW (binA Tryz.prog .lss 44 (.tmp 30) (.tmp 32) t36 t38) fun t39 => forkW t39 (Q (.int .i64 (-1)) At9) (Q (.int .i64 1) At9)) (forkW t9 (Q (.int .i64 (-1)) At9) (Q (.int .i64 1) At9))))) := by kernel_rfl
theorem n59 (a0 a1 : Value) : enterA Tryz.prog 59 [a0, a1] .normal = some (frM 59 (Tm.fill ⟨35, .nil⟩ 0 [a0, a1]) [.code (cd 59 [])] false) := by kernel_rfl
theorem w59 : Wf2 59 35 T59 L59 := wf2 n59 (by decide) fun _ _ => rfl

/-! slices.AppendSeq[[]posthouse/api.Xid,posthouse/api.Xid] -/
noncomputable def T80 : Nat → List Item := fun i => match i with
  | _ => []
def L80 : Nat → List Tmp := fun i => match i with
  | _ => []
theorem e80 (W0 : World) (m0 : Inj Tryz.prog) (S : Nat → List Value → AW → Prop) (Q : Value → AW → Prop) (a0 a1 : Value) (A : AW) : wpgo Tryz.prog theX W0 m0 80 T80 L80 S Q none 4000 (Tm.fill ⟨13, .nil⟩ 0 [a0, a1]) [.code (cd 80 [])] false 0 0 0 [] A = (bothW (newP A (Value.cells a0).toList 28) fun t0 At0 => loopW At0 80 (setsT ⟨13, .nil⟩ [(0, a0), (1, a1), (2, t0), (4, (.slice none 0 0)), (6, a1)]) [7] (cd 80 [1, 0, 1, 0, 0]) (cd 80 [1, 0, 1, 0, 1]) fun Dt1 Lt1 Abt1 => dynW Tryz.prog theX W0 m0 Abt1 a1 [.func (.yield Lt1) #[] #[]] fun _ Act1 => endLoopW Act1 Lt1 (fun Adt1 => pureW (loadP Tryz.prog Adt1 28 t0) fun t2 => takeDs [Dt1] Adt1 fun At3 => Q t2 At3) (fun Aet1 => takeDs [Dt1] Aet1 fun At4 => Q (.slice none 0 0) At4)) := by kernel_rfl
theorem r80_0 (W0 : World) (m0 : Inj Tryz.prog) (S : Nat → List Value → AW → Prop) (Q : Value → AW → Prop) (l : Nat) (d : Nat → Value) (A : AW) : wpgo Tryz.prog theX W0 m0 80 T80 L80 S Q (some l) 4000 (tmOf 13 d) [.code (cd 80 [1, 0, 1, 0, 0]), .beginRound, .code (cd 80 [1, 0, 1, 0, 1])] false 0 0 0 [] A = (bothW (allocP Tryz.prog A 46) fun t0 At0 => effW (storeP Tryz.prog At0 46 t0 (d 7)) fun At1 => beginW At1 l fun At2 => pureW (loadP Tryz.prog At2 28 (d 2)) fun t3 => pureW (loadP Tryz.prog At2 46 t0) fun t4 => bothW (buildSliceA Tryz.prog At2 28 1 [(0, t4)]) fun t5 At5 => bothW (appendA Tryz.prog At5 28 28 t3 t5) fun t6 At6 => effW (storeP Tryz.prog At6 28 (d 2) t6) fun At7 => leaveW At7 l none Q) := by kernel_rfl
theorem n80 (a0 a1 : Value) : enterA Tryz.prog 80 [a0, a1] .normal = some (frM 80 (Tm.fill ⟨13, .nil⟩ 0 [a0, a1]) [.code (cd 80 [])] false) := by kernel_rfl
theorem w80 : Wf2 80 13 T80 L80 := wf2 n80 (by decide) fun _ _ => rfl

/-! cmp.isNaN[uint32] -/
noncomputable def T83 : Nat → List Item := fun i => match i with
  | _ => []
def L83 : Nat → List Tmp := fun i => match i with
  | _ => []
theorem e83 (W0 : World) (m0 : Inj Tryz.prog) (S : Nat → List Value → AW → Prop) (Q : Value → AW → Prop) (a0 : Value) (A : AW) : wpgo Tryz.prog theX W0 m0 83 T83 L83 S Q none 4000 (Tm.fill ⟨6, .nil⟩ 0 [a0]) [.code (cd 83 [])] false 0 0 0 [] A = (pureW (binA Tryz.prog .neq 44 (.tmp 3) (.tmp 4) a0 a0) fun t0 => Q t0 A) := by kernel_rfl
theorem n83 (a0 : Value) : enterA Tryz.prog 83 [a0] .normal = some (frM 83 (Tm.fill ⟨6, .nil⟩ 0 [a0]) [.code (cd 83 [])] false) := by kernel_rfl
theorem w83 : Wf1 83 6 T83 L83 := wf1 n83 (by decide) fun _ => rfl

/-! posthouse/posthouseref04.less -/
noncomputable def T85 : Nat → List Item := fun i => match i with
  | 0 => [(.code (cd 85 [1, 0, 1, 0, 0])), (.inLoop (cd 85 [1, 0, 1, 0, 0])), (.inBlock 0), (.code (cd 85 [1, 1]))]
  | _ => []
def L85 : Nat → List Tmp := fun i => match i with
  | 0 => [0, 1, 5]
  | _ => []
theorem e85 (W0 : World) (m0 : Inj Tryz.prog) (S : Nat → List Value → AW → Prop) (Q : Value → AW → Prop) (a0 a1 : Value) (A : AW) : wpgo Tryz.prog theX W0 m0 85 T85 L85 S Q none 4000 (Tm.fill ⟨37, .nil⟩ 0 [a0, a1]) [.code (cd 85 [])] false 0 0 0 [] A = (cutW (T85 0) (T85 0) (S 0 [a0, a1, (.int .i64 0)] A)) := by kernel_rfl
theorem l85_0 (W0 : World) (m0 : Inj Tryz.prog) (S : Nat → List Value → AW → Prop) (Q : Value → AW → Prop) (d : Nat → Value) (A : AW) : wpgo Tryz.prog theX W0 m0 85 T85 L85 S Q none 4000 (tmOf 37 d) (T85 0) false 0 0 0 [] A = (pureW (lenA Tryz.prog A 9 (d 0)) fun t0 => pureW (binA Tryz.prog .lss 3 (.tmp 6) (.tmp 8) (d 5) t0) fun t1 => forkW t1 (pureW (lenA Tryz.prog A 9 (d 1)) fun t2 => pureW (binA Tryz.prog .lss 3 (.tmp 11) (.tmp 13) (d 5) t2) fun t3 => forkW t3 (pureW (indexA Tryz.prog 9 (d 0) (d 5)) fun t4 => pureW (indexA Tryz.prog 9 (d 1) (d 5)) fun t5 => pureW (binA Tryz.prog .neq 5 (.tmp 20) (.tmp 23) t4 t5) fun t6 => forkW t6 (pureW (indexA Tryz.prog 9 (d 0) (d 5)) fun t7 => pureW (indexA Tryz.prog 9 (d 1) (d 5)) fun t8 => pureW (binA Tryz.prog .lss 5 (.tmp 27) (.tmp 30) t7 t8) fun t9 => Q t9 A) (pureW (binA Tryz.prog .add 3 (.tmp 16) (.const (.int .i64 1)) (d 5) (.int .i64 1)) fun t10 => cutW (T85 0) (T85 0) (S 0 [(d 0), (d 1), t10] A))) (pureW (lenA Tryz.prog A 9 (d 0)) fun t11 => pureW (lenA Tryz.prog A 9 (d 1)) fun t12 => pureW (binA Tryz.prog .lss 3 (.tmp 33) (.tmp 35) t11 t12) fun t13 => Q t13 A)) (pureW (lenA Tryz.prog A 9 (d 0)) fun t14 => pureW (lenA Tryz.prog A 9 (d 1)) fun t15 => pureW (binA Tryz.prog .lss 3 (.tmp 33) (.tmp 35) t14 t15) fun t16 => Q t16 A)) := by kernel_rfl
theorem n85 (a0 a1 : Value) : enterA Tryz.prog 85 [a0, a1] .normal = some (frM 85 (Tm.fill ⟨37, .nil⟩ 0 [a0, a1]) [.code (cd 85 [])] false) := by kernel_rfl
theorem w85 : Wf2 85 37 T85 L85 := wf2 n85 (by decide) fun _ _ => rfl
theorem c85 : Cutf 85 37 T85 L85 := cutf (by decide)

/-! internal/bytealg.CompareString -/
noncomputable def T84 : Nat → List Item := fun i => match i with
  | _ => []
def L84 : Nat → List Tmp := fun i => match i with
  | _ => []
theorem e84 (W0 : World) (m0 : Inj Tryz.prog) (S : Nat → List Value → AW → Prop) (Q : Value → AW → Prop) (a0 a1 : Value) (A : AW) : wpgo Tryz.prog theX W0 m0 84 T84 L84 S Q none 4000 (Tm.fill ⟨8, .nil⟩ 0 [a0, a1]) [.code (cd 84 [])] false 0 0 0 [] A = (anW Tryz.prog theX W0 m0 (callFuncA Tryz.prog theX A 117 [a0, a1]) fun t0 At0 => Q t0 At0) := by kernel_rfl
theorem n84 (a0 a1 : Value) : enterA Tryz.prog 84 [a0, a1] .normal = some (frM 84 (Tm.fill ⟨8, .nil⟩ 0 [a0, a1]) [.code (cd 84 [])] false) := by kernel_rfl
theorem w84 : Wf2 84 8 T84 L84 := wf2 n84 (by decide) fun _ _ => rfl


end Go.Proofs.YtdpdajpiadohjaaGreatDoor
