/-
  What each function that the statement reaches asks, so that its answer is as is wanted: printed by a program of ours. Conditions: none.
-/
import Derived.Test.YtebidlpekphaoaaGreatDoorAbsI
import Derived.Test.YtebidlpekphaoaaGreatDoorAbsG
import Derived.Test.YtebidlpekphaoaaGreatDoorProg
import Derived.KernelRfl

set_option maxRecDepth 100000
namespace Go.Proofs.YtebidlpekphaoaaGreatDoor
open Go.Abs

def theX : XNames := { clone := [], noEscape := [80], noZero := [116], known := [7, 103, 104] }
/-- the part of a code that a path leads to -/
def sub : Code → List Nat → Code
  | c, [] => c
  | .seq a _, 0 :: p => sub a p
  | .seq _ b, _ :: p => sub b p
  | .cond _ a _, 0 :: p => sub a p
  | .cond _ _ b, _ :: p => sub b p
  | .block _ b, _ :: p => sub b p
  | .loop b, _ :: p => sub b p
  | .rangeFunc _ _ a _, 0 :: p => sub a p
  | .rangeFunc _ _ _ b, _ :: p => sub b p
  | .scope b, _ :: p => sub b p
  | c, _ => c
noncomputable def cd (f : FuncId) (p : List Nat) : Code := match Tryz.prog.funcs[f]? with
  | some fn => (match fn.body with | some c => sub c p | none => .skip)
  | none => .skip
theorem gX : XOk Tryz.prog theX := by
  refine ⟨fun f h => by simp [theX, memN] at h, fun f h => ?_, fun f h => ?_⟩
  · obtain rfl : f = 80 := by simpa [theX] using memN_mem h
    exact ⟨Tryz.f80, Tryz.func80, by kernel_rfl, by kernel_rfl, by kernel_rfl, by kernel_rfl⟩
  · obtain rfl : f = 116 := by simpa [theX] using memN_mem h
    exact ⟨Tryz.f116, Tryz.func116, by kernel_rfl, by kernel_rfl, by kernel_rfl, by kernel_rfl, by kernel_rfl⟩
theorem gP : POk Tryz.prog := pok_of (by kernel_rfl) (by kernel_rfl)
theorem gPlain : Plain theX := ⟨rfl, rfl, rfl⟩
def Wf0 (f sz : Nat) (T : Nat → List Item) (L : Nat → List Tmp) : Prop := ∀ {W0 : World} {m0 : Inj Tryz.prog} {S : Nat → List Value → AW → Prop} {Q : Value → AW → Prop} (A : AW), Cuts Tryz.prog theX W0 m0 f T L S Q sz → wpgo Tryz.prog theX W0 m0 f T L S Q none 4000 (Tm.fill ⟨sz, .nil⟩ 0 []) [.code (cd f [])] false 0 0 0 [] A → Wc Tryz.prog theX W0 m0 f [] A Q
theorem wf0 {f sz : Nat} {T : Nat → List Item} {L : Nat → List Tmp} (n : enterA Tryz.prog f [] .normal = some (frM f (Tm.fill ⟨sz, .nil⟩ 0 []) [.code (cd f [])] false)) (hs : sz < maxId) (hz : (Tm.fill ⟨sz, .nil⟩ 0 []).sz = sz) : Wf0 f sz T L := fun _ hc h => wc_of gX gP gPlain hs hc (n) (hz) h
def Wf1 (f sz : Nat) (T : Nat → List Item) (L : Nat → List Tmp) : Prop := ∀ {W0 : World} {m0 : Inj Tryz.prog} {S : Nat → List Value → AW → Prop} {Q : Value → AW → Prop} (a0 : Value) (A : AW), Cuts Tryz.prog theX W0 m0 f T L S Q sz → wpgo Tryz.prog theX W0 m0 f T L S Q none 4000 (Tm.fill ⟨sz, .nil⟩ 0 [a0]) [.code (cd f [])] false 0 0 0 [] A → Wc Tryz.prog theX W0 m0 f [a0] A Q
theorem wf1 {f sz : Nat} {T : Nat → List Item} {L : Nat → List Tmp} (n : ∀ (a0 : Value), enterA Tryz.prog f [a0] .normal = some (frM f (Tm.fill ⟨sz, .nil⟩ 0 [a0]) [.code (cd f [])] false)) (hs : sz < maxId) (hz : ∀ (a0 : Value), (Tm.fill ⟨sz, .nil⟩ 0 [a0]).sz = sz) : Wf1 f sz T L := fun a0 _ hc h => wc_of gX gP gPlain hs hc (n a0) (hz a0) h
def Wf2 (f sz : Nat) (T : Nat → List Item) (L : Nat → List Tmp) : Prop := ∀ {W0 : World} {m0 : Inj Tryz.prog} {S : Nat → List Value → AW → Prop} {Q : Value → AW → Prop} (a0 a1 : Value) (A : AW), Cuts Tryz.prog theX W0 m0 f T L S Q sz → wpgo Tryz.prog theX W0 m0 f T L S Q none 4000 (Tm.fill ⟨sz, .nil⟩ 0 [a0, a1]) [.code (cd f [])] false 0 0 0 [] A → Wc Tryz.prog theX W0 m0 f [a0, a1] A Q
theorem wf2 {f sz : Nat} {T : Nat → List Item} {L : Nat → List Tmp} (n : ∀ (a0 a1 : Value), enterA Tryz.prog f [a0, a1] .normal = some (frM f (Tm.fill ⟨sz, .nil⟩ 0 [a0, a1]) [.code (cd f [])] false)) (hs : sz < maxId) (hz : ∀ (a0 a1 : Value), (Tm.fill ⟨sz, .nil⟩ 0 [a0, a1]).sz = sz) : Wf2 f sz T L := fun a0 a1 _ hc h => wc_of gX gP gPlain hs hc (n a0 a1) (hz a0 a1) h
def Wf3 (f sz : Nat) (T : Nat → List Item) (L : Nat → List Tmp) : Prop := ∀ {W0 : World} {m0 : Inj Tryz.prog} {S : Nat → List Value → AW → Prop} {Q : Value → AW → Prop} (a0 a1 a2 : Value) (A : AW), Cuts Tryz.prog theX W0 m0 f T L S Q sz → wpgo Tryz.prog theX W0 m0 f T L S Q none 4000 (Tm.fill ⟨sz, .nil⟩ 0 [a0, a1, a2]) [.code (cd f [])] false 0 0 0 [] A → Wc Tryz.prog theX W0 m0 f [a0, a1, a2] A Q
theorem wf3 {f sz : Nat} {T : Nat → List Item} {L : Nat → List Tmp} (n : ∀ (a0 a1 a2 : Value), enterA Tryz.prog f [a0, a1, a2] .normal = some (frM f (Tm.fill ⟨sz, .nil⟩ 0 [a0, a1, a2]) [.code (cd f [])] false)) (hs : sz < maxId) (hz : ∀ (a0 a1 a2 : Value), (Tm.fill ⟨sz, .nil⟩ 0 [a0, a1, a2]).sz = sz) : Wf3 f sz T L := fun a0 a1 a2 _ hc h => wc_of gX gP gPlain hs hc (n a0 a1 a2) (hz a0 a1 a2) h
def Wf4 (f sz : Nat) (T : Nat → List Item) (L : Nat → List Tmp) : Prop := ∀ {W0 : World} {m0 : Inj Tryz.prog} {S : Nat → List Value → AW → Prop} {Q : Value → AW → Prop} (a0 a1 a2 a3 : Value) (A : AW), Cuts Tryz.prog theX W0 m0 f T L S Q sz → wpgo Tryz.prog theX W0 m0 f T L S Q none 4000 (Tm.fill ⟨sz, .nil⟩ 0 [a0, a1, a2, a3]) [.code (cd f [])] false 0 0 0 [] A → Wc Tryz.prog theX W0 m0 f [a0, a1, a2, a3] A Q
theorem wf4 {f sz : Nat} {T : Nat → List Item} {L : Nat → List Tmp} (n : ∀ (a0 a1 a2 a3 : Value), enterA Tryz.prog f [a0, a1, a2, a3] .normal = some (frM f (Tm.fill ⟨sz, .nil⟩ 0 [a0, a1, a2, a3]) [.code (cd f [])] false)) (hs : sz < maxId) (hz : ∀ (a0 a1 a2 a3 : Value), (Tm.fill ⟨sz, .nil⟩ 0 [a0, a1, a2, a3]).sz = sz) : Wf4 f sz T L := fun a0 a1 a2 a3 _ hc h => wc_of gX gP gPlain hs hc (n a0 a1 a2 a3) (hz a0 a1 a2 a3) h
def Wf5 (f sz : Nat) (T : Nat → List Item) (L : Nat → List Tmp) : Prop := ∀ {W0 : World} {m0 : Inj Tryz.prog} {S : Nat → List Value → AW → Prop} {Q : Value → AW → Prop} (a0 a1 a2 a3 a4 : Value) (A : AW), Cuts Tryz.prog theX W0 m0 f T L S Q sz → wpgo Tryz.prog theX W0 m0 f T L S Q none 4000 (Tm.fill ⟨sz, .nil⟩ 0 [a0, a1, a2, a3, a4]) [.code (cd f [])] false 0 0 0 [] A → Wc Tryz.prog theX W0 m0 f [a0, a1, a2, a3, a4] A Q
theorem wf5 {f sz : Nat} {T : Nat → List Item} {L : Nat → List Tmp} (n : ∀ (a0 a1 a2 a3 a4 : Value), enterA Tryz.prog f [a0, a1, a2, a3, a4] .normal = some (frM f (Tm.fill ⟨sz, .nil⟩ 0 [a0, a1, a2, a3, a4]) [.code (cd f [])] false)) (hs : sz < maxId) (hz : ∀ (a0 a1 a2 a3 a4 : Value), (Tm.fill ⟨sz, .nil⟩ 0 [a0, a1, a2, a3, a4]).sz = sz) : Wf5 f sz T L := fun a0 a1 a2 a3 a4 _ hc h => wc_of gX gP gPlain hs hc (n a0 a1 a2 a3 a4) (hz a0 a1 a2 a3 a4) h
def Cutf (f sz : Nat) (T : Nat → List Item) (L : Nat → List Tmp) : Prop := ∀ {W0 : World} {m0 : Inj Tryz.prog} {Q : Value → AW → Prop} {I : Nat → Nat → List Value → AW → Prop}, (∀ g id vals A d, I g id vals A → (L id).map d = vals → wpgo Tryz.prog theX W0 m0 f T L (fun id v A => ∃ g2, g2 < g ∧ I g2 id v A) Q none 4000 (tmOf sz d) (T id) false 0 0 0 [] A) → Cuts Tryz.prog theX W0 m0 f T L (fun id v A => ∃ g, I g id v A) Q sz
theorem cutf {f sz : Nat} {T : Nat → List Item} {L : Nat → List Tmp} (hs : sz < maxId) : Cutf f sz T L := fun h => cuts_of gX gP gPlain hs h

/-! posthouse/posthouselaw31.ScriptQuotes -/
noncomputable def T3 : Nat → List Item := fun i => match i with
  | _ => []
def L3 : Nat → List Tmp := fun i => match i with
  | _ => []
theorem e3 (W0 : World) (m0 : Inj Tryz.prog) (S : Nat → List Value → AW → Prop) (Q : Value → AW → Prop) (a0 a1 : Value) (A : AW) : wpgo Tryz.prog theX W0 m0 3 T3 L3 S Q none 4000 (Tm.fill ⟨64, .nil⟩ 0 [a0, a1]) [.code (cd 3 [])] false 0 0 0 [] A = (pureW (lenA Tryz.prog A 9 a0) fun t0 => pureW (binA Tryz.prog .gtr 3 (.tmp 13) (.const (.int .i64 3000)) t0 (.int .i64 3000)) fun t1 => forkW t1 (knW Tryz.prog W0 m0 7 [] A fun t2 At2 => Q t2 At2) (pureW (lenA Tryz.prog A 9 a1) fun t3 => pureW (binA Tryz.prog .gtr 3 (.tmp 17) (.const (.int .i64 3000)) t3 (.int .i64 3000)) fun t4 => forkW t4 (knW Tryz.prog W0 m0 7 [] A fun t5 At5 => Q t5 At5) (Wc Tryz.prog theX W0 m0 8 [a0] A fun t6 At6 => Wc Tryz.prog theX W0 m0 9 [a1] At6 fun t7 At7 => pureW (extractP t7 0) fun t8 => pureW (extractP t7 1) fun t9 => Wc Tryz.prog theX W0 m0 10 [a1] At7 fun t10 At10 => pureW (extractP t10 0) fun t11 => pureW (extractP t10 1) fun t12 => Wc Tryz.prog theX W0 m0 9 [t6] At10 fun t13 At13 => pureW (extractP t13 0) fun t14 => pureW (extractP t13 1) fun t15 => Wc Tryz.prog theX W0 m0 11 [a0] At13 fun t16 At16 => pureW (binA Tryz.prog .eql 9 (.tmp 38) (.tmp 40) t6 t16) fun t17 => forkW t17 (pureW (binA Tryz.prog .eql 9 (.tmp 43) (.tmp 44) t8 t11) fun t18 => forkW t18 (pureW (binA Tryz.prog .eql 3 (.tmp 48) (.tmp 49) t9 t12) fun t19 => forkW t19 (pureW (binA Tryz.prog .eql 9 (.tmp 53) (.tmp 54) t14 a0) fun t20 => forkW t20 (pureW (binA Tryz.prog .eql 24 (.tmp 58) (.const (.int .i64 0)) t15 (.int .i64 0)) fun t21 => forkW t21 (knW Tryz.prog W0 m0 7 [] At16 fun t22 At22 => Q t22 At22) (Q (.bool false) At16)) (Q (.bool false) At16)) (Q (.bool false) At16)) (Q (.bool false) At16)) (Q (.bool false) At16)))) := by kernel_rfl
theorem n3 (a0 a1 : Value) : enterA Tryz.prog 3 [a0, a1] .normal = some (frM 3 (Tm.fill ⟨64, .nil⟩ 0 [a0, a1]) [.code (cd 3 [])] false) := by kernel_rfl
theorem w3 : Wf2 3 64 T3 L3 := wf2 n3 (by decide) fun _ _ => rfl

/-! posthouse/script.Quote -/
noncomputable def T8 : Nat → List Item := fun i => match i with
  | 0 => [(.code (cd 8 [1, 1, 1, 1, 1, 0, 1, 0, 0])), (.inLoop (cd 8 [1, 1, 1, 1, 1, 0, 1, 0, 0])), (.inBlock 0), (.code (cd 8 [1, 1, 1, 1, 1, 1]))]
  | _ => []
def L8 : Nat → List Tmp := fun i => match i with
  | 0 => [1, 3, 4, 5, 12]
  | _ => []
theorem e8 (W0 : World) (m0 : Inj Tryz.prog) (S : Nat → List Value → AW → Prop) (Q : Value → AW → Prop) (a0 : Value) (A : AW) : wpgo Tryz.prog theX W0 m0 8 T8 L8 S Q none 4000 (Tm.fill ⟨43, .nil⟩ 0 [a0]) [.code (cd 8 [])] false 0 0 0 [] A = (bothW (newP A (Value.cells a0).toList 9) fun t0 At0 => pureW (loadP Tryz.prog At0 9 t0) fun t1 => pureW (binA Tryz.prog .eql 9 (.tmp 8) (.const (.string ⟨⟨[]⟩⟩)) t1 (.string ⟨⟨[]⟩⟩)) fun t2 => forkW t2 (Q (.string ⟨⟨[37]⟩⟩) At0) (bothW (allocP Tryz.prog At0 70) fun t3 At3 => bothW (allocP Tryz.prog At3 3) fun t4 At4 => effW (storeP Tryz.prog At4 3 t4 (.int .i64 0)) fun At5 => pureW (loadP Tryz.prog At5 9 t0) fun t6 => anW Tryz.prog theX W0 m0 (rangeP Tryz.prog At5 9 t6) fun t7 At7 => cutW (T8 0) (T8 0) (S 0 [t0, t3, t4, (.func (.func 20) ⟨[]⟩ ⟨[t0, t4, t3]⟩), t7] At7))) := by kernel_rfl
theorem l8_0 (W0 : World) (m0 : Inj Tryz.prog) (S : Nat → List Value → AW → Prop) (Q : Value → AW → Prop) (d : Nat → Value) (A : AW) : wpgo Tryz.prog theX W0 m0 8 T8 L8 S Q none 4000 (tmOf 43 d) (T8 0) false 0 0 0 [] A = (anW Tryz.prog theX W0 m0 (nextA A (d 12) true) fun t0 At0 => pureW (extractP t0 0) fun t1 => forkW t1 (pureW (extractP t0 1) fun t2 => pureW (extractP t0 2) fun t3 => anW Tryz.prog theX W0 m0 (dynA Tryz.prog theX At0 (d 5) [t2]) fun t4 At4 => pureW (binA Tryz.prog .gtr 21 (.tmp 20) (.const (.int .i32 32)) t3 (.int .i32 32)) fun t5 => forkW t5 (pureW (binA Tryz.prog .lss 21 (.tmp 23) (.const (.int .i32 127)) t3 (.int .i32 127)) fun t6 => forkW t6 (pureW (binA Tryz.prog .neq 21 (.tmp 27) (.const (.int .i32 37)) t3 (.int .i32 37)) fun t7 => forkW t7 (pureW (binA Tryz.prog .neq 21 (.tmp 31) (.const (.int .i32 58)) t3 (.int .i32 58)) fun t8 => forkW t8 (Wc Tryz.prog theX W0 m0 22 [(d 3), t3] At4 fun t9 At9 => pureW (binA Tryz.prog .add 3 (.tmp 36) (.const (.int .i64 1)) t2 (.int .i64 1)) fun t10 => effW (storeP Tryz.prog At9 3 (d 4) t10) fun At11 => cutW (T8 0) (T8 0) (S 0 [(d 1), (d 3), (d 4), (d 5), (d 12)] At11)) (cutW (T8 0) (T8 0) (S 0 [(d 1), (d 3), (d 4), (d 5), (d 12)] At4))) (cutW (T8 0) (T8 0) (S 0 [(d 1), (d 3), (d 4), (d 5), (d 12)] At4))) (cutW (T8 0) (T8 0) (S 0 [(d 1), (d 3), (d 4), (d 5), (d 12)] At4))) (cutW (T8 0) (T8 0) (S 0 [(d 1), (d 3), (d 4), (d 5), (d 12)] At4))) (pureW (loadP Tryz.prog At0 9 (d 1)) fun t12 => pureW (lenA Tryz.prog At0 9 t12) fun t13 => anW Tryz.prog theX W0 m0 (dynA Tryz.prog theX At0 (d 5) [t13]) fun t14 At14 => Wc Tryz.prog theX W0 m0 23 [(d 3)] At14 fun t15 At15 => Q t15 At15)) := by kernel_rfl
theorem n8 (a0 : Value) : enterA Tryz.prog 8 [a0] .normal = some (frM 8 (Tm.fill ⟨43, .nil⟩ 0 [a0]) [.code (cd 8 [])] false) := by kernel_rfl
theorem w8 : Wf1 8 43 T8 L8 := wf1 n8 (by decide) fun _ => rfl
theorem c8 : Cutf 8 43 T8 L8 := cutf (by decide)

/-! posthouse/script.Unquote -/
noncomputable def T9 : Nat → List Item := fun i => match i with
  | 0 => [(.code (cd 9 [1, 1, 1, 0, 1, 0, 0])), (.inLoop (cd 9 [1, 1, 1, 0, 1, 0, 0])), (.inBlock 0), (.code (cd 9 [1, 1, 1, 1]))]
  | _ => []
def L9 : Nat → List Tmp := fun i => match i with
  | 0 => [0, 4, 5]
  | _ => []
theorem e9 (W0 : World) (m0 : Inj Tryz.prog) (S : Nat → List Value → AW → Prop) (Q : Value → AW → Prop) (a0 : Value) (A : AW) : wpgo Tryz.prog theX W0 m0 9 T9 L9 S Q none 4000 (Tm.fill ⟨54, .nil⟩ 0 [a0]) [.code (cd 9 [])] false 0 0 0 [] A = (pureW (binA Tryz.prog .eql 9 (.tmp 6) (.const (.string ⟨⟨[37]⟩⟩)) a0 (.string ⟨⟨[37]⟩⟩)) fun t0 => forkW t0 (Q (.tuple ⟨[(.string ⟨⟨[]⟩⟩), (.int .i64 0)]⟩) A) (cutW (T9 0) (T9 0) (S 0 [a0, (.slice none 0 0), (.int .i64 0)] A))) := by kernel_rfl
theorem l9_0 (W0 : World) (m0 : Inj Tryz.prog) (S : Nat → List Value → AW → Prop) (Q : Value → AW → Prop) (d : Nat → Value) (A : AW) : wpgo Tryz.prog theX W0 m0 9 T9 L9 S Q none 4000 (tmOf 54 d) (T9 0) false 0 0 0 [] A = (pureW (lenA Tryz.prog A 9 (d 0)) fun t0 => pureW (binA Tryz.prog .lss 3 (.tmp 8) (.tmp 10) (d 5) t0) fun t1 => forkW t1 (pureW (indexA Tryz.prog 9 (d 0) (d 5)) fun t2 => pureW (binA Tryz.prog .neq 5 (.tmp 16) (.const (.int .u8 37)) t2 (.int .u8 37)) fun t3 => forkW t3 (pureW (indexA Tryz.prog 9 (d 0) (d 5)) fun t4 => bothW (buildSliceA Tryz.prog A 33 1 [(0, t4)]) fun t5 At5 => bothW (appendA Tryz.prog At5 33 33 (d 4) t5) fun t6 At6 => pureW (binA Tryz.prog .add 3 (.tmp 12) (.const (.int .i64 1)) (d 5) (.int .i64 1)) fun t7 => cutW (T9 0) (T9 0) (S 0 [(d 0), t6, t7] At6)) (pureW (binA Tryz.prog .add 3 (.tmp 24) (.const (.int .i64 2)) (d 5) (.int .i64 2)) fun t8 => pureW (lenA Tryz.prog A 9 (d 0)) fun t9 => pureW (binA Tryz.prog .geq 3 (.tmp 25) (.tmp 27) t8 t9) fun t10 => forkW t10 (Q (.tuple ⟨[(.string ⟨⟨[]⟩⟩), (.int .i64 310)]⟩) A) (pureW (binA Tryz.prog .add 3 (.tmp 31) (.const (.int .i64 1)) (d 5) (.int .i64 1)) fun t11 => pureW (indexA Tryz.prog 9 (d 0) t11) fun t12 => pureW (binA Tryz.prog .add 3 (.tmp 37) (.const (.int .i64 2)) (d 5) (.int .i64 2)) fun t13 => pureW (indexA Tryz.prog 9 (d 0) t13) fun t14 => Wc Tryz.prog theX W0 m0 24 [(.string ⟨⟨[48, 49, 50, 51, 52, 53, 54, 55, 56, 57, 97, 98, 99, 100, 101, 102]⟩⟩), t12] A fun t15 At15 => pureW (indexA Tryz.prog 9 (d 0) t13) fun t16 => eqW t16 t14 (pureW (binA Tryz.prog .add 3 (.tmp 37) (.const (.int .i64 2)) (d 5) (.int .i64 2)) fun t17 => eqW t17 t13 (eqW (d 5) (d 5) (eqW (d 0) (d 0) (eqW (d 4) (d 4) (pureW (binA Tryz.prog .shl 3 (.tmp 34) (.const (.int .u64 4)) t15 (.int .u64 4)) fun t18 => Wc Tryz.prog theX W0 m0 24 [(.string ⟨⟨[48, 49, 50, 51, 52, 53, 54, 55, 56, 57, 97, 98, 99, 100, 101, 102]⟩⟩), t14] At15 fun t19 At19 => pureW (binA Tryz.prog .shl 3 (.tmp 34) (.const (.int .u64 4)) t15 (.int .u64 4)) fun t20 => eqW t20 t18 (eqW (d 4) (d 4) (pureW (binA Tryz.prog .add 3 (.tmp 35) (.tmp 40) t18 t19) fun t21 => bothW (convertA Tryz.prog At19 3 5 t21) fun t22 At22 => bothW (buildSliceA Tryz.prog At22 33 1 [(0, t22)]) fun t23 At23 => freshW (freshOf Tryz.prog (evalT (Tm.fill ⟨1, .nil⟩ 0 [t22])) (.buildSlice 33 1 #[(0, .tmp 0)])) At23 t23 (bothW (convertA Tryz.prog At23 3 5 t21) fun t24 _ => eqW t24 t22 (pureW (binA Tryz.prog .add 3 (.tmp 35) (.tmp 40) t18 t19) fun t25 => eqW t25 t21 (pureW (indexA Tryz.prog 9 (d 0) t13) fun t26 => eqW t26 t14 (pureW (binA Tryz.prog .add 3 (.tmp 37) (.const (.int .i64 2)) (d 5) (.int .i64 2)) fun t27 => eqW t27 t13 (eqW (d 5) (d 5) (eqW (d 0) (d 0) (pureW (binA Tryz.prog .shl 3 (.tmp 34) (.const (.int .u64 4)) t15 (.int .u64 4)) fun t28 => eqW t28 t18 (pureW (indexA Tryz.prog 9 (d 0) t11) fun t29 => eqW t29 t12 (pureW (binA Tryz.prog .add 3 (.tmp 31) (.const (.int .i64 1)) (d 5) (.int .i64 1)) fun t30 => eqW t30 t11 (eqW (d 5) (d 5) (eqW (d 0) (d 0) (eqW (d 4) (d 4) (bothW (appendA Tryz.prog At23 33 33 (d 4) t23) fun t31 At31 => pureW (binA Tryz.prog .add 3 (.tmp 45) (.const (.int .i64 2)) (d 5) (.int .i64 2)) fun t32 => pureW (binA Tryz.prog .add 3 (.tmp 12) (.const (.int .i64 1)) t32 (.int .i64 1)) fun t33 => cutW (T9 0) (T9 0) (S 0 [(d 0), t31, t33] At31)))))))))))))))))))))))) (bothW (convertA Tryz.prog A 33 9 (d 4)) fun t34 At34 => Wc Tryz.prog theX W0 m0 8 [t34] At34 fun t35 At35 => pureW (binA Tryz.prog .neq 9 (.tmp 49) (.tmp 50) t35 (d 0)) fun t36 => forkW t36 (Q (.tuple ⟨[(.string ⟨⟨[]⟩⟩), (.int .i64 310)]⟩) At35) (bothW (convertA Tryz.prog At35 33 9 (d 4)) fun t37 At37 => Q (.tuple ⟨[t37, (.int .i64 0)]⟩) At37))) := by kernel_rfl
theorem n9 (a0 : Value) : enterA Tryz.prog 9 [a0] .normal = some (frM 9 (Tm.fill ⟨54, .nil⟩ 0 [a0]) [.code (cd 9 [])] false) := by kernel_rfl
theorem w9 : Wf1 9 54 T9 L9 := wf1 n9 (by decide) fun _ => rfl
theorem c9 : Cutf 9 54 T9 L9 := cutf (by decide)

/-! posthouse/posthouseref31.Unquote -/
noncomputable def T10 : Nat → List Item := fun i => match i with
  | 0 => [(.code (cd 10 [1, 1, 0, 1, 0, 0])), (.inLoop (cd 10 [1, 1, 0, 1, 0, 0])), (.inBlock 0), (.code (cd 10 [1, 1, 1]))]
  | _ => []
def L10 : Nat → List Tmp := fun i => match i with
  | 0 => [0, 4, 5]
  | _ => []
theorem e10 (W0 : World) (m0 : Inj Tryz.prog) (S : Nat → List Value → AW → Prop) (Q : Value → AW → Prop) (a0 : Value) (A : AW) : wpgo Tryz.prog theX W0 m0 10 T10 L10 S Q none 4000 (Tm.fill ⟨69, .nil⟩ 0 [a0]) [.code (cd 10 [])] false 0 0 0 [] A = (cutW (T10 0) (T10 0) (S 0 [a0, (.slice none 0 0), (.int .i64 0)] A)) := by kernel_rfl
theorem l10_0 (W0 : World) (m0 : Inj Tryz.prog) (S : Nat → List Value → AW → Prop) (Q : Value → AW → Prop) (d : Nat → Value) (A : AW) : wpgo Tryz.prog theX W0 m0 10 T10 L10 S Q none 4000 (tmOf 69 d) (T10 0) false 0 0 0 [] A = (pureW (lenA Tryz.prog A 9 (d 0)) fun t0 => pureW (binA Tryz.prog .lss 3 (.tmp 7) (.tmp 9) (d 5) t0) fun t1 => forkW t1 (pureW (binA Tryz.prog .neq 9 (.tmp 12) (.const (.string ⟨⟨[37]⟩⟩)) (d 0) (.string ⟨⟨[37]⟩⟩)) fun t2 => forkW t2 (pureW (indexA Tryz.prog 9 (d 0) (d 5)) fun t3 => pureW (binA Tryz.prog .eql 5 (.tmp 20) (.const (.int .u8 37)) t3 (.int .u8 37)) fun t4 => forkW t4 (pureW (binA Tryz.prog .add 3 (.tmp 22) (.const (.int .i64 2)) (d 5) (.int .i64 2)) fun t5 => pureW (lenA Tryz.prog A 9 (d 0)) fun t6 => pureW (binA Tryz.prog .geq 3 (.tmp 23) (.tmp 25) t5 t6) fun t7 => forkW t7 (Q (.tuple ⟨[(.string ⟨⟨[]⟩⟩), (.int .i64 310)]⟩) A) (pureW (binA Tryz.prog .add 3 (.tmp 29) (.const (.int .i64 1)) (d 5) (.int .i64 1)) fun t8 => pureW (indexA Tryz.prog 9 (d 0) t8) fun t9 => Wc Tryz.prog theX W0 m0 25 [t9] A fun t10 At10 => pureW (binA Tryz.prog .lss 3 (.tmp 32) (.const (.int .i64 0)) t10 (.int .i64 0)) fun t11 => forkW t11 (Q (.tuple ⟨[(.string ⟨⟨[]⟩⟩), (.int .i64 310)]⟩) At10) (pureW (binA Tryz.prog .add 3 (.tmp 37) (.const (.int .i64 2)) (d 5) (.int .i64 2)) fun t12 => pureW (indexA Tryz.prog 9 (d 0) t12) fun t13 => Wc Tryz.prog theX W0 m0 25 [t13] At10 fun t14 At14 => pureW (binA Tryz.prog .lss 3 (.tmp 40) (.const (.int .i64 0)) t14 (.int .i64 0)) fun t15 => forkW t15 (Q (.tuple ⟨[(.string ⟨⟨[]⟩⟩), (.int .i64 310)]⟩) At14) (pureW (binA Tryz.prog .add 3 (.tmp 44) (.const (.int .i64 1)) (d 5) (.int .i64 1)) fun t16 => pureW (indexA Tryz.prog 9 (d 0) t16) fun t17 => pureW (binA Tryz.prog .add 3 (.tmp 50) (.const (.int .i64 2)) (d 5) (.int .i64 2)) fun t18 => pureW (indexA Tryz.prog 9 (d 0) t18) fun t19 => Wc Tryz.prog theX W0 m0 25 [t17] At14 fun t20 At20 => pureW (indexA Tryz.prog 9 (d 0) t18) fun t21 => eqW t21 t19 (pureW (binA Tryz.prog .add 3 (.tmp 50) (.const (.int .i64 2)) (d 5) (.int .i64 2)) fun t22 => eqW t22 t18 (eqW (d 5) (d 5) (eqW (d 0) (d 0) (pureW (binA Tryz.prog .mul 3 (.const (.int .i64 16)) (.tmp 47) (.int .i64 16) t20) fun t23 => Wc Tryz.prog theX W0 m0 25 [t19] At20 fun t24 At24 => pureW (binA Tryz.prog .mul 3 (.const (.int .i64 16)) (.tmp 47) (.int .i64 16) t20) fun t25 => eqW t25 t23 (pureW (binA Tryz.prog .add 3 (.tmp 48) (.tmp 53) t23 t24) fun t26 => bothW (convertA Tryz.prog At24 3 5 t26) fun t27 At27 => pureW (binA Tryz.prog .add 3 (.tmp 56) (.const (.int .i64 2)) (d 5) (.int .i64 2)) fun t28 => bothW (buildSliceA Tryz.prog At27 33 1 [(0, t27)]) fun t29 At29 => bothW (appendA Tryz.prog At29 33 33 (d 4) t29) fun t30 At30 => pureW (binA Tryz.prog .add 3 (.tmp 15) (.const (.int .i64 1)) t28 (.int .i64 1)) fun t31 => cutW (T10 0) (T10 0) (S 0 [(d 0), t30, t31] At30)))))))))) (bothW (buildSliceA Tryz.prog A 33 1 [(0, t3)]) fun t32 At32 => bothW (appendA Tryz.prog At32 33 33 (d 4) t32) fun t33 At33 => pureW (binA Tryz.prog .add 3 (.tmp 15) (.const (.int .i64 1)) (d 5) (.int .i64 1)) fun t34 => cutW (T10 0) (T10 0) (S 0 [(d 0), t33, t34] At33))) (bothW (convertA Tryz.prog A 33 9 (d 4)) fun t35 At35 => Wc Tryz.prog theX W0 m0 11 [t35] At35 fun t36 At36 => pureW (binA Tryz.prog .neq 9 (.tmp 64) (.tmp 65) t36 (d 0)) fun t37 => forkW t37 (Q (.tuple ⟨[(.string ⟨⟨[]⟩⟩), (.int .i64 310)]⟩) At36) (bothW (convertA Tryz.prog At36 33 9 (d 4)) fun t38 At38 => Q (.tuple ⟨[t38, (.int .i64 0)]⟩) At38))) (bothW (convertA Tryz.prog A 33 9 (d 4)) fun t39 At39 => Wc Tryz.prog theX W0 m0 11 [t39] At39 fun t40 At40 => pureW (binA Tryz.prog .neq 9 (.tmp 64) (.tmp 65) t40 (d 0)) fun t41 => forkW t41 (Q (.tuple ⟨[(.string ⟨⟨[]⟩⟩), (.int .i64 310)]⟩) At40) (bothW (convertA Tryz.prog At40 33 9 (d 4)) fun t42 At42 => Q (.tuple ⟨[t42, (.int .i64 0)]⟩) At42))) := by kernel_rfl
theorem n10 (a0 : Value) : enterA Tryz.prog 10 [a0] .normal = some (frM 10 (Tm.fill ⟨69, .nil⟩ 0 [a0]) [.code (cd 10 [])] false) := by kernel_rfl
theorem w10 : Wf1 10 69 T10 L10 := wf1 n10 (by decide) fun _ => rfl
theorem c10 : Cutf 10 69 T10 L10 := cutf (by decide)

/-! posthouse/posthouseref31.Quote -/
noncomputable def T11 : Nat → List Item := fun i => match i with
  | 0 => [(.code (cd 11 [1, 1, 1, 0, 1, 0, 0])), (.inLoop (cd 11 [1, 1, 1, 0, 1, 0, 0])), (.inBlock 0), (.code (cd 11 [1, 1, 1, 1]))]
  | _ => []
def L11 : Nat → List Tmp := fun i => match i with
  | 0 => [0, 3, 4]
  | _ => []
theorem e11 (W0 : World) (m0 : Inj Tryz.prog) (S : Nat → List Value → AW → Prop) (Q : Value → AW → Prop) (a0 : Value) (A : AW) : wpgo Tryz.prog theX W0 m0 11 T11 L11 S Q none 4000 (Tm.fill ⟨50, .nil⟩ 0 [a0]) [.code (cd 11 [])] false 0 0 0 [] A = (pureW (binA Tryz.prog .eql 9 (.tmp 5) (.const (.string ⟨⟨[]⟩⟩)) a0 (.string ⟨⟨[]⟩⟩)) fun t0 => forkW t0 (Q (.string ⟨⟨[37]⟩⟩) A) (cutW (T11 0) (T11 0) (S 0 [a0, (.string ⟨⟨[]⟩⟩), (.int .i64 0)] A))) := by kernel_rfl
theorem l11_0 (W0 : World) (m0 : Inj Tryz.prog) (S : Nat → List Value → AW → Prop) (Q : Value → AW → Prop) (d : Nat → Value) (A : AW) : wpgo Tryz.prog theX W0 m0 11 T11 L11 S Q none 4000 (tmOf 50 d) (T11 0) false 0 0 0 [] A = (pureW (lenA Tryz.prog A 9 (d 0)) fun t0 => pureW (binA Tryz.prog .lss 3 (.tmp 7) (.tmp 9) (d 4) t0) fun t1 => forkW t1 (pureW (indexA Tryz.prog 9 (d 0) (d 4)) fun t2 => pureW (binA Tryz.prog .geq 5 (.tmp 15) (.const (.int .u8 33)) t2 (.int .u8 33)) fun t3 => forkW t3 (pureW (indexA Tryz.prog 9 (d 0) (d 4)) fun t4 => pureW (binA Tryz.prog .leq 5 (.tmp 20) (.const (.int .u8 126)) t4 (.int .u8 126)) fun t5 => forkW t5 (pureW (indexA Tryz.prog 9 (d 0) (d 4)) fun t6 => pureW (binA Tryz.prog .neq 5 (.tmp 26) (.const (.int .u8 37)) t6 (.int .u8 37)) fun t7 => forkW t7 (pureW (indexA Tryz.prog 9 (d 0) (d 4)) fun t8 => pureW (binA Tryz.prog .neq 5 (.tmp 32) (.const (.int .u8 58)) t8 (.int .u8 58)) fun t9 => forkW t9 (pureW (binA Tryz.prog .add 3 (.tmp 38) (.const (.int .i64 1)) (d 4) (.int .i64 1)) fun t10 => pureW (sliceA Tryz.prog A 9 (d 0) (some (d 4)) (some t10) none) fun t11 => pureW (binA Tryz.prog .add 9 (.tmp 35) (.tmp 40) (d 3) t11) fun t12 => pureW (binA Tryz.prog .add 3 (.tmp 11) (.const (.int .i64 1)) (d 4) (.int .i64 1)) fun t13 => cutW (T11 0) (T11 0) (S 0 [(d 0), t12, t13] A)) (pureW (binA Tryz.prog .add 9 (.tmp 42) (.const (.string ⟨⟨[37]⟩⟩)) (d 3) (.string ⟨⟨[37]⟩⟩)) fun t14 => pureW (indexA Tryz.prog 9 (d 0) (d 4)) fun t15 => Wc Tryz.prog theX W0 m0 26 [t15] A fun t16 At16 => pureW (binA Tryz.prog .add 9 (.tmp 43) (.tmp 47) t14 t16) fun t17 => pureW (binA Tryz.prog .add 3 (.tmp 11) (.const (.int .i64 1)) (d 4) (.int .i64 1)) fun t18 => cutW (T11 0) (T11 0) (S 0 [(d 0), t17, t18] At16))) (pureW (binA Tryz.prog .add 9 (.tmp 42) (.const (.string ⟨⟨[37]⟩⟩)) (d 3) (.string ⟨⟨[37]⟩⟩)) fun t19 => pureW (indexA Tryz.prog 9 (d 0) (d 4)) fun t20 => Wc Tryz.prog theX W0 m0 26 [t20] A fun t21 At21 => pureW (binA Tryz.prog .add 9 (.tmp 43) (.tmp 47) t19 t21) fun t22 => pureW (binA Tryz.prog .add 3 (.tmp 11) (.const (.int .i64 1)) (d 4) (.int .i64 1)) fun t23 => cutW (T11 0) (T11 0) (S 0 [(d 0), t22, t23] At21))) (pureW (binA Tryz.prog .add 9 (.tmp 42) (.const (.string ⟨⟨[37]⟩⟩)) (d 3) (.string ⟨⟨[37]⟩⟩)) fun t24 => pureW (indexA Tryz.prog 9 (d 0) (d 4)) fun t25 => Wc Tryz.prog theX W0 m0 26 [t25] A fun t26 At26 => pureW (binA Tryz.prog .add 9 (.tmp 43) (.tmp 47) t24 t26) fun t27 => pureW (binA Tryz.prog .add 3 (.tmp 11) (.const (.int .i64 1)) (d 4) (.int .i64 1)) fun t28 => cutW (T11 0) (T11 0) (S 0 [(d 0), t27, t28] At26))) (pureW (binA Tryz.prog .add 9 (.tmp 42) (.const (.string ⟨⟨[37]⟩⟩)) (d 3) (.string ⟨⟨[37]⟩⟩)) fun t29 => pureW (indexA Tryz.prog 9 (d 0) (d 4)) fun t30 => Wc Tryz.prog theX W0 m0 26 [t30] A fun t31 At31 => pureW (binA Tryz.prog .add 9 (.tmp 43) (.tmp 47) t29 t31) fun t32 => pureW (binA Tryz.prog .add 3 (.tmp 11) (.const (.int .i64 1)) (d 4) (.int .i64 1)) fun t33 => cutW (T11 0) (T11 0) (S 0 [(d 0), t32, t33] At31))) (Q (d 3) A)) := by kernel_rfl
theorem n11 (a0 : Value) : enterA Tryz.prog 11 [a0] .normal = some (frM 11 (Tm.fill ⟨50, .nil⟩ 0 [a0]) [.code (cd 11 [])] false) := by kernel_rfl
theorem w11 : Wf1 11 50 T11 L11 := wf1 n11 (by decide) fun _ => rfl
theorem c11 : Cutf 11 50 T11 L11 := cutf (by decide)

/-! posthouse/script.Quote$1 -/
noncomputable def T20 : Nat → List Item := fun i => match i with
  | 0 => [(.code (cd 20 [0, 1, 0, 0])), (.inLoop (cd 20 [0, 1, 0, 0])), (.inBlock 0), (.code (cd 20 [1]))]
  | _ => []
def L20 : Nat → List Tmp := fun i => match i with
  | 0 => [0, 2, 3, 11, 12, 13]
  | _ => []
theorem e20 (W0 : World) (m0 : Inj Tryz.prog) (S : Nat → List Value → AW → Prop) (Q : Value → AW → Prop) (a0 a1 a2 a3 : Value) (A : AW) : wpgo Tryz.prog theX W0 m0 20 T20 L20 S Q none 4000 (Tm.fill ⟨28, .nil⟩ 0 [a0, a1, a2, a3]) [.code (cd 20 [])] false 0 0 0 [] A = (pureW (loadP Tryz.prog A 9 a1) fun t0 => pureW (loadP Tryz.prog A 3 a2) fun t1 => pureW (sliceA Tryz.prog A 9 t0 (some t1) (some a0) none) fun t2 => bothW (convertA Tryz.prog A 9 33 t2) fun t3 At3 => pureW (lenA Tryz.prog At3 33 t3) fun t4 => cutW (T20 0) (T20 0) (S 0 [a0, a2, a3, t3, t4, (.int .i64 0)] At3)) := by kernel_rfl
theorem l20_0 (W0 : World) (m0 : Inj Tryz.prog) (S : Nat → List Value → AW → Prop) (Q : Value → AW → Prop) (d : Nat → Value) (A : AW) : wpgo Tryz.prog theX W0 m0 20 T20 L20 S Q none 4000 (tmOf 28 d) (T20 0) false 0 0 0 [] A = (pureW (binA Tryz.prog .lss 3 (.tmp 13) (.tmp 12) (d 13) (d 12)) fun t0 => forkW t0 (pureW (indexAddrA Tryz.prog 33 (d 11) (d 13)) fun t1 => pureW (loadP Tryz.prog A 5 t1) fun t2 => Wc Tryz.prog theX W0 m0 21 [(d 3), (.int .u8 37)] A fun t3 At3 => pureW (binA Tryz.prog .shr 5 (.tmp 18) (.const (.int .u64 4)) t2 (.int .u64 4)) fun t4 => pureW (indexA Tryz.prog 9 (.string ⟨⟨[48, 49, 50, 51, 52, 53, 54, 55, 56, 57, 97, 98, 99, 100, 101, 102]⟩⟩) t4) fun t5 => Wc Tryz.prog theX W0 m0 21 [(d 3), t5] At3 fun t6 At6 => pureW (binA Tryz.prog .and 5 (.tmp 22) (.const (.int .u8 15)) t2 (.int .u8 15)) fun t7 => pureW (indexA Tryz.prog 9 (.string ⟨⟨[48, 49, 50, 51, 52, 53, 54, 55, 56, 57, 97, 98, 99, 100, 101, 102]⟩⟩) t7) fun t8 => Wc Tryz.prog theX W0 m0 21 [(d 3), t8] At6 fun t9 At9 => pureW (binA Tryz.prog .add 3 (.tmp 13) (.const (.int .i64 1)) (d 13) (.int .i64 1)) fun t10 => cutW (T20 0) (T20 0) (S 0 [(d 0), (d 2), (d 3), (d 11), (d 12), t10] At9)) (effW (storeP Tryz.prog A 3 (d 2) (d 0)) fun At11 => Q (.tuple ⟨[]⟩) At11)) := by kernel_rfl
theorem n20 (a0 a1 a2 a3 : Value) : enterA Tryz.prog 20 [a0, a1, a2, a3] .normal = some (frM 20 (Tm.fill ⟨28, .nil⟩ 0 [a0, a1, a2, a3]) [.code (cd 20 [])] false) := by kernel_rfl
theorem w20 : Wf4 20 28 T20 L20 := wf4 n20 (by decide) fun _ _ _ _ => rfl
theorem c20 : Cutf 20 28 T20 L20 := cutf (by decide)

/-! (*strings.Builder).WriteByte -/
noncomputable def T21 : Nat → List Item := fun i => match i with
  | _ => []
def L21 : Nat → List Tmp := fun i => match i with
  | _ => []
theorem e21 (W0 : World) (m0 : Inj Tryz.prog) (S : Nat → List Value → AW → Prop) (Q : Value → AW → Prop) (a0 a1 : Value) (A : AW) : wpgo Tryz.prog theX W0 m0 21 T21 L21 S Q none 4000 (Tm.fill ⟨17, .nil⟩ 0 [a0, a1]) [.code (cd 21 [])] false 0 0 0 [] A = (Wc Tryz.prog theX W0 m0 50 [a0] A fun t0 At0 => pureW (nilP a0) fun t1 => pureW (fieldAddrA Tryz.prog 70 t1 1) fun t2 => pureW (loadP Tryz.prog At0 33 t2) fun t3 => bothW (buildSliceA Tryz.prog At0 33 1 [(0, a1)]) fun t4 At4 => bothW (appendA Tryz.prog At4 33 33 t3 t4) fun t5 At5 => pureW (nilP a0) fun t6 => pureW (fieldAddrA Tryz.prog 70 t6 1) fun t7 => effW (storeP Tryz.prog At5 33 t7 t5) fun At8 => Q .nilIface At8) := by kernel_rfl
theorem n21 (a0 a1 : Value) : enterA Tryz.prog 21 [a0, a1] .normal = some (frM 21 (Tm.fill ⟨17, .nil⟩ 0 [a0, a1]) [.code (cd 21 [])] false) := by kernel_rfl
theorem w21 : Wf2 21 17 T21 L21 := wf2 n21 (by decide) fun _ _ => rfl

/-! (*strings.Builder).WriteRune -/
noncomputable def T22 : Nat → List Item := fun i => match i with
  | _ => []
def L22 : Nat → List Tmp := fun i => match i with
  | _ => []
theorem e22 (W0 : World) (m0 : Inj Tryz.prog) (S : Nat → List Value → AW → Prop) (Q : Value → AW → Prop) (a0 a1 : Value) (A : AW) : wpgo Tryz.prog theX W0 m0 22 T22 L22 S Q none 4000 (Tm.fill ⟨30, .nil⟩ 0 [a0, a1]) [.code (cd 22 [])] false 0 0 0 [] A = (Wc Tryz.prog theX W0 m0 50 [a0] A fun t0 At0 => pureW (nilP a0) fun t1 => pureW (fieldAddrA Tryz.prog 70 t1 1) fun t2 => pureW (loadP Tryz.prog At0 33 t2) fun t3 => pureW (lenA Tryz.prog At0 33 t3) fun t4 => pureW (nilP a0) fun t5 => pureW (fieldAddrA Tryz.prog 70 t5 1) fun t6 => pureW (loadP Tryz.prog At0 33 t6) fun t7 => Wc Tryz.prog theX W0 m0 51 [t7, a1] At0 fun t8 At8 => pureW (nilP a0) fun t9 => pureW (fieldAddrA Tryz.prog 70 t9 1) fun t10 => effW (storeP Tryz.prog At8 33 t10 t8) fun At11 => pureW (nilP a0) fun t12 => pureW (fieldAddrA Tryz.prog 70 t12 1) fun t13 => pureW (loadP Tryz.prog At11 33 t13) fun t14 => pureW (lenA Tryz.prog At11 33 t14) fun t15 => pureW (binA Tryz.prog .sub 3 (.tmp 27) (.tmp 28) t15 t4) fun t16 => Q (.tuple ⟨[t16, .nilIface]⟩) At11) := by kernel_rfl
theorem n22 (a0 a1 : Value) : enterA Tryz.prog 22 [a0, a1] .normal = some (frM 22 (Tm.fill ⟨30, .nil⟩ 0 [a0, a1]) [.code (cd 22 [])] false) := by kernel_rfl
theorem w22 : Wf2 22 30 T22 L22 := wf2 n22 (by decide) fun _ _ => rfl

/-! (*strings.Builder).String -/
noncomputable def T23 : Nat → List Item := fun i => match i with
  | _ => []
def L23 : Nat → List Tmp := fun i => match i with
  | _ => []
theorem e23 (W0 : World) (m0 : Inj Tryz.prog) (S : Nat → List Value → AW → Prop) (Q : Value → AW → Prop) (a0 : Value) (A : AW) : wpgo Tryz.prog theX W0 m0 23 T23 L23 S Q none 4000 (Tm.fill ⟨14, .nil⟩ 0 [a0]) [.code (cd 23 [])] false 0 0 0 [] A = (pureW (nilP a0) fun t0 => pureW (fieldAddrA Tryz.prog 70 t0 1) fun t1 => pureW (loadP Tryz.prog A 33 t1) fun t2 => anW Tryz.prog theX W0 m0 (builtinA Tryz.prog A .unsafeSliceData [33] 107 [t2]) fun t3 At3 => pureW (nilP a0) fun t4 => pureW (fieldAddrA Tryz.prog 70 t4 1) fun t5 => pureW (loadP Tryz.prog At3 33 t5) fun t6 => pureW (lenA Tryz.prog At3 33 t6) fun t7 => anW Tryz.prog theX W0 m0 (builtinA Tryz.prog At3 .unsafeString [107, 3] 9 [t3, t7]) fun t8 At8 => Q t8 At8) := by kernel_rfl
theorem n23 (a0 : Value) : enterA Tryz.prog 23 [a0] .normal = some (frM 23 (Tm.fill ⟨14, .nil⟩ 0 [a0]) [.code (cd 23 [])] false) := by kernel_rfl
theorem w23 : Wf1 23 14 T23 L23 := wf1 n23 (by decide) fun _ => rfl

/-! strings.IndexByte -/
noncomputable def T24 : Nat → List Item := fun i => match i with
  | _ => []
def L24 : Nat → List Tmp := fun i => match i with
  | _ => []
theorem e24 (W0 : World) (m0 : Inj Tryz.prog) (S : Nat → List Value → AW → Prop) (Q : Value → AW → Prop) (a0 a1 : Value) (A : AW) : wpgo Tryz.prog theX W0 m0 24 T24 L24 S Q none 4000 (Tm.fill ⟨8, .nil⟩ 0 [a0, a1]) [.code (cd 24 [])] false 0 0 0 [] A = (Wc Tryz.prog theX W0 m0 52 [a0, a1] A fun t0 At0 => Q t0 At0) := by kernel_rfl
theorem n24 (a0 a1 : Value) : enterA Tryz.prog 24 [a0, a1] .normal = some (frM 24 (Tm.fill ⟨8, .nil⟩ 0 [a0, a1]) [.code (cd 24 [])] false) := by kernel_rfl
theorem w24 : Wf2 24 8 T24 L24 := wf2 n24 (by decide) fun _ _ => rfl

/-! posthouse/posthouseref31.digit -/
noncomputable def T25 : Nat → List Item := fun i => match i with
  | _ => []
def L25 : Nat → List Tmp := fun i => match i with
  | _ => []
theorem e25 (W0 : World) (m0 : Inj Tryz.prog) (S : Nat → List Value → AW → Prop) (Q : Value → AW → Prop) (a0 : Value) (A : AW) : wpgo Tryz.prog theX W0 m0 25 T25 L25 S Q none 4000 (Tm.fill ⟨22, .nil⟩ 0 [a0]) [.code (cd 25 [])] false 0 0 0 [] A = (pureW (binA Tryz.prog .geq 5 (.tmp 3) (.const (.int .u8 48)) a0 (.int .u8 48)) fun t0 => forkW t0 (pureW (binA Tryz.prog .leq 5 (.tmp 6) (.const (.int .u8 57)) a0 (.int .u8 57)) fun t1 => forkW t1 (pureW (binA Tryz.prog .sub 5 (.tmp 9) (.const (.int .u8 48)) a0 (.int .u8 48)) fun t2 => bothW (convertA Tryz.prog A 5 3 t2) fun t3 At3 => Q t3 At3) (pureW (binA Tryz.prog .geq 5 (.tmp 12) (.const (.int .u8 97)) a0 (.int .u8 97)) fun t4 => forkW t4 (pureW (binA Tryz.prog .leq 5 (.tmp 15) (.const (.int .u8 102)) a0 (.int .u8 102)) fun t5 => forkW t5 (pureW (binA Tryz.prog .sub 5 (.tmp 18) (.const (.int .u8 97)) a0 (.int .u8 97)) fun t6 => bothW (convertA Tryz.prog A 5 3 t6) fun t7 At7 => pureW (binA Tryz.prog .add 3 (.tmp 20) (.const (.int .i64 10)) t7 (.int .i64 10)) fun t8 => Q t8 At7) (Q (.int .i64 (-1)) A)) (Q (.int .i64 (-1)) A))) (pureW (binA Tryz.prog .geq 5 (.tmp 12) (.const (.int .u8 97)) a0 (.int .u8 97)) fun t9 => forkW t9 (pureW (binA Tryz.prog .leq 5 (.tmp 15) (.const (.int .u8 102)) a0 (.int .u8 102)) fun t10 => forkW t10 (pureW (binA Tryz.prog .sub 5 (.tmp 18) (.const (.int .u8 97)) a0 (.int .u8 97)) fun t11 => bothW (convertA Tryz.prog A 5 3 t11) fun t12 At12 => pureW (binA Tryz.prog .add 3 (.tmp 20) (.const (.int .i64 10)) t12 (.int .i64 10)) fun t13 => Q t13 At12) (Q (.int .i64 (-1)) A)) (Q (.int .i64 (-1)) A))) := by kernel_rfl
theorem n25 (a0 : Value) : enterA Tryz.prog 25 [a0] .normal = some (frM 25 (Tm.fill ⟨22, .nil⟩ 0 [a0]) [.code (cd 25 [])] false) := by kernel_rfl
theorem w25 : Wf1 25 22 T25 L25 := wf1 n25 (by decide) fun _ => rfl

/-! posthouse/posthouseref31.hex -/
noncomputable def T26 : Nat → List Item := fun i => match i with
  | _ => []
def L26 : Nat → List Tmp := fun i => match i with
  | _ => []
theorem e26 (W0 : World) (m0 : Inj Tryz.prog) (S : Nat → List Value → AW → Prop) (Q : Value → AW → Prop) (a0 : Value) (A : AW) : wpgo Tryz.prog theX W0 m0 26 T26 L26 S Q none 4000 (Tm.fill ⟨14, .nil⟩ 0 [a0]) [.code (cd 26 [])] false 0 0 0 [] A = (pureW (binA Tryz.prog .quo 5 (.tmp 5) (.const (.int .u8 16)) a0 (.int .u8 16)) fun t0 => pureW (indexA Tryz.prog 9 (.string ⟨⟨[48, 49, 50, 51, 52, 53, 54, 55, 56, 57, 97, 98, 99, 100, 101, 102]⟩⟩) t0) fun t1 => pureW (binA Tryz.prog .rem 5 (.tmp 9) (.const (.int .u8 16)) a0 (.int .u8 16)) fun t2 => pureW (indexA Tryz.prog 9 (.string ⟨⟨[48, 49, 50, 51, 52, 53, 54, 55, 56, 57, 97, 98, 99, 100, 101, 102]⟩⟩) t2) fun t3 => bothW (buildSliceA Tryz.prog A 33 2 [(0, t1), (1, t3)]) fun t4 At4 => freshW (freshOf Tryz.prog (evalT (Tm.fill ⟨2, .nil⟩ 0 [t1, t3])) (.buildSlice 33 2 #[(0, .tmp 0), (1, .tmp 1)])) At4 t4 (pureW (indexA Tryz.prog 9 (.string ⟨⟨[48, 49, 50, 51, 52, 53, 54, 55, 56, 57, 97, 98, 99, 100, 101, 102]⟩⟩) t2) fun t5 => eqW t5 t3 (pureW (binA Tryz.prog .rem 5 (.tmp 9) (.const (.int .u8 16)) a0 (.int .u8 16)) fun t6 => eqW t6 t2 (eqW a0 a0 (eqW (.string ⟨⟨[48, 49, 50, 51, 52, 53, 54, 55, 56, 57, 97, 98, 99, 100, 101, 102]⟩⟩) (.string ⟨⟨[48, 49, 50, 51, 52, 53, 54, 55, 56, 57, 97, 98, 99, 100, 101, 102]⟩⟩) (pureW (indexA Tryz.prog 9 (.string ⟨⟨[48, 49, 50, 51, 52, 53, 54, 55, 56, 57, 97, 98, 99, 100, 101, 102]⟩⟩) t0) fun t7 => eqW t7 t1 (pureW (binA Tryz.prog .quo 5 (.tmp 5) (.const (.int .u8 16)) a0 (.int .u8 16)) fun t8 => eqW t8 t0 (eqW a0 a0 (eqW (.string ⟨⟨[48, 49, 50, 51, 52, 53, 54, 55, 56, 57, 97, 98, 99, 100, 101, 102]⟩⟩) (.string ⟨⟨[48, 49, 50, 51, 52, 53, 54, 55, 56, 57, 97, 98, 99, 100, 101, 102]⟩⟩) (bothW (convertA Tryz.prog At4 33 9 t4) fun t9 At9 => Q t9 At9)))))))))) := by kernel_rfl
theorem n26 (a0 : Value) : enterA Tryz.prog 26 [a0] .normal = some (frM 26 (Tm.fill ⟨14, .nil⟩ 0 [a0]) [.code (cd 26 [])] false) := by kernel_rfl
theorem w26 : Wf1 26 14 T26 L26 := wf1 n26 (by decide) fun _ => rfl

/-! (*strings.Builder).copyCheck -/
noncomputable def T50 : Nat → List Item := fun i => match i with
  | _ => []
def L50 : Nat → List Tmp := fun i => match i with
  | _ => []
theorem e50 (W0 : World) (m0 : Inj Tryz.prog) (S : Nat → List Value → AW → Prop) (Q : Value → AW → Prop) (a0 : Value) (A : AW) : wpgo Tryz.prog theX W0 m0 50 T50 L50 S Q none 4000 (Tm.fill ⟨20, .nil⟩ 0 [a0]) [.code (cd 50 [])] false 0 0 0 [] A = (pureW (nilP a0) fun t0 => pureW (fieldAddrA Tryz.prog 70 t0 0) fun t1 => pureW (loadP Tryz.prog A 68 t1) fun t2 => pureW (binA Tryz.prog .eql 68 (.tmp 5) (.const (.pointer none)) t2 (.pointer none)) fun t3 => forkW t3 (bothW (convertA Tryz.prog A 68 132 a0) fun t4 At4 => anW Tryz.prog theX W0 m0 (callFuncA Tryz.prog theX At4 80 [t4]) fun t5 At5 => bothW (convertA Tryz.prog At5 132 68 t5) fun t6 At6 => pureW (nilP a0) fun t7 => pureW (fieldAddrA Tryz.prog 70 t7 0) fun t8 => effW (storeP Tryz.prog At6 68 t8 t6) fun At9 => Q (.tuple ⟨[]⟩) At9) (pureW (nilP a0) fun t10 => pureW (fieldAddrA Tryz.prog 70 t10 0) fun t11 => pureW (loadP Tryz.prog A 68 t11) fun t12 => pureW (binA Tryz.prog .neq 68 (.tmp 17) (.tmp 18) t12 a0) fun t13 => forkW t13 (False) (Q (.tuple ⟨[]⟩) A))) := by kernel_rfl
theorem n50 (a0 : Value) : enterA Tryz.prog 50 [a0] .normal = some (frM 50 (Tm.fill ⟨20, .nil⟩ 0 [a0]) [.code (cd 50 [])] false) := by kernel_rfl
theorem w50 : Wf1 50 20 T50 L50 := wf1 n50 (by decide) fun _ => rfl

/-! unicode/utf8.AppendRune -/
noncomputable def T51 : Nat → List Item := fun i => match i with
  | _ => []
def L51 : Nat → List Tmp := fun i => match i with
  | _ => []
theorem e51 (W0 : World) (m0 : Inj Tryz.prog) (S : Nat → List Value → AW → Prop) (Q : Value → AW → Prop) (a0 a1 : Value) (A : AW) : wpgo Tryz.prog theX W0 m0 51 T51 L51 S Q none 4000 (Tm.fill ⟨16, .nil⟩ 0 [a0, a1]) [.code (cd 51 [])] false 0 0 0 [] A = (bothW (convertA Tryz.prog A 21 30 a1) fun t0 At0 => pureW (binA Tryz.prog .leq 30 (.tmp 6) (.const (.int .u32 127)) t0 (.int .u32 127)) fun t1 => forkW t1 (bothW (convertA Tryz.prog At0 21 5 a1) fun t2 At2 => bothW (buildSliceA Tryz.prog At2 33 1 [(0, t2)]) fun t3 At3 => bothW (appendA Tryz.prog At3 33 33 a0 t3) fun t4 At4 => Q t4 At4) (Wc Tryz.prog theX W0 m0 81 [a0, a1] At0 fun t5 At5 => Q t5 At5)) := by kernel_rfl
theorem n51 (a0 a1 : Value) : enterA Tryz.prog 51 [a0, a1] .normal = some (frM 51 (Tm.fill ⟨16, .nil⟩ 0 [a0, a1]) [.code (cd 51 [])] false) := by kernel_rfl
theorem w51 : Wf2 51 16 T51 L51 := wf2 n51 (by decide) fun _ _ => rfl

/-! internal/stringslite.IndexByte -/
noncomputable def T52 : Nat → List Item := fun i => match i with
  | _ => []
def L52 : Nat → List Tmp := fun i => match i with
  | _ => []
theorem e52 (W0 : World) (m0 : Inj Tryz.prog) (S : Nat → List Value → AW → Prop) (Q : Value → AW → Prop) (a0 a1 : Value) (A : AW) : wpgo Tryz.prog theX W0 m0 52 T52 L52 S Q none 4000 (Tm.fill ⟨8, .nil⟩ 0 [a0, a1]) [.code (cd 52 [])] false 0 0 0 [] A = (anW Tryz.prog theX W0 m0 (callFuncA Tryz.prog theX A 82 [a0, a1]) fun t0 At0 => Q t0 At0) := by kernel_rfl
theorem n52 (a0 a1 : Value) : enterA Tryz.prog 52 [a0, a1] .normal = some (frM 52 (Tm.fill ⟨8, .nil⟩ 0 [a0, a1]) [.code (cd 52 [])] false) := by kernel_rfl
theorem w52 : Wf2 52 8 T52 L52 := wf2 n52 (by decide) fun _ _ => rfl

/-! posthouse/script.word -/
noncomputable def T53 : Nat → List Item := fun i => match i with
  | 0 => [(.code (cd 53 [1, 0, 1, 0, 0])), (.inLoop (cd 53 [1, 0, 1, 0, 0])), (.inBlock 0), (.code (cd 53 [1, 1]))]
  | _ => []
def L53 : Nat → List Tmp := fun i => match i with
  | 0 => [1, 8]
  | _ => []
theorem e53 (W0 : World) (m0 : Inj Tryz.prog) (S : Nat → List Value → AW → Prop) (Q : Value → AW → Prop) (a0 a1 : Value) (A : AW) : wpgo Tryz.prog theX W0 m0 53 T53 L53 S Q none 4000 (Tm.fill ⟨18, .nil⟩ 0 [a0, a1]) [.code (cd 53 [])] false 0 0 0 [] A = (anW Tryz.prog theX W0 m0 (rangeP Tryz.prog A 109 a0) fun t0 At0 => cutW (T53 0) (T53 0) (S 0 [a1, t0] At0)) := by kernel_rfl
theorem l53_0 (W0 : World) (m0 : Inj Tryz.prog) (S : Nat → List Value → AW → Prop) (Q : Value → AW → Prop) (d : Nat → Value) (A : AW) : wpgo Tryz.prog theX W0 m0 53 T53 L53 S Q none 4000 (tmOf 18 d) (T53 0) false 0 0 0 [] A = (anW Tryz.prog theX W0 m0 (nextA A (d 8) false) fun t0 At0 => pureW (extractP t0 0) fun t1 => forkW t1 (anW Tryz.prog theX W0 m0 (entryP At0 (d 8)) fun t2 At2 => pureW (extractP t2 0) fun t3 => pureW (extractP t2 1) fun t4 => pureW (binA Tryz.prog .eql 5 (.tmp 14) (.tmp 15) t4 (d 1)) fun t5 => forkW t5 (Q t3 At2) (cutW (T53 0) (T53 0) (S 0 [(d 1), (d 8)] At2))) (Q (.string ⟨⟨[]⟩⟩) At0)) := by kernel_rfl
theorem n53 (a0 a1 : Value) : enterA Tryz.prog 53 [a0, a1] .normal = some (frM 53 (Tm.fill ⟨18, .nil⟩ 0 [a0, a1]) [.code (cd 53 [])] false) := by kernel_rfl
theorem w53 : Wf2 53 18 T53 L53 := wf2 n53 (by decide) fun _ _ => rfl
theorem c53 : Cutf 53 18 T53 L53 := cutf (by decide)


end Go.Proofs.YtebidlpekphaoaaGreatDoor
