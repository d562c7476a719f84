/-
  What a closed call of this program does, by a run of the abstract machine. Conditions: none.
-/
import Derived.Test.YteiiledpfhopdaaAbsE
import Derived.Test.YteiiledpfhopdaaRows
import Derived.KernelRfl
import Derived.ProofKit
import Derived.Below
import Derived.Carry
import Derived.ChangeSame
import Derived.Lib.SmallJoins
namespace Go.Proofs.Yteiiledpfhopdaa
open Go.Abs Go.ChangeShapes Go.WideShapes Go.ChangeAt Go.RowKit Go.Joins Go.Deep

def noX : XNames := ⟨[], [], []⟩
def w0 : AW := ⟨.nil, 0, .nil⟩
def isTrue : Value → AW → Bool
  | .bool b, _ => b
  | _, _ => false
def frOf (P : Program) (f : FuncId) (args : List Value) : AFr := (enterA P f args .normal).getD ⟨0, ⟨0, .nil⟩, [], [], .run, .normal, none, false⟩
def progOk (P : Program) : Bool := P.funcs.toList.all fun fn => match fn.body with | some c => codeOk P c | none => true

def m0 (P : Program) : Inj P := ⟨fun _ => none, fun _ => 0, fun _ => 0, fun _ => 0, fun _ h => absurd rfl h⟩
theorem rel0 {P : Program} (w : World) : Rel (m0 P) w0 w := by
  have hn : ∀ i, w0.get i = none := fun i => Trie.get?_nil i
  refine ⟨fun i o c d h => ?_, fun i cs e b ro h => ?_, fun i j oi oj c di dj _ h => ?_, fun i o f b h => ?_, fun i _ => ⟨hn i, rfl, Trie.get?_nil i⟩, by decide, fun i cs e f b ro c d h => ?_⟩
  all_goals (rw [hn] at h; cases h)

theorem pok_of {P : Program} (h : progOk P = true) (hm : P.follows .mixedOrders = true) : POk P := by
  refine ⟨fun f fn c hf hb => ?_, hm⟩
  unfold progOk at h
  have := List.all_eq_true.1 h fn (by simpa using Array.mem_of_getElem? hf)
  rw [hb] at this
  exact this

theorem xok0 {P : Program} : XOk P noX := by
  refine ⟨fun f h => ?_, fun f h => ?_, fun f h => ?_⟩ <;> cases h

theorem below_of {P : Program} {m m' : Inj P} {A A' : AW} {w w' : World} {lo : Nat} (h : EvL lo m A w m' A' w') (hno : ∀ c, ¬ Own m A c) : Below w.heap.size w w' :=
  ⟨h.os, h.tape, h.output, h.size, fun k hk => h.keep k hk (hno k)⟩

theorem own0 {P : Program} (c : Nat) : ¬ Own (m0 P) w0 c := by
  rintro ⟨i, o, d, h, _⟩
  rw [show w0.get i = none from Trie.get?_nil i] at h
  cases h

theorem Try.pok : POk Try.prog := pok_of (by kernel_rfl) (by kernel_rfl)

/-- a run without objects of old -/
theorem calls_new {n : Nat} {g : FuncId} {args : List Value} (hcl : args.all (closedV 4) = true) (he : (enterA Try.prog g args .normal).isSome = true) (hrun : runD Try.prog noX isTrue n ⟨frOf Try.prog g args, [], w0⟩ = true) (w : World) :
    Calls Try.prog g ⟨args⟩ w fun e w' => e = .returned (.bool true) ∧ Below w.heap.size w w' := by
  obtain ⟨fr, hfr⟩ := Option.isSome_iff_exists.1 he
  have hfo : frOf Try.prog g args = fr := by unfold frOf; rw [hfr]; rfl
  rw [hfo] at hrun
  refine (calls_of_run (w := w) xok0 Try.pok hfr hrun (rel0 w) (fun i hi => ?_) (VRels.self fun v hv => closedV_rel 4 v (List.all_eq_true.1 hcl v hv))).mono ?_
  · have : Try.prog.globals.size = 0 := by kernel_rfl
    omega
  · rintro e w' ⟨v, v', m', A', h1, rfl, h2, h3⟩
    refine ⟨?_, below_of h3 own0⟩
    cases v with
    | bool b =>
      have h1 : b = true := h1
      subst h1
      cases h2; rfl
    | _ => cases h1

theorem head_run : runD Try.prog noX isTrue 1300 ⟨frOf Try.prog 8 [], [], w0⟩ = true := by kernel_rfl
theorem head_calls (w : World) : Calls Try.prog 8 #[] w fun e w' => e = .returned (.bool true) ∧ Below w.heap.size w w' := calls_new (args := []) rfl (by kernel_rfl) head_run w

theorem none_run (b1 b2 b3 b4 : Bool) (t k c : Int) (s : ByteArray) : runD Try.prog noX isTrue 2000 ⟨frOf Try.prog 7 [.agg #[.bool b1, .bool b2, .bool b3, .bool b4, .int .u8 t, .int .u8 k, .int .u16 c, .string s]], [], w0⟩ = true := by kernel_rfl
theorem none_calls (b1 b2 b3 b4 : Bool) (t k c : Int) (s : ByteArray) (w : World) :
    Calls Try.prog 7 #[.agg #[.bool b1, .bool b2, .bool b3, .bool b4, .int .u8 t, .int .u8 k, .int .u16 c, .string s]] w fun e w' => e = .returned (.bool true) ∧ Below w.heap.size w w' :=
  calls_new (args := [_]) rfl (by kernel_rfl) (none_run b1 b2 b3 b4 t k c s) w

end Go.Proofs.Yteiiledpfhopdaa
