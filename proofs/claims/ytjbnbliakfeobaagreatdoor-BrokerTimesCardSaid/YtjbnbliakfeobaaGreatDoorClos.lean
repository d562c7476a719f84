/-
  A program's closure, with the seen functions kept as the bits of a number: the same list, computed in less room. Conditions: none.
-/
import Derived.Test.YtjbnbliakfeobaaGreatDoorAbsF
import GoSem.ClaimFn
set_option linter.all false

namespace Go.Abs
open Go
def closureM (P : Program) : Nat → List FuncId → List FuncId → Nat → List FuncId
  | 0, _, seen, _ => seen.reverse
  | _ + 1, [], seen, _ => seen.reverse
  | n + 1, f :: todo, seen, bits => bif Nat.testBit bits f then closureM P n todo seen bits else closureM P n ((P.funcs[f]?).elim [] P.leadsTo ++ todo) (f :: seen) (bits ||| (1 <<< f))
theorem closureM_eq (P : Program) : ∀ (n : Nat) (todo seen : List FuncId) (bits : Nat), (∀ x, Nat.testBit bits x = seen.contains x) → P.closureVia n todo seen = closureM P n todo seen bits := by
  intro n
  induction n with
  | zero => intro todo seen bits _; cases todo <;> rfl
  | succ n ih =>
    intro todo seen bits h
    cases todo with
    | nil => rfl
    | cons f todo =>
      unfold Program.closureVia closureM
      rw [h f]
      cases hc : seen.contains f with
      | true => rw [cond_true, if_pos rfl]; exact ih _ _ _ h
      | false =>
        rw [cond_false, if_neg (by simp)]
        refine ih _ _ _ fun x => ?_
        rw [Nat.testBit_or, h x, Nat.one_shiftLeft, Nat.testBit_two_pow, List.contains_cons]
        by_cases hx : f = x
        · subst hx; simp
        · have : (x == f) = false := by simpa using fun e => hx e.symm
          simp [hx, this]
theorem closure_bits (P : Program) (f : FuncId) : P.closure f = closureM P (1 + (P.funcs.toList.map fun g => (P.leadsTo g).length + 1).sum) [f] [] 0 := by
  unfold Program.closure
  exact closureM_eq P _ _ _ _ fun x => by simp
end Go.Abs
