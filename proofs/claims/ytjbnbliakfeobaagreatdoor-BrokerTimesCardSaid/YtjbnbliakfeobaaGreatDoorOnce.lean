/-
  Places that stand each once, found with the bits of a number. Conditions: none.
-/
import Derived.Test.YtjbnbliakfeobaaGreatDoorParts
set_option linter.all false

namespace Go.Proofs.YtjbnbliakfeobaaGreatDoor
open Go Go.Abs Go.ChangeShapes Go.WideShapes Go.ChangeAt Go.RowKit Go.Joins Go.Deep
def codeP : MemPlace → Option Nat
  | .cell b off => bif Nat.blt off 4096 then some (b * 4096 + off) else none
  | .map _ => none
def nodupM : List MemPlace → Nat → Bool
  | [], _ => true
  | p :: r, bits => match codeP p with
    | none => false
    | some c => bif Nat.testBit bits c then false else nodupM r (bits ||| (1 <<< c))
theorem codeP_inj {p q : MemPlace} {c : Nat} (h1 : codeP p = some c) (h2 : codeP q = some c) : p = q := by
  cases p with
  | map _ => cases h1
  | cell b o =>
    cases q with
    | map _ => cases h2
    | cell b' o' =>
      unfold codeP at h1 h2
      simp only at h1 h2
      cases x1 : Nat.blt o 4096 with
      | false => rw [x1] at h1; cases h1
      | true =>
        cases x2 : Nat.blt o' 4096 with
        | false => rw [x2] at h2; cases h2
        | true =>
          rw [x1, cond_true, Option.some.injEq] at h1
          rw [x2, cond_true, Option.some.injEq] at h2
          have l1 := blt_true.1 x1
          have l2 := blt_true.1 x2
          have : b = b' ∧ o = o' := by omega
          rw [this.1, this.2]
theorem nodupM_spec : ∀ (l : List MemPlace) (bits : Nat), nodupM l bits = true → l.Nodup ∧ ∀ p ∈ l, ∀ c, codeP p = some c → Nat.testBit bits c = false
  | [], _, _ => ⟨.nil, by simp⟩
  | p :: r, bits, h => by
    unfold nodupM at h
    cases hc : codeP p with
    | none => rw [hc] at h; cases h
    | some c =>
      rw [hc] at h
      simp only at h
      cases hb : Nat.testBit bits c with
      | true => rw [hb] at h; cases h
      | false =>
        rw [hb, cond_false] at h
        obtain ⟨h1, h2⟩ := nodupM_spec r _ h
        have key : ∀ q ∈ r, ∀ d, codeP q = some d → Nat.testBit bits d = false ∧ d ≠ c := fun q hq d hd => by
          have := h2 q hq d hd
          rw [Nat.testBit_or, Nat.one_shiftLeft, Nat.testBit_two_pow, Bool.or_eq_false_iff] at this
          exact ⟨this.1, fun e => by rw [e] at this; simp at this⟩
        refine ⟨List.nodup_cons.2 ⟨fun hm => (key p hm c hc).2 rfl, h1⟩, fun q hq d hd => ?_⟩
        rcases List.mem_cons.1 hq with rfl | hq
        · rw [hc, Option.some.injEq] at hd; rw [← hd]; exact hb
        · exact (key q hq d hd).1
theorem dmN (os : Os) (args : Array Value) : Option.map (fun x => nodupM x.snd 0) (DataW.laidRun Tryz.prog (mW os args) 8 (List.map (fun x => x.fst) lD)) = some true := by kernel_rfl
end Go.Proofs.YtjbnbliakfeobaaGreatDoor
