/-
  LetterGets: whatever the text, the law answers true, and what came in reads as it did. Conditions: those of the card.
-/
import Derived.Test.YtjiglbmjhecobaaGreatDoorGetsB
import Derived.Test.YtjiglbmjhecobaaGreatDoorRead
import Derived.Test.YtjiglbmjhecobaaGreatDoorPartB
import Derived.Test.YtjiglbmjhecobaaGreatDoorPartC
import Derived.Test.YtjiglbmjhecobaaGreatDoorPartE
import Derived.Test.YtjiglbmjhecobaaGreatDoorPartF
import Derived.Test.YtjiglbmjhecobaaGreatDoorPartG

namespace Go.Proofs.YtjiglbmjhecobaaGreatDoor
open Go Go.Abs Go.ChangeShapes Go.WideShapes Go.ChangeAt Go.RowKit Go.Joins Go.Deep
open Hd (rowsG crcNums head_calls)

theorem gets_calls {W : World} (hW : Go.Abs.Holds W rowsG) (s : ByteArray) : Calls Tryz.prog 4 #[.string s] W fun e W' => e = .returned (.bool true) ∧ Below W.heap.size W W' := by
  have hk : Tryz.prog.globals.size + ([] : List Arg).length + 1 ≤ maxId := by rw [Hd.Tryz.nG]; decide
  refine calls_trueR (L := []) (gl := rowsG) (args := [.string s]) gP Hd.Tryz.okG hk hW (fun j p cs e hj => by simp at hj) (.cons (.string _) .nil) (wc4 (head_kc hW _) (wR_fine Hd.Tryz.okG hk) (glb_of hk) ?_)
  show Tryz.prog.globals.size + 0 + 1 + 200000 < maxId
  rw [Hd.Tryz.nG]; decide

/-- The world that the program's own initialisers leave meets the condition. -/
theorem door_met (os : Os) (args : Array Value) : laidMetH Tryz.prog Rows.letterGetsRow.laid ((doorW os).forCall (fun _ _ => 0) ⟨#[], args, []⟩).memory :=
  laidMetH_of_parts3 (fuel := 8) (laidMet_of_run' 8 (dm1 os args) (dm2 os args)) (dm3 os args) (dm4 os args)

set_option maxRecDepth 100000 in
theorem letterGets_lifted (os : Os) (started : os.Started) (H : Type) (enc : TypeId × Value → H) :
    ReturnsInHanded {} Tryz.checked os 4 .any (fun w args => (Rows.letterGetsSpec.pre enc Tryz.prog Tryz.f4 [] false w args ∧ laidMetH Tryz.prog Rows.letterGetsRow.laid w) ∧ sizedMet enc Tryz.prog Tryz.f4 (OpenSpec.ofChange Rows.letterGetsSpec) false w args)
      (Rows.letterGetsSpec.post enc Tryz.prog Tryz.f4 false true false false) := by
  refine returnsInHanded_and_shaped (C := Tryz.checked) (X := fun w _ => laidMetH Tryz.prog Rows.letterGetsRow.laid w) (fun _ _ _ hh h => h.of_heap hh) Tryz.own started (by kernel_rfl) Tryz.func4
    (ChangeSpec.witness_shaped (enc := enc) (C := Tryz.checked) (os := os) (X := fun w _ => laidMetH Tryz.prog Rows.letterGetsRow.laid w) false (doorW os) #[.string .empty] 8 rfl (World.shaped_of_RefB (by kernel_rfl) (by kernel_rfl)) (by kernel_rfl) (by kernel_rfl) (by kernel_rfl) (door_met os _)) ?_
  intro W base args ds gs before hval0 hW _ _ hL hsh
  have hval : ∀ (j : Nat) t v, Tryz.f4.params[j]? = some t → args[j]? = some v → Value.okWide Tryz.prog W .any base t v := hval0
  have hW' := hW
  obtain ⟨p, q, hA0, hV, rfl, hfz, hnd⟩ := hW
  have hA : DataW.TrodAll enc Tryz.prog W 0 (fun _ => true) true Tryz.f4.params.toList args.toList ds p := hA0
  rw [Tryz.params4] at hA hval
  obtain ⟨v0, d0, rfl, rfl, h0⟩ := trodAll_one hA
  obtain ⟨rfl, rfl⟩ := trodVars_none hV
  obtain ⟨s, rfl⟩ := okWide_string Tryz.underlying9 (hval 0 9 v0 rfl rfl)
  clear hA0 hval0
  simp only [List.append_nil] at hW'
  have hlt : ∀ x ∈ p, x.block < W.heap.size := fun x hx => by simpa using hW'.lt x (by simpa [List.append_assoc] using hx)
  refine (gets_calls (holds_of_laid hsh hL) s).mono fun e W' ⟨he, hb⟩ => ?_
  subst he
  exact ⟨_, rfl, post_of_below (pa := p) (pv := []) hW' (fun _ _ _ => trodAll_mk1 (shut_bool Tryz.underlying4 _)) (fun sp hsp => trodAll_mk1
      (WideElems.Trod_stays Tryz.laidOut (by kernel_rfl) (of_decide_eq_true (by kernel_rfl)) h0 (fun x hx => hb.same (hlt x (by simp [hx]))) (fun x hx => hsp x (by simp [hx])))) (fun _ _ => rfl) (by simp) hb
    (ok_one (by kernel_rfl) rfl (okWide_bool_mk Tryz.underlying4 _))⟩

theorem letterGets_holds : Rows.LetterGetsSaid :=
  OpenClaim.holds_of_wide 4 Tryz.f4 rfl rfl rfl rfl rfl rfl rfl ⟨rfl, rfl, rfl, rfl, rfl⟩ rfl rfl rfl rfl rfl bn_named Tryz.func4 bn_joined
    (of_decide_eq_true (by kernel_rfl)) (by unfold Func.isWrapper; first | (rw [if_pos (by decide +kernel)]; kernel_rfl) | (rw [if_neg (by decide +kernel)]; exact ⟨rfl, rfl⟩))
    (fun os started H enc _ => letterGets_lifted os started H enc)

theorem letterGets_card : Rows.LetterGetsCardSaid :=
  Claim7.holds_tied_plain_at .later [] [.data, .data, .data, .data, .data, .sentinel, .sentinel, .pinned] true (true, "7d83aac3b3e8c7a7f8db59f7e26eb8e66ee710130342598a5ead0ab2a7ecfe1e") true
    letterGets_holds (fun _ h => by cases h) bn_wf (fun _ h => by cases h) letterGets_row_tie rfl ⟨rfl, rfl⟩ bn_main rfl
    (fun f fn hf hfn => by
      obtain rfl : f = 4 := (Option.some.inj (bn_named.symm.trans hf)).symm
      obtain rfl : fn = Tryz.f4 := (Option.some.inj (Tryz.func4.symm.trans hfn)).symm
      exact ⟨bn_looks, fun j t ht => by
        rw [Tryz.params4] at ht
        have hm : t ∈ [9] := by simpa using Array.mem_of_getElem? ht
        have hall := bn_stand
        exact (show Tryz.prog.wantsStandIn t = false by simpa using List.all_eq_true.1 hall t hm)⟩)
    bn_goes
#print axioms letterGets_card
end Go.Proofs.YtjiglbmjhecobaaGreatDoor
