/-
  LetterTurned: whatever the letter, and whichever bits are turned, the law answers true, and what came in reads as it did. Conditions: those of the card.
-/
import Derived.Test.YtjiglbmjhecobaaGreatDoorTurnA
import Derived.Test.YtjiglbmjhecobaaGreatDoorRead
import Derived.Test.YtjiglbmjhecobaaGreatDoorPartB
import Derived.Test.YtjiglbmjhecobaaGreatDoorPartC
import Derived.Test.YtjiglbmjhecobaaGreatDoorPartE
import Derived.Test.YtjiglbmjhecobaaGreatDoorPartF
import Derived.Test.YtjiglbmjhecobaaGreatDoorPartG

namespace Go.Proofs.YtjiglbmjhecobaaGreatDoor
open Go Go.Abs Go.ChangeShapes Go.WideShapes Go.ChangeAt Go.RowKit Go.Joins Go.Deep
open Hd (rowsG crcNums head_calls)

theorem turned_calls {W : World} {t : Lt} {v : Value} {l : List Nm} {La : Arg} {a m : Nat} (hW : Go.Abs.Holds W rowsG) (h : InSlice W Nm.cells v l La) (hw : t.wf l) (ha : a < 65536) (hm : m < 4294967296) : Calls Tryz.prog 5 #[t.val v, .int .u16 (a : Int), .int .u32 (m : Int)] W fun e W' => e = .returned (.bool true) ∧ Below W.heap.size W W' := by
  have hk : Tryz.prog.globals.size + [La].length + 1 ≤ maxId := by rw [Hd.Tryz.nG]; show 9 + 1 + 1 ≤ maxId; decide
  obtain ⟨u, hv, hs⟩ := h.rel (P := Tryz.prog) (L := [La]) (j := 0) rfl
  obtain ⟨F, hr⟩ := rdN_of hk hs
  refine calls_trueR (L := [La]) (gl := rowsG) (args := [t.val u, .int .u16 (a : Int), .int .u32 (m : Int)]) gP Hd.Tryz.okG hk hW ?_ (.cons (.agg (.cons (.int _ _) (.cons (.int _ _) (.cons (.string _) (.cons (.string _) (.cons (.int _ _) (.cons (.int _ _) (.cons hv .nil)))))))) (.cons (.int _ _) (.cons (.int _ _) .nil)))
    (wc5 (head_kc hW _) hw.kd hw.xa hw.no hw.x hw.l ha hm (wR_fine Hd.Tryz.okG hk) (glb_of hk) ?_ hr)
  · intro j p cs e hj
    match j, hj with
    | 0, hj => exact h.args nm_closed4 (Option.some.inj hj)
    | j + 1, hj => simp at hj
  · show Tryz.prog.globals.size + 1 + 1 + 200000 < maxId
    rw [Hd.Tryz.nG]; decide

theorem door_met (os : Os) (args : Array Value) : laidMetH Tryz.prog Rows.letterTurnedRow.laid ((doorW os).forCall (fun _ _ => 0) ⟨#[], args, []⟩).memory :=
  laidMetH_of_parts3 (fuel := 8) (laidMet_of_run' 8 (dm1 os args) (dm2 os args)) (dm3 os args) (dm4 os args)

set_option maxRecDepth 100000 in
theorem letterTurned_lifted (os : Os) (started : os.Started) (H : Type) (enc : TypeId × Value → H) :
    ReturnsInHanded {} Tryz.checked os 5 .any (fun w args => (Rows.letterTurnedSpec.pre enc Tryz.prog Tryz.f5 [] false w args ∧ laidMetH Tryz.prog Rows.letterTurnedRow.laid w) ∧ sizedMet enc Tryz.prog Tryz.f5 (OpenSpec.ofChange Rows.letterTurnedSpec) false w args)
      (Rows.letterTurnedSpec.post enc Tryz.prog Tryz.f5 false true false false) := by
  refine returnsInHanded_and_shaped (C := Tryz.checked) (X := fun w _ => laidMetH Tryz.prog Rows.letterTurnedRow.laid w) (fun _ _ _ hh h => h.of_heap hh) Tryz.own started (by kernel_rfl) Tryz.func5
    (ChangeSpec.witness_shaped (enc := enc) (C := Tryz.checked) (os := os) (X := fun w _ => laidMetH Tryz.prog Rows.letterTurnedRow.laid w) false (doorW os) #[.agg #[.int .u8 0, .int .u32 0, .string .empty, .string .empty, .int .u8 0, .int .u16 0, .slice none 0 0], .int .u16 0, .int .u32 0] 8 rfl (World.shaped_of_RefB (by kernel_rfl) (by kernel_rfl)) (by kernel_rfl) (by kernel_rfl) (by kernel_rfl) (door_met os _)) ?_
  intro W base args ds gs before hval0 hW _ _ hL hsh
  have hval : ∀ (j : Nat) t v, Tryz.f5.params[j]? = some t → args[j]? = some v → Value.okWide Tryz.prog W .any base t v := hval0
  have hW' := hW
  obtain ⟨p, q, hA0, hV, rfl, hfz, hnd⟩ := hW
  have hA : DataW.TrodAll enc Tryz.prog W 0 (fun _ => true) true Tryz.f5.params.toList args.toList ds p := hA0
  rw [Tryz.params5] at hA hval
  obtain ⟨v0, v1, v2, d0, d1, d2, p0, p1, p2, rfl, rfl, rfl, h0, h1, h2⟩ := trodAll_three hA
  obtain ⟨rfl, rfl⟩ := trodVars_none hV
  obtain ⟨t, l, s, La, rfl, hs, hw⟩ := read_arg (hval 0 29 v0 rfl rfl) h0
  have h1k := h1
  have h2k := h2
  obtain ⟨n1, rfl⟩ := okWide_int Tryz.underlying26 (hval 1 26 v1 rfl rfl)
  obtain ⟨n2, rfl⟩ := okWide_int Tryz.underlying22 (hval 2 22 v2 rfl rfl)
  obtain ⟨f1, h1⟩ := h1
  obtain ⟨f2, h2⟩ := h2
  obtain ⟨a, ha, hab⟩ := read_num Tryz.underlying26 rfl h1
  obtain ⟨m, hm, hmb⟩ := read_num Tryz.underlying22 rfl h2
  cases ha
  cases hm
  have hab : (a : Int) ≤ 65535 := hab
  have hmb : (m : Int) ≤ 4294967295 := hmb
  clear hA0 hval0
  simp only [List.append_nil] at hW'
  have hlt : ∀ x ∈ p0 ++ (p1 ++ p2), x.block < W.heap.size := fun x hx => by simpa using hW'.lt x (by simpa [List.append_assoc] using hx)
  refine (turned_calls (holds_of_laid hsh hL) hs hw (show a < 65536 by omega) (show m < 4294967296 by omega)).mono fun e W' ⟨he, hb⟩ => ?_
  subst he
  exact ⟨_, rfl, post_of_below (pa := p0 ++ (p1 ++ p2)) (pv := []) hW' (fun _ _ _ => trodAll_mk1 (shut_bool Tryz.underlying4 _)) (fun sp hsp => trodAll_mk3
      (WideElems.Trod_stays Tryz.laidOut (by kernel_rfl) (of_decide_eq_true (by kernel_rfl)) h0 (fun x hx => hb.same (hlt x (by simp [hx]))) (fun x hx => hsp x (by simp [hx])))
      (WideElems.Trod_stays Tryz.laidOut (by kernel_rfl) (of_decide_eq_true (by kernel_rfl)) h1k (fun x hx => hb.same (hlt x (by simp [hx]))) (fun x hx => hsp x (by simp [hx])))
      (WideElems.Trod_stays Tryz.laidOut (by kernel_rfl) (of_decide_eq_true (by kernel_rfl)) h2k (fun x hx => hb.same (hlt x (by simp [hx]))) (fun x hx => hsp x (by simp [hx])))) (fun _ _ => rfl) (by simp) hb
    (ok_one (by kernel_rfl) rfl (okWide_bool_mk Tryz.underlying4 _))⟩

theorem letterTurned_holds : Rows.LetterTurnedSaid :=
  OpenClaim.holds_of_wide 5 Tryz.f5 rfl rfl rfl rfl rfl rfl rfl ⟨rfl, rfl, rfl, rfl, rfl⟩ rfl rfl rfl rfl rfl bn_named Tryz.func5 bn_joined
    (of_decide_eq_true (by kernel_rfl)) (by unfold Func.isWrapper; first | (rw [if_pos (by decide +kernel)]; kernel_rfl) | (rw [if_neg (by decide +kernel)]; exact ⟨rfl, rfl⟩))
    (fun os started H enc _ => letterTurned_lifted os started H enc)

theorem letterTurned_card : Rows.LetterTurnedCardSaid :=
  Claim7.holds_tied_plain_at .later [] [.data, .data, .data, .data, .data, .sentinel, .sentinel, .pinned] true (true, "7d83aac3b3e8c7a7f8db59f7e26eb8e66ee710130342598a5ead0ab2a7ecfe1e") true
    letterTurned_holds (fun _ h => by cases h) bn_wf (fun _ h => by cases h) letterTurned_row_tie rfl ⟨rfl, rfl⟩ bn_main rfl
    (fun f fn hf hfn => by
      obtain rfl : f = 5 := (Option.some.inj (bn_named.symm.trans hf)).symm
      obtain rfl : fn = Tryz.f5 := (Option.some.inj (Tryz.func5.symm.trans hfn)).symm
      exact ⟨bn_looks, fun j t ht => by
        rw [Tryz.params5] at ht
        have hm : t ∈ [29, 26, 22] := by simpa using Array.mem_of_getElem? ht
        have hall := bn_stand
        exact (show Tryz.prog.wantsStandIn t = false by simpa using List.all_eq_true.1 hall t hm)⟩)
    bn_goes
#print axioms letterTurned_card
end Go.Proofs.YtjiglbmjhecobaaGreatDoor
