/-
  LetterBack: whatever the letters and the text, the law answers true, and what came in reads as it did. Conditions: those of the card.
-/
import Derived.Test.YtjiglbmjhecobaaGreatDoorBackA
import Derived.Test.YtjiglbmjhecobaaGreatDoorRead
import Derived.Test.YtjiglbmjhecobaaGreatDoorPartB
import Derived.Test.YtjiglbmjhecobaaGreatDoorPartC
import Derived.Test.YtjiglbmjhecobaaGreatDoorPartE
import Derived.Test.YtjiglbmjhecobaaGreatDoorPartF
import Derived.Test.YtjiglbmjhecobaaGreatDoorPartG

namespace Go.Proofs.YtjiglbmjhecobaaGreatDoor
open Go Go.Abs Go.ChangeShapes Go.WideShapes Go.ChangeAt Go.RowKit Go.Joins Go.Deep
open Hd (rowsG crcNums head_calls)

theorem back_calls {W : World} {t t' : Lt} {v v' : Value} {l l' : List Nm} {La Lb : Arg} {s : ByteArray} (hW : Go.Abs.Holds W rowsG) (h : InSlice W Nm.cells v l La) (h' : InSlice W Nm.cells v' l' Lb) (hw : t.wf l) : Calls Tryz.prog 6 #[t.val v, t'.val v', .string s] W fun e W' => e = .returned (.bool true) ∧ Below W.heap.size W W' := by
  have hk : Tryz.prog.globals.size + [La, Lb].length + 1 ≤ maxId := by rw [Hd.Tryz.nG]; show 9 + 2 + 1 ≤ maxId; decide
  obtain ⟨u, hv, hs⟩ := h.rel (P := Tryz.prog) (L := [La, Lb]) (j := 0) rfl
  obtain ⟨u', hv', hs'⟩ := h'.rel (P := Tryz.prog) (L := [La, Lb]) (j := 1) rfl
  obtain ⟨F, hr⟩ := rdN_of hk hs
  obtain ⟨F', hr'⟩ := rdN_of hk hs'
  have hl : ∀ {t : Lt} {a b : Value}, VRel (mR Tryz.prog [La, Lb]) a b → VRel (mR Tryz.prog [La, Lb]) (t.val a) (t.val b) := fun h => .agg (.cons (.int _ _) (.cons (.int _ _) (.cons (.string _) (.cons (.string _) (.cons (.int _ _) (.cons (.int _ _) (.cons h .nil)))))))
  refine calls_trueR (L := [La, Lb]) (gl := rowsG) (args := [t.val u, t'.val u', .string s]) gP Hd.Tryz.okG hk hW ?_ (.cons (hl hv) (.cons (hl hv') (.cons (.string _) .nil)))
    (wc6 (head_kc hW _) hw.kd hw.xa hw.no hw.x hw.l (wR_fine Hd.Tryz.okG hk) (glb_of hk) ?_ hr hr')
  · intro j p cs e hj
    match j, hj with
    | 0, hj => exact h.args nm_closed4 (Option.some.inj hj)
    | 1, hj => exact h'.args nm_closed4 (Option.some.inj hj)
    | j + 2, hj => simp at hj
  · show Tryz.prog.globals.size + 2 + 1 + 400000 < maxId
    rw [Hd.Tryz.nG]; decide

/-- The world that the program's own initialisers leave meets the condition. -/
theorem door_met (os : Os) (args : Array Value) : laidMetH Tryz.prog Rows.letterBackRow.laid ((doorW os).forCall (fun _ _ => 0) ⟨#[], args, []⟩).memory :=
  laidMetH_of_parts3 (fuel := 8) (laidMet_of_run' 8 (dm1 os args) (dm2 os args)) (dm3 os args) (dm4 os args)

set_option maxRecDepth 100000 in
theorem letterBack_lifted (os : Os) (started : os.Started) (H : Type) (enc : TypeId × Value → H) :
    ReturnsInHanded {} Tryz.checked os 6 .any (fun w args => (Rows.letterBackSpec.pre enc Tryz.prog Tryz.f6 [] false w args ∧ laidMetH Tryz.prog Rows.letterBackRow.laid w) ∧ sizedMet enc Tryz.prog Tryz.f6 (OpenSpec.ofChange Rows.letterBackSpec) false w args)
      (Rows.letterBackSpec.post enc Tryz.prog Tryz.f6 false true false false) := by
  refine returnsInHanded_and_shaped (C := Tryz.checked) (X := fun w _ => laidMetH Tryz.prog Rows.letterBackRow.laid w) (fun _ _ _ hh h => h.of_heap hh) Tryz.own started (by kernel_rfl) Tryz.func6
    (ChangeSpec.witness_shaped (enc := enc) (C := Tryz.checked) (os := os) (X := fun w _ => laidMetH Tryz.prog Rows.letterBackRow.laid w) false (doorW os) #[.agg #[.int .u8 0, .int .u32 0, .string .empty, .string .empty, .int .u8 0, .int .u16 0, .slice none 0 0], .agg #[.int .u8 0, .int .u32 0, .string .empty, .string .empty, .int .u8 0, .int .u16 0, .slice none 0 0], .string .empty] 8 rfl (World.shaped_of_RefB (by kernel_rfl) (by kernel_rfl)) (by kernel_rfl) (by kernel_rfl) (by kernel_rfl) (door_met os _)) ?_
  intro W base args ds gs before hval0 hW _ _ hL hsh
  have hval : ∀ (j : Nat) t v, Tryz.f6.params[j]? = some t → args[j]? = some v → Value.okWide Tryz.prog W .any base t v := hval0
  have hW' := hW
  obtain ⟨p, q, hA0, hV, rfl, hfz, hnd⟩ := hW
  have hA : DataW.TrodAll enc Tryz.prog W 0 (fun _ => true) true Tryz.f6.params.toList args.toList ds p := hA0
  rw [Tryz.params6] at hA hval
  obtain ⟨v0, v1, v2, d0, d1, d2, p0, p1, p2, rfl, rfl, rfl, h0, h1, h2⟩ := trodAll_three hA
  obtain ⟨rfl, rfl⟩ := trodVars_none hV
  obtain ⟨t, l, s, La, rfl, hs, hw⟩ := read_arg (hval 0 29 v0 rfl rfl) h0
  obtain ⟨t', l', s', Lb, rfl, hs', hw'⟩ := read_arg (hval 1 29 v1 rfl rfl) h1
  obtain ⟨s2, rfl⟩ := okWide_string Tryz.underlying9 (hval 2 9 v2 rfl rfl)
  clear hA0 hval0
  simp only [List.append_nil] at hW'
  have hlt : ∀ x ∈ p0 ++ (p1 ++ p2), x.block < W.heap.size := fun x hx => by simpa using hW'.lt x (by simpa [List.append_assoc] using hx)
  refine (back_calls (holds_of_laid hsh hL) hs hs' hw).mono fun e W' ⟨he, hb⟩ => ?_
  subst he
  exact ⟨_, rfl, post_of_below (pa := p0 ++ (p1 ++ p2)) (pv := []) hW' (fun _ _ _ => trodAll_mk1 (shut_bool Tryz.underlying4 _)) (fun sp hsp => trodAll_mk3
      (WideElems.Trod_stays Tryz.laidOut (by kernel_rfl) (of_decide_eq_true (by kernel_rfl)) h0 (fun x hx => hb.same (hlt x (by simp [hx]))) (fun x hx => hsp x (by simp [hx])))
      (WideElems.Trod_stays Tryz.laidOut (by kernel_rfl) (of_decide_eq_true (by kernel_rfl)) h1 (fun x hx => hb.same (hlt x (by simp [hx]))) (fun x hx => hsp x (by simp [hx])))
      (WideElems.Trod_stays Tryz.laidOut (by kernel_rfl) (of_decide_eq_true (by kernel_rfl)) h2 (fun x hx => hb.same (hlt x (by simp [hx]))) (fun x hx => hsp x (by simp [hx])))) (fun _ _ => rfl) (by simp) hb
    (ok_one (by kernel_rfl) rfl (okWide_bool_mk Tryz.underlying4 _))⟩

theorem letterBack_holds : Rows.LetterBackSaid :=
  OpenClaim.holds_of_wide 6 Tryz.f6 rfl rfl rfl rfl rfl rfl rfl ⟨rfl, rfl, rfl, rfl, rfl⟩ rfl rfl rfl rfl rfl bn_named Tryz.func6 bn_joined
    (of_decide_eq_true (by kernel_rfl)) (by unfold Func.isWrapper; first | (rw [if_pos (by decide +kernel)]; kernel_rfl) | (rw [if_neg (by decide +kernel)]; exact ⟨rfl, rfl⟩))
    (fun os started H enc _ => letterBack_lifted os started H enc)

theorem letterBack_card : Rows.LetterBackCardSaid :=
  Claim7.holds_tied_plain_at .later [] [.data, .data, .data, .data, .data, .sentinel, .sentinel, .pinned] true (true, "7d83aac3b3e8c7a7f8db59f7e26eb8e66ee710130342598a5ead0ab2a7ecfe1e") true
    letterBack_holds (fun _ h => by cases h) bn_wf (fun _ h => by cases h) letterBack_row_tie rfl ⟨rfl, rfl⟩ bn_main rfl
    (fun f fn hf hfn => by
      obtain rfl : f = 6 := (Option.some.inj (bn_named.symm.trans hf)).symm
      obtain rfl : fn = Tryz.f6 := (Option.some.inj (Tryz.func6.symm.trans hfn)).symm
      exact ⟨bn_looks, fun j t ht => by
        rw [Tryz.params6] at ht
        have hm : t ∈ [29, 29, 9] := by simpa using Array.mem_of_getElem? ht
        have hall := bn_stand
        exact (show Tryz.prog.wantsStandIn t = false by simpa using List.all_eq_true.1 hall t hm)⟩)
    bn_goes
#print axioms letterBack_card
end Go.Proofs.YtjiglbmjhecobaaGreatDoor
