/-
  GatherMay: whatever the frames, the law answers true, and what came in reads as it did. Conditions: none.
-/
import Derived.Test.YteiiledpfhopdaaFeedsD
import Derived.Test.YteiiledpfhopdaaMayA

namespace Go.Proofs.Yteiiledpfhopdaa
open Go Go.Abs Go.ChangeShapes Go.WideShapes Go.ChangeAt Go.RowKit Go.Joins Go.Deep

theorem may_calls {W : World} {s : Value} {l : List Fr} {La : Arg} (h : InSlice W Fr.cells s l La) (hw : ∀ f ∈ l, f.wf) : Calls Try.prog 6 #[s] W fun e W' => e = .returned (.bool true) ∧ Below W.heap.size W W' := by
  have hok : okG Try.prog.globals.size ([] : List (Nat × List Value × TypeId)) = true := by kernel_rfl
  have hk : Try.prog.globals.size + [La].length + 1 ≤ maxId := by rw [nG]; show 0 + 1 + 1 ≤ maxId; decide
  obtain ⟨s', hv, hs⟩ := h.rel (P := Try.prog) (L := [La]) (j := 0) rfl
  obtain ⟨F, hr, hF⟩ := rdFr_of hk hs
  refine calls_trueR (L := [La]) (gl := []) (args := [s']) gP hok hk (fun x hx => by cases hx) ?_ (.cons hv .nil) (wc6 (wR_fine hok hk) ?_ hr hF hw (head_kc W _))
  · intro j p cs e hj
    match j, hj with
    | 0, hj => exact h.args fr_closed (Option.some.inj hj)
    | j + 1, hj => simp at hj
  · show Try.prog.globals.size + 1 + 1 + 4000000 ≤ maxId
    rw [nG]; decide

theorem Try.own : ownKnob Try.prog.godebug = none := by kernel_rfl
theorem Try.laidOut : laidOutB Try.prog = true := by kernel_rfl
set_option maxRecDepth 100000 in
theorem gatherMay_lifted (os : Os) (started : os.Started) (H : Type) (enc : TypeId × Value → H) :
    ReturnsInHanded {} Try.checked os 6 .any (Rows.gatherMaySpec.pre6 enc Try.prog Try.f6 Rows.gatherMayRow.domain false) (Rows.gatherMaySpec.post enc Try.prog Try.f6 false true false false) := by
  refine returnsInHanded_of_change (C := Try.checked) Try.own started (by kernel_rfl) Try.func6
    (ChangeSpec.witness6 (enc := enc) (C := Try.checked) false ⟨#[], #[.slice none 0 0], []⟩ 8 (by kernel_rfl) (by kernel_rfl) (by kernel_rfl) (by kernel_rfl)) ?_
  intro W base args ds gs before hval0 hW hcnd _
  have hval : ∀ (j : Nat) t v, Try.f6.params[j]? = some t → args[j]? = some v → Value.okWide Try.prog W .any base t v := hval0
  have hW' := hW
  obtain ⟨p, q, hA0, hV, rfl, hfz, hnd⟩ := hW
  have hA : DataW.TrodAll enc Try.prog W 0 (fun _ => true) true Try.f6.params.toList args.toList ds p := hA0
  rw [Try.params6] at hA hval
  obtain ⟨v0, d0, rfl, rfl, h0⟩ := trodAll_one hA
  obtain ⟨rfl, rfl⟩ := trodVars_none hV
  have h0k := h0
  obtain ⟨fuel, hf⟩ := h0
  obtain ⟨s, l, La, hc, hs, hw⟩ := read_flat (f := Fr.cells) (ok := Fr.wf) fr0 Try.underlying29 (by rw [Try.c45]; decide) (fun f => by rw [Try.c45]; rfl) (fun q cs y hy => read_fr hy) hf
  have hv0 : v0 = s := by
    obtain ⟨a, n, c, rfl⟩ := okWide_slice Try.underlying29 (hval 0 29 v0 rfl rfl)
    simpa [Value.cells] using hc
  subst hv0
  clear hA0 hval0
  simp only [List.append_nil] at hW'
  have hlt : ∀ x ∈ p, x.block < W.heap.size := fun x hx => by simpa using hW'.lt x hx
  refine (may_calls hs hw).mono fun e W' ⟨he, hb⟩ => ?_
  subst he
  exact ⟨_, rfl, post_of_below (pa := p) (pv := []) hW' (fun _ _ _ => trodAll_mk1 (shut_bool Try.underlying4 _)) (fun sp hsp => trodAll_mk1 (WideElems.Trod_stays Try.laidOut (by kernel_rfl) (of_decide_eq_true (by kernel_rfl)) h0k (fun x hx => hb.same (hlt x hx)) (fun x hx => hsp x hx))) (fun _ _ => rfl) (by simp) hb
    (ok_one (by kernel_rfl) rfl (okWide_bool_mk Try.underlying4 _))⟩

theorem gatherMay_holds : Rows.GatherMaySaid :=
  OpenClaim.holds_of_wide 6 Try.f6 rfl rfl rfl rfl rfl rfl rfl ⟨rfl, rfl, rfl, rfl, rfl⟩ rfl rfl rfl rfl rfl (by kernel_rfl) Try.func6 (by kernel_rfl)
    (of_decide_eq_true (by kernel_rfl)) (by unfold Func.isWrapper; first | (rw [if_pos (by decide +kernel)]; kernel_rfl) | (rw [if_neg (by decide +kernel)]; exact ⟨rfl, rfl⟩))
    (fun os started H enc _ => gatherMay_lifted os started H enc)
#print axioms gatherMay_holds
end Go.Proofs.Yteiiledpfhopdaa
