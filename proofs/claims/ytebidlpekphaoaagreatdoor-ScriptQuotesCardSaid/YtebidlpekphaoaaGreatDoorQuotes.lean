/-
  ScriptQuotes: whatever the texts, the law answers true, and what came in reads as it did. Conditions: those of the card.
-/
import Derived.Test.YtebidlpekphaoaaGreatDoorQuoB
import Derived.Test.YtebidlpekphaoaaGreatDoorHead
import Derived.Test.YtebidlpekphaoaaGreatDoorCards
import Derived.Test.YtebidlpekphaoaaGreatDoorTie
import Derived.LaidMore
import Derived.Lib.LaidTab
import Derived.Lib.SmallJoins
import Derived.Stop.LaidErr
import Derived.SevenTiedAt
import Derived.ChangeMaps5
import Derived.Deep.Strs

namespace Go.Proofs.YtebidlpekphaoaaGreatDoor
open Go Go.Abs Go.ChangeShapes Go.WideShapes Go.ChangeAt Go.RowKit Go.Joins Go.Deep
open Hd (LaidV head_calls)

theorem head_kc {W : World} (hW : LaidV W) (m : Inj Tryz.prog) : KC.Holds Tryz.prog W m ⟨7, [], [.bool true]⟩ := kc_true2 Hd.LaidV.grow (by decide) head_calls hW m
theorem Tryz.own : ownKnob Tryz.prog.godebug = none := by kernel_rfl
theorem Tryz.laidOut : laidOutB Tryz.prog = true := by kernel_rfl
theorem gES : Tryz.prog.globalNamed "strconv.ErrSyntax" = some 4 := by kernel_rfl
theorem gESType : (Tryz.prog.globals[4]?).map (·.type) = some 72 := by kernel_rfl
theorem cellsES : Tryz.prog.cellsOf 187 = 1 := by kernel_rfl
theorem cells9 : Tryz.prog.cellsOf 9 = 1 := by kernel_rfl
theorem star : "*" ++ "errors.errorString" = "*errors.errorString" := by decide
theorem row185 (u : TypeId) (h : Tryz.prog.typeName? 3 u = some "*errors.errorString") : u = 185 :=
  typeName_ptr_named (nm := "errors.errorString") (by rw [star]; kernel_rfl) (by kernel_rfl) (by decide) u (by rw [star]; exact h)
theorem laidV_of {W : World} (hsh : W.ShapedOpen Tryz.prog) (h : laidMetH Tryz.prog Rows.scriptQuotesRow.laid W) : LaidV W := by
  rw [MakeChecks.laidMetH_plain _ _ _ (by kernel_rfl)] at h
  obtain ⟨a, s, hv, hc, _, _⟩ := laid_sentinel h.tail.tail.tail.tail.tail gES gESType Tryz.underlying72 row185 Tryz.underlying185 Tryz.underlying187 rfl rfl Tryz.underlying9 cellsES cells9
  obtain ⟨fr, hw⟩ := holds_var hsh (g := 4) (t := 72) (name := "strconv.ErrSyntax") gES (by rw [Hd.Tryz.nG]; decide) (by kernel_rfl) hv
  refine ⟨a, fr, ?_, hw⟩
  unfold World.cell? at hc
  split at hc
  · split at hc
    · cases hc
    · rename_i hsp
      cases hq : a.spot with
      | none => rfl
      | some x => rw [hq] at hsp; simp at hsp
  · cases hc
theorem quotes_calls {W : World} (hW : LaidV W) (s w : ByteArray) : Calls Tryz.prog 3 #[.string s, .string w] W fun e W' => e = .returned (.bool true) ∧ Below W.heap.size W W' := by
  have hk : Tryz.prog.globals.size + ([] : List Arg).length + 1 ≤ maxId := by rw [Hd.Tryz.nG]; decide
  have hok : okG Tryz.prog.globals.size [] = true := by rw [Hd.Tryz.nG]; rfl
  refine calls_trueR (L := []) (gl := []) (args := [.string s, .string w]) gP hok hk (fun x hx => by cases hx) (fun j p cs e hj => by simp at hj) (.cons (.string _) (.cons (.string _) .nil)) (wc3 (head_kc hW _) (wR_fine hok hk) ?_)
  show Tryz.prog.globals.size + 0 + 1 + 1000000 < maxId
  rw [Hd.Tryz.nG]; decide
/-- the world that the program's own initialisers leave, Go's table of first bytes laid in it -/
noncomputable def doorW (os : Os) : World := { World.doorLaid Tryz.prog 400 os with heap := (World.doorLaid Tryz.prog 400 os).heap.set! 2 (.cells ⟨Go.Pinned.utf8FirstZ.map fun (n : Nat) => Value.int .u8 n⟩ 175 (0, 0)) }

/-- The world that the program's own initialisers leave meets the condition. -/
theorem door_met (os : Os) (args : Array Value) : laidMetH Tryz.prog Rows.scriptQuotesRow.laid ((doorW os).forCall (fun _ _ => 0) ⟨#[], args, []⟩).memory :=
  laidMetH_of_parts3 (fuel := 8) (laidMet_of_run' 8 (by kernel_rfl) (by kernel_rfl)) (by kernel_rfl) (by kernel_rfl)

set_option maxRecDepth 100000 in
theorem scriptQuotes_lifted (os : Os) (started : os.Started) (H : Type) (enc : TypeId × Value → H) :
    ReturnsInHanded {} Tryz.checked os 3 .any (fun w args => (Rows.scriptQuotesSpec.pre enc Tryz.prog Tryz.f3 [] false w args ∧ laidMetH Tryz.prog Rows.scriptQuotesRow.laid w) ∧ sizedMet enc Tryz.prog Tryz.f3 (OpenSpec.ofChange Rows.scriptQuotesSpec) false w args)
      (Rows.scriptQuotesSpec.post enc Tryz.prog Tryz.f3 false true false false) := by
  refine returnsInHanded_and_shaped (C := Tryz.checked) (X := fun w _ => laidMetH Tryz.prog Rows.scriptQuotesRow.laid w) (fun _ _ _ hh h => h.of_heap hh) Tryz.own started (by kernel_rfl) Tryz.func3
    (ChangeSpec.witness_shaped (enc := enc) (C := Tryz.checked) (os := os) (X := fun w _ => laidMetH Tryz.prog Rows.scriptQuotesRow.laid w) false (doorW os) #[.string .empty, .string .empty] 8 rfl (World.shaped_of_RefB (by kernel_rfl) (by kernel_rfl)) (by kernel_rfl) (by kernel_rfl) (by kernel_rfl) (door_met os _)) ?_
  intro W base args ds gs before hval0 hW _ _ hL hsh
  have hval : ∀ (j : Nat) t v, Tryz.f3.params[j]? = some t → args[j]? = some v → Value.okWide Tryz.prog W .any base t v := hval0
  have hW' := hW
  obtain ⟨p, q, hA0, hV, rfl, hfz, hnd⟩ := hW
  have hA : DataW.TrodAll enc Tryz.prog W 0 (fun _ => true) true Tryz.f3.params.toList args.toList ds p := hA0
  rw [Tryz.params3] at hA hval
  obtain ⟨v0, v1, d0, d1, p0, p1, rfl, rfl, rfl, h0, h1⟩ := trodAll_two hA
  obtain ⟨rfl, rfl⟩ := trodVars_none hV
  obtain ⟨s, rfl⟩ := okWide_string Tryz.underlying9 (hval 0 9 v0 rfl rfl)
  obtain ⟨w, rfl⟩ := okWide_string Tryz.underlying9 (hval 1 9 v1 rfl rfl)
  clear hA0 hval0
  simp only [List.append_nil] at hW'
  have hlt : ∀ x ∈ p0 ++ p1, x.block < W.heap.size := fun x hx => by simpa using hW'.lt x hx
  refine (quotes_calls (laidV_of hsh hL) s w).mono fun e W' ⟨he, hb⟩ => ?_
  subst he
  exact ⟨_, rfl, post_of_below (pa := p0 ++ p1) (pv := []) hW' (fun _ _ _ => trodAll_mk1 (shut_bool Tryz.underlying4 _)) (fun sp hsp => trodAll_mk2
      (WideElems.Trod_stays Tryz.laidOut (by kernel_rfl) (of_decide_eq_true (by kernel_rfl)) h0 (fun x hx => hb.same (hlt x (by simp [hx]))) (fun x hx => hsp x (by simp [hx])))
      (WideElems.Trod_stays Tryz.laidOut (by kernel_rfl) (of_decide_eq_true (by kernel_rfl)) h1 (fun x hx => hb.same (hlt x (by simp [hx]))) (fun x hx => hsp x (by simp [hx])))) (fun _ _ => rfl) (by simp) hb
    (ok_one (by kernel_rfl) rfl (okWide_bool_mk Tryz.underlying4 _))⟩

theorem scriptQuotes_holds : Rows.ScriptQuotesSaid :=
  OpenClaim.holds_of_wide 3 Tryz.f3 rfl rfl rfl rfl rfl rfl rfl ⟨rfl, rfl, rfl, rfl, rfl⟩ rfl rfl rfl rfl rfl (by kernel_rfl) Tryz.func3 (by kernel_rfl)
    (of_decide_eq_true (by kernel_rfl)) (by unfold Func.isWrapper; first | (rw [if_pos (by decide +kernel)]; kernel_rfl) | (rw [if_neg (by decide +kernel)]; exact ⟨rfl, rfl⟩))
    (fun os started H enc _ => scriptQuotes_lifted os started H enc)

theorem scriptQuotes_card : Rows.ScriptQuotesCardSaid :=
  Claim7.holds_tied_plain_at .later [] [.data, .data, .data, .data, .sentinel, .sentinel, .pinned] true (true, "da46332cc93e85645593edd53063953065bcb73bad7ce245735f98f837272f36") true
    scriptQuotes_holds (fun _ h => by cases h) (by kernel_rfl) (fun _ h => by cases h) scriptQuotes_row_tie rfl ⟨rfl, rfl⟩ (by kernel_rfl) rfl
    (fun f fn hf hfn => by
      obtain rfl : f = 3 := Option.some.inj ((show Tryz.prog.funcNamed "posthouse/posthouselaw31.ScriptQuotes" = some 3 by kernel_rfl).symm.trans hf) |>.symm
      obtain rfl : fn = Tryz.f3 := (Option.some.inj (Tryz.func3.symm.trans hfn)).symm
      exact ⟨by kernel_rfl, fun j t ht => by
        rw [Tryz.params3] at ht
        have hm : t ∈ [9, 9] := by simpa using Array.mem_of_getElem? ht
        have hall : ([9, 9].all fun u => !Tryz.prog.wantsStandIn u) = true := by kernel_rfl
        exact (show Tryz.prog.wantsStandIn t = false by simpa using List.all_eq_true.1 hall t hm)⟩)
    (by kernel_rfl)
#print axioms scriptQuotes_card
end Go.Proofs.YtebidlpekphaoaaGreatDoor
