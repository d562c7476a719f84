/-
  ServerNone: whatever the act, the law answers true, and what came in reads as it did. Conditions: those of the card.
-/
import Derived.Test.YtcaecfhebongcaaGreatDoorRuns
import Derived.Test.YtcaecfhebongcaaGreatDoorParts
import Derived.Test.YtcaecfhebongcaaGreatDoorBoth
import Derived.Test.YtcaecfhebongcaaGreatDoorPartsB
import Derived.Test.YtcaecfhebongcaaGreatDoorPartsC
import Derived.Test.YtcaecfhebongcaaGreatDoorJoin
import Derived.Test.YtcaecfhebongcaaGreatDoorCards
import Derived.Test.YtcaecfhebongcaaGreatDoorBound
import Derived.LaidMore
import Derived.Lib.LaidTab
import Derived.Lib.SmallJoins
import Derived.Stop.LaidErr
import Derived.SevenTiedAt
import Derived.ChangeMaps5
import Derived.Deep.Strs

namespace Go.Proofs.YtcaecfhebongcaaGreatDoor
open Go.Abs Go.ChangeShapes Go.WideShapes Go.ChangeAt Go.RowKit Go.Joins Go.Deep

theorem enterN (k c : Int) (s : ByteArray) : (enterA Tryz.prog 3 [.agg #[.int .u8 k, .int .i64 c, .string s]] .normal).isSome = true := by kernel_rfl
theorem head_kc {W : World} (hW : Holds W rowsG) (m : Inj Tryz.prog) : ∀ f ∈ [8], f ≠ sameFn → KC.Holds Tryz.prog W m ⟨f, [], [.bool true]⟩ := by
  intro f hf hs
  obtain rfl : f = 8 := by simpa using hf
  exact kc_true hs head_calls hW m

theorem none_fin (q : Int) (k c : Int) (s : ByteArray) {L R : List (List Value)} (run : runsAsk Tryz.prog (lawX q) [] ansK [8] 6000 ⟨frOf Tryz.prog 3 [.agg #[.int .u8 k, .int .i64 c, .string s]], [], wA 9 0 rowsG⟩ = (true, L, R)) (hLR : L = R) (W : World) (hW : Holds W rowsG) :
    Calls Tryz.prog 3 #[.agg #[.int .u8 k, .int .i64 c, .string s]] W fun e W' => e = .returned (.bool true) ∧ Below W.heap.size W W' := by
  refine calls_trueA (X := lawX q) (rows := rowsG) (l := []) (args := [_]) (args' := [_]) Tryz.pok Tryz.okG (by rw [Tryz.nG]; exact Nat.le_of_ble_eq_true rfl)
    (.cons (.agg (.cons (.int _ _) (.cons (.int _ _) (.cons (.string _) .nil)))) .nil) (enterN k c s) W hW ?_
  rw [Tryz.nG]
  exact answers_of_asks (Tryz.xokA _ _ _ _) Tryz.pok run hLR (head_kc hW _)

theorem none_calls (k c : Int) (s : ByteArray) (hk : (Lit.int .u8 k).wf = true) (W : World) (hW : Holds W rowsG) :
    Calls Tryz.prog 3 #[.agg #[.int .u8 k, .int .i64 c, .string s]] W fun e W' => e = .returned (.bool true) ∧ Below W.heap.size W W' := by
  have hb : 0 ≤ k := by
    simp only [Lit.wf, Bool.and_eq_true, decide_eq_true_eq] at hk
    exact hk.1
  have hc : k.tmod 8 = 0 ∨ k.tmod 8 = 1 ∨ k.tmod 8 = 2 ∨ k.tmod 8 = 3 ∨ k.tmod 8 = 4 ∨ k.tmod 8 = 5 ∨ k.tmod 8 = 6 ∨ k.tmod 8 = 7 := by
    rw [Int.tmod_eq_emod_of_nonneg hb]
    omega
  rcases hc with hc | hc | hc | hc | hc | hc | hc | hc
  · exact none_fin 0 k c s (run_0 k c s) (by rw [hc]) W hW
  · exact none_fin 1 k c s (run_1 k c s) (by rw [hc]) W hW
  · exact none_fin 2 k c s (run_2 k c s) (by rw [hc]) W hW
  · exact none_fin 3 k c s (run_3 k c s) (by rw [hc]) W hW
  · exact none_fin 4 k c s (run_4 k c s) (by rw [hc]) W hW
  · exact none_fin 5 k c s (run_5 k c s) (by rw [hc]) W hW
  · exact none_fin 6 k c s (run_6 k c s) (by rw [hc]) W hW
  · exact none_fin 7 k c s (run_7 k c s) (by rw [hc]) W hW

theorem Tryz.cells5 : Tryz.prog.cellsOf 5 = 1 := by kernel_rfl
theorem Tryz.cells3 : Tryz.prog.cellsOf 3 = 1 := by kernel_rfl
theorem Tryz.cells9 : Tryz.prog.cellsOf 9 = 1 := by kernel_rfl
theorem Tryz.cells23 : Tryz.prog.cellsOf 23 = 3 := by kernel_rfl
set_option maxRecDepth 100000 in
theorem read_T23 {H : Type} {enc : TypeId × Value → H} {w : World} {fuel : Nat} {cs : List Value} {x : DataW H × List MemPlace} (h : DataW.trod enc Tryz.prog w 0 (fun _ => true) true fuel 23 cs = some x) :
    ∃ (x0 : Int) (x1 : Int) (x2 : ByteArray), cs = [.int .u8 x0, .int .i64 x1, .string x2] ∧ (Lit.int .u8 x0).wf = true := by
  obtain ⟨xs, n, _, _, hl, hlen, hf⟩ := DataW.trod_struct Tryz.underlying23 h
  have hl : cs.length = 3 := hl.trans Tryz.cells23
  match cs, hl, xs, hlen with
  | [c0, c1, c2], _, [y0, y1, y2], _ =>
    have h0 : DataW.trod enc Tryz.prog w 0 (fun _ => true) true n 5 [c0] = some y0 := by simpa [Tryz.cells5] using hf 0 _ rfl
    obtain ⟨x0, e0, _, w0⟩ := DataW.trod_int Tryz.underlying5 h0
    cases e0
    have h1 : DataW.trod enc Tryz.prog w 0 (fun _ => true) true n 3 [c1] = some y1 := by simpa [Tryz.cells3] using hf 1 _ rfl
    obtain ⟨x1, e1, _, _⟩ := DataW.trod_int Tryz.underlying3 h1
    cases e1
    have h2 : DataW.trod enc Tryz.prog w 0 (fun _ => true) true n 9 [c2] = some y2 := by simpa [Tryz.cells9] using hf 2 _ rfl
    obtain ⟨x2, e2, _⟩ := DataW.trod_string Tryz.underlying9 h2
    cases e2
    exact ⟨_, _, _, rfl, w0⟩

set_option maxRecDepth 100000 in
theorem read_args {H : Type} {enc : TypeId × Value → H} {w : World} {b0 : Nat} {v : Value} {d : DataW H} {p : List MemPlace} (hv : Value.okWide Tryz.prog w .any b0 23 v) (h : DataW.Trod enc Tryz.prog w 0 (fun _ => true) true 23 v d p) :
    ∃ (k c : Int) (s : ByteArray), v = .agg #[.int .u8 k, .int .i64 c, .string s] ∧ (Lit.int .u8 k).wf = true := by
  obtain ⟨⟨cs⟩, rfl, _⟩ := okWide_struct Tryz.underlying23 hv
  obtain ⟨fuel, hf⟩ := h
  obtain ⟨k, c, s, e, h0⟩ := read_T23 (cs := cs) hf
  cases e
  exact ⟨_, _, _, rfl, h0⟩

theorem Tryz.own : ownKnob Tryz.prog.godebug = none := by kernel_rfl

theorem holds_of_laid {W : World} (hsh : W.ShapedOpen Tryz.prog) (h : laidMetH Tryz.prog Rows.serverNoneRow.laid W) : Holds W rowsG := by
  rw [MakeChecks.laidMetH_plain _ _ _ (by kernel_rfl)] at h
  have ht : Lib.TabIs Tryz.prog W "posthouse/crc.table" .u32 crcNums :=
    Lib.tabIs_of_head (g := 2) (t := 739) (n := 16) (zs := crcNums) (by kernel_rfl) (by kernel_rfl) Tryz.underlying739 (by kernel_rfl) (by kernel_rfl) (by kernel_rfl) h.tail.tail
  intro x hx
  obtain rfl : x = _ := by simpa [rowsG] using hx
  exact holds_var hsh (name := "posthouse/crc.table") (by kernel_rfl) (by rw [Tryz.nG]; decide) (by kernel_rfl) ht

/-- The world that the program's own initialisers leave meets the condition. -/
theorem door_met (os : Os) (args : Array Value) : laidMetH Tryz.prog Rows.serverNoneRow.laid ((doorW os).forCall (fun _ _ => 0) ⟨#[], args, []⟩).memory :=
  laidMetH_of_parts3 (fuel := 8) (laidMet_of_run' 8 (dm1 os args) (dm2 os args)) (dm3 os args) (dm4 os args)

set_option maxRecDepth 100000 in
theorem serverNone_lifted (os : Os) (started : os.Started) (H : Type) (enc : TypeId × Value → H) :
    ReturnsInHanded {} Tryz.checked os 3 .any (fun w args => (Rows.serverNoneSpec.pre enc Tryz.prog Tryz.f3 [] false w args ∧ laidMetH Tryz.prog Rows.serverNoneRow.laid w) ∧ sizedMet enc Tryz.prog Tryz.f3 (OpenSpec.ofChange Rows.serverNoneSpec) false w args)
      (Rows.serverNoneSpec.post enc Tryz.prog Tryz.f3 false true false false) := by
  refine returnsInHanded_and_shaped (C := Tryz.checked) (X := fun w _ => laidMetH Tryz.prog Rows.serverNoneRow.laid w) (fun _ _ _ hh h => h.of_heap hh) Tryz.own started (by kernel_rfl) Tryz.func3
    (ChangeSpec.witness_shaped (enc := enc) (C := Tryz.checked) (os := os) (X := fun w _ => laidMetH Tryz.prog Rows.serverNoneRow.laid w) false (doorW os) #[.agg #[.int .u8 0, .int .i64 0, .string .empty]] 8 rfl (World.shaped_of_RefB (by kernel_rfl) (by kernel_rfl)) (by kernel_rfl) (by kernel_rfl) (by kernel_rfl) (door_met os _)) ?_
  intro W base args ds gs before hval0 hW _ _ hL hsh
  have hval : ∀ (j : Nat) t v, Tryz.f3.params[j]? = some t → args[j]? = some v → Value.okWide Tryz.prog W .any base t v := hval0
  have hW' := hW
  obtain ⟨p, q, hA0, hV, rfl, hfz, hnd⟩ := hW
  have hA : DataW.TrodAll enc Tryz.prog W 0 (fun _ => true) true Tryz.f3.params.toList args.toList ds p := hA0
  rw [Tryz.params3] at hA hval
  obtain ⟨v0, d0, rfl, rfl, h0⟩ := trodAll_one hA
  obtain ⟨rfl, rfl⟩ := trodVars_none hV
  obtain ⟨k, c, s, rfl, hk⟩ := read_args (hval 0 23 v0 rfl rfl) h0
  clear hA0 hval0
  simp only [List.append_nil] at hW'
  have hlt : ∀ x ∈ p, x.block < W.heap.size := fun x hx => by simpa using hW'.lt x hx
  refine (none_calls k c s hk W (holds_of_laid hsh hL)).mono fun e W' ⟨he, hb⟩ => ?_
  subst he
  exact ⟨_, rfl, post_of_below (pa := p) (pv := []) hW' (fun _ _ _ => trodAll_mk1 (shut_bool Tryz.underlying4 _)) (fun sp hsp => trodAll_mk1
      (WideElems.Trod_stays Tryz.laidOut (by kernel_rfl) (of_decide_eq_true (by kernel_rfl)) h0 (fun x hx => hb.same (hlt x hx)) (fun x hx => hsp x (by simpa using hx)))) (fun _ _ => rfl) (by simp) hb
    (ok_one (by kernel_rfl) rfl (okWide_bool_mk Tryz.underlying4 _))⟩

theorem serverNone_holds : Rows.ServerNoneSaid :=
  OpenClaim.holds_of_wide 3 Tryz.f3 rfl rfl rfl rfl rfl rfl rfl ⟨rfl, rfl, rfl, rfl, rfl⟩ rfl rfl rfl rfl rfl bn_named Tryz.func3 bn_joined
    (of_decide_eq_true (by kernel_rfl)) (by unfold Func.isWrapper; first | (rw [if_pos (by decide +kernel)]; kernel_rfl) | (rw [if_neg (by decide +kernel)]; exact ⟨rfl, rfl⟩))
    (fun os started H enc _ => serverNone_lifted os started H enc)

theorem serverNone_card : Rows.ServerNoneCardSaid :=
  Claim7.holds_tied_plain_at .later [] [.pinned, .data, .data, .data, .data, .data, .sentinel, .sentinel] true (true, "64ea26baaf32914d3fb83de4d801cfcad0963bfdd3530ce30a8b937b03004e8b") true
    serverNone_holds (fun _ h => by cases h) bn_wf (fun _ h => by cases h) serverNone_row_tie rfl ⟨rfl, rfl⟩ bn_main rfl
    (fun f fn hf hfn => by
      obtain rfl : f = 3 := (Option.some.inj (bn_named.symm.trans hf)).symm
      obtain rfl : fn = Tryz.f3 := (Option.some.inj (Tryz.func3.symm.trans hfn)).symm
      exact ⟨bn_looks, fun j t ht => by
        rw [Tryz.params3] at ht
        have hm : t ∈ [23] := by simpa using Array.mem_of_getElem? ht
        have hall := bn_stand
        exact (show Tryz.prog.wantsStandIn t = false by simpa using List.all_eq_true.1 hall t hm)⟩)
    bn_goes
#print axioms serverNone_card
end Go.Proofs.YtcaecfhebongcaaGreatDoor
