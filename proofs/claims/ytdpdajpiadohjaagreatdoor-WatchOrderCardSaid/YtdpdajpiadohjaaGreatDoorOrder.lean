/-
  What the cards of Watch's statements share: how deeds are read. Conditions: those of each theorem.
-/
import Derived.Test.YtdpdajpiadohjaaGreatDoorSumD
import Derived.Test.YtdpdajpiadohjaaGreatDoorCards
import Derived.Test.YtdpdajpiadohjaaGreatDoorTie
import Derived.LaidMore
import Derived.Lib.LaidTab
import Derived.Lib.SmallJoins
import Derived.Stop.LaidErr
import Derived.SevenTiedAt
import Derived.ChangeMaps5
import Derived.Deep.Strs

namespace Go.Proofs.YtdpdajpiadohjaaGreatDoor
open Go Go.Abs Go.ChangeShapes Go.WideShapes Go.ChangeAt Go.RowKit Go.Joins Go.Deep
open Hd (rowsG head_calls)

theorem head_kc {W : World} (hW : Go.Abs.Holds W rowsG) (m : Inj Tryz.prog) : KC.Holds Tryz.prog W m ⟨7, [], [.bool true]⟩ := kc_true (by decide) head_calls hW m
theorem holds_none (W : World) : Go.Abs.Holds W rowsG := fun x hx => by cases hx
theorem Tryz.cells5 : Tryz.prog.cellsOf 5 = 1 := by kernel_rfl
theorem Tryz.cells9 : Tryz.prog.cellsOf 9 = 1 := by kernel_rfl
theorem Tryz.cells44 : Tryz.prog.cellsOf 44 = 1 := by kernel_rfl
theorem Tryz.cells46 : Tryz.prog.cellsOf 46 = 3 := by kernel_rfl
theorem Tryz.cells56 : Tryz.prog.cellsOf 56 = 5 := by kernel_rfl
theorem dd_closed (p : Dd) : p.cells.all (closedV 4) = true := rfl
theorem dd_length (p : Dd) : p.cells.length = 5 := rfl
/-- a deed's texts are no longer than there are numbers for -/
def DdWf (d : Dd) : Prop := slen d.x.g < 9223372036854775808 ∧ slen d.x.b < 9223372036854775808
section
variable {H : Type} {enc : TypeId × Value → H} {w : World} {q : Nat}
theorem read_num {t : TypeId} {c0 : Value} {k : IntKind} {y : DataW H × List MemPlace} (hu : Tryz.prog.underlying t = some (.int k)) (hmin : k.min = 0) (h : DataW.trod enc Tryz.prog w 0 (fun _ => true) true q t [c0] = some y) : ∃ n : Nat, c0 = .int k (n : Int) ∧ (n : Int) ≤ k.max := by
  obtain ⟨k, e0, _, wk⟩ := DataW.trod_int hu h
  cases e0
  simp only [Lit.wf, Bool.and_eq_true, decide_eq_true_eq] at wk
  have hk0 : 0 ≤ k := by have := wk.1; rw [hmin] at this; exact this
  refine ⟨k.toNat, ?_, ?_⟩
  · rw [Int.toNat_of_nonneg hk0]
  · rw [Int.toNat_of_nonneg hk0]; exact wk.2
theorem read_txt {c0 : Value} {y : DataW H × List MemPlace} (h : DataW.trod enc Tryz.prog w 0 (fun _ => true) true q 9 [c0] = some y) : ∃ g : ByteArray, c0 = .string g ∧ slen g < 9223372036854775808 := by
  obtain ⟨g, e1, _, h1⟩ := DataW.trod_string Tryz.underlying9 h
  cases e1
  exact ⟨g, rfl, Nat.lt_of_le_of_lt (show slen g ≤ maxLen from h1) (by decide)⟩
theorem read_xid {c0 c1 c2 : Value} {y : DataW H × List MemPlace} (h : DataW.trod enc Tryz.prog w 0 (fun _ => true) true q 46 [c0, c1, c2] = some y) :
    ∃ (f : Nat) (g b : ByteArray), c0 = .int .u32 (f : Int) ∧ c1 = .string g ∧ c2 = .string b ∧ slen g < 9223372036854775808 ∧ slen b < 9223372036854775808 := by
  obtain ⟨z0, z1, z2, n', _, _, g0, g1, g2⟩ := trod_struct3 Tryz.underlying46 h
  have g0 : DataW.trod enc Tryz.prog w 0 (fun _ => true) true n' 44 [c0] = some z0 := by simpa [Tryz.cells44] using g0
  have g1 : DataW.trod enc Tryz.prog w 0 (fun _ => true) true n' 9 [c1] = some z1 := by simpa [Tryz.cells9] using g1
  have g2 : DataW.trod enc Tryz.prog w 0 (fun _ => true) true n' 9 [c2] = some z2 := by simpa [Tryz.cells9] using g2
  obtain ⟨f, e0, hf⟩ := read_num Tryz.underlying44 rfl g0
  obtain ⟨g, e1, h1⟩ := read_txt g1
  obtain ⟨b, e2, h2⟩ := read_txt g2
  cases e0; cases e1; cases e2
  exact ⟨f, g, b, rfl, rfl, rfl, h1, h2⟩
set_option maxRecDepth 100000 in
theorem read_dd {cs : List Value} {y : DataW H × List MemPlace} (h : DataW.trod enc Tryz.prog w 0 (fun _ => true) true q 56 cs = some y) : ∃ p : Dd, cs = p.cells ∧ DdWf p := by
  obtain ⟨xs, n, _, _, hl, hlen, hg⟩ := DataW.trod_struct Tryz.underlying56 h
  have hl : cs.length = 5 := hl.trans Tryz.cells56
  match cs, hl, xs, hlen with
  | [c0, c1, c2, c3, c4], _, [y0, y1, y2], _ =>
    have g0 : DataW.trod enc Tryz.prog w 0 (fun _ => true) true n 5 [c0] = some y0 := by simpa [Tryz.cells5] using hg 0 _ rfl
    have g1 : DataW.trod enc Tryz.prog w 0 (fun _ => true) true n 46 [c1, c2, c3] = some y1 := by simpa [Tryz.cells46] using hg 1 _ rfl
    have g2 : DataW.trod enc Tryz.prog w 0 (fun _ => true) true n 5 [c4] = some y2 := by simpa [Tryz.cells5] using hg 2 _ rfl
    obtain ⟨m0, rfl, _⟩ := read_num Tryz.underlying5 rfl g0
    obtain ⟨f, g, b, rfl, rfl, rfl, w1, w2⟩ := read_xid g1
    obtain ⟨m4, rfl, _⟩ := read_num Tryz.underlying5 rfl g2
    exact ⟨⟨m0, ⟨f, g, b⟩, m4⟩, rfl, w1, w2⟩
set_option maxRecDepth 100000 in
/-- an argument that is a list of deeds -/
theorem read_deeds {b0 : Nat} {v : Value} {d : DataW H} {p : List MemPlace} (hv : Value.okWide Tryz.prog w .any b0 22 v) (h : DataW.Trod enc Tryz.prog w 0 (fun _ => true) true 22 v d p) :
    ∃ (l : List Dd) (La : Arg), InSlice w Dd.cells v l La ∧ Txt l := by
  obtain ⟨fuel, hf⟩ := h
  obtain ⟨s, l, La, hc, hs, hw⟩ := read_flat (f := Dd.cells) (ok := DdWf) ⟨0, ⟨0, .empty, .empty⟩, 0⟩ Tryz.underlying22 (by rw [Tryz.cells56]; decide) (fun f => by rw [Tryz.cells56]; rfl) (fun q cs y hy => read_dd hy) hf
  have hv0 : v = s := by
    obtain ⟨a, n, c, rfl⟩ := okWide_slice Tryz.underlying22 hv
    simpa [Value.cells] using hc
  subst hv0
  exact ⟨l, La, hs, hw⟩
end
theorem rdE_of {l : List Dd} {s' : Value} {L : List Arg} {j : Nat} (hk : Tryz.prog.globals.size + L.length + 1 ≤ maxId) (h : (l = [] ∧ ∃ o c, s' = .slice o 0 c) ∨ ∃ c p e, s' = .slice (some ⟨Tryz.prog.globals.size + j, 0, none⟩) l.length c ∧ L[j]? = some (p, some (flat Dd.cells l, e))) :
    ∃ F, RdE 4 Dd.cells (wR Tryz.prog.globals.size rowsG L) s' l F := by
  rcases h with ⟨hl, h⟩ | ⟨c, p, e, rfl, hj⟩
  · exact ⟨[], .inl ⟨hl, rfl, h⟩⟩
  · exact ⟨_, rdE_arg dd_length hk hj⟩
theorem Tryz.own : ownKnob Tryz.prog.godebug = none := by kernel_rfl
theorem Tryz.laidOut : laidOutB Tryz.prog = true := by kernel_rfl
/-- the world that the program's own initialisers leave, Go's table of first bytes laid in it -/
noncomputable def doorW (os : Os) : World := { World.doorLaid Tryz.prog 400 os with heap := (World.doorLaid Tryz.prog 400 os).heap.set! 1 (.cells ⟨Go.Pinned.utf8FirstZ.map fun (n : Nat) => Value.int .u8 n⟩ 237 (0, 0)) }
end Go.Proofs.YtdpdajpiadohjaaGreatDoor


namespace Go.Proofs.YtdpdajpiadohjaaGreatDoor
open Go Go.Abs Go.ChangeShapes Go.WideShapes Go.ChangeAt Go.RowKit Go.Joins Go.Deep
open Hd (rowsG head_calls)

theorem bytes56 : Tryz.prog.bytesOf 56 = 56 := by kernel_rfl
theorem weights_len {H : Type} {P : Program} {t e : TypeId} (hu : P.underlying t = some (.slice e)) {elems spare : List (DataW H)} (hz : ((DataW.slice elems spare).weights P t).all (· ≤ reachBytes) = true) : elems.length * P.bytesOf e ≤ reachBytes := by
  unfold DataW.weights at hz
  rw [hu] at hz
  simp only [List.all_cons, Bool.and_eq_true, decide_eq_true_eq] at hz
  exact Nat.le_trans (Nat.mul_le_mul_right _ (Nat.le_add_right _ _)) hz.1
theorem deeds_len {H : Type} {enc : TypeId × Value → H} {w : World} {fuel : Nat} {v : Value} {x : DataW H × List MemPlace} {l : List Dd} {La : Arg} (h : DataW.trod enc Tryz.prog w 0 (fun _ => true) true fuel 22 [v] = some x)
    (hz : (x.1.weights Tryz.prog 22).all (· ≤ reachBytes) = true) (hs : InSlice w Dd.cells v l La) : l.length < 1000000000000000 := by
  have hr : reachBytes = 140737488351232 := rfl
  have hl : l = [] ∨ ∃ a c, v = .slice (some a) l.length c := by
    cases hs with
    | nil hl _ _ => exact .inl hl
    | blk a c _ _ _ hs _ _ _ _ _ _ => exact .inr ⟨a, c, hs⟩
  rcases hl with rfl | ⟨a, c, rfl⟩
  · show 0 < _; decide
  rcases Go.Deep.open_slice Tryz.underlying22 h with ⟨e, _⟩ | ⟨a', n, c', m, k, D, Pl, e, _, _, _, _, hx, _⟩
  · simp at e
  · simp only [List.cons.injEq, and_true, Value.slice.injEq] at e
    obtain ⟨_, rfl, _⟩ := e
    rw [hx] at hz
    have hz := weights_len Tryz.underlying22 hz
    rw [bytes56, List.length_map, List.length_range] at hz
    rw [hr] at hz
    omega
theorem order_calls {W : World} {s s2 : Value} {l l2 : List Dd} {La Lb : Arg} (h : InSlice W Dd.cells s l La) (h2 : InSlice W Dd.cells s2 l2 Lb) (hm1 : l.length < 1000000000000000) (hm2 : l2.length < 1000000000000000) : Calls Tryz.prog 5 #[s, s2] W fun e W' => e = .returned (.bool true) ∧ Below W.heap.size W W' := by
  have hk : Tryz.prog.globals.size + [La, Lb].length + 1 ≤ maxId := by rw [Hd.Tryz.nG]; show 3 + 2 + 1 ≤ maxId; decide
  obtain ⟨s', hv, hs⟩ := h.rel (P := Tryz.prog) (L := [La, Lb]) (j := 0) rfl
  obtain ⟨s2', hv2, hs2⟩ := h2.rel (P := Tryz.prog) (L := [La, Lb]) (j := 1) rfl
  obtain ⟨F, hr⟩ := rdE_of hk hs
  obtain ⟨F2, hr2⟩ := rdE_of hk hs2
  refine calls_trueR (L := [La, Lb]) (gl := rowsG) (args := [s', s2']) gP Hd.Tryz.okG hk (holds_none W) ?_ (.cons hv (.cons hv2 .nil)) (wc5 (head_kc (holds_none W) _) hr hr2 hm1 hm2 (wR_fine Hd.Tryz.okG hk) ?_)
  · intro j p cs e hj
    match j, hj with
    | 0, hj => exact h.args dd_closed (Option.some.inj hj)
    | 1, hj => exact h2.args dd_closed (Option.some.inj hj)
    | j + 2, hj => simp at hj
  · show Tryz.prog.globals.size + 2 + 1 + 1000000 < maxId
    rw [Hd.Tryz.nG]; decide

/-- The world that the program's own initialisers leave meets the condition. -/
theorem door_met (os : Os) (args : Array Value) : laidMetH Tryz.prog Rows.watchOrderRow.laid ((doorW os).forCall (fun _ _ => 0) ⟨#[], args, []⟩).memory :=
  laidMetH_of_parts3 (fuel := 8) (laidMet_of_run' 8 (by kernel_rfl) (by kernel_rfl)) (by kernel_rfl) (by kernel_rfl)

set_option maxRecDepth 100000 in
theorem watchOrder_lifted (os : Os) (started : os.Started) (H : Type) (enc : TypeId × Value → H) :
    ReturnsInHanded {} Tryz.checked os 5 .any (fun w args => (Rows.watchOrderSpec.pre enc Tryz.prog Tryz.f5 [] false w args ∧ laidMetH Tryz.prog Rows.watchOrderRow.laid w) ∧ sizedMet enc Tryz.prog Tryz.f5 (OpenSpec.ofChange Rows.watchOrderSpec) false w args)
      (Rows.watchOrderSpec.post enc Tryz.prog Tryz.f5 false true false false) := by
  refine returnsInHanded_and_shaped (C := Tryz.checked) (X := fun w _ => laidMetH Tryz.prog Rows.watchOrderRow.laid w) (fun _ _ _ hh h => h.of_heap hh) Tryz.own started (by kernel_rfl) Tryz.func5
    (ChangeSpec.witness_shaped (enc := enc) (C := Tryz.checked) (os := os) (X := fun w _ => laidMetH Tryz.prog Rows.watchOrderRow.laid w) false (doorW os) #[.slice none 0 0, .slice none 0 0] 8 rfl (World.shaped_of_RefB (by kernel_rfl) (by kernel_rfl)) (by kernel_rfl) (by kernel_rfl) (by kernel_rfl) (door_met os _)) ?_
  intro W base args ds gs before hval0 hW _ hz hL hsh
  have hval : ∀ (j : Nat) t v, Tryz.f5.params[j]? = some t → args[j]? = some v → Value.okWide Tryz.prog W .any base t v := hval0
  have hW' := hW
  obtain ⟨p, q, hA0, hV, rfl, hfz, hnd⟩ := hW
  have hA : DataW.TrodAll enc Tryz.prog W 0 (fun _ => true) true Tryz.f5.params.toList args.toList ds p := hA0
  rw [Tryz.params5] at hA hval hz
  obtain ⟨v0, v1, d0, d1, p0, p1, rfl, rfl, rfl, h0, h1⟩ := trodAll_two hA
  obtain ⟨rfl, rfl⟩ := trodVars_none hV
  obtain ⟨l, La, hs, hw⟩ := read_deeds (hval 0 22 v0 rfl rfl) h0
  obtain ⟨l2, Lb, hs2, hw2⟩ := read_deeds (hval 1 22 v1 rfl rfl) h1
  clear hA0 hval0
  simp only [List.append_nil] at hW'
  have hlt : ∀ x ∈ p0 ++ p1, x.block < W.heap.size := fun x hx => by simpa using hW'.lt x hx
  have hz0 : (d0.weights Tryz.prog 22).all (· ≤ reachBytes) = true ∧ (d1.weights Tryz.prog 22).all (· ≤ reachBytes) = true := by
    have e : DataW.weightsEach Tryz.prog [22, 22] [d0, d1] = d0.weights Tryz.prog 22 ++ (d1.weights Tryz.prog 22 ++ []) := rfl
    have hz : (DataW.weightsEach Tryz.prog [22, 22] [d0, d1]).all (· ≤ reachBytes) = true := hz
    rw [e] at hz
    simpa using hz
  have hm1 : l.length < 1000000000000000 := by
    obtain ⟨q, hq⟩ := h0
    exact deeds_len (x := (d0, p0)) (show DataW.trod enc Tryz.prog W 0 (fun _ => true) true q 22 [v0] = _ from by
      obtain ⟨a, n, c, rfl⟩ := okWide_slice Tryz.underlying22 (hval 0 22 v0 rfl rfl)
      exact hq) hz0.1 hs
  have hm2 : l2.length < 1000000000000000 := by
    obtain ⟨q, hq⟩ := h1
    exact deeds_len (x := (d1, p1)) (show DataW.trod enc Tryz.prog W 0 (fun _ => true) true q 22 [v1] = _ from by
      obtain ⟨a, n, c, rfl⟩ := okWide_slice Tryz.underlying22 (hval 1 22 v1 rfl rfl)
      exact hq) hz0.2 hs2
  refine (order_calls hs hs2 hm1 hm2).mono fun e W' ⟨he, hb⟩ => ?_
  subst he
  exact ⟨_, rfl, post_of_below (pa := p0 ++ p1) (pv := []) hW' (fun _ _ _ => trodAll_mk1 (shut_bool Tryz.underlying4 _)) (fun sp hsp => trodAll_mk2
      (WideElems.Trod_stays Tryz.laidOut (by kernel_rfl) (of_decide_eq_true (by kernel_rfl)) h0 (fun x hx => hb.same (hlt x (by simp [hx]))) (fun x hx => hsp x (by simp [hx])))
      (WideElems.Trod_stays Tryz.laidOut (by kernel_rfl) (of_decide_eq_true (by kernel_rfl)) h1 (fun x hx => hb.same (hlt x (by simp [hx]))) (fun x hx => hsp x (by simp [hx])))) (fun _ _ => rfl) (by simp) hb
    (ok_one (by kernel_rfl) rfl (okWide_bool_mk Tryz.underlying4 _))⟩

theorem watchOrder_holds : Rows.WatchOrderSaid :=
  OpenClaim.holds_of_wide 5 Tryz.f5 rfl rfl rfl rfl rfl rfl rfl ⟨rfl, rfl, rfl, rfl, rfl⟩ rfl rfl rfl rfl rfl (by kernel_rfl) Tryz.func5 (by kernel_rfl)
    (of_decide_eq_true (by kernel_rfl)) (by unfold Func.isWrapper; first | (rw [if_pos (by decide +kernel)]; kernel_rfl) | (rw [if_neg (by decide +kernel)]; exact ⟨rfl, rfl⟩))
    (fun os started H enc _ => watchOrder_lifted os started H enc)

theorem watchOrder_card : Rows.WatchOrderCardSaid :=
  Claim7.holds_tied_plain_at .later [] [.data, .pinned] true (true, "07e324f1c851c94f802127128f4957f374b4a3c929f7deab66645d302b31af41") false
    watchOrder_holds (fun _ h => by cases h) (by kernel_rfl) (fun _ h => by cases h) watchOrder_row_tie rfl ⟨rfl, rfl⟩ (by kernel_rfl) rfl
    (fun f fn hf hfn => by
      obtain rfl : f = 5 := Option.some.inj ((show Tryz.prog.funcNamed "posthouse/posthouselaw30.WatchOrder" = some 5 by kernel_rfl).symm.trans hf) |>.symm
      obtain rfl : fn = Tryz.f5 := (Option.some.inj (Tryz.func5.symm.trans hfn)).symm
      exact ⟨by kernel_rfl, fun j t ht => by
        rw [Tryz.params5] at ht
        have hm : t ∈ [22, 22] := by simpa using Array.mem_of_getElem? ht
        have hall : ([22, 22].all fun u => !Tryz.prog.wantsStandIn u) = true := by kernel_rfl
        exact (show Tryz.prog.wantsStandIn t = false by simpa using List.all_eq_true.1 hall t hm)⟩)
    (by kernel_rfl)
#print axioms watchOrder_card
end Go.Proofs.YtdpdajpiadohjaaGreatDoor
