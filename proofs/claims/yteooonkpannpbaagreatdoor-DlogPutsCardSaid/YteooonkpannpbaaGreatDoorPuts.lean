/-
  DlogPuts: whatever the decision, the law answers true, and what came in reads as it did. Conditions: those of the card.
-/
import Derived.Test.YteooonkpannpbaaGreatDoorPutsC
import Derived.Test.YteooonkpannpbaaGreatDoorHead
import Derived.Test.YteooonkpannpbaaGreatDoorCards
import Derived.Test.YteooonkpannpbaaGreatDoorTie
import Derived.LaidMore
import Derived.Lib.LaidTab
import Derived.Lib.SmallJoins
import Derived.Stop.LaidErr
import Derived.SevenTiedAt
import Derived.ChangeMaps5
import Derived.Deep.Strs

namespace Go.Proofs.YteooonkpannpbaaGreatDoor
open Go Go.Abs Go.ChangeShapes Go.WideShapes Go.ChangeAt Go.RowKit Go.Joins Go.Deep
open Hd (rowsG crcNums head_calls)

theorem head_kc {W : World} (hW : Holds W rowsG) (m : Inj Tryz.prog) : KC.Holds Tryz.prog W m ⟨5, [], [.bool true]⟩ := kc_true (by decide) head_calls hW m

theorem Tryz.cells5 : Tryz.prog.cellsOf 5 = 1 := by kernel_rfl
theorem Tryz.cells9 : Tryz.prog.cellsOf 9 = 1 := by kernel_rfl
theorem Tryz.cells22 : Tryz.prog.cellsOf 22 = 1 := by kernel_rfl
theorem Tryz.cells24 : Tryz.prog.cellsOf 24 = 3 := by kernel_rfl
theorem Tryz.cells25 : Tryz.prog.cellsOf 25 = 1 := by kernel_rfl
theorem Tryz.cells27 : Tryz.prog.cellsOf 27 = 4 := by kernel_rfl
theorem Tryz.cells48 : Tryz.prog.cellsOf 48 = 1 := by kernel_rfl
theorem Tryz.cells50 : Tryz.prog.cellsOf 50 = 5 := by kernel_rfl

theorem pt_closed (p : Pt) : p.cells.all (closedV 4) = true := rfl
theorem pt_length (p : Pt) : p.cells.length = 5 := rfl
theorem read_xid {H : Type} {enc : TypeId × Value → H} {w : World} {q : Nat} {c0 c1 c2 : Value} {y : DataW H × List MemPlace} (h : DataW.trod enc Tryz.prog w 0 (fun _ => true) true q 24 [c0, c1, c2] = some y) :
    ∃ (f : Nat) (g b : ByteArray), c0 = .int .u32 (f : Int) ∧ c1 = .string g ∧ c2 = .string b ∧ f < 4294967296 := by
  obtain ⟨z0, z1, z2, n', _, _, g0, g1, g2⟩ := trod_struct3 Tryz.underlying24 h
  have g0 : DataW.trod enc Tryz.prog w 0 (fun _ => true) true n' 22 [c0] = some z0 := by simpa [Tryz.cells22] using g0
  have g1 : DataW.trod enc Tryz.prog w 0 (fun _ => true) true n' 9 [c1] = some z1 := by simpa [Tryz.cells9] using g1
  have g2 : DataW.trod enc Tryz.prog w 0 (fun _ => true) true n' 9 [c2] = some z2 := by simpa [Tryz.cells9] using g2
  obtain ⟨k, e0, _, wk⟩ := DataW.trod_int Tryz.underlying22 g0
  obtain ⟨g, e1, _⟩ := DataW.trod_string Tryz.underlying9 g1
  obtain ⟨b, e2, _⟩ := DataW.trod_string Tryz.underlying9 g2
  cases e0; cases e1; cases e2
  simp only [Lit.wf, Bool.and_eq_true, decide_eq_true_eq] at wk
  have hk : k < 4294967296 := Int.lt_of_le_of_lt wk.2 (by decide)
  have hk0 : 0 ≤ k := wk.1
  refine ⟨k.toNat, g, b, ?_, rfl, rfl, by omega⟩
  rw [Int.toNat_of_nonneg hk0]
theorem read_u8 {H : Type} {enc : TypeId × Value → H} {w : World} {q : Nat} {t : TypeId} {c0 : Value} {y : DataW H × List MemPlace} (hu : Tryz.prog.underlying t = some (.int .u8)) (h : DataW.trod enc Tryz.prog w 0 (fun _ => true) true q t [c0] = some y) : ∃ n : Nat, c0 = .int .u8 (n : Int) ∧ n < 256 := by
  obtain ⟨k, e0, _, wk⟩ := DataW.trod_int hu h
  cases e0
  simp only [Lit.wf, Bool.and_eq_true, decide_eq_true_eq] at wk
  have hk : k < 256 := Int.lt_of_le_of_lt wk.2 (by decide)
  have hk0 : 0 ≤ k := wk.1
  refine ⟨k.toNat, ?_, by omega⟩
  rw [Int.toNat_of_nonneg hk0]
set_option maxRecDepth 100000 in
theorem read_pt {H : Type} {enc : TypeId × Value → H} {w : World} {q : Nat} {cs : List Value} {y : DataW H × List MemPlace} (h : DataW.trod enc Tryz.prog w 0 (fun _ => true) true q 50 cs = some y) : ∃ p : Pt, cs = p.cells ∧ p.wf := by
  obtain ⟨xs, n, _, _, hl, hlen, hg⟩ := DataW.trod_struct Tryz.underlying50 h
  have hl : cs.length = 5 := hl.trans Tryz.cells50
  match cs, hl, xs, hlen with
  | [c0, c1, c2, c3, c4], _, [y0, y1, y2], _ =>
    have g0 : DataW.trod enc Tryz.prog w 0 (fun _ => true) true n 5 [c0] = some y0 := by simpa [Tryz.cells5] using hg 0 _ rfl
    have g1 : DataW.trod enc Tryz.prog w 0 (fun _ => true) true n 24 [c1, c2, c3] = some y1 := by simpa [Tryz.cells24] using hg 1 _ rfl
    have g2 : DataW.trod enc Tryz.prog w 0 (fun _ => true) true n 48 [c4] = some y2 := by simpa [Tryz.cells48] using hg 2 _ rfl
    obtain ⟨m0, rfl, w0⟩ := read_u8 Tryz.underlying5 g0
    obtain ⟨f, g, b, rfl, rfl, rfl, w1⟩ := read_xid g1
    obtain ⟨m4, rfl, w4⟩ := read_u8 Tryz.underlying48 g2
    exact ⟨⟨m0, f, g, b, m4⟩, rfl, w0, w1, w4⟩

set_option maxRecDepth 100000 in
theorem read_args {H : Type} {enc : TypeId × Value → H} {w : World} {b0 : Nat} {v : Value} {d : DataW H} {p : List MemPlace} (hv : Value.okWide Tryz.prog w .any b0 27 v) (h : DataW.Trod enc Tryz.prog w 0 (fun _ => true) true 27 v d p) :
    ∃ (f : Nat) (g b : ByteArray) (s : Value) (l : List Pt) (La : Arg), v = decV f g b s ∧ InSlice w Pt.cells s l La ∧ f < 4294967296 ∧ ∀ q ∈ l, q.wf := by
  obtain ⟨cs, rfl, hsz⟩ := okWide_struct Tryz.underlying27 hv
  obtain ⟨c0, c1, c2, c3, rfl⟩ := array4 (hsz.trans Tryz.cells27)
  obtain ⟨fuel, hf⟩ := h
  obtain ⟨y0, y1, n, _, _, h0, h1⟩ := trod_struct2 Tryz.underlying27 hf
  have h0 : DataW.trod enc Tryz.prog w 0 (fun _ => true) true n 24 [c0, c1, c2] = some y0 := by simpa [Value.cells, Tryz.cells24] using h0
  have h1 : DataW.trod enc Tryz.prog w 0 (fun _ => true) true n 25 [c3] = some y1 := by simpa [Value.cells, Tryz.cells25] using h1
  obtain ⟨f, g, b, rfl, rfl, rfl, w1⟩ := read_xid h0
  obtain ⟨s, l, La, e3, hs, hw⟩ := read_flat (f := Pt.cells) (ok := Pt.wf) ⟨0, 0, .empty, .empty, 0⟩ Tryz.underlying25 (by rw [Tryz.cells50]; decide) (fun q => by rw [Tryz.cells50]; rfl) (fun q cs y h => read_pt h) h1
  cases e3
  exact ⟨f, g, b, _, l, La, rfl, hs, w1, hw⟩

theorem rdPt_of {l : List Pt} {s' : Value} {L : List Arg} {j : Nat} (hk : Tryz.prog.globals.size + L.length + 1 ≤ maxId) (h : (l = [] ∧ ∃ o c, s' = .slice o 0 c) ∨ ∃ c p e, s' = .slice (some ⟨Tryz.prog.globals.size + j, 0, none⟩) l.length c ∧ L[j]? = some (p, some (flat Pt.cells l, e))) :
    ∃ F, RdPt (wR Tryz.prog.globals.size rowsG L) s' l F := by
  rcases h with ⟨hl, h⟩ | ⟨c, p, e, rfl, hj⟩
  · exact ⟨[], .inl ⟨hl, rfl, h⟩⟩
  · refine ⟨[Tryz.prog.globals.size + L.length], .inr ⟨_, 0, c, _, e, _, 0, true, rfl, wR_arg (by omega) hj, by show _ < _ + 1; omega, rfl, fun i p hi => ?_⟩⟩
    rw [Nat.zero_add]
    exact flat_drop pt_length l i p hi

theorem puts_calls {W : World} {f : Nat} {g b : ByteArray} {s : Value} {l : List Pt} {La : Arg} (hW : Holds W rowsG) (h : InSlice W Pt.cells s l La) (hfl : f < 4294967296) (hw : ∀ q ∈ l, q.wf) : Calls Tryz.prog 3 #[decV f g b s] W fun e W' => e = .returned (.bool true) ∧ Below W.heap.size W W' := by
  have hk : Tryz.prog.globals.size + [La].length + 1 ≤ maxId := by rw [Hd.Tryz.nG]; show 7 + 1 + 1 ≤ maxId; decide
  obtain ⟨s', hv, hs⟩ := h.rel (P := Tryz.prog) (L := [La]) (j := 0) rfl
  obtain ⟨F, hr⟩ := rdPt_of hk hs
  refine calls_trueR (L := [La]) (gl := rowsG) (args := [decV f g b s']) gP Hd.Tryz.okG hk hW ?_ (.cons (.agg (.cons (.int _ _) (.cons (.string _) (.cons (.string _) (.cons hv .nil))))) .nil) (wc3 (head_kc hW _) (wR_fine Hd.Tryz.okG hk) ?_ hr hfl hw)
  · intro j p cs e hj
    match j, hj with
    | 0, hj => exact h.args pt_closed (Option.some.inj hj)
    | j + 1, hj => simp at hj
  · show Tryz.prog.globals.size + 1 + 1 + 2000 < maxId
    rw [Hd.Tryz.nG]; decide

theorem Tryz.own : ownKnob Tryz.prog.godebug = none := by kernel_rfl
theorem Tryz.laidOut : laidOutB Tryz.prog = true := by kernel_rfl

theorem holds_of_laid {W : World} (hsh : W.ShapedOpen Tryz.prog) (h : laidMetH Tryz.prog Rows.dlogPutsRow.laid W) : Holds W rowsG := by
  rw [MakeChecks.laidMetH_plain _ _ _ (by kernel_rfl)] at h
  have ht : Lib.TabIs Tryz.prog W "posthouse/crc.table" .u32 crcNums :=
    Lib.tabIs_of_head (g := 1) (t := 230) (n := 16) (zs := crcNums) (by kernel_rfl) (by kernel_rfl) Tryz.underlying230 (by kernel_rfl) (by kernel_rfl) (by kernel_rfl) h.tail.tail.tail
  intro x hx
  obtain rfl : x = _ := by simpa [rowsG] using hx
  exact holds_var hsh (name := "posthouse/crc.table") (by kernel_rfl) (by rw [Hd.Tryz.nG]; decide) (by kernel_rfl) ht

/-- The world that the program's own initialisers leave meets the condition. -/
theorem door_met (os : Os) (args : Array Value) : laidMetH Tryz.prog Rows.dlogPutsRow.laid ((World.doorLaid Tryz.prog 67 os).forCall (fun _ _ => 0) ⟨#[], args, []⟩).memory :=
  laidMetH_of_parts3 (fuel := 8) (laidMet_of_run' 8 (by kernel_rfl) (by kernel_rfl)) (by kernel_rfl) (by kernel_rfl)

set_option maxRecDepth 100000 in
theorem dlogPuts_lifted (os : Os) (started : os.Started) (H : Type) (enc : TypeId × Value → H) :
    ReturnsInHanded {} Tryz.checked os 3 .any (fun w args => (Rows.dlogPutsSpec.pre enc Tryz.prog Tryz.f3 [] false w args ∧ laidMetH Tryz.prog Rows.dlogPutsRow.laid w) ∧ sizedMet enc Tryz.prog Tryz.f3 (OpenSpec.ofChange Rows.dlogPutsSpec) false w args)
      (Rows.dlogPutsSpec.post enc Tryz.prog Tryz.f3 false true false false) := by
  refine returnsInHanded_and_shaped (C := Tryz.checked) (X := fun w _ => laidMetH Tryz.prog Rows.dlogPutsRow.laid w) (fun _ _ _ hh h => h.of_heap hh) Tryz.own started (by kernel_rfl) Tryz.func3
    (ChangeSpec.witness_shaped (enc := enc) (C := Tryz.checked) (os := os) (X := fun w _ => laidMetH Tryz.prog Rows.dlogPutsRow.laid w) false (World.doorLaid Tryz.prog 67 os) #[.agg #[.int .u32 0, .string .empty, .string .empty, .slice none 0 0]] 8 rfl (World.shaped_of_RefB (by kernel_rfl) (by kernel_rfl)) (by kernel_rfl) (by kernel_rfl) (by kernel_rfl) (door_met os _)) ?_
  intro W base args ds gs before hval0 hW _ _ hL hsh
  have hval : ∀ (j : Nat) t v, Tryz.f3.params[j]? = some t → args[j]? = some v → Value.okWide Tryz.prog W .any base t v := hval0
  have hW' := hW
  obtain ⟨p, q, hA0, hV, rfl, hfz, hnd⟩ := hW
  have hA : DataW.TrodAll enc Tryz.prog W 0 (fun _ => true) true Tryz.f3.params.toList args.toList ds p := hA0
  rw [Tryz.params3] at hA hval
  obtain ⟨v0, d0, rfl, rfl, h0⟩ := trodAll_one hA
  obtain ⟨rfl, rfl⟩ := trodVars_none hV
  obtain ⟨f, g, b, s, l, La, rfl, hs, hfl, hw⟩ := read_args (hval 0 27 v0 rfl rfl) h0
  clear hA0 hval0
  simp only [List.append_nil] at hW'
  have hlt : ∀ x ∈ p, x.block < W.heap.size := fun x hx => by simpa using hW'.lt x hx
  refine (puts_calls (holds_of_laid hsh hL) hs hfl hw).mono fun e W' ⟨he, hb⟩ => ?_
  subst he
  exact ⟨_, rfl, post_of_below (pa := p) (pv := []) hW' (fun _ _ _ => trodAll_mk1 (shut_bool Tryz.underlying4 _)) (fun sp hsp => trodAll_mk1
      (WideElems.Trod_stays Tryz.laidOut (by kernel_rfl) (of_decide_eq_true (by kernel_rfl)) h0 (fun x hx => hb.same (hlt x hx)) (fun x hx => hsp x (by simpa using hx)))) (fun _ _ => rfl) (by simp) hb
    (ok_one (by kernel_rfl) rfl (okWide_bool_mk Tryz.underlying4 _))⟩

theorem dlogPuts_holds : Rows.DlogPutsSaid :=
  OpenClaim.holds_of_wide 3 Tryz.f3 rfl rfl rfl rfl rfl rfl rfl ⟨rfl, rfl, rfl, rfl, rfl⟩ rfl rfl rfl rfl rfl (by kernel_rfl) Tryz.func3 (by kernel_rfl)
    (of_decide_eq_true (by kernel_rfl)) (by unfold Func.isWrapper; first | (rw [if_pos (by decide +kernel)]; kernel_rfl) | (rw [if_neg (by decide +kernel)]; exact ⟨rfl, rfl⟩))
    (fun os started H enc _ => dlogPuts_lifted os started H enc)

theorem dlogPuts_card : Rows.DlogPutsCardSaid :=
  Claim7.holds_tied_plain_at .later [] [.data, .data, .data, .data, .sentinel, .sentinel] true (true, "2e260be9ce8df8771929464bf9d20dacbd52618e1a03011eb3350571825d2f24") true
    dlogPuts_holds (fun _ h => by cases h) (by kernel_rfl) (fun _ h => by cases h) dlogPuts_row_tie rfl ⟨rfl, rfl⟩ (by kernel_rfl) rfl
    (fun f fn hf hfn => by
      obtain rfl : f = 3 := Option.some.inj ((show Tryz.prog.funcNamed "posthouse/posthouselaw26.DlogPuts" = some 3 by kernel_rfl).symm.trans hf) |>.symm
      obtain rfl : fn = Tryz.f3 := (Option.some.inj (Tryz.func3.symm.trans hfn)).symm
      exact ⟨by kernel_rfl, fun j t ht => by
        rw [Tryz.params3] at ht
        have hm : t ∈ [27] := by simpa using Array.mem_of_getElem? ht
        have hall : ([27].all fun u => !Tryz.prog.wantsStandIn u) = true := by kernel_rfl
        exact (show Tryz.prog.wantsStandIn t = false by simpa using List.all_eq_true.1 hall t hm)⟩)
    (by kernel_rfl)
#print axioms dlogPuts_card
end Go.Proofs.YteooonkpannpbaaGreatDoor
