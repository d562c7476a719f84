/-
  The tied card of the law DlogNone holds for every input. Conditions: the listed variables read as the program lays them, which the card ties to its text.
-/
import Derived.Test.YthfodfbcmjinoaaGreatDoorHead
import Derived.Test.YthfodfbcmjinoaaGreatDoorCards
import Derived.Test.YthfodfbcmjinoaaGreatDoorTie
import Derived.LaidMore
import Derived.Lib.LaidTab
import Derived.Lib.SmallJoins
import Derived.Stop.LaidErr
import Derived.SevenTiedAt
import Derived.ChangeMaps5
import Derived.Deep.Strs
namespace Go.Proofs.YthfodfbcmjinoaaGreatDoor
open Go.Abs Go.ChangeShapes Go.WideShapes Go.ChangeAt Go.RowKit Go.Joins Go.Deep

def lawX : XNames := { theX with known := [10] }
def ansK : FuncId → List Value := fun _ => [.bool true]
theorem none_run0 (k : Int) (g b : ByteArray) : runOk Tryz.prog lawX [] ansK isT 5000 ⟨frOf Tryz.prog 3 [.agg #[.int .u32 k, .string g, .string b, .slice none 0 0]], [], wA 7 0 rowsG⟩ = some (true, [⟨10, [], [.bool true]⟩]) := by kernel_rfl
theorem none_run1 (k : Int) (g b : ByteArray) (n c : Nat) : runOk Tryz.prog lawX [] ansK isT 5000 ⟨frOf Tryz.prog 3 [.agg #[.int .u32 k, .string g, .string b, .slice (some ⟨7, 0, none⟩) n c]], [], wA 7 1 rowsG⟩ = some (true, [⟨10, [], [.bool true]⟩]) := by kernel_rfl
theorem nil_rel {m : Inj Tryz.prog} : VRel m (.slice none 0 0) (.slice none 0 0) := closedV_rel 4 _ (by rfl)
theorem enter0 (k : Int) (g b : ByteArray) : (enterA Tryz.prog 3 [.agg #[.int .u32 k, .string g, .string b, .slice none 0 0]] .normal).isSome = true := by kernel_rfl
theorem enter1 (k : Int) (g b : ByteArray) (n c : Nat) : (enterA Tryz.prog 3 [.agg #[.int .u32 k, .string g, .string b, .slice (some ⟨7, 0, none⟩) n c]] .normal).isSome = true := by kernel_rfl

theorem head_kc {W : World} (hW : Holds W rowsG) (m : Inj Tryz.prog) : ∀ k ∈ [(⟨10, [], [.bool true]⟩ : KC)], KC.Holds Tryz.prog W m k := by
  intro k hk
  obtain rfl : k = _ := by simpa using hk
  exact kc_true head_calls hW m

theorem none_calls (k : Int) (g b : ByteArray) (W : World) (hW : Holds W rowsG) (s : Value)
    (hs : s = .slice none 0 0 ∨ ∃ (a : Addr) (n c : Nat), s = .slice (some a) n c ∧ n ≤ c ∧ c < capU ∧ (0 < c → a.spot = none)) :
    Calls Tryz.prog 3 #[.agg #[.int .u32 k, .string g, .string b, s]] W fun e W' => e = .returned (.bool true) ∧ Below W.heap.size W W' := by
  rcases hs with rfl | ⟨a, n, c, rfl, hn, hc, ha⟩
  · exact calls_trueA (X := lawX) (rows := rowsG) (l := []) (args := [_]) (args' := [_]) Tryz.pok Tryz.okG (by rw [Tryz.nG]; decide)
      (.cons (.agg (.cons (.int _ _) (.cons (.string _) (.cons (.string _) (.cons nil_rel .nil))))) .nil) (enter0 k g b) W hW (by
        rw [Tryz.nG]
        exact answers_of_run (Tryz.xok [10]) Tryz.pok (none_run0 k g b) (head_kc hW _))
  · exact calls_trueA (X := lawX) (rows := rowsG) (l := [(a.block, a.off)]) (args := [_]) (args' := [_]) Tryz.pok Tryz.okG (by rw [Tryz.nG]; show 7 + 1 ≤ maxId; decide)
      (.cons (.agg (.cons (.int _ _) (.cons (.string _) (.cons (.string _) (.cons (slice_rel (i := 0) rfl hn hc ha) .nil))))) .nil) (by rw [Tryz.nG]; exact enter1 k g b n c) W hW (by
        rw [Tryz.nG]
        exact answers_of_run (Tryz.xok [10]) Tryz.pok (none_run1 k g b n c) (head_kc hW _))

theorem Tryz.cells9 : Tryz.prog.cellsOf 9 = 1 := by kernel_rfl
theorem Tryz.cells22 : Tryz.prog.cellsOf 22 = 1 := by kernel_rfl
theorem Tryz.cells24 : Tryz.prog.cellsOf 24 = 3 := by kernel_rfl
theorem Tryz.cells25 : Tryz.prog.cellsOf 25 = 1 := by kernel_rfl
theorem Tryz.cells27 : Tryz.prog.cellsOf 27 = 4 := by kernel_rfl
theorem Tryz.cells64 : 0 < Tryz.prog.cellsOf 64 := of_decide_eq_true (by kernel_rfl)

theorem read_slice {H : Type} {enc : TypeId × Value → H} {w : World} {fuel : Nat} {cs : List Value} {x : DataW H × List MemPlace} (h : DataW.trod enc Tryz.prog w 0 (fun _ => true) true fuel 25 cs = some x) :
    ∃ s, cs = [s] ∧ (s = .slice none 0 0 ∨ ∃ (a : Addr) (n c : Nat), s = .slice (some a) n c ∧ n ≤ c ∧ c < capU ∧ (0 < c → a.spot = none)) := by
  rcases open_slice Tryz.underlying25 h with ⟨h1, _⟩ | ⟨a, n, c, m, _, D, Pl, h1, _, hn, hm, rfl, _, hx⟩
  · exact ⟨_, h1, .inl rfl⟩
  · refine ⟨_, h1, .inr ⟨a, n, m, rfl, hn, Nat.lt_of_le_of_lt hm (by decide), fun hp => ?_⟩⟩
    obtain ⟨cs', h2, _⟩ := hx 0 hp
    obtain ⟨_, hl, h3⟩ := World.cells?_some h2
    have h4 := h3 0 Tryz.cells64
    have h5 : cs'[0]? = some (cs'[0]'(by rw [hl]; exact Tryz.cells64)) := List.getElem?_eq_getElem _
    rw [h5] at h4
    unfold World.cell? at h4
    split at h4
    · split at h4
      · cases h4
      · rename_i hsp
        cases hq : a.spot with
        | none => rfl
        | some z => exact absurd (by simp [Addr.add, hq]) hsp
    · cases h4

set_option maxRecDepth 100000 in
theorem read_args {H : Type} {enc : TypeId × Value → H} {w : World} {b0 : Nat} {v : Value} {d : DataW H} {p : List MemPlace} (hv : Value.okWide Tryz.prog w .any b0 27 v) (h : DataW.Trod enc Tryz.prog w 0 (fun _ => true) true 27 v d p) :
    ∃ (k : Int) (g b : ByteArray) (s : Value), v = .agg #[.int .u32 k, .string g, .string b, s] ∧ (s = .slice none 0 0 ∨ ∃ (a : Addr) (n c : Nat), s = .slice (some a) n c ∧ n ≤ c ∧ c < capU ∧ (0 < c → a.spot = none)) := by
  obtain ⟨cs, rfl, hsz⟩ := okWide_struct Tryz.underlying27 hv
  obtain ⟨c0, c1, c2, c3, rfl⟩ := array4 (hsz.trans Tryz.cells27)
  obtain ⟨fuel, hf⟩ := h
  obtain ⟨y0, y1, n, _, _, h0, h1⟩ := trod_struct2 Tryz.underlying27 hf
  have h0 : DataW.trod enc Tryz.prog w 0 (fun _ => true) true n 24 [c0, c1, c2] = some y0 := by simpa [Value.cells, Tryz.cells24] using h0
  have h1 : DataW.trod enc Tryz.prog w 0 (fun _ => true) true n 25 [c3] = some y1 := by simpa [Value.cells, Tryz.cells25] using h1
  obtain ⟨z0, z1, z2, n', _, _, g0, g1, g2⟩ := trod_struct3 Tryz.underlying24 h0
  have g0 : DataW.trod enc Tryz.prog w 0 (fun _ => true) true n' 22 [c0] = some z0 := by simpa [Tryz.cells22] using g0
  have g1 : DataW.trod enc Tryz.prog w 0 (fun _ => true) true n' 9 [c1] = some z1 := by simpa [Tryz.cells9] using g1
  have g2 : DataW.trod enc Tryz.prog w 0 (fun _ => true) true n' 9 [c2] = some z2 := by simpa [Tryz.cells9] using g2
  obtain ⟨k, e0, _⟩ := DataW.trod_int Tryz.underlying22 g0
  obtain ⟨g, e1, _⟩ := DataW.trod_string Tryz.underlying9 g1
  obtain ⟨b, e2, _⟩ := DataW.trod_string Tryz.underlying9 g2
  obtain ⟨s, e3, hs⟩ := read_slice h1
  cases e0; cases e1; cases e2; cases e3
  exact ⟨k, g, b, _, rfl, hs⟩

theorem Tryz.own : ownKnob Tryz.prog.godebug = none := by kernel_rfl
theorem Tryz.laidOut : laidOutB Tryz.prog = true := by kernel_rfl

theorem holds_of_laid {W : World} (hsh : W.ShapedOpen Tryz.prog) (h : laidMetH Tryz.prog Rows.dlogNoneRow.laid W) : Holds W rowsG := by
  rw [MakeChecks.laidMetH_plain _ _ _ (by kernel_rfl)] at h
  have ht : Lib.TabIs Tryz.prog W "posthouse/crc.table" .u32 crcNums :=
    Lib.tabIs_of_head (g := 1) (t := 213) (n := 16) (zs := crcNums) (by kernel_rfl) (by kernel_rfl) Tryz.underlying213 (by kernel_rfl) (by kernel_rfl) (by kernel_rfl) h.tail.tail.tail
  intro x hx
  obtain rfl : x = _ := by simpa [rowsG] using hx
  exact holds_var hsh (name := "posthouse/crc.table") (by kernel_rfl) (by rw [Tryz.nG]; decide) (by kernel_rfl) ht

/-- The world that the program's own initialisers leave meets the condition. -/
theorem door_met (os : Os) (args : Array Value) : laidMetH Tryz.prog Rows.dlogNoneRow.laid ((World.doorLaid Tryz.prog 67 os).forCall (fun _ _ => 0) ⟨#[], args, []⟩).memory :=
  laidMetH_of_parts3 (fuel := 8) (laidMet_of_run' 8 (by kernel_rfl) (by kernel_rfl)) (by kernel_rfl) (by kernel_rfl)

set_option maxRecDepth 100000 in
theorem dlogNone_lifted (os : Os) (started : os.Started) (H : Type) (enc : TypeId × Value → H) :
    ReturnsInHanded {} Tryz.checked os 3 .any (fun w args => (Rows.dlogNoneSpec.pre enc Tryz.prog Tryz.f3 [] false w args ∧ laidMetH Tryz.prog Rows.dlogNoneRow.laid w) ∧ sizedMet enc Tryz.prog Tryz.f3 (OpenSpec.ofChange Rows.dlogNoneSpec) false w args)
      (Rows.dlogNoneSpec.post enc Tryz.prog Tryz.f3 false true false false) := by
  refine returnsInHanded_and_shaped (C := Tryz.checked) (X := fun w _ => laidMetH Tryz.prog Rows.dlogNoneRow.laid w) (fun _ _ _ hh h => h.of_heap hh) Tryz.own started (by kernel_rfl) Tryz.func3
    (ChangeSpec.witness_shaped (enc := enc) (C := Tryz.checked) (os := os) (X := fun w _ => laidMetH Tryz.prog Rows.dlogNoneRow.laid w) false (World.doorLaid Tryz.prog 67 os) #[.agg #[.int .u32 0, .string .empty, .string .empty, .slice none 0 0]] 8 rfl (World.shaped_of_RefB (by kernel_rfl) (by kernel_rfl)) (by kernel_rfl) (by kernel_rfl) (by kernel_rfl) (door_met os _)) ?_
  intro W base args ds gs before hval0 hW _ _ hL hsh
  have hval : ∀ (j : Nat) t v, Tryz.f3.params[j]? = some t → args[j]? = some v → Value.okWide Tryz.prog W .any base t v := hval0
  have hW' := hW
  obtain ⟨p, q, hA0, hV, rfl, hfz, hnd⟩ := hW
  have hA : DataW.TrodAll enc Tryz.prog W 0 (fun _ => true) true Tryz.f3.params.toList args.toList ds p := hA0
  rw [Tryz.params3] at hA hval
  obtain ⟨v0, d0, rfl, rfl, h0⟩ := trodAll_one hA
  obtain ⟨rfl, rfl⟩ := trodVars_none hV
  obtain ⟨k, g, b, s, rfl, hs⟩ := read_args (hval 0 27 v0 rfl rfl) h0
  clear hA0 hval0
  simp only [List.append_nil] at hW'
  have hlt : ∀ x ∈ p, x.block < W.heap.size := fun x hx => by simpa using hW'.lt x hx
  refine (none_calls k g b W (holds_of_laid hsh hL) s hs).mono fun e W' ⟨he, hb⟩ => ?_
  subst he
  exact ⟨_, rfl, post_of_below (pa := p) (pv := []) hW' (fun _ _ _ => trodAll_mk1 (shut_bool Tryz.underlying4 _)) (fun sp hsp => trodAll_mk1
      (WideElems.Trod_stays Tryz.laidOut (by kernel_rfl) (of_decide_eq_true (by kernel_rfl)) h0 (fun x hx => hb.same (hlt x hx)) (fun x hx => hsp x (by simpa using hx)))) (fun _ _ => rfl) (by simp) hb
    (ok_one (by kernel_rfl) rfl (okWide_bool_mk Tryz.underlying4 _))⟩

theorem dlogNone_holds : Rows.DlogNoneSaid :=
  OpenClaim.holds_of_wide 3 Tryz.f3 rfl rfl rfl rfl rfl rfl rfl ⟨rfl, rfl, rfl, rfl, rfl⟩ rfl rfl rfl rfl rfl (by kernel_rfl) Tryz.func3 (by kernel_rfl)
    (of_decide_eq_true (by kernel_rfl)) (by unfold Func.isWrapper; first | (rw [if_pos (by decide +kernel)]; kernel_rfl) | (rw [if_neg (by decide +kernel)]; exact ⟨rfl, rfl⟩))
    (fun os started H enc _ => dlogNone_lifted os started H enc)

theorem dlogNone_card : Rows.DlogNoneCardSaid :=
  Claim7.holds_tied_plain_at .later [] [.data, .data, .data, .data, .sentinel, .sentinel] true (true, "d1a2132177d8691ee5e6d9222b72be095f06fbab03b11cb49116a2c822eb9233") true
    dlogNone_holds (fun _ h => by cases h) (by kernel_rfl) (fun _ h => by cases h) dlogNone_row_tie rfl ⟨rfl, rfl⟩ (by kernel_rfl) rfl
    (fun f fn hf hfn => by
      obtain rfl : f = 3 := Option.some.inj ((show Tryz.prog.funcNamed "posthouse/posthouselaw26.DlogNone" = some 3 by kernel_rfl).symm.trans hf) |>.symm
      obtain rfl : fn = Tryz.f3 := (Option.some.inj (Tryz.func3.symm.trans hfn)).symm
      exact ⟨by kernel_rfl, fun j t ht => by
        rw [Tryz.params3] at ht
        have hm : t ∈ [27] := by simpa using Array.mem_of_getElem? ht
        have hall : ([27].all fun u => !Tryz.prog.wantsStandIn u) = true := by kernel_rfl
        exact (show Tryz.prog.wantsStandIn t = false by simpa using List.all_eq_true.1 hall t hm)⟩)
    (by kernel_rfl)
#print axioms dlogNone_card
end Go.Proofs.YthfodfbcmjinoaaGreatDoor
