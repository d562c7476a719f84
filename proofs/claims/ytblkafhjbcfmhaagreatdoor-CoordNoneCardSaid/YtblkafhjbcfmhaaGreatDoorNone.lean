/-
  CoordNone: whatever the act, the law answers true, and what came in reads as it did. Conditions: those of the card.
-/
import Derived.Test.YtblkafhjbcfmhaaGreatDoorNoneC
import Derived.Test.YtblkafhjbcfmhaaGreatDoorHead
import Derived.Test.YtblkafhjbcfmhaaGreatDoorCards
import Derived.Test.YtblkafhjbcfmhaaGreatDoorTie
import Derived.LaidMore
import Derived.Lib.LaidTab
import Derived.Lib.SmallJoins
import Derived.Stop.LaidErr
import Derived.SevenTiedAt
import Derived.ChangeMaps5
import Derived.Deep.Strs

namespace Go.Proofs.YtblkafhjbcfmhaaGreatDoor
open Go Go.Abs Go.ChangeShapes Go.WideShapes Go.ChangeAt Go.RowKit Go.Joins Go.Deep
open Hd (rowsG crcNums head_calls)

theorem head_kc {W : World} (hW : Holds W rowsG) (m : Inj Tryz.prog) : KC.Holds Tryz.prog W m ⟨6, [], [.bool true]⟩ := kc_true (by decide) head_calls hW m

theorem Tryz.cells3 : Tryz.prog.cellsOf 3 = 1 := by kernel_rfl
theorem Tryz.cells4 : Tryz.prog.cellsOf 4 = 1 := by kernel_rfl
theorem Tryz.cells5 : Tryz.prog.cellsOf 5 = 1 := by kernel_rfl
theorem Tryz.cells9 : Tryz.prog.cellsOf 9 = 1 := by kernel_rfl
theorem Tryz.cells22 : Tryz.prog.cellsOf 22 = 1 := by kernel_rfl
theorem Tryz.cells23 : Tryz.prog.cellsOf 23 = 1 := by kernel_rfl
theorem Tryz.cells25 : Tryz.prog.cellsOf 25 = 3 := by kernel_rfl
theorem Tryz.cells26 : Tryz.prog.cellsOf 26 = 1 := by kernel_rfl
theorem Tryz.cells27 : Tryz.prog.cellsOf 27 = 1 := by kernel_rfl
theorem Tryz.cells28 : Tryz.prog.cellsOf 28 = 1 := by kernel_rfl
theorem Tryz.cells30 : Tryz.prog.cellsOf 30 = 7 := by kernel_rfl
theorem Tryz.cells31 : Tryz.prog.cellsOf 31 = 1 := by kernel_rfl
theorem Tryz.cells33 : Tryz.prog.cellsOf 33 = 16 := by kernel_rfl

def Nm.wf (p : Nm) : Prop := p.f < 4294967296
theorem nm_closed (p : Nm) : p.cells.all (closedV 4) = true := rfl
theorem nm_length (p : Nm) : p.cells.length = 3 := rfl
section
variable {H : Type} {enc : TypeId × Value → H} {w : World} {q : Nat}
theorem read_xid {c0 c1 c2 : Value} {y : DataW H × List MemPlace} (h : DataW.trod enc Tryz.prog w 0 (fun _ => true) true q 25 [c0, c1, c2] = some y) :
    ∃ (f : Nat) (g b : ByteArray), c0 = .int .u32 (f : Int) ∧ c1 = .string g ∧ c2 = .string b ∧ f < 4294967296 := by
  obtain ⟨z0, z1, z2, n', _, _, g0, g1, g2⟩ := trod_struct3 Tryz.underlying25 h
  have g0 : DataW.trod enc Tryz.prog w 0 (fun _ => true) true n' 23 [c0] = some z0 := by simpa [Tryz.cells23] using g0
  have g1 : DataW.trod enc Tryz.prog w 0 (fun _ => true) true n' 9 [c1] = some z1 := by simpa [Tryz.cells9] using g1
  have g2 : DataW.trod enc Tryz.prog w 0 (fun _ => true) true n' 9 [c2] = some z2 := by simpa [Tryz.cells9] using g2
  obtain ⟨k, e0, _, wk⟩ := DataW.trod_int Tryz.underlying23 g0
  obtain ⟨g, e1, _⟩ := DataW.trod_string Tryz.underlying9 g1
  obtain ⟨b, e2, _⟩ := DataW.trod_string Tryz.underlying9 g2
  cases e0; cases e1; cases e2
  simp only [Lit.wf, Bool.and_eq_true, decide_eq_true_eq] at wk
  have hk : k < 4294967296 := Int.lt_of_le_of_lt wk.2 (by decide)
  have hk0 : 0 ≤ k := wk.1
  refine ⟨k.toNat, g, b, ?_, rfl, rfl, by omega⟩
  rw [Int.toNat_of_nonneg hk0]
set_option maxRecDepth 100000 in
theorem read_nm {cs : List Value} {y : DataW H × List MemPlace} (h : DataW.trod enc Tryz.prog w 0 (fun _ => true) true q 25 cs = some y) : ∃ p : Nm, cs = p.cells ∧ p.wf := by
  obtain ⟨_, _, _, _, hl, _, _⟩ := DataW.trod_struct Tryz.underlying25 h
  have hl : cs.length = 3 := hl.trans Tryz.cells25
  match cs, hl with
  | [c0, c1, c2], _ =>
    obtain ⟨f, g, b, rfl, rfl, rfl, hf⟩ := read_xid h
    exact ⟨⟨f, g, b⟩, rfl, hf⟩
theorem read_u8 {t : TypeId} {c0 : Value} {y : DataW H × List MemPlace} (hu : Tryz.prog.underlying t = some (.int .u8)) (h : DataW.trod enc Tryz.prog w 0 (fun _ => true) true q t [c0] = some y) : ∃ n : UInt8, c0 = .int .u8 (n.toNat : Int) := by
  obtain ⟨k, e0, _, wk⟩ := DataW.trod_int hu h
  cases e0
  simp only [Lit.wf, Bool.and_eq_true, decide_eq_true_eq] at wk
  have hk : k < 256 := Int.lt_of_le_of_lt wk.2 (by decide)
  have hk0 : 0 ≤ k := wk.1
  refine ⟨UInt8.ofNat k.toNat, ?_⟩
  have : (UInt8.ofNat k.toNat).toNat = k.toNat := by rw [UInt8.toNat_ofNat']; omega
  rw [this, Int.toNat_of_nonneg hk0]
theorem read_int {t : TypeId} {c0 : Value} {k : IntKind} {y : DataW H × List MemPlace} (hu : Tryz.prog.underlying t = some (.int k)) (h : DataW.trod enc Tryz.prog w 0 (fun _ => true) true q t [c0] = some y) : ∃ n : Int, c0 = .int k n := by
  obtain ⟨n, e0, _, _⟩ := DataW.trod_int hu h
  cases e0
  exact ⟨n, rfl⟩

/-- an act with its three slices -/
theorem read_let {c0 c1 c2 c3 c4 c5 c6 : Value} {y : DataW H × List MemPlace} (h : DataW.trod enc Tryz.prog w 0 (fun _ => true) true q 30 [c0, c1, c2, c3, c4, c5, c6] = some y) :
    ∃ (kc : UInt8) (f : Nat) (g b : ByteArray) (xc : UInt8) (no : Int) (l : List Nm) (La : Arg), c0 = .int .u8 (kc.toNat : Int) ∧ c1 = .int .u32 (f : Int) ∧ c2 = .string g ∧ c3 = .string b ∧ c4 = .int .u8 (xc.toNat : Int) ∧ c5 = .int .u16 no ∧
      InSlice w Nm.cells c6 l La ∧ f < 4294967296 ∧ ∀ p ∈ l, p.wf := by
  obtain ⟨xs, n, _, _, hl, hlen, hg⟩ := DataW.trod_struct Tryz.underlying30 h
  match xs, hlen with
  | [y0, y1, y2, y3, y4], _ =>
    have g0 : DataW.trod enc Tryz.prog w 0 (fun _ => true) true n 5 [c0] = some y0 := by simpa [Tryz.cells5] using hg 0 _ rfl
    have g1 : DataW.trod enc Tryz.prog w 0 (fun _ => true) true n 25 [c1, c2, c3] = some y1 := by simpa [Tryz.cells25] using hg 1 _ rfl
    have g2 : DataW.trod enc Tryz.prog w 0 (fun _ => true) true n 26 [c4] = some y2 := by simpa [Tryz.cells26] using hg 2 _ rfl
    have g3 : DataW.trod enc Tryz.prog w 0 (fun _ => true) true n 27 [c5] = some y3 := by simpa [Tryz.cells27] using hg 3 _ rfl
    have g4 : DataW.trod enc Tryz.prog w 0 (fun _ => true) true n 28 [c6] = some y4 := by simpa [Tryz.cells28] using hg 4 _ rfl
    obtain ⟨kc, rfl⟩ := read_u8 Tryz.underlying5 g0
    obtain ⟨f, g, b, rfl, rfl, rfl, hf⟩ := read_xid g1
    obtain ⟨xc, rfl⟩ := read_u8 Tryz.underlying26 g2
    obtain ⟨no, rfl⟩ := read_int Tryz.underlying27 g3
    obtain ⟨s, l, La, e3, hs, hw⟩ := read_flat (f := Nm.cells) (ok := Nm.wf) ⟨0, .empty, .empty⟩ Tryz.underlying28 (by rw [Tryz.cells25]; decide) (fun q => by rw [Tryz.cells25]; rfl) (fun q cs y h => read_nm h) g4
    cases e3
    exact ⟨kc, f, g, b, xc, no, l, La, rfl, rfl, rfl, rfl, rfl, rfl, hs, hf, hw⟩

set_option maxRecDepth 100000 in
theorem read_args {b0 : Nat} {v : Value} {d : DataW H} {p : List MemPlace} (hv : Value.okWide Tryz.prog w .any b0 33 v) (h : DataW.Trod enc Tryz.prog w 0 (fun _ => true) true 33 v d p) :
    ∃ (a : ActP) (l : List Nm) (La : Arg), v = a.val ∧ IsSlice a.nv ∧ IsSlice a.kv ∧ InSlice w Nm.cells a.sv l La ∧ a.lf < 4294967296 ∧ ∀ p ∈ l, p.wf := by
  obtain ⟨cs, rfl, hsz⟩ := okWide_struct Tryz.underlying33 hv
  have hsz : cs.toList.length = 16 := by rw [Array.length_toList]; exact hsz.trans Tryz.cells33
  obtain ⟨cs⟩ := cs
  have hsz : cs.length = 16 := hsz
  obtain ⟨fuel, hf⟩ := h
  obtain ⟨xs, n, _, _, hl, hlen, hg⟩ := DataW.trod_struct Tryz.underlying33 hf
  have hc : (Value.cells (.agg ⟨cs⟩)).toList = cs := rfl
  rw [hc] at hg
  match cs, hsz, xs, hlen with
  | [c0, c1, c2, c3, c4, c5, c6, c7, c8, c9, c10, c11, c12, c13, c14, c15], _, [y0, y1, y2, y3, y4, y5, y6, y7], _ =>
    have g0 : DataW.trod enc Tryz.prog w 0 (fun _ => true) true n 5 [c0] = some y0 := by simpa [Tryz.cells5] using hg 0 _ rfl
    have g1 : DataW.trod enc Tryz.prog w 0 (fun _ => true) true n 22 [c1] = some y1 := by simpa [Tryz.cells22] using hg 1 _ rfl
    have g2 : DataW.trod enc Tryz.prog w 0 (fun _ => true) true n 25 [c2, c3, c4] = some y2 := by simpa [Tryz.cells25] using hg 2 _ rfl
    have g3 : DataW.trod enc Tryz.prog w 0 (fun _ => true) true n 4 [c5] = some y3 := by simpa [Tryz.cells4] using hg 3 _ rfl
    have g4 : DataW.trod enc Tryz.prog w 0 (fun _ => true) true n 5 [c6] = some y4 := by simpa [Tryz.cells5] using hg 4 _ rfl
    have g5 : DataW.trod enc Tryz.prog w 0 (fun _ => true) true n 30 [c7, c8, c9, c10, c11, c12, c13] = some y5 := by simpa [Tryz.cells30] using hg 5 _ rfl
    have g6 : DataW.trod enc Tryz.prog w 0 (fun _ => true) true n 3 [c14] = some y6 := by simpa [Tryz.cells3] using hg 6 _ rfl
    have g7 : DataW.trod enc Tryz.prog w 0 (fun _ => true) true n 31 [c15] = some y7 := by simpa [Tryz.cells31] using hg 7 _ rfl
    obtain ⟨wh, rfl⟩ := read_u8 Tryz.underlying5 g0
    obtain ⟨nv, e1, hnv⟩ := read_slice Tryz.underlying22 (by rw [Tryz.cells5]; decide) g1
    cases e1
    obtain ⟨f, g, b, rfl, rfl, rfl, _⟩ := read_xid g2
    obtain ⟨t, e3, _⟩ := DataW.trod_bool Tryz.underlying4 g3
    cases e3
    obtain ⟨nd, rfl⟩ := read_int Tryz.underlying5 g4
    obtain ⟨kc, lf, lg, lb, xc, no, l, La, rfl, rfl, rfl, rfl, rfl, rfl, hs, hlf, hw⟩ := read_let g5
    obtain ⟨nn, rfl⟩ := read_int Tryz.underlying3 g6
    obtain ⟨kv, e7, hkv⟩ := read_slice Tryz.underlying31 (by rw [Tryz.cells3]; decide) g7
    cases e7
    exact ⟨⟨wh, _, f, g, b, t, nd, kc, lf, lg, lb, xc, no, _, nn, _⟩, l, La, rfl, hnv, hkv, hs, hlf, hw⟩
end

theorem rdN_of {l : List Nm} {s' : Value} {L : List Arg} {j : Nat} (hk : Tryz.prog.globals.size + L.length + 1 ≤ maxId) (h : (l = [] ∧ ∃ o c, s' = .slice o 0 c) ∨ ∃ c p e, s' = .slice (some ⟨Tryz.prog.globals.size + j, 0, none⟩) l.length c ∧ L[j]? = some (p, some (flat Nm.cells l, e))) :
    ∃ F, RdN (wR Tryz.prog.globals.size rowsG L) s' l F := by
  rcases h with ⟨hl, h⟩ | ⟨c, p, e, rfl, hj⟩
  · exact ⟨[], .inl ⟨hl, rfl, h⟩⟩
  · refine ⟨[Tryz.prog.globals.size + L.length], .inr ⟨_, 0, c, _, e, _, 0, true, rfl, wR_arg (by omega) hj, by show _ < _ + 1; omega, rfl, fun i p hi => ?_⟩⟩
    rw [Nat.zero_add]
    exact flat_drop nm_length l i p hi

theorem none_calls {W : World} {a : ActP} {l : List Nm} {La : Arg} (hW : Holds W rowsG) (h1 : IsSlice a.nv) (h2 : IsSlice a.kv) (h : InSlice W Nm.cells a.sv l La) (hfl : a.lf < 4294967296) (hw : ∀ q ∈ l, q.wf) : Calls Tryz.prog 3 #[a.val] W fun e W' => e = .returned (.bool true) ∧ Below W.heap.size W W' := by
  have hk : Tryz.prog.globals.size + [La, (placeOf a.nv, none), (placeOf a.kv, none)].length + 1 ≤ maxId := by rw [Hd.Tryz.nG]; show 7 + 3 + 1 ≤ maxId; decide
  obtain ⟨s', hv, hs⟩ := h.rel (P := Tryz.prog) (L := [La, (placeOf a.nv, none), (placeOf a.kv, none)]) (j := 0) rfl
  obtain ⟨o1, n1, c1, v1⟩ := h1.rel (P := Tryz.prog) (l := [La, (placeOf a.nv, none), (placeOf a.kv, none)].map (·.1)) 1 rfl
  obtain ⟨o2, n2, c2, v2⟩ := h2.rel (P := Tryz.prog) (l := [La, (placeOf a.nv, none), (placeOf a.kv, none)].map (·.1)) 2 rfl
  obtain ⟨F, hr⟩ := rdN_of hk hs
  refine calls_trueR (L := [La, (placeOf a.nv, none), (placeOf a.kv, none)]) (gl := rowsG) (args := [ActP.val { a with nv := .slice o1 n1 c1, sv := s', kv := .slice o2 n2 c2 }]) gP Hd.Tryz.okG hk hW ?_ (.cons (.agg (.cons (.int _ _) (.cons v1 (.cons (.int _ _) (.cons (.string _) (.cons (.string _) (.cons (.bool _) (.cons (.int _ _) (.cons (.int _ _) (.cons (.int _ _) (.cons (.string _) (.cons (.string _) (.cons (.int _ _) (.cons (.int _ _) (.cons hv (.cons (.int _ _) (.cons v2 .nil))))))))))))))))) .nil)
    (wc3 (head_kc hW _) (wR_fine Hd.Tryz.okG hk) ?_ ⟨⟨_, _, _, rfl⟩, ⟨_, _, _, rfl⟩, hr, hfl, hw⟩)
  · intro j p cs e hj
    match j, hj with
    | 0, hj => exact h.args nm_closed (Option.some.inj hj)
    | 1, hj => simp at hj
    | 2, hj => simp at hj
    | j + 3, hj => simp at hj
  · show Tryz.prog.globals.size + 3 + 1 + 200000 < maxId
    rw [Hd.Tryz.nG]; decide

theorem Tryz.own : ownKnob Tryz.prog.godebug = none := by kernel_rfl
theorem Tryz.laidOut : laidOutB Tryz.prog = true := by kernel_rfl

theorem holds_of_laid {W : World} (hsh : W.ShapedOpen Tryz.prog) (h : laidMetH Tryz.prog Rows.coordNoneRow.laid W) : Holds W rowsG := by
  rw [MakeChecks.laidMetH_plain _ _ _ (by kernel_rfl)] at h
  have ht : Lib.TabIs Tryz.prog W "posthouse/crc.table" .u32 crcNums :=
    Lib.tabIs_of_head (g := 2) (t := 308) (n := 16) (zs := crcNums) (by kernel_rfl) (by kernel_rfl) Tryz.underlying308 (by kernel_rfl) (by kernel_rfl) (by kernel_rfl) h.tail.tail.tail
  intro x hx
  obtain rfl : x = _ := by simpa [rowsG] using hx
  exact holds_var hsh (name := "posthouse/crc.table") (by kernel_rfl) (by rw [Hd.Tryz.nG]; decide) (by kernel_rfl) ht

/-- The world that the program's own initialisers leave meets the condition. -/
theorem door_met (os : Os) (args : Array Value) : laidMetH Tryz.prog Rows.coordNoneRow.laid ((World.doorLaid Tryz.prog 67 os).forCall (fun _ _ => 0) ⟨#[], args, []⟩).memory :=
  laidMetH_of_parts3 (fuel := 8) (laidMet_of_run' 8 (by kernel_rfl) (by kernel_rfl)) (by kernel_rfl) (by kernel_rfl)

set_option maxRecDepth 100000 in
theorem coordNone_lifted (os : Os) (started : os.Started) (H : Type) (enc : TypeId × Value → H) :
    ReturnsInHanded {} Tryz.checked os 3 .any (fun w args => (Rows.coordNoneSpec.pre enc Tryz.prog Tryz.f3 [] false w args ∧ laidMetH Tryz.prog Rows.coordNoneRow.laid w) ∧ sizedMet enc Tryz.prog Tryz.f3 (OpenSpec.ofChange Rows.coordNoneSpec) false w args)
      (Rows.coordNoneSpec.post enc Tryz.prog Tryz.f3 false true false false) := by
  refine returnsInHanded_and_shaped (C := Tryz.checked) (X := fun w _ => laidMetH Tryz.prog Rows.coordNoneRow.laid w) (fun _ _ _ hh h => h.of_heap hh) Tryz.own started (by kernel_rfl) Tryz.func3
    (ChangeSpec.witness_shaped (enc := enc) (C := Tryz.checked) (os := os) (X := fun w _ => laidMetH Tryz.prog Rows.coordNoneRow.laid w) false (World.doorLaid Tryz.prog 67 os) #[.agg #[.int .u8 0, .slice none 0 0, .int .u32 0, .string .empty, .string .empty, .bool false, .int .u8 0, .int .u8 0, .int .u32 0, .string .empty, .string .empty, .int .u8 0, .int .u16 0, .slice none 0 0, .int .i64 0, .slice none 0 0]] 8 rfl (World.shaped_of_RefB (by kernel_rfl) (by kernel_rfl)) (by kernel_rfl) (by kernel_rfl) (by kernel_rfl) (door_met os _)) ?_
  intro W base args ds gs before hval0 hW _ _ hL hsh
  have hval : ∀ (j : Nat) t v, Tryz.f3.params[j]? = some t → args[j]? = some v → Value.okWide Tryz.prog W .any base t v := hval0
  have hW' := hW
  obtain ⟨p, q, hA0, hV, rfl, hfz, hnd⟩ := hW
  have hA : DataW.TrodAll enc Tryz.prog W 0 (fun _ => true) true Tryz.f3.params.toList args.toList ds p := hA0
  rw [Tryz.params3] at hA hval
  obtain ⟨v0, d0, rfl, rfl, h0⟩ := trodAll_one hA
  obtain ⟨rfl, rfl⟩ := trodVars_none hV
  obtain ⟨a, l, La, rfl, ha1, ha2, hs, hfl, hw⟩ := read_args (hval 0 33 v0 rfl rfl) h0
  clear hA0 hval0
  simp only [List.append_nil] at hW'
  have hlt : ∀ x ∈ p, x.block < W.heap.size := fun x hx => by simpa using hW'.lt x hx
  refine (none_calls (holds_of_laid hsh hL) ha1 ha2 hs hfl hw).mono fun e W' ⟨he, hb⟩ => ?_
  subst he
  exact ⟨_, rfl, post_of_below (pa := p) (pv := []) hW' (fun _ _ _ => trodAll_mk1 (shut_bool Tryz.underlying4 _)) (fun sp hsp => trodAll_mk1
      (WideElems.Trod_stays Tryz.laidOut (by kernel_rfl) (of_decide_eq_true (by kernel_rfl)) h0 (fun x hx => hb.same (hlt x hx)) (fun x hx => hsp x (by simpa using hx)))) (fun _ _ => rfl) (by simp) hb
    (ok_one (by kernel_rfl) rfl (okWide_bool_mk Tryz.underlying4 _))⟩

theorem coordNone_holds : Rows.CoordNoneSaid :=
  OpenClaim.holds_of_wide 3 Tryz.f3 rfl rfl rfl rfl rfl rfl rfl ⟨rfl, rfl, rfl, rfl, rfl⟩ rfl rfl rfl rfl rfl (by kernel_rfl) Tryz.func3 (by kernel_rfl)
    (of_decide_eq_true (by kernel_rfl)) (by unfold Func.isWrapper; first | (rw [if_pos (by decide +kernel)]; kernel_rfl) | (rw [if_neg (by decide +kernel)]; exact ⟨rfl, rfl⟩))
    (fun os started H enc _ => coordNone_lifted os started H enc)

theorem coordNone_card : Rows.CoordNoneCardSaid :=
  Claim7.holds_tied_plain_at .later [] [.data, .data, .data, .data, .sentinel, .sentinel] true (true, "712841c653f05ebce1e1143f9f6324732efb68fd207964ea939a54b8c5c58136") true
    coordNone_holds (fun _ h => by cases h) (by kernel_rfl) (fun _ h => by cases h) coordNone_row_tie rfl ⟨rfl, rfl⟩ (by kernel_rfl) rfl
    (fun f fn hf hfn => by
      obtain rfl : f = 3 := Option.some.inj ((show Tryz.prog.funcNamed "posthouse/posthouselaw28.CoordNone" = some 3 by kernel_rfl).symm.trans hf) |>.symm
      obtain rfl : fn = Tryz.f3 := (Option.some.inj (Tryz.func3.symm.trans hfn)).symm
      exact ⟨by kernel_rfl, fun j t ht => by
        rw [Tryz.params3] at ht
        have hm : t ∈ [33] := by simpa using Array.mem_of_getElem? ht
        have hall : ([33].all fun u => !Tryz.prog.wantsStandIn u) = true := by kernel_rfl
        exact (show Tryz.prog.wantsStandIn t = false by simpa using List.all_eq_true.1 hall t hm)⟩)
    (by kernel_rfl)
#print axioms coordNone_card
end Go.Proofs.YtblkafhjbcfmhaaGreatDoor
