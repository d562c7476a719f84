/-
  BrokerNone: whatever the act, the law answers true, and what came in reads as it did. Conditions: those of the card.
-/
import Derived.Test.YtihccmcnjoommaaGreatDoorRuns
import Derived.Test.YtihccmcnjoommaaGreatDoorParts
import Derived.Test.YtihccmcnjoommaaGreatDoorPartsB
import Derived.Test.YtihccmcnjoommaaGreatDoorPartsC
import Derived.Test.YtihccmcnjoommaaGreatDoorCards
import Derived.Test.YtihccmcnjoommaaGreatDoorBound
import Derived.LaidMore
import Derived.Lib.LaidTab
import Derived.Lib.SmallJoins
import Derived.Stop.LaidErr
import Derived.SevenTiedAt
import Derived.ChangeMaps5
import Derived.Deep.Strs

namespace Go.Proofs.YtihccmcnjoommaaGreatDoor
open Go.Abs Go.ChangeShapes Go.WideShapes Go.ChangeAt Go.RowKit Go.Joins Go.Deep

theorem enterN (k s f n : Int) (nm tg g b : ByteArray) (p r : Bool) (o1 o2 : Option Addr) (n1 c1 n2 c2 : Nat) : (enterA Tryz.prog 3 [.agg #[.int .u8 k, .int .u64 s, .string nm, .string tg, .int .u32 f, .string g, .string b, .int .u32 n, .bool p, .bool r, .slice o1 n1 c1, .slice o2 n2 c2]] .normal).isSome = true := by kernel_rfl
theorem head_kc {W : World} (hW : Holds W rowsG) (m : Inj Tryz.prog) : ∀ f ∈ [6], f ≠ sameFn → KC.Holds Tryz.prog W m ⟨f, [], [.bool true]⟩ := by
  intro f hf hs
  obtain rfl : f = 6 := by simpa using hf
  exact kc_true hs head_calls hW m

theorem none_fin (q : Int) (k s f n : Int) (nm tg g b : ByteArray) (p r : Bool) (o1 o2 : Option Addr) (n1 c1 n2 c2 : Nat) {L R : List (List Value)} (run : runsAsk Tryz.prog (lawX q) [] ansK [6] 6000 ⟨frOf Tryz.prog 3 [.agg #[.int .u8 k, .int .u64 s, .string nm, .string tg, .int .u32 f, .string g, .string b, .int .u32 n, .bool p, .bool r, .slice o1 n1 c1, .slice o2 n2 c2]], [], wA 9 2 rowsG⟩ = (true, L, R)) (hLR : L = R) {x10 x11 : Value}
    (r1 : VRel (mA Tryz.prog [placeOf x10, placeOf x11]) (.slice o1 n1 c1) x10) (r2 : VRel (mA Tryz.prog [placeOf x10, placeOf x11]) (.slice o2 n2 c2) x11) (W : World) (hW : Holds W rowsG) :
    Calls Tryz.prog 3 #[.agg #[.int .u8 k, .int .u64 s, .string nm, .string tg, .int .u32 f, .string g, .string b, .int .u32 n, .bool p, .bool r, x10, x11]] W fun e W' => e = .returned (.bool true) ∧ Below W.heap.size W W' := by
  refine calls_trueA (X := lawX q) (rows := rowsG) (l := [placeOf x10, placeOf x11]) (args := [_]) (args' := [_]) Tryz.pok Tryz.okG (by rw [Tryz.nG]; exact Nat.le_of_ble_eq_true rfl)
    (.cons (.agg (.cons (.int _ _) (.cons (.int _ _) (.cons (.string _) (.cons (.string _) (.cons (.int _ _) (.cons (.string _) (.cons (.string _) (.cons (.int _ _) (.cons (.bool _) (.cons (.bool _) (.cons r1 (.cons r2 .nil))))))))))))) .nil) (enterN k s f n nm tg g b p r o1 o2 n1 c1 n2 c2) W hW ?_
  rw [Tryz.nG]
  exact answers_of_asks (Tryz.xokA _ _ _ _) Tryz.pok run hLR (head_kc hW _)

theorem none_calls (k s f n : Int) (nm tg g b : ByteArray) (p r : Bool) (x10 x11 : Value) (hk : (Lit.int .u8 k).wf = true) (h10 : IsSlice x10) (h11 : IsSlice x11) (W : World) (hW : Holds W rowsG) :
    Calls Tryz.prog 3 #[.agg #[.int .u8 k, .int .u64 s, .string nm, .string tg, .int .u32 f, .string g, .string b, .int .u32 n, .bool p, .bool r, x10, x11]] W fun e W' => e = .returned (.bool true) ∧ Below W.heap.size W W' := by
  obtain ⟨o1, n1, c1, r1⟩ := h10.rel (P := Tryz.prog) (l := [placeOf x10, placeOf x11]) 0 rfl
  obtain ⟨o2, n2, c2, r2⟩ := h11.rel (P := Tryz.prog) (l := [placeOf x10, placeOf x11]) 1 rfl
  have hb : 0 ≤ k := by
    simp only [Lit.wf, Bool.and_eq_true, decide_eq_true_eq] at hk
    exact hk.1
  have hc : k.tmod 29 = 0 ∨ k.tmod 29 = 1 ∨ k.tmod 29 = 2 ∨ k.tmod 29 = 3 ∨ k.tmod 29 = 4 ∨ k.tmod 29 = 5 ∨ k.tmod 29 = 6 ∨ k.tmod 29 = 7 ∨ k.tmod 29 = 8 ∨ k.tmod 29 = 9 ∨ k.tmod 29 = 10 ∨ k.tmod 29 = 11 ∨ k.tmod 29 = 12 ∨ k.tmod 29 = 13 ∨ k.tmod 29 = 14 ∨ k.tmod 29 = 15 ∨ k.tmod 29 = 16 ∨ k.tmod 29 = 17 ∨ k.tmod 29 = 18 ∨ k.tmod 29 = 19 ∨ k.tmod 29 = 20 ∨ k.tmod 29 = 21 ∨ k.tmod 29 = 22 ∨ k.tmod 29 = 23 ∨ k.tmod 29 = 24 ∨ k.tmod 29 = 25 ∨ k.tmod 29 = 26 ∨ k.tmod 29 = 27 ∨ k.tmod 29 = 28 := by
    rw [Int.tmod_eq_emod_of_nonneg hb]
    omega
  rcases hc with hc | hc | hc | hc | hc | hc | hc | hc | hc | hc | hc | hc | hc | hc | hc | hc | hc | hc | hc | hc | hc | hc | hc | hc | hc | hc | hc | hc | hc
  · exact none_fin 0 k s f n nm tg g b p r o1 o2 n1 c1 n2 c2 (run_0 k s f n nm tg g b p r o1 o2 n1 c1 n2 c2) (by rw [hc]) r1 r2 W hW
  · exact none_fin 1 k s f n nm tg g b p r o1 o2 n1 c1 n2 c2 (run_1 k s f n nm tg g b p r o1 o2 n1 c1 n2 c2) (by rw [hc]) r1 r2 W hW
  · exact none_fin 2 k s f n nm tg g b p r o1 o2 n1 c1 n2 c2 (run_2 k s f n nm tg g b p r o1 o2 n1 c1 n2 c2) (by rw [hc]) r1 r2 W hW
  · exact none_fin 3 k s f n nm tg g b p r o1 o2 n1 c1 n2 c2 (run_3 k s f n nm tg g b p r o1 o2 n1 c1 n2 c2) (by rw [hc]) r1 r2 W hW
  · exact none_fin 4 k s f n nm tg g b p r o1 o2 n1 c1 n2 c2 (run_4 k s f n nm tg g b p r o1 o2 n1 c1 n2 c2) (by rw [hc]) r1 r2 W hW
  · exact none_fin 5 k s f n nm tg g b p r o1 o2 n1 c1 n2 c2 (run_5 k s f n nm tg g b p r o1 o2 n1 c1 n2 c2) (by rw [hc]) r1 r2 W hW
  · exact none_fin 6 k s f n nm tg g b p r o1 o2 n1 c1 n2 c2 (run_6 k s f n nm tg g b p r o1 o2 n1 c1 n2 c2) (by rw [hc]) r1 r2 W hW
  · exact none_fin 7 k s f n nm tg g b p r o1 o2 n1 c1 n2 c2 (run_7 k s f n nm tg g b p r o1 o2 n1 c1 n2 c2) (by rw [hc]) r1 r2 W hW
  · exact none_fin 8 k s f n nm tg g b p r o1 o2 n1 c1 n2 c2 (run_8 k s f n nm tg g b p r o1 o2 n1 c1 n2 c2) (by rw [hc]) r1 r2 W hW
  · exact none_fin 9 k s f n nm tg g b p r o1 o2 n1 c1 n2 c2 (run_9 k s f n nm tg g b p r o1 o2 n1 c1 n2 c2) (by rw [hc]) r1 r2 W hW
  · exact none_fin 10 k s f n nm tg g b p r o1 o2 n1 c1 n2 c2 (run_10 k s f n nm tg g b p r o1 o2 n1 c1 n2 c2) (by rw [hc]) r1 r2 W hW
  · exact none_fin 11 k s f n nm tg g b p r o1 o2 n1 c1 n2 c2 (run_11 k s f n nm tg g b p r o1 o2 n1 c1 n2 c2) (by rw [hc]) r1 r2 W hW
  · exact none_fin 12 k s f n nm tg g b p r o1 o2 n1 c1 n2 c2 (run_12 k s f n nm tg g b p r o1 o2 n1 c1 n2 c2) (by rw [hc]) r1 r2 W hW
  · exact none_fin 13 k s f n nm tg g b p r o1 o2 n1 c1 n2 c2 (run_13 k s f n nm tg g b p r o1 o2 n1 c1 n2 c2) (by rw [hc]) r1 r2 W hW
  · exact none_fin 14 k s f n nm tg g b p r o1 o2 n1 c1 n2 c2 (run_14 k s f n nm tg g b p r o1 o2 n1 c1 n2 c2) (by rw [hc]) r1 r2 W hW
  · exact none_fin 15 k s f n nm tg g b p r o1 o2 n1 c1 n2 c2 (run_15 k s f n nm tg g b p r o1 o2 n1 c1 n2 c2) (by rw [hc]) r1 r2 W hW
  · exact none_fin 16 k s f n nm tg g b p r o1 o2 n1 c1 n2 c2 (run_16 k s f n nm tg g b p r o1 o2 n1 c1 n2 c2) (by rw [hc]) r1 r2 W hW
  · exact none_fin 17 k s f n nm tg g b p r o1 o2 n1 c1 n2 c2 (run_17 k s f n nm tg g b p r o1 o2 n1 c1 n2 c2) (by rw [hc]) r1 r2 W hW
  · exact none_fin 18 k s f n nm tg g b p r o1 o2 n1 c1 n2 c2 (run_18 k s f n nm tg g b p r o1 o2 n1 c1 n2 c2) (by rw [hc]) r1 r2 W hW
  · exact none_fin 19 k s f n nm tg g b p r o1 o2 n1 c1 n2 c2 (run_19 k s f n nm tg g b p r o1 o2 n1 c1 n2 c2) (by rw [hc]) r1 r2 W hW
  · exact none_fin 20 k s f n nm tg g b p r o1 o2 n1 c1 n2 c2 (run_20 k s f n nm tg g b p r o1 o2 n1 c1 n2 c2) (by rw [hc]) r1 r2 W hW
  · exact none_fin 21 k s f n nm tg g b p r o1 o2 n1 c1 n2 c2 (run_21 k s f n nm tg g b p r o1 o2 n1 c1 n2 c2) (by rw [hc]) r1 r2 W hW
  · exact none_fin 22 k s f n nm tg g b p r o1 o2 n1 c1 n2 c2 (run_22 k s f n nm tg g b p r o1 o2 n1 c1 n2 c2) (by rw [hc]) r1 r2 W hW
  · exact none_fin 23 k s f n nm tg g b p r o1 o2 n1 c1 n2 c2 (run_23 k s f n nm tg g b p r o1 o2 n1 c1 n2 c2) (by rw [hc]) r1 r2 W hW
  · exact none_fin 24 k s f n nm tg g b p r o1 o2 n1 c1 n2 c2 (run_24 k s f n nm tg g b p r o1 o2 n1 c1 n2 c2) (by rw [hc]) r1 r2 W hW
  · exact none_fin 25 k s f n nm tg g b p r o1 o2 n1 c1 n2 c2 (run_25 k s f n nm tg g b p r o1 o2 n1 c1 n2 c2) (by rw [hc]) r1 r2 W hW
  · exact none_fin 26 k s f n nm tg g b p r o1 o2 n1 c1 n2 c2 (run_26 k s f n nm tg g b p r o1 o2 n1 c1 n2 c2) (by rw [hc]) r1 r2 W hW
  · exact none_fin 27 k s f n nm tg g b p r o1 o2 n1 c1 n2 c2 (run_27 k s f n nm tg g b p r o1 o2 n1 c1 n2 c2) (by rw [hc]) r1 r2 W hW
  · exact none_fin 28 k s f n nm tg g b p r o1 o2 n1 c1 n2 c2 (run_28 k s f n nm tg g b p r o1 o2 n1 c1 n2 c2) (by rw [hc]) r1 r2 W hW

theorem Tryz.cells5 : Tryz.prog.cellsOf 5 = 1 := by kernel_rfl
theorem Tryz.cells22 : Tryz.prog.cellsOf 22 = 1 := by kernel_rfl
theorem Tryz.cells9 : Tryz.prog.cellsOf 9 = 1 := by kernel_rfl
theorem Tryz.cells23 : Tryz.prog.cellsOf 23 = 1 := by kernel_rfl
theorem Tryz.cells25 : Tryz.prog.cellsOf 25 = 3 := by kernel_rfl
set_option maxRecDepth 100000 in
theorem read_T25 {H : Type} {enc : TypeId × Value → H} {w : World} {fuel : Nat} {cs : List Value} {x : DataW H × List MemPlace} (h : DataW.trod enc Tryz.prog w 0 (fun _ => true) true fuel 25 cs = some x) :
    ∃ (x0 : Int) (x1 : ByteArray) (x2 : ByteArray), cs = [.int .u32 x0, .string x1, .string x2] ∧ (Lit.int .u32 x0).wf = true := by
  obtain ⟨xs, n, _, _, hl, hlen, hf⟩ := DataW.trod_struct Tryz.underlying25 h
  have hl : cs.length = 3 := hl.trans Tryz.cells25
  match cs, hl, xs, hlen with
  | [c0, c1, c2], _, [y0, y1, y2], _ =>
    have h0 : DataW.trod enc Tryz.prog w 0 (fun _ => true) true n 23 [c0] = some y0 := by simpa [Tryz.cells23] using hf 0 _ rfl
    obtain ⟨x0, e0, _, w0⟩ := DataW.trod_int Tryz.underlying23 h0
    cases e0
    have h1 : DataW.trod enc Tryz.prog w 0 (fun _ => true) true n 9 [c1] = some y1 := by simpa [Tryz.cells9] using hf 1 _ rfl
    obtain ⟨x1, e1, _⟩ := DataW.trod_string Tryz.underlying9 h1
    cases e1
    have h2 : DataW.trod enc Tryz.prog w 0 (fun _ => true) true n 9 [c2] = some y2 := by simpa [Tryz.cells9] using hf 2 _ rfl
    obtain ⟨x2, e2, _⟩ := DataW.trod_string Tryz.underlying9 h2
    cases e2
    exact ⟨_, _, _, rfl, w0⟩
theorem Tryz.cells4 : Tryz.prog.cellsOf 4 = 1 := by kernel_rfl
theorem Tryz.cells26 : Tryz.prog.cellsOf 26 = 1 := by kernel_rfl
theorem Tryz.cellsP26 : 0 < Tryz.prog.cellsOf 62 := of_decide_eq_true (by kernel_rfl)
theorem read_T26 {H : Type} {enc : TypeId × Value → H} {w : World} {fuel : Nat} {cs : List Value} {x : DataW H × List MemPlace} (h : DataW.trod enc Tryz.prog w 0 (fun _ => true) true fuel 26 cs = some x) : ∃ s, cs = [s] ∧ IsSlice s := read_slice Tryz.underlying26 Tryz.cellsP26 h
theorem Tryz.cells27 : Tryz.prog.cellsOf 27 = 1 := by kernel_rfl
theorem Tryz.cellsP27 : 0 < Tryz.prog.cellsOf 3 := of_decide_eq_true (by kernel_rfl)
theorem read_T27 {H : Type} {enc : TypeId × Value → H} {w : World} {fuel : Nat} {cs : List Value} {x : DataW H × List MemPlace} (h : DataW.trod enc Tryz.prog w 0 (fun _ => true) true fuel 27 cs = some x) : ∃ s, cs = [s] ∧ IsSlice s := read_slice Tryz.underlying27 Tryz.cellsP27 h
theorem Tryz.cells29 : Tryz.prog.cellsOf 29 = 12 := by kernel_rfl
set_option maxRecDepth 100000 in
theorem read_T29 {H : Type} {enc : TypeId × Value → H} {w : World} {fuel : Nat} {cs : List Value} {x : DataW H × List MemPlace} (h : DataW.trod enc Tryz.prog w 0 (fun _ => true) true fuel 29 cs = some x) :
    ∃ (x0 : Int) (x1 : Int) (x2 : ByteArray) (x3 : ByteArray) (x4 : Int) (x5 : ByteArray) (x6 : ByteArray) (x7 : Int) (x8 : Bool) (x9 : Bool) (x10 : Value) (x11 : Value), cs = [.int .u8 x0, .int .u64 x1, .string x2, .string x3, .int .u32 x4, .string x5, .string x6, .int .u32 x7, .bool x8, .bool x9, x10, x11] ∧ (Lit.int .u8 x0).wf = true ∧ (Lit.int .u64 x1).wf = true ∧ (Lit.int .u32 x4).wf = true ∧ (Lit.int .u32 x7).wf = true ∧ IsSlice x10 ∧ IsSlice x11 := by
  obtain ⟨xs, n, _, _, hl, hlen, hf⟩ := DataW.trod_struct Tryz.underlying29 h
  have hl : cs.length = 12 := hl.trans Tryz.cells29
  match cs, hl, xs, hlen with
  | [c0, c1, c2, c3, c4, c5, c6, c7, c8, c9, c10, c11], _, [y0, y1, y2, y3, y4, y5, y6, y7, y8, y9], _ =>
    have h0 : DataW.trod enc Tryz.prog w 0 (fun _ => true) true n 5 [c0] = some y0 := by simpa [Tryz.cells5] using hf 0 _ rfl
    obtain ⟨x0, e0, _, w0⟩ := DataW.trod_int Tryz.underlying5 h0
    cases e0
    have h1 : DataW.trod enc Tryz.prog w 0 (fun _ => true) true n 22 [c1] = some y1 := by simpa [Tryz.cells22] using hf 1 _ rfl
    obtain ⟨x1, e1, _, w1⟩ := DataW.trod_int Tryz.underlying22 h1
    cases e1
    have h2 : DataW.trod enc Tryz.prog w 0 (fun _ => true) true n 9 [c2] = some y2 := by simpa [Tryz.cells9] using hf 2 _ rfl
    obtain ⟨x2, e2, _⟩ := DataW.trod_string Tryz.underlying9 h2
    cases e2
    have h3 : DataW.trod enc Tryz.prog w 0 (fun _ => true) true n 9 [c3] = some y3 := by simpa [Tryz.cells9] using hf 3 _ rfl
    obtain ⟨x3, e3, _⟩ := DataW.trod_string Tryz.underlying9 h3
    cases e3
    have h4 : DataW.trod enc Tryz.prog w 0 (fun _ => true) true n 25 [c4, c5, c6] = some y4 := by simpa [Tryz.cells25] using hf 4 _ rfl
    obtain ⟨x4, x5, x6, e4, w4_0⟩ := read_T25 h4
    cases e4
    have h5 : DataW.trod enc Tryz.prog w 0 (fun _ => true) true n 23 [c7] = some y5 := by simpa [Tryz.cells23] using hf 5 _ rfl
    obtain ⟨x7, e5, _, w7⟩ := DataW.trod_int Tryz.underlying23 h5
    cases e5
    have h6 : DataW.trod enc Tryz.prog w 0 (fun _ => true) true n 4 [c8] = some y6 := by simpa [Tryz.cells4] using hf 6 _ rfl
    obtain ⟨x8, e6, _⟩ := DataW.trod_bool Tryz.underlying4 h6
    cases e6
    have h7 : DataW.trod enc Tryz.prog w 0 (fun _ => true) true n 4 [c9] = some y7 := by simpa [Tryz.cells4] using hf 7 _ rfl
    obtain ⟨x9, e7, _⟩ := DataW.trod_bool Tryz.underlying4 h7
    cases e7
    have h8 : DataW.trod enc Tryz.prog w 0 (fun _ => true) true n 26 [c10] = some y8 := by simpa [Tryz.cells26] using hf 8 _ rfl
    obtain ⟨x10, e8, w8_0⟩ := read_T26 h8
    cases e8
    have h9 : DataW.trod enc Tryz.prog w 0 (fun _ => true) true n 27 [c11] = some y9 := by simpa [Tryz.cells27] using hf 9 _ rfl
    obtain ⟨x11, e9, w9_0⟩ := read_T27 h9
    cases e9
    exact ⟨_, _, _, _, _, _, _, _, _, _, _, _, rfl, w0, w1, w4_0, w7, w8_0, w9_0⟩

set_option maxRecDepth 100000 in
theorem read_args {H : Type} {enc : TypeId × Value → H} {w : World} {b0 : Nat} {v : Value} {d : DataW H} {p : List MemPlace} (hv : Value.okWide Tryz.prog w .any b0 29 v) (h : DataW.Trod enc Tryz.prog w 0 (fun _ => true) true 29 v d p) :
    ∃ (k s f n : Int) (nm tg g b : ByteArray) (p r : Bool) (x10 x11 : Value), v = .agg #[.int .u8 k, .int .u64 s, .string nm, .string tg, .int .u32 f, .string g, .string b, .int .u32 n, .bool p, .bool r, x10, x11] ∧ (Lit.int .u8 k).wf = true ∧ IsSlice x10 ∧ IsSlice x11 := by
  obtain ⟨⟨cs⟩, rfl, _⟩ := okWide_struct Tryz.underlying29 hv
  obtain ⟨fuel, hf⟩ := h
  obtain ⟨k, s, nm, tg, f, g, b, n, p, r, x10, x11, e, h0, _, _, _, h1, h2⟩ := read_T29 (cs := cs) hf
  cases e
  exact ⟨_, _, _, _, _, _, _, _, _, _, _, _, rfl, h0, h1, h2⟩

theorem Tryz.own : ownKnob Tryz.prog.godebug = none := by kernel_rfl
theorem Tryz.laidOut : laidOutB Tryz.prog = true := by kernel_rfl

theorem holds_of_laid {W : World} (hsh : W.ShapedOpen Tryz.prog) (h : laidMetH Tryz.prog Rows.brokerNoneRow.laid W) : Holds W rowsG := by
  rw [MakeChecks.laidMetH_plain _ _ _ (by kernel_rfl)] at h
  have ht : Lib.TabIs Tryz.prog W "posthouse/crc.table" .u32 crcNums :=
    Lib.tabIs_of_head (g := 4) (t := 551) (n := 16) (zs := crcNums) (by kernel_rfl) (by kernel_rfl) Tryz.underlying551 (by kernel_rfl) (by kernel_rfl) (by kernel_rfl) h.tail.tail.tail.tail.tail
  intro x hx
  obtain rfl : x = _ := by simpa [rowsG] using hx
  exact holds_var hsh (name := "posthouse/crc.table") (by kernel_rfl) (by rw [Tryz.nG]; decide) (by kernel_rfl) ht

/-- The world that the program's own initialisers leave meets the condition. -/
theorem door_met (os : Os) (args : Array Value) : laidMetH Tryz.prog Rows.brokerNoneRow.laid ((doorW os).forCall (fun _ _ => 0) ⟨#[], args, []⟩).memory :=
  laidMetH_of_parts3 (fuel := 8) (laidMet_of_run' 8 (dm1 os args) (dm2 os args)) (dm3 os args) (dm4 os args)

set_option maxRecDepth 100000 in
theorem brokerNone_lifted (os : Os) (started : os.Started) (H : Type) (enc : TypeId × Value → H) :
    ReturnsInHanded {} Tryz.checked os 3 .any (fun w args => (Rows.brokerNoneSpec.pre enc Tryz.prog Tryz.f3 [] false w args ∧ laidMetH Tryz.prog Rows.brokerNoneRow.laid w) ∧ sizedMet enc Tryz.prog Tryz.f3 (OpenSpec.ofChange Rows.brokerNoneSpec) false w args)
      (Rows.brokerNoneSpec.post enc Tryz.prog Tryz.f3 false true false false) := by
  refine returnsInHanded_and_shaped (C := Tryz.checked) (X := fun w _ => laidMetH Tryz.prog Rows.brokerNoneRow.laid w) (fun _ _ _ hh h => h.of_heap hh) Tryz.own started (by kernel_rfl) Tryz.func3
    (ChangeSpec.witness_shaped (enc := enc) (C := Tryz.checked) (os := os) (X := fun w _ => laidMetH Tryz.prog Rows.brokerNoneRow.laid w) false (doorW os) #[.agg #[.int .u8 0, .int .u64 0, .string .empty, .string .empty, .int .u32 0, .string .empty, .string .empty, .int .u32 0, .bool false, .bool false, .slice none 0 0, .slice none 0 0]] 8 rfl (World.shaped_of_RefB (by kernel_rfl) (by kernel_rfl)) (by kernel_rfl) (by kernel_rfl) (by kernel_rfl) (door_met os _)) ?_
  intro W base args ds gs before hval0 hW _ _ hL hsh
  have hval : ∀ (j : Nat) t v, Tryz.f3.params[j]? = some t → args[j]? = some v → Value.okWide Tryz.prog W .any base t v := hval0
  have hW' := hW
  obtain ⟨p, q, hA0, hV, rfl, hfz, hnd⟩ := hW
  have hA : DataW.TrodAll enc Tryz.prog W 0 (fun _ => true) true Tryz.f3.params.toList args.toList ds p := hA0
  rw [Tryz.params3] at hA hval
  obtain ⟨v0, d0, rfl, rfl, h0⟩ := trodAll_one hA
  obtain ⟨rfl, rfl⟩ := trodVars_none hV
  obtain ⟨k, s, f, n, nm, tg, g, b, pp, rr, x10, x11, rfl, hk, h10, h11⟩ := read_args (hval 0 29 v0 rfl rfl) h0
  clear hA0 hval0
  simp only [List.append_nil] at hW'
  have hlt : ∀ x ∈ p, x.block < W.heap.size := fun x hx => by simpa using hW'.lt x hx
  refine (none_calls k s f n nm tg g b pp rr x10 x11 hk h10 h11 W (holds_of_laid hsh hL)).mono fun e W' ⟨he, hb⟩ => ?_
  subst he
  exact ⟨_, rfl, post_of_below (pa := p) (pv := []) hW' (fun _ _ _ => trodAll_mk1 (shut_bool Tryz.underlying4 _)) (fun sp hsp => trodAll_mk1
      (WideElems.Trod_stays Tryz.laidOut (by kernel_rfl) (of_decide_eq_true (by kernel_rfl)) h0 (fun x hx => hb.same (hlt x hx)) (fun x hx => hsp x (by simpa using hx)))) (fun _ _ => rfl) (by simp) hb
    (ok_one (by kernel_rfl) rfl (okWide_bool_mk Tryz.underlying4 _))⟩

theorem brokerNone_holds : Rows.BrokerNoneSaid :=
  OpenClaim.holds_of_wide 3 Tryz.f3 rfl rfl rfl rfl rfl rfl rfl ⟨rfl, rfl, rfl, rfl, rfl⟩ rfl rfl rfl rfl rfl bn_named Tryz.func3 bn_joined
    (of_decide_eq_true (by kernel_rfl)) (by unfold Func.isWrapper; first | (rw [if_pos (by decide +kernel)]; kernel_rfl) | (rw [if_neg (by decide +kernel)]; exact ⟨rfl, rfl⟩))
    (fun os started H enc _ => brokerNone_lifted os started H enc)

theorem brokerNone_card : Rows.BrokerNoneCardSaid :=
  Claim7.holds_tied_plain_at .later [] [.sentinel, .sentinel, .data, .data, .data, .data, .pinned, .data] true (true, "784e064a0b80f5e461c8a1a6e96f9a276c1f97f4333ad6f0a80bf9f1aa52a9e9") true
    brokerNone_holds (fun _ h => by cases h) bn_wf (fun _ h => by cases h) brokerNone_row_tie rfl ⟨rfl, rfl⟩ bn_main rfl
    (fun f fn hf hfn => by
      obtain rfl : f = 3 := (Option.some.inj (bn_named.symm.trans hf)).symm
      obtain rfl : fn = Tryz.f3 := (Option.some.inj (Tryz.func3.symm.trans hfn)).symm
      exact ⟨bn_looks, fun j t ht => by
        rw [Tryz.params3] at ht
        have hm : t ∈ [29] := by simpa using Array.mem_of_getElem? ht
        have hall := bn_stand
        exact (show Tryz.prog.wantsStandIn t = false by simpa using List.all_eq_true.1 hall t hm)⟩)
    bn_goes
#print axioms brokerNone_card
end Go.Proofs.YtihccmcnjoommaaGreatDoor
