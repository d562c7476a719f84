/-
  ScriptShows: whatever was told, the law answers true, and what came in reads as it did. Conditions: those of the card.
-/
import Derived.Test.YtebidlpekphaoaaGreatDoorShH
import Derived.Test.YtebidlpekphaoaaGreatDoorShE
import Derived.Test.YtebidlpekphaoaaGreatDoorCards
import Derived.Test.YtebidlpekphaoaaGreatDoorTie
import Derived.LaidMore
import Derived.Lib.LaidTab
import Derived.Lib.SmallJoins
import Derived.Stop.LaidErr
import Derived.SevenTiedAt
import Derived.ChangeMaps5
import Derived.Deep.Strs

namespace Go.Proofs.YtebidlpekphaoaaGreatDoor
open Go Go.Abs Go.ChangeShapes Go.WideShapes Go.ChangeAt Go.RowKit Go.Joins Go.Deep
open Hd (LaidV head_calls)

theorem head_kc {W : World} (hW : LaidV W) (m : Inj Tryz.prog) : KC.Holds Tryz.prog W m ⟨7, [], [.bool true]⟩ := kc_true2 Hd.LaidV.grow (by decide) head_calls hW m
theorem Tryz.own : ownKnob Tryz.prog.godebug = none := by kernel_rfl
theorem Tryz.laidOut : laidOutB Tryz.prog = true := by kernel_rfl
theorem gES : Tryz.prog.globalNamed "strconv.ErrSyntax" = some 4 := by kernel_rfl
theorem gESType : (Tryz.prog.globals[4]?).map (·.type) = some 72 := by kernel_rfl
theorem cellsES : Tryz.prog.cellsOf 187 = 1 := by kernel_rfl
theorem Tryz.cells24 : Tryz.prog.cellsOf 24 = 1 := by kernel_rfl
theorem Tryz.cells50 : Tryz.prog.cellsOf 50 = 1 := by kernel_rfl
theorem Tryz.cells3 : Tryz.prog.cellsOf 3 = 1 := by kernel_rfl
theorem Tryz.cells30 : Tryz.prog.cellsOf 30 = 1 := by kernel_rfl
theorem Tryz.cells9 : Tryz.prog.cellsOf 9 = 1 := by kernel_rfl
theorem Tryz.cells32 : Tryz.prog.cellsOf 32 = 3 := by kernel_rfl
set_option maxRecDepth 100000 in
theorem read_T32 {H : Type} {enc : TypeId × Value → H} {w : World} {fuel : Nat} {cs : List Value} {x : DataW H × List MemPlace} (h : DataW.trod enc Tryz.prog w 0 (fun _ => true) true fuel 32 cs = some x) :
    ∃ (x0 : Int) (x1 : ByteArray) (x2 : ByteArray), cs = [.int .u32 x0, .string x1, .string x2] ∧ (Lit.int .u32 x0).wf = true := by
  obtain ⟨xs, n, _, _, hl, hlen, hf⟩ := DataW.trod_struct Tryz.underlying32 h
  have hl : cs.length = 3 := hl.trans Tryz.cells32
  match cs, hl, xs, hlen with
  | [c0, c1, c2], _, [y0, y1, y2], _ =>
    have h0 : DataW.trod enc Tryz.prog w 0 (fun _ => true) true n 30 [c0] = some y0 := by simpa [Tryz.cells30] using hf 0 _ rfl
    obtain ⟨x0, e0, _, w0⟩ := DataW.trod_int Tryz.underlying30 h0
    cases e0
    have h1 : DataW.trod enc Tryz.prog w 0 (fun _ => true) true n 9 [c1] = some y1 := by simpa [Tryz.cells9] using hf 1 _ rfl
    obtain ⟨x1, e1, _⟩ := DataW.trod_string Tryz.underlying9 h1
    cases e1
    have h2 : DataW.trod enc Tryz.prog w 0 (fun _ => true) true n 9 [c2] = some y2 := by simpa [Tryz.cells9] using hf 2 _ rfl
    obtain ⟨x2, e2, _⟩ := DataW.trod_string Tryz.underlying9 h2
    cases e2
    exact ⟨_, _, _, rfl, w0⟩
theorem Tryz.cells35 : Tryz.prog.cellsOf 35 = 1 := by kernel_rfl
theorem Tryz.cells52 : Tryz.prog.cellsOf 52 = 4 := by kernel_rfl
set_option maxRecDepth 100000 in
theorem read_T52 {H : Type} {enc : TypeId × Value → H} {w : World} {fuel : Nat} {cs : List Value} {x : DataW H × List MemPlace} (h : DataW.trod enc Tryz.prog w 0 (fun _ => true) true fuel 52 cs = some x) :
    ∃ (x0 : Int) (x1 : Int) (x2 : Int) (x3 : Int), cs = [.int .u64 x0, .int .i64 x1, .int .i64 x2, .int .i64 x3] ∧ (Lit.int .u64 x0).wf = true ∧ (Lit.int .i64 x1).wf = true ∧ (Lit.int .i64 x2).wf = true ∧ (Lit.int .i64 x3).wf = true := by
  obtain ⟨xs, n, _, _, hl, hlen, hf⟩ := DataW.trod_struct Tryz.underlying52 h
  have hl : cs.length = 4 := hl.trans Tryz.cells52
  match cs, hl, xs, hlen with
  | [c0, c1, c2, c3], _, [y0, y1, y2, y3], _ =>
    have h0 : DataW.trod enc Tryz.prog w 0 (fun _ => true) true n 35 [c0] = some y0 := by simpa [Tryz.cells35] using hf 0 _ rfl
    obtain ⟨x0, e0, _, w0⟩ := DataW.trod_int Tryz.underlying35 h0
    cases e0
    have h1 : DataW.trod enc Tryz.prog w 0 (fun _ => true) true n 3 [c1] = some y1 := by simpa [Tryz.cells3] using hf 1 _ rfl
    obtain ⟨x1, e1, _, w1⟩ := DataW.trod_int Tryz.underlying3 h1
    cases e1
    have h2 : DataW.trod enc Tryz.prog w 0 (fun _ => true) true n 3 [c2] = some y2 := by simpa [Tryz.cells3] using hf 2 _ rfl
    obtain ⟨x2, e2, _, w2⟩ := DataW.trod_int Tryz.underlying3 h2
    cases e2
    have h3 : DataW.trod enc Tryz.prog w 0 (fun _ => true) true n 3 [c3] = some y3 := by simpa [Tryz.cells3] using hf 3 _ rfl
    obtain ⟨x3, e3, _, w3⟩ := DataW.trod_int Tryz.underlying3 h3
    cases e3
    exact ⟨_, _, _, _, rfl, w0, w1, w2, w3⟩
theorem Tryz.cells54 : Tryz.prog.cellsOf 54 = 2 := by kernel_rfl
set_option maxRecDepth 100000 in
theorem read_T54 {H : Type} {enc : TypeId × Value → H} {w : World} {fuel : Nat} {cs : List Value} {x : DataW H × List MemPlace} (h : DataW.trod enc Tryz.prog w 0 (fun _ => true) true fuel 54 cs = some x) :
    ∃ (x0 : ByteArray) (x1 : Int), cs = [.string x0, .int .u64 x1] ∧ (Lit.int .u64 x1).wf = true := by
  obtain ⟨xs, n, _, _, hl, hlen, hf⟩ := DataW.trod_struct Tryz.underlying54 h
  have hl : cs.length = 2 := hl.trans Tryz.cells54
  match cs, hl, xs, hlen with
  | [c0, c1], _, [y0, y1], _ =>
    have h0 : DataW.trod enc Tryz.prog w 0 (fun _ => true) true n 9 [c0] = some y0 := by simpa [Tryz.cells9] using hf 0 _ rfl
    obtain ⟨x0, e0, _⟩ := DataW.trod_string Tryz.underlying9 h0
    cases e0
    have h1 : DataW.trod enc Tryz.prog w 0 (fun _ => true) true n 35 [c1] = some y1 := by simpa [Tryz.cells35] using hf 1 _ rfl
    obtain ⟨x1, e1, _, w1⟩ := DataW.trod_int Tryz.underlying35 h1
    cases e1
    exact ⟨_, _, rfl, w1⟩
theorem Tryz.cells4 : Tryz.prog.cellsOf 4 = 1 := by kernel_rfl
theorem Tryz.cells55 : Tryz.prog.cellsOf 55 = 1 := by kernel_rfl
theorem Tryz.cells56 : Tryz.prog.cellsOf 56 = 1 := by kernel_rfl
theorem Tryz.cellsP56 : 0 < Tryz.prog.cellsOf 9 := of_decide_eq_true (by kernel_rfl)
theorem read_T56 {H : Type} {enc : TypeId × Value → H} {w : World} {fuel : Nat} {cs : List Value} {x : DataW H × List MemPlace} (h : DataW.trod enc Tryz.prog w 0 (fun _ => true) true fuel 56 cs = some x) : ∃ s, cs = [s] ∧ IsSlice s := read_slice Tryz.underlying56 Tryz.cellsP56 h
theorem Tryz.cells57 : Tryz.prog.cellsOf 57 = 1 := by kernel_rfl
theorem Tryz.cellsP57 : 0 < Tryz.prog.cellsOf 59 := of_decide_eq_true (by kernel_rfl)
theorem read_T57 {H : Type} {enc : TypeId × Value → H} {w : World} {fuel : Nat} {cs : List Value} {x : DataW H × List MemPlace} (h : DataW.trod enc Tryz.prog w 0 (fun _ => true) true fuel 57 cs = some x) : ∃ s, cs = [s] ∧ IsSlice s := read_slice Tryz.underlying57 Tryz.cellsP57 h
theorem Tryz.cells59 : Tryz.prog.cellsOf 59 = 5 := by kernel_rfl
set_option maxRecDepth 100000 in
theorem read_T59 {H : Type} {enc : TypeId × Value → H} {w : World} {fuel : Nat} {cs : List Value} {x : DataW H × List MemPlace} (h : DataW.trod enc Tryz.prog w 0 (fun _ => true) true fuel 59 cs = some x) :
    ∃ (x0 : Int) (x1 : Int) (x2 : ByteArray) (x3 : Value) (x4 : Value), cs = [.int .u8 x0, .int .u64 x1, .string x2, x3, x4] ∧ (Lit.int .u8 x0).wf = true ∧ (Lit.int .u64 x1).wf = true ∧ IsSlice x3 ∧ IsSlice x4 := by
  obtain ⟨xs, n, _, _, hl, hlen, hf⟩ := DataW.trod_struct Tryz.underlying59 h
  have hl : cs.length = 5 := hl.trans Tryz.cells59
  match cs, hl, xs, hlen with
  | [c0, c1, c2, c3, c4], _, [y0, y1, y2, y3, y4], _ =>
    have h0 : DataW.trod enc Tryz.prog w 0 (fun _ => true) true n 55 [c0] = some y0 := by simpa [Tryz.cells55] using hf 0 _ rfl
    obtain ⟨x0, e0, _, w0⟩ := DataW.trod_int Tryz.underlying55 h0
    cases e0
    have h1 : DataW.trod enc Tryz.prog w 0 (fun _ => true) true n 35 [c1] = some y1 := by simpa [Tryz.cells35] using hf 1 _ rfl
    obtain ⟨x1, e1, _, w1⟩ := DataW.trod_int Tryz.underlying35 h1
    cases e1
    have h2 : DataW.trod enc Tryz.prog w 0 (fun _ => true) true n 9 [c2] = some y2 := by simpa [Tryz.cells9] using hf 2 _ rfl
    obtain ⟨x2, e2, _⟩ := DataW.trod_string Tryz.underlying9 h2
    cases e2
    have h3 : DataW.trod enc Tryz.prog w 0 (fun _ => true) true n 56 [c3] = some y3 := by simpa [Tryz.cells56] using hf 3 _ rfl
    obtain ⟨x3, e3, w3_0⟩ := read_T56 h3
    cases e3
    have h4 : DataW.trod enc Tryz.prog w 0 (fun _ => true) true n 57 [c4] = some y4 := by simpa [Tryz.cells57] using hf 4 _ rfl
    obtain ⟨x4, e4, w4_0⟩ := read_T57 h4
    cases e4
    exact ⟨_, _, _, _, _, rfl, w0, w1, w3_0, w4_0⟩
theorem Tryz.cells61 : Tryz.prog.cellsOf 61 = 9 := by kernel_rfl
set_option maxRecDepth 100000 in
theorem read_T61 {H : Type} {enc : TypeId × Value → H} {w : World} {fuel : Nat} {cs : List Value} {x : DataW H × List MemPlace} (h : DataW.trod enc Tryz.prog w 0 (fun _ => true) true fuel 61 cs = some x) :
    ∃ (x0 : ByteArray) (x1 : Bool) (x2 : Bool) (x3 : ByteArray) (x4 : Int) (x5 : Int) (x6 : ByteArray) (x7 : Value) (x8 : Value), cs = [.string x0, .bool x1, .bool x2, .string x3, .int .u8 x4, .int .u64 x5, .string x6, x7, x8] ∧ (Lit.int .u8 x4).wf = true ∧ (Lit.int .u64 x5).wf = true ∧ IsSlice x7 ∧ IsSlice x8 := by
  obtain ⟨xs, n, _, _, hl, hlen, hf⟩ := DataW.trod_struct Tryz.underlying61 h
  have hl : cs.length = 9 := hl.trans Tryz.cells61
  match cs, hl, xs, hlen with
  | [c0, c1, c2, c3, c4, c5, c6, c7, c8], _, [y0, y1, y2, y3, y4], _ =>
    have h0 : DataW.trod enc Tryz.prog w 0 (fun _ => true) true n 9 [c0] = some y0 := by simpa [Tryz.cells9] using hf 0 _ rfl
    obtain ⟨x0, e0, _⟩ := DataW.trod_string Tryz.underlying9 h0
    cases e0
    have h1 : DataW.trod enc Tryz.prog w 0 (fun _ => true) true n 4 [c1] = some y1 := by simpa [Tryz.cells4] using hf 1 _ rfl
    obtain ⟨x1, e1, _⟩ := DataW.trod_bool Tryz.underlying4 h1
    cases e1
    have h2 : DataW.trod enc Tryz.prog w 0 (fun _ => true) true n 4 [c2] = some y2 := by simpa [Tryz.cells4] using hf 2 _ rfl
    obtain ⟨x2, e2, _⟩ := DataW.trod_bool Tryz.underlying4 h2
    cases e2
    have h3 : DataW.trod enc Tryz.prog w 0 (fun _ => true) true n 9 [c3] = some y3 := by simpa [Tryz.cells9] using hf 3 _ rfl
    obtain ⟨x3, e3, _⟩ := DataW.trod_string Tryz.underlying9 h3
    cases e3
    have h4 : DataW.trod enc Tryz.prog w 0 (fun _ => true) true n 59 [c4, c5, c6, c7, c8] = some y4 := by simpa [Tryz.cells59] using hf 4 _ rfl
    obtain ⟨x4, x5, x6, x7, x8, e4, w4_0, w4_1, w4_2, w4_3⟩ := read_T59 h4
    cases e4
    exact ⟨_, _, _, _, _, _, _, _, _, rfl, w4_0, w4_1, w4_2, w4_3⟩
theorem Tryz.cells63 : Tryz.prog.cellsOf 63 = 14 := by kernel_rfl
set_option maxRecDepth 100000 in
theorem read_T63 {H : Type} {enc : TypeId × Value → H} {w : World} {fuel : Nat} {cs : List Value} {x : DataW H × List MemPlace} (h : DataW.trod enc Tryz.prog w 0 (fun _ => true) true fuel 63 cs = some x) :
    ∃ (x0 : Int) (x1 : ByteArray) (x2 : ByteArray) (x3 : Int) (x4 : ByteArray) (x5 : Bool) (x6 : Bool) (x7 : ByteArray) (x8 : Int) (x9 : Int) (x10 : ByteArray) (x11 : Value) (x12 : Value) (x13 : ByteArray), cs = [.int .u64 x0, .string x1, .string x2, .int .u64 x3, .string x4, .bool x5, .bool x6, .string x7, .int .u8 x8, .int .u64 x9, .string x10, x11, x12, .string x13] ∧ (Lit.int .u64 x0).wf = true ∧ (Lit.int .u64 x3).wf = true ∧ (Lit.int .u8 x8).wf = true ∧ (Lit.int .u64 x9).wf = true ∧ IsSlice x11 ∧ IsSlice x12 := by
  obtain ⟨xs, n, _, _, hl, hlen, hf⟩ := DataW.trod_struct Tryz.underlying63 h
  have hl : cs.length = 14 := hl.trans Tryz.cells63
  match cs, hl, xs, hlen with
  | [c0, c1, c2, c3, c4, c5, c6, c7, c8, c9, c10, c11, c12, c13], _, [y0, y1, y2, y3, y4], _ =>
    have h0 : DataW.trod enc Tryz.prog w 0 (fun _ => true) true n 35 [c0] = some y0 := by simpa [Tryz.cells35] using hf 0 _ rfl
    obtain ⟨x0, e0, _, w0⟩ := DataW.trod_int Tryz.underlying35 h0
    cases e0
    have h1 : DataW.trod enc Tryz.prog w 0 (fun _ => true) true n 9 [c1] = some y1 := by simpa [Tryz.cells9] using hf 1 _ rfl
    obtain ⟨x1, e1, _⟩ := DataW.trod_string Tryz.underlying9 h1
    cases e1
    have h2 : DataW.trod enc Tryz.prog w 0 (fun _ => true) true n 54 [c2, c3] = some y2 := by simpa [Tryz.cells54] using hf 2 _ rfl
    obtain ⟨x2, x3, e2, w2_0⟩ := read_T54 h2
    cases e2
    have h3 : DataW.trod enc Tryz.prog w 0 (fun _ => true) true n 61 [c4, c5, c6, c7, c8, c9, c10, c11, c12] = some y3 := by simpa [Tryz.cells61] using hf 3 _ rfl
    obtain ⟨x4, x5, x6, x7, x8, x9, x10, x11, x12, e3, w3_0, w3_1, w3_2, w3_3⟩ := read_T61 h3
    cases e3
    have h4 : DataW.trod enc Tryz.prog w 0 (fun _ => true) true n 9 [c13] = some y4 := by simpa [Tryz.cells9] using hf 4 _ rfl
    obtain ⟨x13, e4, _⟩ := DataW.trod_string Tryz.underlying9 h4
    cases e4
    exact ⟨_, _, _, _, _, _, _, _, _, _, _, _, _, _, rfl, w0, w2_0, w3_0, w3_1, w3_2, w3_3⟩
theorem Tryz.cells65 : Tryz.prog.cellsOf 65 = 25 := by kernel_rfl
set_option maxRecDepth 100000 in
theorem read_T65 {H : Type} {enc : TypeId × Value → H} {w : World} {fuel : Nat} {cs : List Value} {x : DataW H × List MemPlace} (h : DataW.trod enc Tryz.prog w 0 (fun _ => true) true fuel 65 cs = some x) :
    ∃ (x0 : Int) (x1 : Int) (x2 : Int) (x3 : Int) (x4 : ByteArray) (x5 : ByteArray) (x6 : Int) (x7 : Int) (x8 : Int) (x9 : Int) (x10 : Int) (x11 : ByteArray) (x12 : ByteArray) (x13 : Int) (x14 : ByteArray) (x15 : Bool) (x16 : Bool) (x17 : ByteArray) (x18 : Int) (x19 : Int) (x20 : ByteArray) (x21 : Value) (x22 : Value) (x23 : ByteArray) (x24 : ByteArray), cs = [.int .i64 x0, .int .u8 x1, .int .i64 x2, .int .u32 x3, .string x4, .string x5, .int .u64 x6, .int .i64 x7, .int .i64 x8, .int .i64 x9, .int .u64 x10, .string x11, .string x12, .int .u64 x13, .string x14, .bool x15, .bool x16, .string x17, .int .u8 x18, .int .u64 x19, .string x20, x21, x22, .string x23, .string x24] ∧ (Lit.int .i64 x0).wf = true ∧ (Lit.int .u8 x1).wf = true ∧ (Lit.int .i64 x2).wf = true ∧ (Lit.int .u32 x3).wf = true ∧ (Lit.int .u64 x6).wf = true ∧ (Lit.int .i64 x7).wf = true ∧ (Lit.int .i64 x8).wf = true ∧ (Lit.int .i64 x9).wf = true ∧ (Lit.int .u64 x10).wf = true ∧ (Lit.int .u64 x13).wf = true ∧ (Lit.int .u8 x18).wf = true ∧ (Lit.int .u64 x19).wf = true ∧ IsSlice x21 ∧ IsSlice x22 := by
  obtain ⟨xs, n, _, _, hl, hlen, hf⟩ := DataW.trod_struct Tryz.underlying65 h
  have hl : cs.length = 25 := hl.trans Tryz.cells65
  match cs, hl, xs, hlen with
  | [c0, c1, c2, c3, c4, c5, c6, c7, c8, c9, c10, c11, c12, c13, c14, c15, c16, c17, c18, c19, c20, c21, c22, c23, c24], _, [y0, y1, y2, y3, y4, y5, y6], _ =>
    have h0 : DataW.trod enc Tryz.prog w 0 (fun _ => true) true n 24 [c0] = some y0 := by simpa [Tryz.cells24] using hf 0 _ rfl
    obtain ⟨x0, e0, _, w0⟩ := DataW.trod_int Tryz.underlying24 h0
    cases e0
    have h1 : DataW.trod enc Tryz.prog w 0 (fun _ => true) true n 50 [c1] = some y1 := by simpa [Tryz.cells50] using hf 1 _ rfl
    obtain ⟨x1, e1, _, w1⟩ := DataW.trod_int Tryz.underlying50 h1
    cases e1
    have h2 : DataW.trod enc Tryz.prog w 0 (fun _ => true) true n 3 [c2] = some y2 := by simpa [Tryz.cells3] using hf 2 _ rfl
    obtain ⟨x2, e2, _, w2⟩ := DataW.trod_int Tryz.underlying3 h2
    cases e2
    have h3 : DataW.trod enc Tryz.prog w 0 (fun _ => true) true n 32 [c3, c4, c5] = some y3 := by simpa [Tryz.cells32] using hf 3 _ rfl
    obtain ⟨x3, x4, x5, e3, w3_0⟩ := read_T32 h3
    cases e3
    have h4 : DataW.trod enc Tryz.prog w 0 (fun _ => true) true n 52 [c6, c7, c8, c9] = some y4 := by simpa [Tryz.cells52] using hf 4 _ rfl
    obtain ⟨x6, x7, x8, x9, e4, w4_0, w4_1, w4_2, w4_3⟩ := read_T52 h4
    cases e4
    have h5 : DataW.trod enc Tryz.prog w 0 (fun _ => true) true n 63 [c10, c11, c12, c13, c14, c15, c16, c17, c18, c19, c20, c21, c22, c23] = some y5 := by simpa [Tryz.cells63] using hf 5 _ rfl
    obtain ⟨x10, x11, x12, x13, x14, x15, x16, x17, x18, x19, x20, x21, x22, x23, e5, w5_0, w5_1, w5_2, w5_3, w5_4, w5_5⟩ := read_T63 h5
    cases e5
    have h6 : DataW.trod enc Tryz.prog w 0 (fun _ => true) true n 9 [c24] = some y6 := by simpa [Tryz.cells9] using hf 6 _ rfl
    obtain ⟨x24, e6, _⟩ := DataW.trod_string Tryz.underlying9 h6
    cases e6
    exact ⟨_, _, _, _, _, _, _, _, _, _, _, _, _, _, _, _, _, _, _, _, _, _, _, _, _, rfl, w0, w1, w2, w3_0, w4_0, w4_1, w4_2, w4_3, w5_0, w5_1, w5_2, w5_3, w5_4, w5_5⟩

theorem star : "*" ++ "errors.errorString" = "*errors.errorString" := by decide
theorem row185 (u : TypeId) (h : Tryz.prog.typeName? 3 u = some "*errors.errorString") : u = 185 :=
  typeName_ptr_named (nm := "errors.errorString") (by rw [star]; kernel_rfl) (by kernel_rfl) (by decide) u (by rw [star]; exact h)
theorem laidV_of {W : World} (hsh : W.ShapedOpen Tryz.prog) (h : laidMetH Tryz.prog Rows.scriptShowsRow.laid W) : LaidV W := by
  rw [MakeChecks.laidMetH_plain _ _ _ (by kernel_rfl)] at h
  obtain ⟨a, s, hv, hc, _, _⟩ := laid_sentinel h.tail.tail.tail.tail.tail gES gESType Tryz.underlying72 row185 Tryz.underlying185 Tryz.underlying187 rfl rfl Tryz.underlying9 cellsES Tryz.cells9
  obtain ⟨fr, hw⟩ := holds_var hsh (g := 4) (t := 72) (name := "strconv.ErrSyntax") gES (by rw [Hd.Tryz.nG]; decide) (by kernel_rfl) hv
  refine ⟨a, fr, ?_, hw⟩
  unfold World.cell? at hc
  split at hc
  · split at hc
    · cases hc
    · rename_i hsp
      cases hq : a.spot with
      | none => rfl
      | some x => rw [hq] at hsp; simp at hsp
  · cases hc

theorem powEq : (Rows.laid_internal_strconv_uint64pow10 : DataW Unit) = Lib.tabData .u64 Lib.pow10Tab := by kernel_rfl
theorem pow_of {W : World} (h : laidMetH Tryz.prog Rows.scriptShowsRow.laid W) : Pow W := by
  rw [MakeChecks.laidMetH_plain _ _ _ (by kernel_rfl)] at h
  have h2 : laidMet Tryz.prog (("internal/strconv.uint64pow10", Rows.laid_internal_strconv_uint64pow10) :: [("unicode/utf8.acceptRanges", Rows.laid_unicode_utf8_acceptRanges), ("strconv.ErrRange", Rows.laid_strconv_ErrRange), ("strconv.ErrSyntax", Rows.laid_strconv_ErrSyntax), ("unicode/utf8.first", Rows.laid_unicode_utf8_first)]) W := h.tail.tail
  rw [powEq] at h2
  exact Lib.tabIs_of_head (g := 1) (t := 171) (n := 20) (by kernel_rfl) (by kernel_rfl) Tryz.underlying171 (by kernel_rfl) (by kernel_rfl) (by kernel_rfl) h2
theorem wfI {x : Int} (h : (Lit.int .i64 x).wf = true) : I64 x := by
  simp only [Lit.wf, Bool.and_eq_true, decide_eq_true_eq] at h
  exact h
theorem wfU {x : Int} (h : (Lit.int .u64 x).wf = true) : ∃ u : Nat, x = (u : Int) ∧ u < 18446744073709551616 := by
  simp only [Lit.wf, Bool.and_eq_true, decide_eq_true_eq] at h
  have h1 : 0 ≤ x := h.1
  have h2 : x < 18446744073709551616 := Int.lt_of_le_of_lt h.2 (by decide)
  exact ⟨x.toNat, by omega, by omega⟩
theorem wfW {x : Int} (h : (Lit.int .u32 x).wf = true) : ∃ u : Nat, x = (u : Int) ∧ u < 4294967296 := by
  simp only [Lit.wf, Bool.and_eq_true, decide_eq_true_eq] at h
  have h1 : 0 ≤ x := h.1
  have h2 : x < 4294967296 := Int.lt_of_le_of_lt h.2 (by decide)
  exact ⟨x.toNat, by omega, by omega⟩
theorem wfB {x : Int} (h : (Lit.int .u8 x).wf = true) : ∃ u : Nat, x = (u : Int) ∧ u < 256 := by
  simp only [Lit.wf, Bool.and_eq_true, decide_eq_true_eq] at h
  have h1 : 0 ≤ x := h.1
  have h2 : x < 256 := Int.lt_of_le_of_lt h.2 (by decide)
  exact ⟨x.toNat, by omega, by omega⟩
/-- a Told's cells, its two lists as the caller has them -/
def Td.act (c : Td) (y l : Value) : Value := .agg ⟨[.int .i64 c.e, .int .u8 (c.xa : Int), .int .i64 c.n, .int .u32 (c.p.f : Int), .string c.p.g, .string c.p.b, .int .u64 (c.lim : Int), .int .i64 c.rdy, .int .i64 c.hld, .int .i64 c.sub,
  .int .u64 (c.ses : Int), .string c.tag, .string c.que, .int .u64 (c.rid : Int), .string c.key, .bool c.dur, .bool c.red, .string c.id, .int .u8 c.ak, .int .u64 c.an, .string c.ax, y, l, .string c.body, .string c.s]⟩
set_option maxRecDepth 100000 in
theorem read_args {H : Type} {enc : TypeId × Value → H} {w : World} {b0 : Nat} {v : Value} {d : DataW H} {p : List MemPlace} (hv : Value.okWide Tryz.prog w .any b0 65 v) (h : DataW.Trod enc Tryz.prog w 0 (fun _ => true) true 65 v d p) :
    ∃ (c : Td) (y l : Value), v = c.act y l ∧ c.Ok0 ∧ IsSlice y ∧ IsSlice l := by
  obtain ⟨⟨cs⟩, rfl, _⟩ := okWide_struct Tryz.underlying65 hv
  obtain ⟨fuel, hf⟩ := h
  obtain ⟨x0, x1, x2, x3, x4, x5, x6, x7, x8, x9, x10, x11, x12, x13, x14, x15, x16, x17, x18, x19, x20, x21, x22, x23, x24, he, w0, w1, w2, w3, w6, w7, w8, w9, w10, w13, w18, w19, w21, w22⟩ := read_T65 (cs := cs) hf
  cases he
  obtain ⟨u1, rfl, k1⟩ := wfB w1
  obtain ⟨u3, rfl, k3⟩ := wfW w3
  obtain ⟨u6, rfl, k6⟩ := wfU w6
  obtain ⟨u10, rfl, k10⟩ := wfU w10
  obtain ⟨u13, rfl, k13⟩ := wfU w13
  exact ⟨⟨x0, u1, x2, ⟨u3, x4, x5⟩, u6, x7, x8, x9, u10, x11, x12, u13, x14, x15, x16, x17, x18, x19, x20, none, 0, 0, none, 0, 0, x23, x24⟩, _, _, rfl, ⟨wfI w0, k1, wfI w2, k3, k6, wfI w7, wfI w8, wfI w9, k10, k13⟩, w21, w22⟩
set_option maxRecDepth 100000 in
theorem shows_calls {W : World} (hW : LaidV W) (hp : Pow W) {c : Td} {y l : Value} (hc : c.Ok0) (hy : IsSlice y) (hl : IsSlice l) : Calls Tryz.prog 6 #[c.act y l] W fun e W' => e = .returned (.bool true) ∧ Below W.heap.size W W' := by
  have hk : Tryz.prog.globals.size + [((placeOf y, none) : Arg), (placeOf l, none)].length + 1 ≤ maxId := by rw [Hd.Tryz.nG]; show 8 + 2 + 1 ≤ maxId; decide
  have hok : okG Tryz.prog.globals.size [] = true := by rw [Hd.Tryz.nG]; rfl
  obtain ⟨o1, n1, c1, v1⟩ := hy.rel (P := Tryz.prog) (l := [((placeOf y, none) : Arg), (placeOf l, none)].map (·.1)) 0 rfl
  obtain ⟨o2, n2, c2, v2⟩ := hl.rel (P := Tryz.prog) (l := [((placeOf y, none) : Arg), (placeOf l, none)].map (·.1)) 1 rfl
  refine calls_trueR (L := [(placeOf y, none), (placeOf l, none)]) (gl := []) (args := [.agg ⟨Td.cells { c with yo := o1, yn := n1, yc := c1, lo := o2, ln := n2, lc := c2 }⟩]) gP hok hk (fun x hx => by cases hx) ?_ (.cons (.agg (.cons (.int _ _) (.cons (.int _ _) (.cons (.int _ _) (.cons (.int _ _) (.cons (.string _) (.cons (.string _) (.cons (.int _ _) (.cons (.int _ _) (.cons (.int _ _) (.cons (.int _ _) (.cons (.int _ _) (.cons (.string _) (.cons (.string _) (.cons (.int _ _) (.cons (.string _) (.cons (.bool _) (.cons (.bool _) (.cons (.string _) (.cons (.int _ _) (.cons (.int _ _) (.cons (.string _) (.cons v1 (.cons v2 (.cons (.string _) (.cons (.string _) .nil)))))))))))))))))))))))))) .nil)
    (wc6 hp (head_kc hW _) ⟨hc.e, hc.xa, hc.n, hc.f, hc.lim, hc.rdy, hc.hld, hc.sub, hc.ses, hc.rid⟩ (wR_fine hok hk) ?_)
  · intro j p cs e hj
    match j, hj with
    | 0, hj => simp at hj
    | 1, hj => simp at hj
    | j + 2, hj => simp at hj
  · show Tryz.prog.globals.size + 2 + 1 + 3000000 < maxId
    rw [Hd.Tryz.nG]; decide
/-- the world that the program's own initialisers leave, Go's table of first bytes laid in it -/
noncomputable def doorW (os : Os) : World := { World.doorLaid Tryz.prog 400 os with heap := (World.doorLaid Tryz.prog 400 os).heap.set! 2 (.cells ⟨Go.Pinned.utf8FirstZ.map fun (n : Nat) => Value.int .u8 n⟩ 175 (0, 0)) }

/-- The world that the program's own initialisers leave meets the condition. -/
theorem door_met (os : Os) (args : Array Value) : laidMetH Tryz.prog Rows.scriptShowsRow.laid ((doorW os).forCall (fun _ _ => 0) ⟨#[], args, []⟩).memory :=
  laidMetH_of_parts3 (fuel := 8) (laidMet_of_run' 8 (by kernel_rfl) (by kernel_rfl)) (by kernel_rfl) (by kernel_rfl)

set_option maxRecDepth 100000 in
theorem scriptShows_lifted (os : Os) (started : os.Started) (H : Type) (enc : TypeId × Value → H) :
    ReturnsInHanded {} Tryz.checked os 6 .any (fun w args => (Rows.scriptShowsSpec.pre enc Tryz.prog Tryz.f6 [] false w args ∧ laidMetH Tryz.prog Rows.scriptShowsRow.laid w) ∧ sizedMet enc Tryz.prog Tryz.f6 (OpenSpec.ofChange Rows.scriptShowsSpec) false w args)
      (Rows.scriptShowsSpec.post enc Tryz.prog Tryz.f6 false true false false) := by
  refine returnsInHanded_and_shaped (C := Tryz.checked) (X := fun w _ => laidMetH Tryz.prog Rows.scriptShowsRow.laid w) (fun _ _ _ hh h => h.of_heap hh) Tryz.own started (by kernel_rfl) Tryz.func6
    (ChangeSpec.witness_shaped (enc := enc) (C := Tryz.checked) (os := os) (X := fun w _ => laidMetH Tryz.prog Rows.scriptShowsRow.laid w) false (doorW os) #[.agg #[.int .i64 0, .int .u8 0, .int .i64 0, .int .u32 0, .string .empty, .string .empty, .int .u64 0, .int .i64 0, .int .i64 0, .int .i64 0, .int .u64 0, .string .empty, .string .empty, .int .u64 0, .string .empty, .bool false, .bool false, .string .empty, .int .u8 0, .int .u64 0, .string .empty, .slice none 0 0, .slice none 0 0, .string .empty, .string .empty]] 8 rfl (World.shaped_of_RefB (by kernel_rfl) (by kernel_rfl)) (by kernel_rfl) (by kernel_rfl) (by kernel_rfl) (door_met os _)) ?_
  intro W base args ds gs before hval0 hW _ _ hL hsh
  have hval : ∀ (j : Nat) t v, Tryz.f6.params[j]? = some t → args[j]? = some v → Value.okWide Tryz.prog W .any base t v := hval0
  have hW' := hW
  obtain ⟨p, q, hA0, hV, rfl, hfz, hnd⟩ := hW
  have hA : DataW.TrodAll enc Tryz.prog W 0 (fun _ => true) true Tryz.f6.params.toList args.toList ds p := hA0
  rw [Tryz.params6] at hA hval
  obtain ⟨v0, d0, rfl, rfl, h0⟩ := trodAll_one hA
  obtain ⟨rfl, rfl⟩ := trodVars_none hV
  obtain ⟨c, y, l, rfl, hc, hy, hl⟩ := read_args (hval 0 65 v0 rfl rfl) h0
  clear hA0 hval0
  simp only [List.append_nil] at hW'
  have hlt : ∀ x ∈ p, x.block < W.heap.size := fun x hx => by simpa using hW'.lt x hx
  refine (shows_calls (laidV_of hsh hL) (pow_of hL) hc hy hl).mono fun e W' ⟨he, hb⟩ => ?_
  subst he
  exact ⟨_, rfl, post_of_below (pa := p) (pv := []) hW' (fun _ _ _ => trodAll_mk1 (shut_bool Tryz.underlying4 _)) (fun sp hsp => trodAll_mk1
      (WideElems.Trod_stays Tryz.laidOut (by kernel_rfl) (of_decide_eq_true (by kernel_rfl)) h0 (fun x hx => hb.same (hlt x hx)) (fun x hx => hsp x (by simpa using hx)))) (fun _ _ => rfl) (by simp) hb
    (ok_one (by kernel_rfl) rfl (okWide_bool_mk Tryz.underlying4 _))⟩

theorem scriptShows_holds : Rows.ScriptShowsSaid :=
  OpenClaim.holds_of_wide 6 Tryz.f6 rfl rfl rfl rfl rfl rfl rfl ⟨rfl, rfl, rfl, rfl, rfl⟩ rfl rfl rfl rfl rfl (by kernel_rfl) Tryz.func6 (by kernel_rfl)
    (of_decide_eq_true (by kernel_rfl)) (by unfold Func.isWrapper; first | (rw [if_pos (by decide +kernel)]; kernel_rfl) | (rw [if_neg (by decide +kernel)]; exact ⟨rfl, rfl⟩))
    (fun os started H enc _ => scriptShows_lifted os started H enc)

theorem scriptShows_card : Rows.ScriptShowsCardSaid :=
  Claim7.holds_tied_plain_at .later [] [.data, .data, .data, .data, .sentinel, .sentinel, .pinned] true (true, "da46332cc93e85645593edd53063953065bcb73bad7ce245735f98f837272f36") true
    scriptShows_holds (fun _ h => by cases h) (by kernel_rfl) (fun _ h => by cases h) scriptShows_row_tie rfl ⟨rfl, rfl⟩ (by kernel_rfl) rfl
    (fun f fn hf hfn => by
      obtain rfl : f = 6 := Option.some.inj ((show Tryz.prog.funcNamed "posthouse/posthouselaw31.ScriptShows" = some 6 by kernel_rfl).symm.trans hf) |>.symm
      obtain rfl : fn = Tryz.f6 := (Option.some.inj (Tryz.func6.symm.trans hfn)).symm
      exact ⟨by kernel_rfl, fun j t ht => by
        rw [Tryz.params6] at ht
        have hm : t ∈ [65] := by simpa using Array.mem_of_getElem? ht
        have hall : ([65].all fun u => !Tryz.prog.wantsStandIn u) = true := by kernel_rfl
        exact (show Tryz.prog.wantsStandIn t = false by simpa using List.all_eq_true.1 hall t hm)⟩)
    (by kernel_rfl)
#print axioms scriptShows_card
end Go.Proofs.YtebidlpekphaoaaGreatDoor
