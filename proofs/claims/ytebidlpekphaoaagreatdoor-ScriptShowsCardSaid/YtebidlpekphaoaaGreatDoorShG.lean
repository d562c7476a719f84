/-
  What Show does with a Told, by the program and by the document, once the name's text is known: printed by a program of ours. Conditions: those of each theorem.
-/
import Derived.Test.YtebidlpekphaoaaGreatDoorShF

namespace Go.Proofs.YtebidlpekphaoaaGreatDoor
open Go.Abs
theorem quoteB_len (l : List UInt8) : (quoteB l).length ≤ 3 * l.length + 1 := by
  unfold quoteB
  split
  · simp
  · have := escL_len l; omega
/-- a Told, as it lies in memory -/
structure Td where
  e : Int
  xa : Nat
  n : Int
  p : Nm
  lim : Nat
  rdy : Int
  hld : Int
  sub : Int
  ses : Nat
  tag : ByteArray
  que : ByteArray
  rid : Nat
  key : ByteArray
  dur : Bool
  red : Bool
  id : ByteArray
  ak : Int
  an : Int
  ax : ByteArray
  yo : Option Addr
  yn : Nat
  yc : Nat
  lo : Option Addr
  ln : Nat
  lc : Nat
  body : ByteArray
  s : ByteArray
def Td.dl (c : Td) : List Value := [.int .u64 (c.ses : Int), .string c.tag, .string c.que, .int .u64 (c.rid : Int), .string c.key, .bool c.dur, .bool c.red, .string c.id, .int .u8 c.ak, .int .u64 c.an, .string c.ax, .slice c.yo c.yn c.yc, .slice c.lo c.ln c.lc, .string c.body]
def Td.cells (c : Td) : List Value := [.int .i64 c.e, .int .u8 (c.xa : Int), .int .i64 c.n, .int .u32 (c.p.f : Int), .string c.p.g, .string c.p.b, .int .u64 (c.lim : Int), .int .i64 c.rdy, .int .i64 c.hld, .int .i64 c.sub,
  .int .u64 (c.ses : Int), .string c.tag, .string c.que, .int .u64 (c.rid : Int), .string c.key, .bool c.dur, .bool c.red, .string c.id, .int .u8 c.ak, .int .u64 c.an, .string c.ax, .slice c.yo c.yn c.yc, .slice c.lo c.ln c.lc, .string c.body, .string c.s]
def I64 (n : Int) : Prop := -9223372036854775808 ≤ n ∧ n ≤ 9223372036854775807
structure Td.Ok (c : Td) : Prop where
  e : I64 c.e
  xa : c.xa < 256
  n : I64 c.n
  p : Nice c.p
  lim : c.lim < 18446744073709551616
  rdy : I64 c.rdy
  hld : I64 c.hld
  sub : I64 c.sub
  ses : c.ses < 18446744073709551616
  tag : c.tag.data.toList.length ≤ 2000
  que : c.que.data.toList.length ≤ 2000
  rid : c.rid < 18446744073709551616
  id : c.id.data.toList.length ≤ 2000
  body : c.body.data.toList.length ≤ 2000
  s : c.s.data.toList.length ≤ 2000
theorem Td.dl1 (c : Td) : c.dl.all oneCell = true := rfl
theorem Td.all1 (c : Td) : c.cells.all oneCell = true := rfl
/-- the texts that are shown -/
def Td.words (c : Td) (x : ByteArray) : List ByteArray := [⟨⟨Lib.itoa c.e⟩⟩, ⟨⟨Lib.decDigits c.xa⟩⟩, ⟨⟨Lib.itoa c.n⟩⟩, x, ⟨⟨Lib.decDigits c.lim⟩⟩, ⟨⟨Lib.itoa c.rdy⟩⟩, ⟨⟨Lib.itoa c.hld⟩⟩, ⟨⟨Lib.itoa c.sub⟩⟩, ⟨⟨Lib.decDigits c.ses⟩⟩,
  ⟨⟨quoteB (bl c.tag)⟩⟩, ⟨⟨quoteB (bl c.que)⟩⟩, ⟨⟨Lib.decDigits c.rid⟩⟩, ⟨⟨if c.red = true then [49] else [48]⟩⟩, ⟨⟨quoteB (bl c.id)⟩⟩, ⟨⟨quoteB (bl c.body)⟩⟩, ⟨⟨quoteB (bl c.s)⟩⟩]
theorem bl_sp : bl ⟨⟨[32]⟩⟩ = [32] := rfl
theorem ck {r : Option Value} {v : Value} {p : Prop} (h : r = some v) (hp : p) : pureW r fun t => eqW t v p := ⟨v, h, rfl, hp⟩
theorem ckb {r : R Value} {v : Value} {A : AW} {p : Prop} (h : r = .ok v A) (hp : p) : bothW r fun t _ => eqW t v p := ⟨v, A, h, rfl, hp⟩
theorem bothW_of {r : R Value} {v : Value} {A : AW} {K : Value → AW → Prop} (h : r = .ok v A) (hk : K v A) : bothW r K := ⟨v, A, h, hk⟩
theorem cv_50_3 (A : AW) (n : Int) (k : IntKind) : convertA Tryz.prog A 50 3 (.int k n) = .ok (.int .i64 (IntKind.i64.wrap n)) A := by kernel_rfl
theorem cvx {n : Nat} (h : n < 256) (A : AW) : convertA Tryz.prog A 50 3 (.int .u8 (n : Int)) = .ok (.int .i64 (n : Int)) A := by
  rw [cv_50_3, wrap_i64 (by omega) (by omega)]
theorem addS {x y : ByteArray} (h : (bl x).length + (bl y).length < 1099511627776) : ∃ S : ByteArray, bl S = bl x ++ bl y ∧ ∀ xo yo, binA Tryz.prog .add 9 xo yo (.string x) (.string y) = some (.string S) :=
  ⟨⟨⟨bl x ++ bl y⟩⟩, rfl, fun _ _ => add9 h⟩
theorem itoa_le {n : Int} (h0 : -9223372036854775808 ≤ n) (h1 : n ≤ 9223372036854775807) : (Lib.itoa n).length ≤ 21 := by
  rcases Int.lt_or_le n 0 with h | h
  · obtain ⟨u, hu⟩ : ∃ u : Nat, n = -(u : Int) := ⟨(-n).toNat, by omega⟩
    subst hu
    rw [Lib.itoa_neg _ (by omega)]
    have := dec_le20 (n := u) (by omega)
    simp only [List.length_cons, List.length_append, List.length_nil]
    omega
  · obtain ⟨u, rfl⟩ : ∃ u : Nat, n = (u : Int) := ⟨n.toNat, by omega⟩
    rw [Lib.itoa_nonneg]
    have := dec_le20 (n := u) (by omega)
    omega
theorem red_le (b : Bool) : (if b = true then [49] else [48] : List UInt8).length ≤ 1 := by cases b <;> decide
theorem zero63 : zeroT Tryz.prog 63 = some (.agg #[.int .u64 0, .string .empty, .string .empty, .int .u64 0, .string .empty, .bool false, .bool false, .string .empty, .int .u8 0, .int .u64 0, .string .empty, .slice none 0 0, .slice none 0 0, .string .empty]) := by kernel_rfl
theorem load63 {c : Td} {A : AW} {b : Nat} {e : TypeId} (h : Go.Abs.Row1 A b c.cells e) : loadP Tryz.prog A 63 (.pointer (some ⟨b, 10, none⟩)) = some (.agg ⟨c.dl⟩) := by
  rw [ld_63, cells_row h.row]; rfl
theorem loadX {c : Td} {A : AW} {b : Nat} {e : TypeId} (h : Go.Abs.Row1 A b c.cells e) : loadP Tryz.prog A 32 (.pointer (some ⟨b, 3, none⟩)) = some (.agg ⟨c.p.cells⟩) := by
  rw [ld_32, cells_row h.row]; rfl
theorem tdL {c : Td} {A : AW} {b : Nat} {e : TypeId} (h : Go.Abs.Row1 A b c.cells e) : loadP Tryz.prog A 24 (.pointer (some ⟨b, 0, none⟩)) = some (.int .i64 c.e) ∧ loadP Tryz.prog A 50 (.pointer (some ⟨b, 1, none⟩)) = some (.int .u8 (c.xa : Int)) ∧ loadP Tryz.prog A 3 (.pointer (some ⟨b, 2, none⟩)) = some (.int .i64 c.n) ∧
    loadP Tryz.prog A 35 (.pointer (some ⟨b, 6, none⟩)) = some (.int .u64 (c.lim : Int)) ∧ loadP Tryz.prog A 3 (.pointer (some ⟨b, 7, none⟩)) = some (.int .i64 c.rdy) ∧ loadP Tryz.prog A 3 (.pointer (some ⟨b, 8, none⟩)) = some (.int .i64 c.hld) ∧ loadP Tryz.prog A 3 (.pointer (some ⟨b, 9, none⟩)) = some (.int .i64 c.sub) ∧ loadP Tryz.prog A 9 (.pointer (some ⟨b, 24, none⟩)) = some (.string c.s) := by
  refine ⟨?_, ?_, ?_, ?_, ?_, ?_, ?_, ?_⟩
  · rw [ld_24, cell_row h.row]; rfl
  · rw [ld_50, cell_row h.row]; rfl
  · rw [ld_3, cell_row h.row]; rfl
  · rw [ld_35, cell_row h.row]; rfl
  · rw [ld_3, cell_row h.row]; rfl
  · rw [ld_3, cell_row h.row]; rfl
  · rw [ld_3, cell_row h.row]; rfl
  · rw [ld_9, cell_row h.row]; rfl
theorem dlL {c : Td} {A : AW} {b : Nat} {e : TypeId} (h : Go.Abs.Row1 A b c.dl e) : loadP Tryz.prog A 35 (.pointer (some ⟨b, 0, none⟩)) = some (.int .u64 (c.ses : Int)) ∧ loadP Tryz.prog A 9 (.pointer (some ⟨b, 1, none⟩)) = some (.string c.tag) ∧ loadP Tryz.prog A 9 (.pointer (some ⟨b, 2, none⟩)) = some (.string c.que) ∧
    loadP Tryz.prog A 35 (.pointer (some ⟨b, 3, none⟩)) = some (.int .u64 (c.rid : Int)) ∧ loadP Tryz.prog A 4 (.pointer (some ⟨b, 6, none⟩)) = some (.bool c.red) ∧ loadP Tryz.prog A 9 (.pointer (some ⟨b, 7, none⟩)) = some (.string c.id) ∧ loadP Tryz.prog A 9 (.pointer (some ⟨b, 13, none⟩)) = some (.string c.body) := by
  refine ⟨?_, ?_, ?_, ?_, ?_, ?_, ?_⟩
  · rw [ld_35, cell_row h.row]; rfl
  · rw [ld_9, cell_row h.row]; rfl
  · rw [ld_9, cell_row h.row]; rfl
  · rw [ld_35, cell_row h.row]; rfl
  · rw [ld_4, cell_row h.row]; rfl
  · rw [ld_9, cell_row h.row]; rfl
  · rw [ld_9, cell_row h.row]; rfl
section
variable {W0 : World} {m0 : Inj Tryz.prog}
theorem wc49s {b : Bool} {A : AW} {K : Value → AW → Prop} (hk : K (.string ⟨⟨if b = true then [49] else [48]⟩⟩) A) : Wc Tryz.prog theX W0 m0 49 [.bool b, .string ⟨⟨[49]⟩⟩, .string ⟨⟨[48]⟩⟩] A K := wc49 (by cases b <;> exact hk)
theorem wc34s {b : Bool} {A : AW} {K : Value → AW → Prop} (hk : K (.string ⟨⟨if b = true then [49] else [48]⟩⟩) A) : Wc Tryz.prog theX W0 m0 34 [.bool b, .string ⟨⟨[49]⟩⟩, .string ⟨⟨[48]⟩⟩] A K := wc34 (by cases b <;> exact hk)
end
theorem bs56 (A : AW) (s0 s1 s2 s3 s4 s5 s6 s7 s8 s9 s10 s11 s12 s13 s14 s15 : ByteArray) : buildSliceA Tryz.prog A 56 16 [(0, .string s0), (1, .string s1), (2, .string s2), (3, .string s3), (4, .string s4), (5, .string s5), (6, .string s6), (7, .string s7), (8, .string s8), (9, .string s9), (10, .string s10), (11, .string s11), (12, .string s12), (13, .string s13), (14, .string s14), (15, .string s15)] = (match A.newRow [.string s0, .string s1, .string s2, .string s3, .string s4, .string s5, .string s6, .string s7, .string s8, .string s9, .string s10, .string s11, .string s12, .string s13, .string s14, .string s15] 9 with | some (a, w') => .ok (.slice (some a) 16 16) w' | none => .fail "buildSlice new") := by kernel_rfl
theorem new16 {A : AW} {s0 s1 s2 s3 s4 s5 s6 s7 s8 s9 s10 s11 s12 s13 s14 s15 : ByteArray} {K : Value → AW → Prop} (hf : Fine A) (h : A.next < maxId) (hk : ∀ A', Made A A' [.string s0, .string s1, .string s2, .string s3, .string s4, .string s5, .string s6, .string s7, .string s8, .string s9, .string s10, .string s11, .string s12, .string s13, .string s14, .string s15] 9 → K (.slice (some ⟨A.next, 0, none⟩) 16 16) A') : bothW (buildSliceA Tryz.prog A 56 16 [(0, .string s0), (1, .string s1), (2, .string s2), (3, .string s3), (4, .string s4), (5, .string s5), (6, .string s6), (7, .string s7), (8, .string s8), (9, .string s9), (10, .string s10), (11, .string s11), (12, .string s12), (13, .string s13), (14, .string s14), (15, .string s15)]) K := by
  rw [bs56]
  unfold AW.newRow AW.new
  have hc : ([Value.string s0, .string s1, .string s2, .string s3, .string s4, .string s5, .string s6, .string s7, .string s8, .string s9, .string s10, .string s11, .string s12, .string s13, .string s14, .string s15].all oneCell) = true := rfl
  simp only [hc, cond_true, blt_true.2 h]
  exact bothW_ok.2 (hk (A.push (.row [.string s0, .string s1, .string s2, .string s3, .string s4, .string s5, .string s6, .string s7, .string s8, .string s9, .string s10, .string s11, .string s12, .string s13, .string s14, .string s15] 9 A.next 0 false)) ⟨AW.push_ext _ h, rfl, by rw [AW.push_get _ h, if_pos rfl], hf.alone (Nat.le_refl _), hf.push _ h⟩)
theorem fresh16 (s0 s1 s2 s3 s4 s5 s6 s7 s8 s9 s10 s11 s12 s13 s14 s15 : ByteArray) : freshOf Tryz.prog (evalT (Tm.fill ⟨16, .nil⟩ 0 [.string s0, .string s1, .string s2, .string s3, .string s4, .string s5, .string s6, .string s7, .string s8, .string s9, .string s10, .string s11, .string s12, .string s13, .string s14, .string s15])) (.buildSlice 56 16 #[(0, .tmp 0), (1, .tmp 1), (2, .tmp 2), (3, .tmp 3), (4, .tmp 4), (5, .tmp 5), (6, .tmp 6), (7, .tmp 7), (8, .tmp 8), (9, .tmp 9), (10, .tmp 10), (11, .tmp 11), (12, .tmp 12), (13, .tmp 13), (14, .tmp 14), (15, .tmp 15)]) = some (.slice [.string s0, .string s1, .string s2, .string s3, .string s4, .string s5, .string s6, .string s7, .string s8, .string s9, .string s10, .string s11, .string s12, .string s13, .string s14, .string s15] 9 16) := by kernel_rfl
theorem freshW_16 {A : AW} {q : Nat} {s0 s1 s2 s3 s4 s5 s6 s7 s8 s9 s10 s11 s12 s13 s14 s15 : ByteArray} {p : Prop} (h : A.get q = some (.row [.string s0, .string s1, .string s2, .string s3, .string s4, .string s5, .string s6, .string s7, .string s8, .string s9, .string s10, .string s11, .string s12, .string s13, .string s14, .string s15] 9 q 0 false)) (hp : p) : freshW (freshOf Tryz.prog (evalT (Tm.fill ⟨16, .nil⟩ 0 [.string s0, .string s1, .string s2, .string s3, .string s4, .string s5, .string s6, .string s7, .string s8, .string s9, .string s10, .string s11, .string s12, .string s13, .string s14, .string s15])) (.buildSlice 56 16 #[(0, .tmp 0), (1, .tmp 1), (2, .tmp 2), (3, .tmp 3), (4, .tmp 4), (5, .tmp 5), (6, .tmp 6), (7, .tmp 7), (8, .tmp 8), (9, .tmp 9), (10, .tmp 10), (11, .tmp 11), (12, .tmp 12), (13, .tmp 13), (14, .tmp 14), (15, .tmp 15)])) A (.slice (some ⟨q, 0, none⟩) 16 16) p := by
  refine ⟨⟨_, fresh16 _ _ _ _ _ _ _ _ _ _ _ _ _ _ _ _, ?_⟩, hp⟩
  simp only [stillFresh, rowHas, h, sameL, same_string, Bool.and_self, Option.isNone_none, Bool.true_and, Nat.beq_refl]
set_option maxRecDepth 100000 in
theorem tail18_ok {W0 : World} {m0 : Inj Tryz.prog} {c : Td} {b : Nat} {x : ByteArray} {A : AW} {Q : Value → AW → Prop} (hp : Pow W0) (hc : c.Ok) (hx : (bl x).length ≤ 400) (r : Go.Abs.Row1 A b c.cells 65) (hf : Fine A) (hA : A.next + 200000 < maxId) (hk : ∀ A', Grow A A' 150000 → Q (.string ⟨⟨joinT (c.words x)⟩⟩) A') : Tail18 W0 m0 Q (.pointer (some ⟨b, 0, none⟩)) (.string x) A := by
  have r_ := r
  have h32 : (bl ⟨⟨[32]⟩⟩).length ≤ 1 := Nat.le_refl _
  unfold Tail18
  have f65_5_0 : fieldAddrA Tryz.prog 65 (.pointer (some ⟨b, 0, none⟩)) 5 = some (.pointer (some ⟨b, 10, none⟩)) := fa_65_5 _ 0
  refine pureW_of (v := .pointer (some ⟨b, 10, none⟩)) f65_5_0 ?_
  refine pureW_of (v := .agg ⟨c.dl⟩) (load63 r_) ?_
  refine allocP_made zero63 hf (by omega) rfl fun A1 m1 => ?_
  have n1 := m1.next
  refine Go.Abs.Row1.store (n := 14) (off := 0) (v := .agg ⟨c.dl⟩) m1.row1 m1.fine (by omega) (st_63 _ _ _) rfl (by decide) c.dl1 fun A2 r2 k2 n2 f2 => ?_
  have d2 : Go.Abs.Row1 A2 A.next c.dl 63 := r2
  have r2 := (r.keeps (m1.keeps hf) (by simp)).keeps k2 (by have := r.lt; rw [List.mem_singleton]; omega)
  have g2 : Grow A A2 1 := ((Grow.made m1 hf).own k2 (fun x hx => by rw [List.mem_singleton.1 hx]; exact Nat.le_refl _) (m := 0) (by omega) f2)
  obtain ⟨L2_0, L2_1, L2_2, L2_6, L2_7, L2_8, L2_9, L2_24⟩ := tdL r2
  obtain ⟨D2_0, D2_1, D2_2, D2_3, D2_6, D2_7, D2_13⟩ := dlL d2
  have f65_0_0 : fieldAddrA Tryz.prog 65 (.pointer (some ⟨b, 0, none⟩)) 0 = some (.pointer (some ⟨b, 0, none⟩)) := fa_65_0 _ 0
  refine pureW_of (v := .pointer (some ⟨b, 0, none⟩)) f65_0_0 ?_
  refine pureW_of (v := .int .i64 c.e) L2_0 ?_
  have f65_1_0 : fieldAddrA Tryz.prog 65 (.pointer (some ⟨b, 0, none⟩)) 1 = some (.pointer (some ⟨b, 1, none⟩)) := fa_65_1 _ 0
  refine pureW_of (v := .pointer (some ⟨b, 1, none⟩)) f65_1_0 ?_
  refine pureW_of (v := .int .u8 (c.xa : Int)) L2_1 ?_
  have f65_2_0 : fieldAddrA Tryz.prog 65 (.pointer (some ⟨b, 0, none⟩)) 2 = some (.pointer (some ⟨b, 2, none⟩)) := fa_65_2 _ 0
  refine pureW_of (v := .pointer (some ⟨b, 2, none⟩)) f65_2_0 ?_
  refine pureW_of (v := .int .i64 c.n) L2_2 ?_
  have f65_4_0 : fieldAddrA Tryz.prog 65 (.pointer (some ⟨b, 0, none⟩)) 4 = some (.pointer (some ⟨b, 6, none⟩)) := fa_65_4 _ 0
  refine pureW_of (v := .pointer (some ⟨b, 6, none⟩)) f65_4_0 ?_
  have f52_0_6 : fieldAddrA Tryz.prog 52 (.pointer (some ⟨b, 6, none⟩)) 0 = some (.pointer (some ⟨b, 6, none⟩)) := fa_52_0 _ 6
  refine pureW_of (v := .pointer (some ⟨b, 6, none⟩)) f52_0_6 ?_
  refine pureW_of (v := .int .u64 (c.lim : Int)) L2_6 ?_
  refine pureW_of (v := .pointer (some ⟨b, 6, none⟩)) f65_4_0 ?_
  have f52_1_6 : fieldAddrA Tryz.prog 52 (.pointer (some ⟨b, 6, none⟩)) 1 = some (.pointer (some ⟨b, 7, none⟩)) := fa_52_1 _ 6
  refine pureW_of (v := .pointer (some ⟨b, 7, none⟩)) f52_1_6 ?_
  refine pureW_of (v := .int .i64 c.rdy) L2_7 ?_
  refine pureW_of (v := .pointer (some ⟨b, 6, none⟩)) f65_4_0 ?_
  have f52_2_6 : fieldAddrA Tryz.prog 52 (.pointer (some ⟨b, 6, none⟩)) 2 = some (.pointer (some ⟨b, 8, none⟩)) := fa_52_2 _ 6
  refine pureW_of (v := .pointer (some ⟨b, 8, none⟩)) f52_2_6 ?_
  refine pureW_of (v := .int .i64 c.hld) L2_8 ?_
  refine pureW_of (v := .pointer (some ⟨b, 6, none⟩)) f65_4_0 ?_
  have f52_3_6 : fieldAddrA Tryz.prog 52 (.pointer (some ⟨b, 6, none⟩)) 3 = some (.pointer (some ⟨b, 9, none⟩)) := fa_52_3 _ 6
  refine pureW_of (v := .pointer (some ⟨b, 9, none⟩)) f52_3_6 ?_
  refine pureW_of (v := .int .i64 c.sub) L2_9 ?_
  have f63_0_0 : fieldAddrA Tryz.prog 63 (.pointer (some ⟨A.next, 0, none⟩)) 0 = some (.pointer (some ⟨A.next, 0, none⟩)) := fa_63_0 _ 0
  refine pureW_of (v := .pointer (some ⟨A.next, 0, none⟩)) f63_0_0 ?_
  refine pureW_of (v := .int .u64 (c.ses : Int)) D2_0 ?_
  have f63_1_0 : fieldAddrA Tryz.prog 63 (.pointer (some ⟨A.next, 0, none⟩)) 1 = some (.pointer (some ⟨A.next, 1, none⟩)) := fa_63_1 _ 0
  refine pureW_of (v := .pointer (some ⟨A.next, 1, none⟩)) f63_1_0 ?_
  refine pureW_of (v := .string c.tag) D2_1 ?_
  have f63_2_0 : fieldAddrA Tryz.prog 63 (.pointer (some ⟨A.next, 0, none⟩)) 2 = some (.pointer (some ⟨A.next, 2, none⟩)) := fa_63_2 _ 0
  refine pureW_of (v := .pointer (some ⟨A.next, 2, none⟩)) f63_2_0 ?_
  have f54_0_2 : fieldAddrA Tryz.prog 54 (.pointer (some ⟨A.next, 2, none⟩)) 0 = some (.pointer (some ⟨A.next, 2, none⟩)) := fa_54_0 _ 2
  refine pureW_of (v := .pointer (some ⟨A.next, 2, none⟩)) f54_0_2 ?_
  refine pureW_of (v := .string c.que) D2_2 ?_
  refine pureW_of (v := .pointer (some ⟨A.next, 2, none⟩)) f63_2_0 ?_
  have f54_1_2 : fieldAddrA Tryz.prog 54 (.pointer (some ⟨A.next, 2, none⟩)) 1 = some (.pointer (some ⟨A.next, 3, none⟩)) := fa_54_1 _ 2
  refine pureW_of (v := .pointer (some ⟨A.next, 3, none⟩)) f54_1_2 ?_
  refine pureW_of (v := .int .u64 (c.rid : Int)) D2_3 ?_
  have f63_3_0 : fieldAddrA Tryz.prog 63 (.pointer (some ⟨A.next, 0, none⟩)) 3 = some (.pointer (some ⟨A.next, 4, none⟩)) := fa_63_3 _ 0
  refine pureW_of (v := .pointer (some ⟨A.next, 4, none⟩)) f63_3_0 ?_
  have f61_2_4 : fieldAddrA Tryz.prog 61 (.pointer (some ⟨A.next, 4, none⟩)) 2 = some (.pointer (some ⟨A.next, 6, none⟩)) := fa_61_2 _ 4
  refine pureW_of (v := .pointer (some ⟨A.next, 6, none⟩)) f61_2_4 ?_
  refine pureW_of (v := .bool c.red) D2_6 ?_
  refine pureW_of (v := .pointer (some ⟨A.next, 4, none⟩)) f63_3_0 ?_
  have f61_3_4 : fieldAddrA Tryz.prog 61 (.pointer (some ⟨A.next, 4, none⟩)) 3 = some (.pointer (some ⟨A.next, 7, none⟩)) := fa_61_3 _ 4
  refine pureW_of (v := .pointer (some ⟨A.next, 7, none⟩)) f61_3_4 ?_
  refine pureW_of (v := .string c.id) D2_7 ?_
  have f63_4_0 : fieldAddrA Tryz.prog 63 (.pointer (some ⟨A.next, 0, none⟩)) 4 = some (.pointer (some ⟨A.next, 13, none⟩)) := fa_63_4 _ 0
  refine pureW_of (v := .pointer (some ⟨A.next, 13, none⟩)) f63_4_0 ?_
  refine pureW_of (v := .string c.body) D2_13 ?_
  have f65_6_0 : fieldAddrA Tryz.prog 65 (.pointer (some ⟨b, 0, none⟩)) 6 = some (.pointer (some ⟨b, 24, none⟩)) := fa_65_6 _ 0
  refine pureW_of (v := .pointer (some ⟨b, 24, none⟩)) f65_6_0 ?_
  refine pureW_of (v := .string c.s) L2_24 ?_
  refine wc46 hp hc.e.1 hc.e.2 ?_
  refine ck L2_24 (ck f65_6_0 (ck D2_13 (ck f63_4_0 (ck D2_7 (ck f61_3_4 (ck f63_3_0 (ck D2_6 ?_)))))))
  refine ck f61_2_4 (ck f63_3_0 (ck D2_3 (ck f54_1_2 (ck f63_2_0 (ck D2_2 (ck f54_0_2 (ck f63_2_0 ?_)))))))
  refine ck D2_1 (ck f63_1_0 (ck D2_0 (ck f63_0_0 (ck L2_9 (ck f52_3_6 (ck f65_4_0 (ck L2_8 ?_)))))))
  refine ck f52_2_6 (ck f65_4_0 (ck L2_7 (ck f52_1_6 (ck f65_4_0 (ck L2_6 (ck f52_0_6 (ck f65_4_0 ?_)))))))
  refine eqW_self.2 (ck L2_2 (ck f65_2_0 (ck L2_1 (ck f65_1_0 ?_))))
  refine wc47 hp hc.xa ?_
  refine ck L2_24 (ck f65_6_0 (ck D2_13 (ck f63_4_0 (ck D2_7 (ck f61_3_4 (ck f63_3_0 (ck D2_6 ?_)))))))
  refine ck f61_2_4 (ck f63_3_0 (ck D2_3 (ck f54_1_2 (ck f63_2_0 (ck D2_2 (ck f54_0_2 (ck f63_2_0 ?_)))))))
  refine ck D2_1 (ck f63_1_0 (ck D2_0 (ck f63_0_0 (ck L2_9 (ck f52_3_6 (ck f65_4_0 (ck L2_8 ?_)))))))
  refine ck f52_2_6 (ck f65_4_0 (ck L2_7 (ck f52_1_6 (ck f65_4_0 (ck L2_6 (ck f52_0_6 (ck f65_4_0 ?_)))))))
  refine eqW_self.2 (ck L2_2 (ck f65_2_0 ?_))
  refine wc46 hp hc.n.1 hc.n.2 ?_
  refine ck L2_24 (ck f65_6_0 (ck D2_13 (ck f63_4_0 (ck D2_7 (ck f61_3_4 (ck f63_3_0 (ck D2_6 ?_)))))))
  refine ck f61_2_4 (ck f63_3_0 (ck D2_3 (ck f54_1_2 (ck f63_2_0 (ck D2_2 (ck f54_0_2 (ck f63_2_0 ?_)))))))
  refine ck D2_1 (ck f63_1_0 (ck D2_0 (ck f63_0_0 (ck L2_9 (ck f52_3_6 (ck f65_4_0 (ck L2_8 ?_)))))))
  refine ck f52_2_6 (ck f65_4_0 (ck L2_7 (ck f52_1_6 (ck f65_4_0 (ck L2_6 (ck f52_0_6 (ck f65_4_0 ?_)))))))
  refine eqW_self.2 ?_
  refine wc48 hp hc.lim ?_
  refine ck L2_24 (ck f65_6_0 (ck D2_13 (ck f63_4_0 (ck D2_7 (ck f61_3_4 (ck f63_3_0 (ck D2_6 ?_)))))))
  refine ck f61_2_4 (ck f63_3_0 (ck D2_3 (ck f54_1_2 (ck f63_2_0 (ck D2_2 (ck f54_0_2 (ck f63_2_0 ?_)))))))
  refine ck D2_1 (ck f63_1_0 (ck D2_0 (ck f63_0_0 (ck L2_9 (ck f52_3_6 (ck f65_4_0 (ck L2_8 ?_)))))))
  refine ck f52_2_6 (ck f65_4_0 (ck L2_7 (ck f52_1_6 (ck f65_4_0 (eqW_self.2 ?_)))))
  refine wc46 hp hc.rdy.1 hc.rdy.2 ?_
  refine ck L2_24 (ck f65_6_0 (ck D2_13 (ck f63_4_0 (ck D2_7 (ck f61_3_4 (ck f63_3_0 (ck D2_6 ?_)))))))
  refine ck f61_2_4 (ck f63_3_0 (ck D2_3 (ck f54_1_2 (ck f63_2_0 (ck D2_2 (ck f54_0_2 (ck f63_2_0 ?_)))))))
  refine ck D2_1 (ck f63_1_0 (ck D2_0 (ck f63_0_0 (ck L2_9 (ck f52_3_6 (ck f65_4_0 (ck L2_8 ?_)))))))
  refine ck f52_2_6 (ck f65_4_0 (eqW_self.2 ?_))
  refine wc46 hp hc.hld.1 hc.hld.2 ?_
  refine ck L2_24 (ck f65_6_0 (ck D2_13 (ck f63_4_0 (ck D2_7 (ck f61_3_4 (ck f63_3_0 (ck D2_6 ?_)))))))
  refine ck f61_2_4 (ck f63_3_0 (ck D2_3 (ck f54_1_2 (ck f63_2_0 (ck D2_2 (ck f54_0_2 (ck f63_2_0 ?_)))))))
  refine ck D2_1 (ck f63_1_0 (ck D2_0 (ck f63_0_0 (ck L2_9 (ck f52_3_6 (ck f65_4_0 (eqW_self.2 ?_)))))))
  refine wc46 hp hc.sub.1 hc.sub.2 ?_
  refine ck L2_24 (ck f65_6_0 (ck D2_13 (ck f63_4_0 (ck D2_7 (ck f61_3_4 (ck f63_3_0 (ck D2_6 ?_)))))))
  refine ck f61_2_4 (ck f63_3_0 (ck D2_3 (ck f54_1_2 (ck f63_2_0 (ck D2_2 (ck f54_0_2 (ck f63_2_0 ?_)))))))
  refine ck D2_1 (ck f63_1_0 (ck D2_0 (ck f63_0_0 (eqW_self.2 ?_))))
  refine wc48 hp hc.ses ?_
  refine ck L2_24 (ck f65_6_0 (ck D2_13 (ck f63_4_0 (ck D2_7 (ck f61_3_4 (ck f63_3_0 (ck D2_6 ?_)))))))
  refine ck f61_2_4 (ck f63_3_0 (ck D2_3 (ck f54_1_2 (ck f63_2_0 (ck D2_2 (ck f54_0_2 (ck f63_2_0 ?_)))))))
  refine ck D2_1 (ck f63_1_0 (eqW_self.2 ?_))
  refine wc8 (by have := hc.tag; omega) f2 (by have := hc.tag; omega) fun A3 g3 => ?_
  have n3 := g3.next
  have l3 := hc.tag
  have r3 := r2.keeps g3.keeps (by simp)
  have d3 := d2.keeps g3.keeps (by simp)
  obtain ⟨L3_0, L3_1, L3_2, L3_6, L3_7, L3_8, L3_9, L3_24⟩ := tdL r3
  obtain ⟨D3_0, D3_1, D3_2, D3_3, D3_6, D3_7, D3_13⟩ := dlL d3
  have G3 := g2.trans g3
  refine ck L3_24 (ck f65_6_0 (ck D3_13 (ck f63_4_0 (ck D3_7 (ck f61_3_4 (ck f63_3_0 (ck D3_6 ?_)))))))
  refine ck f61_2_4 (ck f63_3_0 (ck D3_3 (ck f54_1_2 (ck f63_2_0 (ck D3_2 (ck f54_0_2 (ck f63_2_0 ?_)))))))
  refine eqW_self.2 ?_
  refine wc8 (by have := hc.que; omega) g3.fine (by have := hc.que; omega) fun A4 g4 => ?_
  have n4 := g4.next
  have l4 := hc.que
  have r4 := r3.keeps g4.keeps (by simp)
  have d4 := d3.keeps g4.keeps (by simp)
  obtain ⟨L4_0, L4_1, L4_2, L4_6, L4_7, L4_8, L4_9, L4_24⟩ := tdL r4
  obtain ⟨D4_0, D4_1, D4_2, D4_3, D4_6, D4_7, D4_13⟩ := dlL d4
  have G4 := G3.trans g4
  refine ck L4_24 (ck f65_6_0 (ck D4_13 (ck f63_4_0 (ck D4_7 (ck f61_3_4 (ck f63_3_0 (ck D4_6 ?_)))))))
  refine ck f61_2_4 (ck f63_3_0 (ck D4_3 (ck f54_1_2 (ck f63_2_0 (eqW_self.2 ?_)))))
  refine wc48 hp hc.rid ?_
  refine ck L4_24 (ck f65_6_0 (ck D4_13 (ck f63_4_0 (ck D4_7 (ck f61_3_4 (ck f63_3_0 (ck D4_6 ?_)))))))
  refine ck f61_2_4 (ck f63_3_0 (eqW_self.2 ?_))
  refine wc49s ?_
  refine ck L4_24 (ck f65_6_0 (ck D4_13 (ck f63_4_0 (ck D4_7 (ck f61_3_4 (ck f63_3_0 (eqW_self.2 ?_)))))))
  refine wc8 (by have := hc.id; omega) g4.fine (by have := hc.id; omega) fun A5 g5 => ?_
  have n5 := g5.next
  have l5 := hc.id
  have r5 := r4.keeps g5.keeps (by simp)
  have d5 := d4.keeps g5.keeps (by simp)
  obtain ⟨L5_0, L5_1, L5_2, L5_6, L5_7, L5_8, L5_9, L5_24⟩ := tdL r5
  obtain ⟨D5_0, D5_1, D5_2, D5_3, D5_6, D5_7, D5_13⟩ := dlL d5
  have G5 := G4.trans g5
  refine ck L5_24 (ck f65_6_0 (ck D5_13 (ck f63_4_0 (eqW_self.2 ?_))))
  refine wc8 (by have := hc.body; omega) g5.fine (by have := hc.body; omega) fun A6 g6 => ?_
  have n6 := g6.next
  have l6 := hc.body
  have r6 := r5.keeps g6.keeps (by simp)
  have d6 := d5.keeps g6.keeps (by simp)
  obtain ⟨L6_0, L6_1, L6_2, L6_6, L6_7, L6_8, L6_9, L6_24⟩ := tdL r6
  obtain ⟨D6_0, D6_1, D6_2, D6_3, D6_6, D6_7, D6_13⟩ := dlL d6
  have G6 := G5.trans g6
  refine ck L6_24 (ck f65_6_0 (eqW_self.2 ?_))
  refine wc8 (by have := hc.s; omega) g6.fine (by have := hc.s; omega) fun A7 g7 => ?_
  have n7 := g7.next
  have l7 := hc.s
  have r7 := r6.keeps g7.keeps (by simp)
  have d7 := d6.keeps g7.keeps (by simp)
  obtain ⟨L7_0, L7_1, L7_2, L7_6, L7_7, L7_8, L7_9, L7_24⟩ := tdL r7
  obtain ⟨D7_0, D7_1, D7_2, D7_3, D7_6, D7_7, D7_13⟩ := dlL d7
  have G7 := G6.trans g7
  refine eqW_self.2 ?_
  refine new16 g7.fine (by omega) fun A90 m90 => ?_
  have g90 := Grow.made m90 g7.fine
  have n90 := g90.next
  have r90 := r7.keeps g90.keeps (by simp)
  have d90 := d7.keeps g90.keeps (by simp)
  obtain ⟨L90_0, L90_1, L90_2, L90_6, L90_7, L90_8, L90_9, L90_24⟩ := tdL r90
  obtain ⟨D90_0, D90_1, D90_2, D90_3, D90_6, D90_7, D90_13⟩ := dlL d90
  have G90 := G7.trans g90
  refine freshW_16 m90.row ?_
  refine ck L90_24 (ck f65_6_0 (ck D90_13 (ck f63_4_0 (ck D90_7 (ck f61_3_4 (ck f63_3_0 (ck D90_6 ?_)))))))
  refine ck f61_2_4 (ck f63_3_0 (ck D90_3 (ck f54_1_2 (ck f63_2_0 (ck D90_2 (ck f54_0_2 (ck f63_2_0 ?_)))))))
  refine ck D90_1 (ck f63_1_0 (ck D90_0 (ck f63_0_0 (ck L90_9 (ck f52_3_6 (ck f65_4_0 (ck L90_8 ?_)))))))
  refine ck f52_2_6 (ck f65_4_0 (ck L90_7 (ck f52_1_6 (ck f65_4_0 (ck L90_6 (ck f52_0_6 (ck f65_4_0 ?_)))))))
  refine eqW_self.2 (ck L90_2 (ck f65_2_0 (ck L90_1 (ck f65_1_0 (ck L90_0 (ck f65_0_0 ?_))))))
  exact wc45 (x := ⟨⟨Lib.itoa c.e⟩⟩) (r := [⟨⟨Lib.decDigits c.xa⟩⟩, ⟨⟨Lib.itoa c.n⟩⟩, x, ⟨⟨Lib.decDigits c.lim⟩⟩, ⟨⟨Lib.itoa c.rdy⟩⟩, ⟨⟨Lib.itoa c.hld⟩⟩, ⟨⟨Lib.itoa c.sub⟩⟩, ⟨⟨Lib.decDigits c.ses⟩⟩, ⟨⟨quoteB (bl c.tag)⟩⟩, ⟨⟨quoteB (bl c.que)⟩⟩, ⟨⟨Lib.decDigits c.rid⟩⟩, ⟨⟨if c.red = true then [49] else [48]⟩⟩, ⟨⟨quoteB (bl c.id)⟩⟩, ⟨⟨quoteB (bl c.body)⟩⟩, ⟨⟨quoteB (bl c.s)⟩⟩]) (n := 14) (rw := A7.next) rfl (by decide) (by simp only [sumT, List.map_cons, List.map_nil, List.sum_cons, List.sum_nil]; have := (show (bl ⟨⟨Lib.itoa c.e⟩⟩).length ≤ 21 from (itoa_le hc.e.1 hc.e.2)); have := (show (bl ⟨⟨Lib.decDigits c.xa⟩⟩).length ≤ 20 from (dec_le20 (Nat.lt_of_lt_of_le hc.xa (by decide)))); have := (show (bl ⟨⟨Lib.itoa c.n⟩⟩).length ≤ 21 from (itoa_le hc.n.1 hc.n.2)); have := hx; have := (show (bl ⟨⟨Lib.decDigits c.lim⟩⟩).length ≤ 20 from (dec_le20 (Nat.lt_of_lt_of_le hc.lim (by decide)))); have := (show (bl ⟨⟨Lib.itoa c.rdy⟩⟩).length ≤ 21 from (itoa_le hc.rdy.1 hc.rdy.2)); have := (show (bl ⟨⟨Lib.itoa c.hld⟩⟩).length ≤ 21 from (itoa_le hc.hld.1 hc.hld.2)); have := (show (bl ⟨⟨Lib.itoa c.sub⟩⟩).length ≤ 21 from (itoa_le hc.sub.1 hc.sub.2)); have := (show (bl ⟨⟨Lib.decDigits c.ses⟩⟩).length ≤ 20 from (dec_le20 (Nat.lt_of_lt_of_le hc.ses (by decide)))); have := (show (bl ⟨⟨quoteB (bl c.tag)⟩⟩).length ≤ 6001 from (Nat.le_trans (quoteB_len _) (show _ ≤ 6001 by have : (bl c.tag).length ≤ 2000 := hc.tag; omega))); have := (show (bl ⟨⟨quoteB (bl c.que)⟩⟩).length ≤ 6001 from (Nat.le_trans (quoteB_len _) (show _ ≤ 6001 by have : (bl c.que).length ≤ 2000 := hc.que; omega))); have := (show (bl ⟨⟨Lib.decDigits c.rid⟩⟩).length ≤ 20 from (dec_le20 (Nat.lt_of_lt_of_le hc.rid (by decide)))); have := (show (bl ⟨⟨if c.red = true then [49] else [48]⟩⟩).length ≤ 1 from (red_le c.red)); have := (show (bl ⟨⟨quoteB (bl c.id)⟩⟩).length ≤ 6001 from (Nat.le_trans (quoteB_len _) (show _ ≤ 6001 by have : (bl c.id).length ≤ 2000 := hc.id; omega))); have := (show (bl ⟨⟨quoteB (bl c.body)⟩⟩).length ≤ 6001 from (Nat.le_trans (quoteB_len _) (show _ ≤ 6001 by have : (bl c.body).length ≤ 2000 := hc.body; omega))); have := (show (bl ⟨⟨quoteB (bl c.s)⟩⟩).length ≤ 6001 from (Nat.le_trans (quoteB_len _) (show _ ≤ 6001 by have : (bl c.s).length ≤ 2000 := hc.s; omega))); show _ < _; omega) (m90.row1) m90.fine (by omega) fun A91 g91 => hk A91 ((G90.trans g91).more (by omega))

set_option maxRecDepth 100000 in
theorem tail19_ok {W0 : World} {m0 : Inj Tryz.prog} {c : Td} {b : Nat} {x : ByteArray} {A : AW} {Q : Value → AW → Prop} (hp : Pow W0) (hc : c.Ok) (hx : (bl x).length ≤ 400) (r : Go.Abs.Row1 A b c.cells 65) (hf : Fine A) (hA : A.next + 200000 < maxId) (hk : ∀ A', Grow A A' 150000 → Q (.string ⟨⟨joinT (c.words x)⟩⟩) A') : Tail19 W0 m0 Q (.pointer (some ⟨b, 0, none⟩)) (.string x) A := by
  have r_ := r
  have h32 : (bl ⟨⟨[32]⟩⟩).length ≤ 1 := Nat.le_refl _
  unfold Tail19
  have f65_5_0 : fieldAddrA Tryz.prog 65 (.pointer (some ⟨b, 0, none⟩)) 5 = some (.pointer (some ⟨b, 10, none⟩)) := fa_65_5 _ 0
  refine pureW_of (v := .pointer (some ⟨b, 10, none⟩)) f65_5_0 ?_
  refine pureW_of (v := .agg ⟨c.dl⟩) (load63 r_) ?_
  refine allocP_made zero63 hf (by omega) rfl fun A1 m1 => ?_
  have n1 := m1.next
  refine Go.Abs.Row1.store (n := 14) (off := 0) (v := .agg ⟨c.dl⟩) m1.row1 m1.fine (by omega) (st_63 _ _ _) rfl (by decide) c.dl1 fun A2 r2 k2 n2 f2 => ?_
  have d2 : Go.Abs.Row1 A2 A.next c.dl 63 := r2
  have r2 := (r.keeps (m1.keeps hf) (by simp)).keeps k2 (by have := r.lt; rw [List.mem_singleton]; omega)
  have g2 : Grow A A2 1 := ((Grow.made m1 hf).own k2 (fun x hx => by rw [List.mem_singleton.1 hx]; exact Nat.le_refl _) (m := 0) (by omega) f2)
  obtain ⟨L2_0, L2_1, L2_2, L2_6, L2_7, L2_8, L2_9, L2_24⟩ := tdL r2
  obtain ⟨D2_0, D2_1, D2_2, D2_3, D2_6, D2_7, D2_13⟩ := dlL d2
  have f65_0_0 : fieldAddrA Tryz.prog 65 (.pointer (some ⟨b, 0, none⟩)) 0 = some (.pointer (some ⟨b, 0, none⟩)) := fa_65_0 _ 0
  refine pureW_of (v := .pointer (some ⟨b, 0, none⟩)) f65_0_0 ?_
  refine pureW_of (v := .int .i64 c.e) L2_0 ?_
  have f65_1_0 : fieldAddrA Tryz.prog 65 (.pointer (some ⟨b, 0, none⟩)) 1 = some (.pointer (some ⟨b, 1, none⟩)) := fa_65_1 _ 0
  refine pureW_of (v := .pointer (some ⟨b, 1, none⟩)) f65_1_0 ?_
  refine pureW_of (v := .int .u8 (c.xa : Int)) L2_1 ?_
  refine bothW_of (cvx hc.xa A2) ?_
  have f65_2_0 : fieldAddrA Tryz.prog 65 (.pointer (some ⟨b, 0, none⟩)) 2 = some (.pointer (some ⟨b, 2, none⟩)) := fa_65_2 _ 0
  refine pureW_of (v := .pointer (some ⟨b, 2, none⟩)) f65_2_0 ?_
  refine pureW_of (v := .int .i64 c.n) L2_2 ?_
  have f65_4_0 : fieldAddrA Tryz.prog 65 (.pointer (some ⟨b, 0, none⟩)) 4 = some (.pointer (some ⟨b, 6, none⟩)) := fa_65_4 _ 0
  refine pureW_of (v := .pointer (some ⟨b, 6, none⟩)) f65_4_0 ?_
  have f52_0_6 : fieldAddrA Tryz.prog 52 (.pointer (some ⟨b, 6, none⟩)) 0 = some (.pointer (some ⟨b, 6, none⟩)) := fa_52_0 _ 6
  refine pureW_of (v := .pointer (some ⟨b, 6, none⟩)) f52_0_6 ?_
  refine pureW_of (v := .int .u64 (c.lim : Int)) L2_6 ?_
  refine pureW_of (v := .pointer (some ⟨b, 6, none⟩)) f65_4_0 ?_
  have f52_1_6 : fieldAddrA Tryz.prog 52 (.pointer (some ⟨b, 6, none⟩)) 1 = some (.pointer (some ⟨b, 7, none⟩)) := fa_52_1 _ 6
  refine pureW_of (v := .pointer (some ⟨b, 7, none⟩)) f52_1_6 ?_
  refine pureW_of (v := .int .i64 c.rdy) L2_7 ?_
  refine pureW_of (v := .pointer (some ⟨b, 6, none⟩)) f65_4_0 ?_
  have f52_2_6 : fieldAddrA Tryz.prog 52 (.pointer (some ⟨b, 6, none⟩)) 2 = some (.pointer (some ⟨b, 8, none⟩)) := fa_52_2 _ 6
  refine pureW_of (v := .pointer (some ⟨b, 8, none⟩)) f52_2_6 ?_
  refine pureW_of (v := .int .i64 c.hld) L2_8 ?_
  refine pureW_of (v := .pointer (some ⟨b, 6, none⟩)) f65_4_0 ?_
  have f52_3_6 : fieldAddrA Tryz.prog 52 (.pointer (some ⟨b, 6, none⟩)) 3 = some (.pointer (some ⟨b, 9, none⟩)) := fa_52_3 _ 6
  refine pureW_of (v := .pointer (some ⟨b, 9, none⟩)) f52_3_6 ?_
  refine pureW_of (v := .int .i64 c.sub) L2_9 ?_
  refine wc32 hc.e.1 hc.e.2 f2 (by omega) fun A3 g3 => ?_
  have n3 := g3.next
  have r3 := r2.keeps g3.keeps (by simp)
  have d3 := d2.keeps g3.keeps (by simp)
  obtain ⟨L3_0, L3_1, L3_2, L3_6, L3_7, L3_8, L3_9, L3_24⟩ := tdL r3
  obtain ⟨D3_0, D3_1, D3_2, D3_3, D3_6, D3_7, D3_13⟩ := dlL d3
  have G3 := g2.trans g3
  refine ck L3_9 (ck f52_3_6 (ck f65_4_0 (ck L3_8 (ck f52_2_6 (ck f65_4_0 (ck L3_7 (ck f52_1_6 ?_)))))))
  refine ck f65_4_0 (ck L3_6 (ck f52_0_6 (ck f65_4_0 (eqW_self.2 (ck L3_2 (ck f65_2_0 ?_))))))
  refine ckb (cvx hc.xa A3) ?_
  refine ck L3_1 (ck f65_1_0 ?_)
  obtain ⟨S1, e1, a1⟩ := addS (x := ⟨⟨Lib.itoa c.e⟩⟩) (y := ⟨⟨[32]⟩⟩) (show _ < _ by have := (show (bl ⟨⟨Lib.itoa c.e⟩⟩).length ≤ 21 from (itoa_le hc.e.1 hc.e.2)); have := h32; omega)
  have z1 : (bl S1).length ≤ 22 := by have := (show (bl ⟨⟨Lib.itoa c.e⟩⟩).length ≤ 21 from (itoa_le hc.e.1 hc.e.2)); have := h32; rw [e1, List.length_append]; omega
  refine pureW_of (v := .string S1) (a1 _ _) ?_
  refine wc32 (by omega) (by have := hc.xa; omega) g3.fine (by omega) fun A4 g4 => ?_
  have n4 := g4.next
  have r4 := r3.keeps g4.keeps (by simp)
  have d4 := d3.keeps g4.keeps (by simp)
  obtain ⟨L4_0, L4_1, L4_2, L4_6, L4_7, L4_8, L4_9, L4_24⟩ := tdL r4
  obtain ⟨D4_0, D4_1, D4_2, D4_3, D4_6, D4_7, D4_13⟩ := dlL d4
  have G4 := G3.trans g4
  refine ck L4_9 (ck f52_3_6 (ck f65_4_0 (ck L4_8 (ck f52_2_6 (ck f65_4_0 (ck L4_7 (ck f52_1_6 ?_)))))))
  refine ck f65_4_0 (ck L4_6 (ck f52_0_6 (ck f65_4_0 (eqW_self.2 (ck L4_2 (ck f65_2_0 (ck (a1 _ _) ?_)))))))
  obtain ⟨S2, e2, a2⟩ := addS (x := S1) (y := ⟨⟨Lib.itoa (c.xa : Int)⟩⟩) (show _ < _ by have := z1; have := (show (bl ⟨⟨Lib.itoa (c.xa : Int)⟩⟩).length ≤ 21 from (itoa_le (show (-9223372036854775808 : Int) ≤ (c.xa : Int) by omega) (by have := hc.xa; omega))); omega)
  have z2 : (bl S2).length ≤ 43 := by have := z1; have := (show (bl ⟨⟨Lib.itoa (c.xa : Int)⟩⟩).length ≤ 21 from (itoa_le (show (-9223372036854775808 : Int) ≤ (c.xa : Int) by omega) (by have := hc.xa; omega))); rw [e2, List.length_append]; omega
  refine pureW_of (v := .string S2) (a2 _ _) ?_
  obtain ⟨S3, e3, a3⟩ := addS (x := S2) (y := ⟨⟨[32]⟩⟩) (show _ < _ by have := z2; have := h32; omega)
  have z3 : (bl S3).length ≤ 44 := by have := z2; have := h32; rw [e3, List.length_append]; omega
  refine pureW_of (v := .string S3) (a3 _ _) ?_
  refine wc32 hc.n.1 hc.n.2 g4.fine (by omega) fun A5 g5 => ?_
  have n5 := g5.next
  have r5 := r4.keeps g5.keeps (by simp)
  have d5 := d4.keeps g5.keeps (by simp)
  obtain ⟨L5_0, L5_1, L5_2, L5_6, L5_7, L5_8, L5_9, L5_24⟩ := tdL r5
  obtain ⟨D5_0, D5_1, D5_2, D5_3, D5_6, D5_7, D5_13⟩ := dlL d5
  have G5 := G4.trans g5
  refine ck L5_9 (ck f52_3_6 (ck f65_4_0 (ck L5_8 (ck f52_2_6 (ck f65_4_0 (ck L5_7 (ck f52_1_6 ?_)))))))
  refine ck f65_4_0 (ck L5_6 (ck f52_0_6 (ck f65_4_0 (eqW_self.2 (ck (a3 _ _) (ck (a2 _ _) (ck (a1 _ _) ?_)))))))
  obtain ⟨S4, e4, a4⟩ := addS (x := S3) (y := ⟨⟨Lib.itoa c.n⟩⟩) (show _ < _ by have := z3; have := (show (bl ⟨⟨Lib.itoa c.n⟩⟩).length ≤ 21 from (itoa_le hc.n.1 hc.n.2)); omega)
  have z4 : (bl S4).length ≤ 65 := by have := z3; have := (show (bl ⟨⟨Lib.itoa c.n⟩⟩).length ≤ 21 from (itoa_le hc.n.1 hc.n.2)); rw [e4, List.length_append]; omega
  refine pureW_of (v := .string S4) (a4 _ _) ?_
  obtain ⟨S5, e5, a5⟩ := addS (x := S4) (y := ⟨⟨[32]⟩⟩) (show _ < _ by have := z4; have := h32; omega)
  have z5 : (bl S5).length ≤ 66 := by have := z4; have := h32; rw [e5, List.length_append]; omega
  refine pureW_of (v := .string S5) (a5 _ _) ?_
  obtain ⟨S6, e6, a6⟩ := addS (x := S5) (y := x) (show _ < _ by have := z5; have := hx; omega)
  have z6 : (bl S6).length ≤ 466 := by have := z5; have := hx; rw [e6, List.length_append]; omega
  refine pureW_of (v := .string S6) (a6 _ _) ?_
  obtain ⟨S7, e7, a7⟩ := addS (x := S6) (y := ⟨⟨[32]⟩⟩) (show _ < _ by have := z6; have := h32; omega)
  have z7 : (bl S7).length ≤ 467 := by have := z6; have := h32; rw [e7, List.length_append]; omega
  refine pureW_of (v := .string S7) (a7 _ _) ?_
  refine wc31 hc.lim g5.fine (by omega) fun A6 g6 => ?_
  have n6 := g6.next
  have r6 := r5.keeps g6.keeps (by simp)
  have d6 := d5.keeps g6.keeps (by simp)
  obtain ⟨L6_0, L6_1, L6_2, L6_6, L6_7, L6_8, L6_9, L6_24⟩ := tdL r6
  obtain ⟨D6_0, D6_1, D6_2, D6_3, D6_6, D6_7, D6_13⟩ := dlL d6
  have G6 := G5.trans g6
  refine ck L6_9 (ck f52_3_6 (ck f65_4_0 (ck L6_8 (ck f52_2_6 (ck f65_4_0 (ck L6_7 (ck f52_1_6 ?_)))))))
  refine ck f65_4_0 (ck (a7 _ _) (ck (a6 _ _) (eqW_self.2 (ck (a5 _ _) (ck (a4 _ _) (ck (a3 _ _) (ck (a2 _ _) ?_)))))))
  refine ck (a1 _ _) ?_
  obtain ⟨S8, e8, a8⟩ := addS (x := S7) (y := ⟨⟨Lib.decDigits c.lim⟩⟩) (show _ < _ by have := z7; have := (show (bl ⟨⟨Lib.decDigits c.lim⟩⟩).length ≤ 20 from (dec_le20 (Nat.lt_of_lt_of_le hc.lim (by decide)))); omega)
  have z8 : (bl S8).length ≤ 487 := by have := z7; have := (show (bl ⟨⟨Lib.decDigits c.lim⟩⟩).length ≤ 20 from (dec_le20 (Nat.lt_of_lt_of_le hc.lim (by decide)))); rw [e8, List.length_append]; omega
  refine pureW_of (v := .string S8) (a8 _ _) ?_
  obtain ⟨S9, e9, a9⟩ := addS (x := S8) (y := ⟨⟨[32]⟩⟩) (show _ < _ by have := z8; have := h32; omega)
  have z9 : (bl S9).length ≤ 488 := by have := z8; have := h32; rw [e9, List.length_append]; omega
  refine pureW_of (v := .string S9) (a9 _ _) ?_
  refine wc32 hc.rdy.1 hc.rdy.2 g6.fine (by omega) fun A7 g7 => ?_
  have n7 := g7.next
  have r7 := r6.keeps g7.keeps (by simp)
  have d7 := d6.keeps g7.keeps (by simp)
  obtain ⟨L7_0, L7_1, L7_2, L7_6, L7_7, L7_8, L7_9, L7_24⟩ := tdL r7
  obtain ⟨D7_0, D7_1, D7_2, D7_3, D7_6, D7_7, D7_13⟩ := dlL d7
  have G7 := G6.trans g7
  refine ck L7_9 (ck f52_3_6 (ck f65_4_0 (ck L7_8 (ck f52_2_6 (ck f65_4_0 (ck (a9 _ _) (ck (a8 _ _) ?_)))))))
  refine ck (a7 _ _) (ck (a6 _ _) (eqW_self.2 (ck (a5 _ _) (ck (a4 _ _) (ck (a3 _ _) (ck (a2 _ _) (ck (a1 _ _) ?_)))))))
  obtain ⟨S10, e10, a10⟩ := addS (x := S9) (y := ⟨⟨Lib.itoa c.rdy⟩⟩) (show _ < _ by have := z9; have := (show (bl ⟨⟨Lib.itoa c.rdy⟩⟩).length ≤ 21 from (itoa_le hc.rdy.1 hc.rdy.2)); omega)
  have z10 : (bl S10).length ≤ 509 := by have := z9; have := (show (bl ⟨⟨Lib.itoa c.rdy⟩⟩).length ≤ 21 from (itoa_le hc.rdy.1 hc.rdy.2)); rw [e10, List.length_append]; omega
  refine pureW_of (v := .string S10) (a10 _ _) ?_
  obtain ⟨S11, e11, a11⟩ := addS (x := S10) (y := ⟨⟨[32]⟩⟩) (show _ < _ by have := z10; have := h32; omega)
  have z11 : (bl S11).length ≤ 510 := by have := z10; have := h32; rw [e11, List.length_append]; omega
  refine pureW_of (v := .string S11) (a11 _ _) ?_
  refine wc32 hc.hld.1 hc.hld.2 g7.fine (by omega) fun A8 g8 => ?_
  have n8 := g8.next
  have r8 := r7.keeps g8.keeps (by simp)
  have d8 := d7.keeps g8.keeps (by simp)
  obtain ⟨L8_0, L8_1, L8_2, L8_6, L8_7, L8_8, L8_9, L8_24⟩ := tdL r8
  obtain ⟨D8_0, D8_1, D8_2, D8_3, D8_6, D8_7, D8_13⟩ := dlL d8
  have G8 := G7.trans g8
  refine ck L8_9 (ck f52_3_6 (ck f65_4_0 (ck (a11 _ _) (ck (a10 _ _) (ck (a9 _ _) (ck (a8 _ _) (ck (a7 _ _) ?_)))))))
  refine ck (a6 _ _) (eqW_self.2 (ck (a5 _ _) (ck (a4 _ _) (ck (a3 _ _) (ck (a2 _ _) (ck (a1 _ _) ?_))))))
  obtain ⟨S12, e12, a12⟩ := addS (x := S11) (y := ⟨⟨Lib.itoa c.hld⟩⟩) (show _ < _ by have := z11; have := (show (bl ⟨⟨Lib.itoa c.hld⟩⟩).length ≤ 21 from (itoa_le hc.hld.1 hc.hld.2)); omega)
  have z12 : (bl S12).length ≤ 531 := by have := z11; have := (show (bl ⟨⟨Lib.itoa c.hld⟩⟩).length ≤ 21 from (itoa_le hc.hld.1 hc.hld.2)); rw [e12, List.length_append]; omega
  refine pureW_of (v := .string S12) (a12 _ _) ?_
  obtain ⟨S13, e13, a13⟩ := addS (x := S12) (y := ⟨⟨[32]⟩⟩) (show _ < _ by have := z12; have := h32; omega)
  have z13 : (bl S13).length ≤ 532 := by have := z12; have := h32; rw [e13, List.length_append]; omega
  refine pureW_of (v := .string S13) (a13 _ _) ?_
  refine wc32 hc.sub.1 hc.sub.2 g8.fine (by omega) fun A9 g9 => ?_
  have n9 := g9.next
  have r9 := r8.keeps g9.keeps (by simp)
  have d9 := d8.keeps g9.keeps (by simp)
  obtain ⟨L9_0, L9_1, L9_2, L9_6, L9_7, L9_8, L9_9, L9_24⟩ := tdL r9
  obtain ⟨D9_0, D9_1, D9_2, D9_3, D9_6, D9_7, D9_13⟩ := dlL d9
  have G9 := G8.trans g9
  refine ck (a13 _ _) (ck (a12 _ _) (ck (a11 _ _) (ck (a10 _ _) (ck (a9 _ _) (ck (a8 _ _) (ck (a7 _ _) (ck (a6 _ _) ?_)))))))
  refine eqW_self.2 (ck (a5 _ _) (ck (a4 _ _) (ck (a3 _ _) (ck (a2 _ _) (ck (a1 _ _) ?_)))))
  obtain ⟨S14, e14, a14⟩ := addS (x := S13) (y := ⟨⟨Lib.itoa c.sub⟩⟩) (show _ < _ by have := z13; have := (show (bl ⟨⟨Lib.itoa c.sub⟩⟩).length ≤ 21 from (itoa_le hc.sub.1 hc.sub.2)); omega)
  have z14 : (bl S14).length ≤ 553 := by have := z13; have := (show (bl ⟨⟨Lib.itoa c.sub⟩⟩).length ≤ 21 from (itoa_le hc.sub.1 hc.sub.2)); rw [e14, List.length_append]; omega
  refine pureW_of (v := .string S14) (a14 _ _) ?_
  obtain ⟨S15, e15, a15⟩ := addS (x := S14) (y := ⟨⟨[32]⟩⟩) (show _ < _ by have := z14; have := h32; omega)
  have z15 : (bl S15).length ≤ 554 := by have := z14; have := h32; rw [e15, List.length_append]; omega
  refine pureW_of (v := .string S15) (a15 _ _) ?_
  have f63_0_0 : fieldAddrA Tryz.prog 63 (.pointer (some ⟨A.next, 0, none⟩)) 0 = some (.pointer (some ⟨A.next, 0, none⟩)) := fa_63_0 _ 0
  refine pureW_of (v := .pointer (some ⟨A.next, 0, none⟩)) f63_0_0 ?_
  refine pureW_of (v := .int .u64 (c.ses : Int)) D9_0 ?_
  have f63_1_0 : fieldAddrA Tryz.prog 63 (.pointer (some ⟨A.next, 0, none⟩)) 1 = some (.pointer (some ⟨A.next, 1, none⟩)) := fa_63_1 _ 0
  refine pureW_of (v := .pointer (some ⟨A.next, 1, none⟩)) f63_1_0 ?_
  refine pureW_of (v := .string c.tag) D9_1 ?_
  have f63_2_0 : fieldAddrA Tryz.prog 63 (.pointer (some ⟨A.next, 0, none⟩)) 2 = some (.pointer (some ⟨A.next, 2, none⟩)) := fa_63_2 _ 0
  refine pureW_of (v := .pointer (some ⟨A.next, 2, none⟩)) f63_2_0 ?_
  have f54_0_2 : fieldAddrA Tryz.prog 54 (.pointer (some ⟨A.next, 2, none⟩)) 0 = some (.pointer (some ⟨A.next, 2, none⟩)) := fa_54_0 _ 2
  refine pureW_of (v := .pointer (some ⟨A.next, 2, none⟩)) f54_0_2 ?_
  refine pureW_of (v := .string c.que) D9_2 ?_
  refine pureW_of (v := .pointer (some ⟨A.next, 2, none⟩)) f63_2_0 ?_
  have f54_1_2 : fieldAddrA Tryz.prog 54 (.pointer (some ⟨A.next, 2, none⟩)) 1 = some (.pointer (some ⟨A.next, 3, none⟩)) := fa_54_1 _ 2
  refine pureW_of (v := .pointer (some ⟨A.next, 3, none⟩)) f54_1_2 ?_
  refine pureW_of (v := .int .u64 (c.rid : Int)) D9_3 ?_
  have f63_3_0 : fieldAddrA Tryz.prog 63 (.pointer (some ⟨A.next, 0, none⟩)) 3 = some (.pointer (some ⟨A.next, 4, none⟩)) := fa_63_3 _ 0
  refine pureW_of (v := .pointer (some ⟨A.next, 4, none⟩)) f63_3_0 ?_
  have f61_2_4 : fieldAddrA Tryz.prog 61 (.pointer (some ⟨A.next, 4, none⟩)) 2 = some (.pointer (some ⟨A.next, 6, none⟩)) := fa_61_2 _ 4
  refine pureW_of (v := .pointer (some ⟨A.next, 6, none⟩)) f61_2_4 ?_
  refine pureW_of (v := .bool c.red) D9_6 ?_
  refine wc31 hc.ses g9.fine (by omega) fun A10 g10 => ?_
  have n10 := g10.next
  have r10 := r9.keeps g10.keeps (by simp)
  have d10 := d9.keeps g10.keeps (by simp)
  obtain ⟨L10_0, L10_1, L10_2, L10_6, L10_7, L10_8, L10_9, L10_24⟩ := tdL r10
  obtain ⟨D10_0, D10_1, D10_2, D10_3, D10_6, D10_7, D10_13⟩ := dlL d10
  have G10 := G9.trans g10
  refine ck D10_6 (ck f61_2_4 (ck f63_3_0 (ck D10_3 (ck f54_1_2 (ck f63_2_0 (ck D10_2 (ck f54_0_2 ?_)))))))
  refine ck f63_2_0 (ck D10_1 (ck f63_1_0 (ck (a15 _ _) (eqW_self.2 ?_))))
  obtain ⟨S16, e16, a16⟩ := addS (x := S15) (y := ⟨⟨Lib.decDigits c.ses⟩⟩) (show _ < _ by have := z15; have := (show (bl ⟨⟨Lib.decDigits c.ses⟩⟩).length ≤ 20 from (dec_le20 (Nat.lt_of_lt_of_le hc.ses (by decide)))); omega)
  have z16 : (bl S16).length ≤ 574 := by have := z15; have := (show (bl ⟨⟨Lib.decDigits c.ses⟩⟩).length ≤ 20 from (dec_le20 (Nat.lt_of_lt_of_le hc.ses (by decide)))); rw [e16, List.length_append]; omega
  refine pureW_of (v := .string S16) (a16 _ _) ?_
  obtain ⟨S17, e17, a17⟩ := addS (x := S16) (y := ⟨⟨[32]⟩⟩) (show _ < _ by have := z16; have := h32; omega)
  have z17 : (bl S17).length ≤ 575 := by have := z16; have := h32; rw [e17, List.length_append]; omega
  refine pureW_of (v := .string S17) (a17 _ _) ?_
  refine wc11 (by have := hc.tag; omega) g10.fine (by have := hc.tag; omega) fun A11 g11 => ?_
  have n11 := g11.next
  have l11 := hc.tag
  have r11 := r10.keeps g11.keeps (by simp)
  have d11 := d10.keeps g11.keeps (by simp)
  obtain ⟨L11_0, L11_1, L11_2, L11_6, L11_7, L11_8, L11_9, L11_24⟩ := tdL r11
  obtain ⟨D11_0, D11_1, D11_2, D11_3, D11_6, D11_7, D11_13⟩ := dlL d11
  have G11 := G10.trans g11
  refine ck D11_6 (ck f61_2_4 (ck f63_3_0 (ck D11_3 (ck f54_1_2 (ck f63_2_0 (ck D11_2 (ck f54_0_2 ?_)))))))
  refine ck f63_2_0 (ck (a17 _ _) (ck (a16 _ _) (ck (a15 _ _) (eqW_self.2 ?_))))
  obtain ⟨S18, e18, a18⟩ := addS (x := S17) (y := ⟨⟨quoteB (bl c.tag)⟩⟩) (show _ < _ by have := z17; have := (show (bl ⟨⟨quoteB (bl c.tag)⟩⟩).length ≤ 6001 from (Nat.le_trans (quoteB_len _) (show _ ≤ 6001 by have : (bl c.tag).length ≤ 2000 := hc.tag; omega))); omega)
  have z18 : (bl S18).length ≤ 6576 := by have := z17; have := (show (bl ⟨⟨quoteB (bl c.tag)⟩⟩).length ≤ 6001 from (Nat.le_trans (quoteB_len _) (show _ ≤ 6001 by have : (bl c.tag).length ≤ 2000 := hc.tag; omega))); rw [e18, List.length_append]; omega
  refine pureW_of (v := .string S18) (a18 _ _) ?_
  obtain ⟨S19, e19, a19⟩ := addS (x := S18) (y := ⟨⟨[32]⟩⟩) (show _ < _ by have := z18; have := h32; omega)
  have z19 : (bl S19).length ≤ 6577 := by have := z18; have := h32; rw [e19, List.length_append]; omega
  refine pureW_of (v := .string S19) (a19 _ _) ?_
  refine wc11 (by have := hc.que; omega) g11.fine (by have := hc.que; omega) fun A12 g12 => ?_
  have n12 := g12.next
  have l12 := hc.que
  have r12 := r11.keeps g12.keeps (by simp)
  have d12 := d11.keeps g12.keeps (by simp)
  obtain ⟨L12_0, L12_1, L12_2, L12_6, L12_7, L12_8, L12_9, L12_24⟩ := tdL r12
  obtain ⟨D12_0, D12_1, D12_2, D12_3, D12_6, D12_7, D12_13⟩ := dlL d12
  have G12 := G11.trans g12
  refine ck D12_6 (ck f61_2_4 (ck f63_3_0 (ck D12_3 (ck f54_1_2 (ck f63_2_0 (ck (a19 _ _) (ck (a18 _ _) ?_)))))))
  refine ck (a17 _ _) (ck (a16 _ _) (ck (a15 _ _) (eqW_self.2 ?_)))
  obtain ⟨S20, e20, a20⟩ := addS (x := S19) (y := ⟨⟨quoteB (bl c.que)⟩⟩) (show _ < _ by have := z19; have := (show (bl ⟨⟨quoteB (bl c.que)⟩⟩).length ≤ 6001 from (Nat.le_trans (quoteB_len _) (show _ ≤ 6001 by have : (bl c.que).length ≤ 2000 := hc.que; omega))); omega)
  have z20 : (bl S20).length ≤ 12578 := by have := z19; have := (show (bl ⟨⟨quoteB (bl c.que)⟩⟩).length ≤ 6001 from (Nat.le_trans (quoteB_len _) (show _ ≤ 6001 by have : (bl c.que).length ≤ 2000 := hc.que; omega))); rw [e20, List.length_append]; omega
  refine pureW_of (v := .string S20) (a20 _ _) ?_
  obtain ⟨S21, e21, a21⟩ := addS (x := S20) (y := ⟨⟨[32]⟩⟩) (show _ < _ by have := z20; have := h32; omega)
  have z21 : (bl S21).length ≤ 12579 := by have := z20; have := h32; rw [e21, List.length_append]; omega
  refine pureW_of (v := .string S21) (a21 _ _) ?_
  refine wc31 hc.rid g12.fine (by omega) fun A13 g13 => ?_
  have n13 := g13.next
  have r13 := r12.keeps g13.keeps (by simp)
  have d13 := d12.keeps g13.keeps (by simp)
  obtain ⟨L13_0, L13_1, L13_2, L13_6, L13_7, L13_8, L13_9, L13_24⟩ := tdL r13
  obtain ⟨D13_0, D13_1, D13_2, D13_3, D13_6, D13_7, D13_13⟩ := dlL d13
  have G13 := G12.trans g13
  refine ck D13_6 (ck f61_2_4 (ck f63_3_0 (ck (a21 _ _) (ck (a20 _ _) (ck (a19 _ _) (ck (a18 _ _) (ck (a17 _ _) ?_)))))))
  refine ck (a16 _ _) (ck (a15 _ _) (eqW_self.2 ?_))
  obtain ⟨S22, e22, a22⟩ := addS (x := S21) (y := ⟨⟨Lib.decDigits c.rid⟩⟩) (show _ < _ by have := z21; have := (show (bl ⟨⟨Lib.decDigits c.rid⟩⟩).length ≤ 20 from (dec_le20 (Nat.lt_of_lt_of_le hc.rid (by decide)))); omega)
  have z22 : (bl S22).length ≤ 12599 := by have := z21; have := (show (bl ⟨⟨Lib.decDigits c.rid⟩⟩).length ≤ 20 from (dec_le20 (Nat.lt_of_lt_of_le hc.rid (by decide)))); rw [e22, List.length_append]; omega
  refine pureW_of (v := .string S22) (a22 _ _) ?_
  obtain ⟨S23, e23, a23⟩ := addS (x := S22) (y := ⟨⟨[32]⟩⟩) (show _ < _ by have := z22; have := h32; omega)
  have z23 : (bl S23).length ≤ 12600 := by have := z22; have := h32; rw [e23, List.length_append]; omega
  refine pureW_of (v := .string S23) (a23 _ _) ?_
  refine wc34s ?_
  refine ck (a23 _ _) (ck (a22 _ _) (ck (a21 _ _) (ck (a20 _ _) (ck (a19 _ _) (ck (a18 _ _) (ck (a17 _ _) (ck (a16 _ _) ?_)))))))
  refine ck (a15 _ _) (eqW_self.2 ?_)
  obtain ⟨S24, e24, a24⟩ := addS (x := S23) (y := ⟨⟨if c.red = true then [49] else [48]⟩⟩) (show _ < _ by have := z23; have := (show (bl ⟨⟨if c.red = true then [49] else [48]⟩⟩).length ≤ 1 from (red_le c.red)); omega)
  have z24 : (bl S24).length ≤ 12601 := by have := z23; have := (show (bl ⟨⟨if c.red = true then [49] else [48]⟩⟩).length ≤ 1 from (red_le c.red)); rw [e24, List.length_append]; omega
  refine pureW_of (v := .string S24) (a24 _ _) ?_
  obtain ⟨S25, e25, a25⟩ := addS (x := S24) (y := ⟨⟨[32]⟩⟩) (show _ < _ by have := z24; have := h32; omega)
  have z25 : (bl S25).length ≤ 12602 := by have := z24; have := h32; rw [e25, List.length_append]; omega
  refine pureW_of (v := .string S25) (a25 _ _) ?_
  refine pureW_of (v := .pointer (some ⟨A.next, 4, none⟩)) f63_3_0 ?_
  have f61_3_4 : fieldAddrA Tryz.prog 61 (.pointer (some ⟨A.next, 4, none⟩)) 3 = some (.pointer (some ⟨A.next, 7, none⟩)) := fa_61_3 _ 4
  refine pureW_of (v := .pointer (some ⟨A.next, 7, none⟩)) f61_3_4 ?_
  refine pureW_of (v := .string c.id) D13_7 ?_
  have f63_4_0 : fieldAddrA Tryz.prog 63 (.pointer (some ⟨A.next, 0, none⟩)) 4 = some (.pointer (some ⟨A.next, 13, none⟩)) := fa_63_4 _ 0
  refine pureW_of (v := .pointer (some ⟨A.next, 13, none⟩)) f63_4_0 ?_
  refine pureW_of (v := .string c.body) D13_13 ?_
  have f65_6_0 : fieldAddrA Tryz.prog 65 (.pointer (some ⟨b, 0, none⟩)) 6 = some (.pointer (some ⟨b, 24, none⟩)) := fa_65_6 _ 0
  refine pureW_of (v := .pointer (some ⟨b, 24, none⟩)) f65_6_0 ?_
  refine pureW_of (v := .string c.s) L13_24 ?_
  refine wc11 (by have := hc.id; omega) g13.fine (by have := hc.id; omega) fun A14 g14 => ?_
  have n14 := g14.next
  have l14 := hc.id
  have r14 := r13.keeps g14.keeps (by simp)
  have d14 := d13.keeps g14.keeps (by simp)
  obtain ⟨L14_0, L14_1, L14_2, L14_6, L14_7, L14_8, L14_9, L14_24⟩ := tdL r14
  obtain ⟨D14_0, D14_1, D14_2, D14_3, D14_6, D14_7, D14_13⟩ := dlL d14
  have G14 := G13.trans g14
  refine ck L14_24 (ck f65_6_0 (ck D14_13 (ck f63_4_0 (ck (a25 _ _) (eqW_self.2 ?_)))))
  obtain ⟨S26, e26, a26⟩ := addS (x := S25) (y := ⟨⟨quoteB (bl c.id)⟩⟩) (show _ < _ by have := z25; have := (show (bl ⟨⟨quoteB (bl c.id)⟩⟩).length ≤ 6001 from (Nat.le_trans (quoteB_len _) (show _ ≤ 6001 by have : (bl c.id).length ≤ 2000 := hc.id; omega))); omega)
  have z26 : (bl S26).length ≤ 18603 := by have := z25; have := (show (bl ⟨⟨quoteB (bl c.id)⟩⟩).length ≤ 6001 from (Nat.le_trans (quoteB_len _) (show _ ≤ 6001 by have : (bl c.id).length ≤ 2000 := hc.id; omega))); rw [e26, List.length_append]; omega
  refine pureW_of (v := .string S26) (a26 _ _) ?_
  obtain ⟨S27, e27, a27⟩ := addS (x := S26) (y := ⟨⟨[32]⟩⟩) (show _ < _ by have := z26; have := h32; omega)
  have z27 : (bl S27).length ≤ 18604 := by have := z26; have := h32; rw [e27, List.length_append]; omega
  refine pureW_of (v := .string S27) (a27 _ _) ?_
  refine wc11 (by have := hc.body; omega) g14.fine (by have := hc.body; omega) fun A15 g15 => ?_
  have n15 := g15.next
  have l15 := hc.body
  have r15 := r14.keeps g15.keeps (by simp)
  have d15 := d14.keeps g15.keeps (by simp)
  obtain ⟨L15_0, L15_1, L15_2, L15_6, L15_7, L15_8, L15_9, L15_24⟩ := tdL r15
  obtain ⟨D15_0, D15_1, D15_2, D15_3, D15_6, D15_7, D15_13⟩ := dlL d15
  have G15 := G14.trans g15
  refine ck L15_24 (ck f65_6_0 (ck (a27 _ _) (ck (a26 _ _) (ck (a25 _ _) (eqW_self.2 ?_)))))
  obtain ⟨S28, e28, a28⟩ := addS (x := S27) (y := ⟨⟨quoteB (bl c.body)⟩⟩) (show _ < _ by have := z27; have := (show (bl ⟨⟨quoteB (bl c.body)⟩⟩).length ≤ 6001 from (Nat.le_trans (quoteB_len _) (show _ ≤ 6001 by have : (bl c.body).length ≤ 2000 := hc.body; omega))); omega)
  have z28 : (bl S28).length ≤ 24605 := by have := z27; have := (show (bl ⟨⟨quoteB (bl c.body)⟩⟩).length ≤ 6001 from (Nat.le_trans (quoteB_len _) (show _ ≤ 6001 by have : (bl c.body).length ≤ 2000 := hc.body; omega))); rw [e28, List.length_append]; omega
  refine pureW_of (v := .string S28) (a28 _ _) ?_
  obtain ⟨S29, e29, a29⟩ := addS (x := S28) (y := ⟨⟨[32]⟩⟩) (show _ < _ by have := z28; have := h32; omega)
  have z29 : (bl S29).length ≤ 24606 := by have := z28; have := h32; rw [e29, List.length_append]; omega
  refine pureW_of (v := .string S29) (a29 _ _) ?_
  refine wc11 (by have := hc.s; omega) g15.fine (by have := hc.s; omega) fun A16 g16 => ?_
  have n16 := g16.next
  have l16 := hc.s
  have r16 := r15.keeps g16.keeps (by simp)
  have d16 := d15.keeps g16.keeps (by simp)
  obtain ⟨L16_0, L16_1, L16_2, L16_6, L16_7, L16_8, L16_9, L16_24⟩ := tdL r16
  obtain ⟨D16_0, D16_1, D16_2, D16_3, D16_6, D16_7, D16_13⟩ := dlL d16
  have G16 := G15.trans g16
  refine ck (a29 _ _) (ck (a28 _ _) (ck (a27 _ _) (ck (a26 _ _) (ck (a25 _ _) (eqW_self.2 ?_)))))
  obtain ⟨S30, e30, a30⟩ := addS (x := S29) (y := ⟨⟨quoteB (bl c.s)⟩⟩) (show _ < _ by have := z29; have := (show (bl ⟨⟨quoteB (bl c.s)⟩⟩).length ≤ 6001 from (Nat.le_trans (quoteB_len _) (show _ ≤ 6001 by have : (bl c.s).length ≤ 2000 := hc.s; omega))); omega)
  have z30 : (bl S30).length ≤ 30607 := by have := z29; have := (show (bl ⟨⟨quoteB (bl c.s)⟩⟩).length ≤ 6001 from (Nat.le_trans (quoteB_len _) (show _ ≤ 6001 by have : (bl c.s).length ≤ 2000 := hc.s; omega))); rw [e30, List.length_append]; omega
  refine pureW_of (v := .string S30) (a30 _ _) ?_
  have h := hk A16 (G16.more (by omega))
  have e : S30 = ⟨⟨joinT (c.words x)⟩⟩ := ba_eq (show bl S30 = joinT (c.words x) from by
    rw [e30, e29, e28, e27, e26, e25, e24, e23, e22, e21, e20, e19, e18, e17, e16, e15, e14, e13, e12, e11, e10, e9, e8, e7, e6, e5, e4, e3, e2, e1, Lib.itoa_nonneg]
    simp only [bl_sp, Td.words, joinT, tailT, List.flatMap_cons, List.flatMap_nil, List.append_assoc, List.cons_append, List.nil_append, List.append_nil])
  rw [e]
  exact h
end Go.Proofs.YtebidlpekphaoaaGreatDoor
