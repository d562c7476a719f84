/-
  The functions Assembly.Cut and its parts answer as they say, in the abstract machine. Conditions: those of each theorem.
-/
import Derived.Test.YteiiledpfhopdaaText
import Derived.Test.YteiiledpfhopdaaAbsH

namespace Go.Proofs.Yteiiledpfhopdaa
open Go.Abs
theorem fa_25_0 (b o : Nat) : fieldAddrA Try.prog 25 (.pointer (some ⟨b, o, none⟩)) 0 = some (.pointer (some ⟨b, o, none⟩)) := by kernel_rfl
theorem fa_25_1 (b o : Nat) : fieldAddrA Try.prog 25 (.pointer (some ⟨b, o, none⟩)) 1 = some (.pointer (some ⟨b, o + 1, none⟩)) := by kernel_rfl
theorem fa_25_2 (b o : Nat) : fieldAddrA Try.prog 25 (.pointer (some ⟨b, o, none⟩)) 2 = some (.pointer (some ⟨b, o + 2, none⟩)) := by kernel_rfl
theorem fa_28_0 (b o : Nat) : fieldAddrA Try.prog 28 (.pointer (some ⟨b, o, none⟩)) 0 = some (.pointer (some ⟨b, o, none⟩)) := by kernel_rfl
theorem fa_28_1 (b o : Nat) : fieldAddrA Try.prog 28 (.pointer (some ⟨b, o, none⟩)) 1 = some (.pointer (some ⟨b, o + 1, none⟩)) := by kernel_rfl
theorem fa_43_0 (b o : Nat) : fieldAddrA Try.prog 43 (.pointer (some ⟨b, o, none⟩)) 0 = some (.pointer (some ⟨b, o, none⟩)) := by kernel_rfl
theorem fa_43_1 (b o : Nat) : fieldAddrA Try.prog 43 (.pointer (some ⟨b, o, none⟩)) 1 = some (.pointer (some ⟨b, o + 1, none⟩)) := by kernel_rfl
theorem fa_45_0 (b o : Nat) : fieldAddrA Try.prog 45 (.pointer (some ⟨b, o, none⟩)) 0 = some (.pointer (some ⟨b, o, none⟩)) := by kernel_rfl
theorem fa_45_1 (b o : Nat) : fieldAddrA Try.prog 45 (.pointer (some ⟨b, o, none⟩)) 1 = some (.pointer (some ⟨b, o + 1, none⟩)) := by kernel_rfl
theorem fa_45_2 (b o : Nat) : fieldAddrA Try.prog 45 (.pointer (some ⟨b, o, none⟩)) 2 = some (.pointer (some ⟨b, o + 2, none⟩)) := by kernel_rfl
theorem fa_45_3 (b o : Nat) : fieldAddrA Try.prog 45 (.pointer (some ⟨b, o, none⟩)) 3 = some (.pointer (some ⟨b, o + 3, none⟩)) := by kernel_rfl
theorem fa_45_4 (b o : Nat) : fieldAddrA Try.prog 45 (.pointer (some ⟨b, o, none⟩)) 4 = some (.pointer (some ⟨b, o + 4, none⟩)) := by kernel_rfl
theorem fa_45_5 (b o : Nat) : fieldAddrA Try.prog 45 (.pointer (some ⟨b, o, none⟩)) 5 = some (.pointer (some ⟨b, o + 5, none⟩)) := by kernel_rfl
theorem fa_45_6 (b o : Nat) : fieldAddrA Try.prog 45 (.pointer (some ⟨b, o, none⟩)) 6 = some (.pointer (some ⟨b, o + 6, none⟩)) := by kernel_rfl
theorem fa_45_7 (b o : Nat) : fieldAddrA Try.prog 45 (.pointer (some ⟨b, o, none⟩)) 7 = some (.pointer (some ⟨b, o + 7, none⟩)) := by kernel_rfl
theorem fa_58_0 (b o : Nat) : fieldAddrA Try.prog 58 (.pointer (some ⟨b, o, none⟩)) 0 = some (.pointer (some ⟨b, o, none⟩)) := by kernel_rfl
theorem fa_58_1 (b o : Nat) : fieldAddrA Try.prog 58 (.pointer (some ⟨b, o, none⟩)) 1 = some (.pointer (some ⟨b, o + 1, none⟩)) := by kernel_rfl
theorem fa_64_0 (b o : Nat) : fieldAddrA Try.prog 64 (.pointer (some ⟨b, o, none⟩)) 0 = some (.pointer (some ⟨b, o, none⟩)) := by kernel_rfl
theorem fa_64_1 (b o : Nat) : fieldAddrA Try.prog 64 (.pointer (some ⟨b, o, none⟩)) 1 = some (.pointer (some ⟨b, o + 1, none⟩)) := by kernel_rfl
theorem fa_64_2 (b o : Nat) : fieldAddrA Try.prog 64 (.pointer (some ⟨b, o, none⟩)) 2 = some (.pointer (some ⟨b, o + 2, none⟩)) := by kernel_rfl
theorem fa_64_3 (b o : Nat) : fieldAddrA Try.prog 64 (.pointer (some ⟨b, o, none⟩)) 3 = some (.pointer (some ⟨b, o + 10, none⟩)) := by kernel_rfl
theorem ld_3 (A : AW) (a : Addr) : loadP Try.prog A 3 (.pointer (some a)) = A.cell? a := by kernel_rfl
theorem ld_4 (A : AW) (a : Addr) : loadP Try.prog A 4 (.pointer (some a)) = A.cell? a := by kernel_rfl
theorem ld_5 (A : AW) (a : Addr) : loadP Try.prog A 5 (.pointer (some a)) = A.cell? a := by kernel_rfl
theorem ld_9 (A : AW) (a : Addr) : loadP Try.prog A 9 (.pointer (some a)) = A.cell? a := by kernel_rfl
theorem ld_22 (A : AW) (a : Addr) : loadP Try.prog A 22 (.pointer (some a)) = A.cell? a := by kernel_rfl
theorem ld_23 (A : AW) (a : Addr) : loadP Try.prog A 23 (.pointer (some a)) = A.cell? a := by kernel_rfl
theorem ld_25 (A : AW) (a : Addr) : loadP Try.prog A 25 (.pointer (some a)) = (match A.cells? a 3 with | some l => some (.agg ⟨l⟩) | none => none) := by kernel_rfl
theorem ld_28 (A : AW) (a : Addr) : loadP Try.prog A 28 (.pointer (some a)) = (match A.cells? a 2 with | some l => some (.agg ⟨l⟩) | none => none) := by kernel_rfl
theorem ld_29 (A : AW) (a : Addr) : loadP Try.prog A 29 (.pointer (some a)) = A.cell? a := by kernel_rfl
theorem ld_45 (A : AW) (a : Addr) : loadP Try.prog A 45 (.pointer (some a)) = (match A.cells? a 8 with | some l => some (.agg ⟨l⟩) | none => none) := by kernel_rfl
theorem ld_54 (A : AW) (a : Addr) : loadP Try.prog A 54 (.pointer (some a)) = A.cell? a := by kernel_rfl
theorem ld_56 (A : AW) (a : Addr) : loadP Try.prog A 56 (.pointer (some a)) = A.cell? a := by kernel_rfl
theorem ld_62 (A : AW) (a : Addr) : loadP Try.prog A 62 (.pointer (some a)) = (match A.cells? a 2 with | some l => some (.agg ⟨l⟩) | none => none) := by kernel_rfl
theorem ld_64 (A : AW) (a : Addr) : loadP Try.prog A 64 (.pointer (some a)) = (match A.cells? a 11 with | some l => some (.agg ⟨l⟩) | none => none) := by kernel_rfl
theorem st_3 (A : AW) (a : Addr) (v : Value) : storeP Try.prog A 3 (.pointer (some a)) v = (bif Nat.beq v.cells.toList.length 1 then A.setCells a v.cells.toList else none) := by kernel_rfl
theorem st_4 (A : AW) (a : Addr) (v : Value) : storeP Try.prog A 4 (.pointer (some a)) v = (bif Nat.beq v.cells.toList.length 1 then A.setCells a v.cells.toList else none) := by kernel_rfl
theorem st_9 (A : AW) (a : Addr) (v : Value) : storeP Try.prog A 9 (.pointer (some a)) v = (bif Nat.beq v.cells.toList.length 1 then A.setCells a v.cells.toList else none) := by kernel_rfl
theorem st_23 (A : AW) (a : Addr) (v : Value) : storeP Try.prog A 23 (.pointer (some a)) v = (bif Nat.beq v.cells.toList.length 1 then A.setCells a v.cells.toList else none) := by kernel_rfl
theorem st_25 (A : AW) (a : Addr) (v : Value) : storeP Try.prog A 25 (.pointer (some a)) v = (bif Nat.beq v.cells.toList.length 3 then A.setCells a v.cells.toList else none) := by kernel_rfl
theorem st_28 (A : AW) (a : Addr) (v : Value) : storeP Try.prog A 28 (.pointer (some a)) v = (bif Nat.beq v.cells.toList.length 2 then A.setCells a v.cells.toList else none) := by kernel_rfl
theorem st_29 (A : AW) (a : Addr) (v : Value) : storeP Try.prog A 29 (.pointer (some a)) v = (bif Nat.beq v.cells.toList.length 1 then A.setCells a v.cells.toList else none) := by kernel_rfl
theorem st_45 (A : AW) (a : Addr) (v : Value) : storeP Try.prog A 45 (.pointer (some a)) v = (bif Nat.beq v.cells.toList.length 8 then A.setCells a v.cells.toList else none) := by kernel_rfl
theorem st_62 (A : AW) (a : Addr) (v : Value) : storeP Try.prog A 62 (.pointer (some a)) v = (bif Nat.beq v.cells.toList.length 2 then A.setCells a v.cells.toList else none) := by kernel_rfl
theorem st_64 (A : AW) (a : Addr) (v : Value) : storeP Try.prog A 64 (.pointer (some a)) v = (bif Nat.beq v.cells.toList.length 11 then A.setCells a v.cells.toList else none) := by kernel_rfl
theorem ia_23 (b o n c i : Nat) (k : IntKind) : indexAddrA Try.prog 23 (.slice (some ⟨b, o, none⟩) n c) (.int k (.ofNat i)) = (bif Nat.blt i n then some (.pointer (some (addA ⟨b, o, none⟩ (i * 2)))) else none) := by kernel_rfl
theorem ia_29 (b o n c i : Nat) (k : IntKind) : indexAddrA Try.prog 29 (.slice (some ⟨b, o, none⟩) n c) (.int k (.ofNat i)) = (bif Nat.blt i n then some (.pointer (some (addA ⟨b, o, none⟩ (i * 8)))) else none) := by kernel_rfl
theorem ia_53 (b o n c i : Nat) (k : IntKind) : indexAddrA Try.prog 53 (.slice (some ⟨b, o, none⟩) n c) (.int k (.ofNat i)) = (bif Nat.blt i n then some (.pointer (some (addA ⟨b, o, none⟩ (i * 1)))) else none) := by kernel_rfl
theorem ln_9 (A : AW) (s : ByteArray) : lenA Try.prog A 9 (.string s) = some (.int .i64 s.data.toList.length) := by kernel_rfl
theorem ln_23 (A : AW) (a : Option Addr) (n c : Nat) : lenA Try.prog A 23 (.slice a n c) = some (.int .i64 n) := by kernel_rfl
theorem ln_29 (A : AW) (a : Option Addr) (n c : Nat) : lenA Try.prog A 29 (.slice a n c) = some (.int .i64 n) := by kernel_rfl
theorem ln_53 (A : AW) (a : Option Addr) (n c : Nat) : lenA Try.prog A 53 (.slice a n c) = some (.int .i64 n) := by kernel_rfl
end Go.Proofs.Yteiiledpfhopdaa

namespace Go.Proofs.Yteiiledpfhopdaa
open Go.Abs

/-- a frame -/
structure Fr where
  first : Bool
  last : Bool
  beg : Bool
  fin : Bool
  ty : Int
  tr : Int
  ch : Int
  pay : ByteArray
def Fr.cells (f : Fr) : List Value := [.bool f.first, .bool f.last, .bool f.beg, .bool f.fin, .int .u8 f.ty, .int .u8 f.tr, .int .u16 f.ch, .string f.pay]
def Fr.val (f : Fr) : Value := .agg ⟨f.cells⟩
def slen (s : ByteArray) : Nat := s.data.toList.length
def Fr.ok (f : Fr) : Bool := !decide (3 < f.ty) && (!decide (15 < f.tr) && !decide ((4084 : Int) < slen f.pay))

section
variable {W0 : World} {m0 : Inj Try.prog}
theorem wc20 {f : Fr} {A : AW} {K : Value → AW → Prop} (hA : A.next < maxId) (hk : ∀ A', Ext A A' → A'.next = A.next + 1 → K (.int .i64 (if f.ok then 0 else 60)) A') : Wc Try.prog theX W0 m0 20 [f.val] A K := by
  refine w20 _ _ (cuts_none (S := fun _ _ _ => False) fun _ _ _ h => h) ?_
  rw [e20]
  refine bothW_new hA rfl fun A' hx hn hg => ?_
  have hg : A'.get A.next = some (.row f.cells 45 A.next 0 false) := hg
  have hr := hk A' hx hn
  simp only [fa_45_4, fa_45_5, fa_45_7, ld_5, ld_9, ln_9, cell_row hg, Fr.cells, cellOf, isTuple, cond_false, pureW_some, bin_gtr, forkW_dec, Nat.zero_add]
  refine ⟨fun h => ?_, fun h => ⟨fun h2 => ?_, fun h2 => ⟨fun h3 => ?_, fun h3 => ?_⟩⟩⟩
  · rw [if_neg (by simp [Fr.ok, h])] at hr; exact hr
  · rw [if_neg (by simp [Fr.ok, h2])] at hr; exact hr
  · rw [if_neg (by simp only [Fr.ok, slen, h3, decide_true]; simp)] at hr; exact hr
  · rw [if_pos (by simp only [Fr.ok, slen, h, h2, h3, decide_false]; simp)] at hr; exact hr
end
end Go.Proofs.Yteiiledpfhopdaa

namespace Go.Proofs.Yteiiledpfhopdaa
open Go.Abs

/-- a segment -/
structure Seg where
  ty : Int
  pay : ByteArray
/-- v is the slice of these segments -/
def IsSegs (A : AW) (v : Value) (l : List Seg) : Prop :=
  (l = [] ∧ ∃ o c, v = .slice o 0 c) ∨ ∃ r o c cs e f b ro, v = .slice (some ⟨r, o, none⟩) l.length c ∧ A.get r = some (.row cs e f b ro) ∧ r < A.next ∧
    ∀ i s, l[i]? = some s → cs[o + i * 2]? = some (.int .u8 s.ty) ∧ cs[o + i * 2 + 1]? = some (.string s.pay)
theorem IsSegs.ext {A A' : AW} {v : Value} {l : List Seg} (h : IsSegs A v l) (hx : Ext A A') : IsSegs A' v l := by
  rcases h with h | ⟨r, o, c, cs, e, f, b, ro, h1, h2, h3, h4⟩
  · exact .inl h
  · exact .inr ⟨r, o, c, cs, e, f, b, ro, h1, by rw [hx.get r h3]; exact h2, Nat.lt_of_lt_of_le h3 hx.next, h4⟩
theorem IsSegs.len {A : AW} {v : Value} {l : List Seg} (h : IsSegs A v l) : lenA Try.prog A 23 v = some (.int .i64 l.length) := by
  rcases h with ⟨rfl, o, c, rfl⟩ | ⟨r, o, c, cs, e, f, b, ro, rfl, _⟩
  · exact ln_23 A o 0 c
  · exact ln_23 A _ _ _
/-- the place of a segment, and what stands there -/
theorem IsSegs.at {A : AW} {v : Value} {l : List Seg} (h : IsSegs A v l) {i : Nat} {s : Seg} (hi : l[i]? = some s) : ∃ r o, indexAddrA Try.prog 23 v (.int .i64 (i : Int)) = some (.pointer (some ⟨r, o, none⟩)) ∧
    A.cell? ⟨r, o, none⟩ = some (.int .u8 s.ty) ∧ A.cell? ⟨r, o + 1, none⟩ = some (.string s.pay) ∧ A.cells? ⟨r, o, none⟩ 2 = some [.int .u8 s.ty, .string s.pay] ∧ r < A.next := by
  rcases h with ⟨rfl, _⟩ | ⟨r, o, c, cs, e, f, b, ro, rfl, h2, h3, h4⟩
  · simp at hi
  · have hlt : i < l.length := (List.getElem?_eq_some_iff.1 hi).1
    obtain ⟨g1, g2⟩ := h4 i s hi
    refine ⟨r, o + i * 2, ?_, ?_, ?_, by rw [cells_row h2]; exact takeCells_two g1 g2 rfl rfl, h3⟩
    · show indexAddrA Try.prog 23 _ (.int .i64 (.ofNat i)) = _
      rw [ia_23, blt_true.2 hlt, cond_true]
      unfold addA
      cases hb : Nat.beq (i * 2) 0 with
      | true => rw [cond_true, Nat.eq_of_beq_eq_true hb, Nat.add_zero]
      | false => rfl
    · rw [cell_row h2]; exact cellOf_get g1 rfl
    · rw [cell_row h2]; exact cellOf_get g2 rfl
theorem cell_ext {A A' : AW} (hx : Ext A A') {r o : Nat} (hr : r < A.next) : A'.cell? ⟨r, o, none⟩ = A.cell? ⟨r, o, none⟩ := by
  unfold AW.cell?
  simp only [hx.get r hr]

/-- an assembly -/
def asmCells (ch tr : Int) (sv : Value) : List Value := [.int .u16 ch, .int .u8 tr, sv]
def asmVal (ch tr : Int) (sv : Value) : Value := .agg ⟨asmCells ch tr sv⟩
def total (l : List Seg) : Nat := (l.map fun s => slen s.pay).sum
theorem total_append (a b : List Seg) : total (a ++ b) = total a + total b := by unfold total; rw [List.map_append, List.sum_append]
theorem IsSegs.one {A : AW} {v : Value} {l : List Seg} (h : IsSegs A v l) : oneCell v = true ∧ isTuple v = false := by
  rcases h with ⟨_, o, c, rfl⟩ | ⟨r, o, c, cs, e, f, b, ro, rfl, _⟩ <;> exact ⟨rfl, rfl⟩

def tyAt (l : List Seg) (i : Nat) : Int := match l[i]? with | some s => s.ty | none => 0
/-- may segments be, on a track? -/
def shape (tr : Int) (l : List Seg) : Bool :=
  (tr == 0 && (l.length == 1 && tyAt l 0 == 0)) ||
  (tr == 1 && (tyAt l 0 == 1 && (l.length == 1 || ((l.length == 2 && (tyAt l 1 == 2 || tyAt l 1 == 3)) || (l.length == 3 && (tyAt l 1 == 2 && tyAt l 2 == 3))))))
def chk (tr : Int) (l : List Seg) : Int := if total l ≤ 16384 ∧ shape tr l = true then 0 else 70

section
variable {W0 : World} {m0 : Inj Try.prog}
/-- the document's Check -/
theorem wc13 {ch tr : Int} {sv : Value} {l : List Seg} {A : AW} {K : Value → AW → Prop} (hf : Fine A) (hA : A.next < maxId) (hl : IsSegs A sv l) (hn : l.length < 1000000) (hk : ∀ A', Ext A A' → Fine A' → A'.next = A.next + 1 → K (.int .i64 (chk tr l)) A') : Wc Try.prog theX W0 m0 13 [asmVal ch tr sv] A K := by
  let I : Nat → Nat → List Value → AW → Prop := fun g id vals A' => id = 0 ∧ ∃ i n : Nat, vals = [.pointer (some ⟨A.next, 0, none⟩), .int .i64 n, .int .i64 i] ∧ i ≤ l.length ∧ n = total (l.take i) ∧ n ≤ 16384 ∧ Ext A A' ∧ Fine A' ∧ A'.next = A.next + 1 ∧ A'.get A.next = some (.row (asmCells ch tr sv) 25 A.next 0 false) ∧ g = l.length - i
  refine w13 _ _ (c13 (I := I) ?_) ?_
  · rintro g id vals A' d ⟨rfl, i, n, rfl, hi, rfl, hn, hx, hf', hnx, hg, rfl⟩ hd
    rw [l13_0]
    have h1 : d 1 = .pointer (some ⟨A.next, 0, none⟩) := by simp [L13] at hd; exact hd.1
    have h3 : d 3 = .int .i64 (total (l.take i) : Nat) := by simp [L13] at hd; exact hd.2.1
    have h4 : d 4 = .int .i64 (i : Nat) := by simp [L13] at hd; exact hd.2.2
    have hl' := hl.ext hx
    have hr := hk A' hx hf' hnx
    simp only [h1, h3, h4, fa_25_2, fa_25_1, ld_23, ld_5, cell_row hg, asmCells, cellOf, hl.one.2, isT_int, cond_false, pureW_some, hl'.len, bin_lss, bin_eql, bin_neq, bin_gtr, forkW_dec, forkW_beq, forkW_bne, Nat.zero_add]
    refine ⟨fun hlt => ?_, fun hge => ?_⟩
    · have hlt : i < l.length := by omega
      obtain ⟨s, hs⟩ : ∃ s, l[i]? = some s := ⟨l[i], List.getElem?_eq_getElem hlt⟩
      obtain ⟨r, o, g1, g2, g3, _, _⟩ := hl'.at hs
      have ht : total (l.take (i + 1)) = total (l.take i) + slen s.pay := by
        rw [List.take_add_one, hs]; simp [total]
      have hm : total (l.take (i + 1)) ≤ total l := by
        have : total l = total (l.take (i + 1)) + total (l.drop (i + 1)) := by
          conv => lhs; rw [← List.take_append_drop (i + 1) l]
          exact total_append _ _
        omega
      simp only [g1, fa_28_1, ld_9, g3, ln_9, pureW_some, bin_sub, bin_add, bin_gtr, forkW_dec]
      rw [wrap_i64 (by omega) (by omega)]
      refine ⟨fun hgt => ?_, fun hle => ?_⟩
      · have : chk tr l = 70 := by
          unfold chk; rw [if_neg]; rintro ⟨h, _⟩; unfold slen at *; omega
        rw [this] at hr; exact hr
      · have hle : total (l.take i) + slen s.pay ≤ 16384 := by unfold slen at *; omega
        rw [wrap_i64 (by unfold slen at *; omega) (by unfold slen at *; omega), wrap_i64 (by omega) (by omega)]
        refine cutW_self.2 ⟨l.length - (i + 1), by omega, rfl, i + 1, total (l.take (i + 1)), ?_, by omega, rfl, by omega, hx, hf', hnx, hg, rfl⟩
        rw [ht]
        rfl
    · have hi : i = l.length := by omega
      subst hi
      rw [List.take_length] at hn
      match l, hl, hl', hn, hr with
      | [], hl, hl', hn, hr =>
        simp [chk, shape, total, tyAt] at hr
        simp
        simp_all
      | [a], hl, hl', hn, hr =>
        obtain ⟨r0, o0, p0, q0, _, _, _⟩ := hl'.at (i := 0) (s := a) rfl
        have p0 : indexAddrA Try.prog 23 sv (.int .i64 0) = _ := p0
        simp only [p0, q0, fa_28_0, ld_5, pureW_some, bin_eql, bin_neq, forkW_beq, forkW_bne, List.length_cons, List.length_nil]
        clear hd h1 h3 h4 hk
        simp only [chk, shape, tyAt, List.length_cons, List.length_nil, hn, true_and] at hr
        grind
      | [a, b], hl, hl', hn, hr =>
        obtain ⟨r0, o0, p0, q0, _, _, _⟩ := hl'.at (i := 0) (s := a) rfl
        have p0 : indexAddrA Try.prog 23 sv (.int .i64 0) = _ := p0
        obtain ⟨r1, o1, p1, q1, _, _, _⟩ := hl'.at (i := 1) (s := b) rfl
        have p1 : indexAddrA Try.prog 23 sv (.int .i64 1) = _ := p1
        simp only [p0, q0, p1, q1, fa_28_0, ld_5, pureW_some, bin_eql, bin_neq, forkW_beq, forkW_bne, List.length_cons, List.length_nil]
        clear hd h1 h3 h4 hk
        simp only [chk, shape, tyAt, List.length_cons, List.length_nil, hn, true_and] at hr
        grind
      | [a, b, c], hl, hl', hn, hr =>
        obtain ⟨r0, o0, p0, q0, _, _, _⟩ := hl'.at (i := 0) (s := a) rfl
        have p0 : indexAddrA Try.prog 23 sv (.int .i64 0) = _ := p0
        obtain ⟨r1, o1, p1, q1, _, _, _⟩ := hl'.at (i := 1) (s := b) rfl
        have p1 : indexAddrA Try.prog 23 sv (.int .i64 1) = _ := p1
        obtain ⟨r2, o2, p2, q2, _, _, _⟩ := hl'.at (i := 2) (s := c) rfl
        have p2 : indexAddrA Try.prog 23 sv (.int .i64 2) = _ := p2
        simp only [p0, q0, p1, q1, p2, q2, fa_28_0, ld_5, pureW_some, bin_eql, bin_neq, forkW_beq, forkW_bne, List.length_cons, List.length_nil]
        clear hd h1 h3 h4 hk
        simp only [chk, shape, tyAt, List.length_cons, List.length_nil, hn, true_and] at hr
        grind
      | a :: b :: c :: e :: r, hl, hl', hn, hr =>
        obtain ⟨r0, o0, p0, q0, _, _, _⟩ := hl'.at (i := 0) (s := a) rfl
        have p0 : indexAddrA Try.prog 23 sv (.int .i64 0) = _ := p0
        simp only [p0, q0, fa_28_0, ld_5, pureW_some, bin_eql, bin_neq, forkW_beq, forkW_bne, List.length_cons, List.length_nil]
        clear hd h1 h3 h4 hk
        simp only [chk, shape, tyAt, List.length_cons, List.length_nil, hn, true_and] at hr
        grind
  · rw [e13]
    refine newP_made hf hA (by simp [asmVal, asmCells, Value.cells, one_int, hl.one.1]) fun A' m => ?_
    refine cutW_self.2 ⟨l.length, rfl, 0, 0, rfl, Nat.zero_le _, by simp [total], Nat.zero_le _, m.ext, m.fine, m.next, m.row, rfl⟩
end
end Go.Proofs.Yteiiledpfhopdaa

namespace Go.Proofs.Yteiiledpfhopdaa
open Go.Abs

def Rises (l : List Seg) (i : Nat) : Prop := ∀ j s, j < i → l[j]? = some s → s.ty ≤ 3 ∧ ∀ p, 0 < j → l[j - 1]? = some p → p.ty < s.ty
theorem shape_rises {tr : Int} {l : List Seg} (h : shape tr l = true) : ∀ i, Rises l i := by
  intro i j s _ hs
  match l, h with
  | [], h => simp at hs
  | [a], h =>
    match j, hs with
    | 0, hs => simp at hs; subst hs; simp [shape, tyAt] at h; refine ⟨by omega, fun p hp => by omega⟩
  | [a, b], h =>
    match j, hs with
    | 0, hs => simp at hs; subst hs; simp [shape, tyAt] at h; refine ⟨by omega, fun p hp => by omega⟩
    | 1, hs => simp at hs; subst hs; simp [shape, tyAt] at h; refine ⟨by omega, fun p _ hp => by simp at hp; subst hp; omega⟩
  | [a, b, c], h =>
    match j, hs with
    | 0, hs => simp at hs; subst hs; simp [shape, tyAt] at h; refine ⟨by omega, fun p hp => by omega⟩
    | 1, hs => simp at hs; subst hs; simp [shape, tyAt] at h; refine ⟨by omega, fun p _ hp => by simp at hp; subst hp; omega⟩
    | 2, hs => simp at hs; subst hs; simp [shape, tyAt] at h; refine ⟨by omega, fun p _ hp => by simp at hp; subst hp; omega⟩
  | a :: b :: c :: e :: r, h => simp [shape] at h
theorem zero28 : zeroT Try.prog 28 = some (.agg #[.int .u8 0, .string .empty]) := by kernel_rfl

section
variable {W0 : World} {m0 : Inj Try.prog}
/-- Check -/
theorem wc12 {ch tr : Int} {sv : Value} {l : List Seg} {A : AW} {K : Value → AW → Prop} (hf : Fine A) (hA : A.next + 1 + l.length ≤ maxId - 1) (hl : IsSegs A sv l) (hn : l.length < 1000000) (htr : 0 ≤ tr)
    (hk : ∀ A', Ext A A' → Fine A' → A'.next ≤ A.next + 1 + l.length → K (.int .i64 (chk tr l)) A') : Wc Try.prog theX W0 m0 12 [asmVal ch tr sv] A K := by
  have hmax : maxId = 4194304 := rfl
  let I : Nat → Nat → List Value → AW → Prop := fun g id vals A' => id = 0 ∧ ∃ i n : Nat, vals = [.pointer (some ⟨A.next, 0, none⟩), .int .i64 n, sv, .int .i64 l.length, .int .i64 i] ∧ i ≤ l.length ∧ n = total (l.take i) ∧ n ≤ 16384 ∧ Rises l i ∧ Ext A A' ∧ Fine A' ∧ A'.next ≤ A.next + 1 + i ∧ A.next < A'.next ∧ A'.get A.next = some (.row (asmCells ch tr sv) 25 A.next 0 false) ∧ g = l.length - i
  refine w12 _ _ (c12 (I := I) ?_) ?_
  · rintro g id vals A' d ⟨rfl, i, n, rfl, hi, rfl, hn, hri, hx, hf', hnx, hlt0, hg, rfl⟩ hd
    rw [l12_0]
    have h1 : d 1 = .pointer (some ⟨A.next, 0, none⟩) := by simp [L12] at hd; exact hd.1
    have h3 : d 3 = .int .i64 (total (l.take i) : Nat) := by simp [L12] at hd; exact hd.2.1
    have h7 : d 7 = sv := by simp [L12] at hd; exact hd.2.2.1
    have h8 : d 8 = .int .i64 (l.length : Nat) := by simp [L12] at hd; exact hd.2.2.2.1
    have h9 : d 9 = .int .i64 (i : Nat) := by simp [L12] at hd; exact hd.2.2.2.2
    have hl' := hl.ext hx
    simp only [h1, h3, h7, h8, h9, fa_25_2, fa_25_1, ld_23, ld_5, cell_row hg, asmCells, cellOf, hl.one.2, isT_int, cond_false, pureW_some, hl'.len, bin_lss, bin_eql, bin_gtr, forkW_dec, forkW_beq, Nat.zero_add]
    refine ⟨fun hlt => ?_, fun hge => ?_⟩
    · have hlt : i < l.length := by omega
      obtain ⟨s, hs⟩ : ∃ s, l[i]? = some s := ⟨l[i], List.getElem?_eq_getElem hlt⟩
      obtain ⟨r, o, g1, g2, g3, g4, g5⟩ := hl'.at hs
      have ht : total (l.take (i + 1)) = total (l.take i) + slen s.pay := by
        rw [List.take_add_one, hs]; simp [total]
      have hm : total (l.take (i + 1)) ≤ total l := by
        have : total l = total (l.take (i + 1)) + total (l.drop (i + 1)) := by
          conv => lhs; rw [← List.take_append_drop (i + 1) l]
          exact total_append _ _
        omega
      simp only [g1, pureW_some, ld_28, g4]
      refine allocP_made zero28 hf' (by omega) rfl fun A2 m2 => ?_
      refine effW_store (st_28 _ _ _) rfl m2.row m2.mem (by decide) rfl (by omega) fun A3 m3 => ?_
      have hx3 : Ext A A3 := m3.ext (hx.trans m2.ext) (by omega)
      have hf3 : Fine A3 := m3.fine m2.fine m2.row
      have hn3 : A3.next = A'.next + 1 := by rw [m3.next, m2.next]
      have hr3 : A3.get A'.next = some (.row [.int .u8 s.ty, .string s.pay] 28 A'.next 0 false) := m3.row
      have hg3 : A3.get A.next = some (.row (asmCells ch tr sv) 25 A.next 0 false) := by rw [m3.get _ (by omega), m2.ext.get _ hlt0]; exact hg
      have hl3 := hl.ext hx3
      have hr := hk A3 hx3 hf3 (by omega)
      simp only [fa_28_0, fa_28_1, ld_5, ld_9, ln_9, cell_row hr3, cell_row hg3, asmCells, cellOf, hl.one.2, isT_int, isT_string, cond_false, pureW_some, bin_gtr, bin_sub, bin_add, forkW_dec]
      have bad : ¬ Rises l (i + 1) → K (.int .i64 70) A3 := by
        intro hb
        have : chk tr l = 70 := by
          unfold chk; rw [if_neg]; rintro ⟨_, h⟩; exact hb (shape_rises h _)
        rw [this] at hr; exact hr
      refine ⟨fun h => bad fun hb => ?_, fun h3' => ⟨fun hpos => ?_, fun hz => ?_⟩⟩
      · have := (hb i s (by omega) hs).1; omega
      · have hpos : 0 < i := by omega
        obtain ⟨p, hp⟩ : ∃ p, l[i - 1]? = some p := ⟨l[i - 1], List.getElem?_eq_getElem (by omega)⟩
        obtain ⟨r', o', k1, k2, _, _, _⟩ := hl3.at hp
        have e1 : IntKind.i64.wrap ((i : Int) - 1) = ((i - 1 : Nat) : Int) := by rw [wrap_i64 (by omega) (by omega)]; omega
        simp only [e1, k1, k2, fa_28_0, ld_5, pureW_some, bin_geq, forkW_dec]
        refine ⟨fun h => bad fun hb => ?_, fun hlt' => ?_⟩
        · have := (hb i s (by omega) hs).2 p hpos hp; omega
        · have hri' : Rises l (i + 1) := by
            intro j s' hj hs'
            rcases Nat.lt_or_ge j i with hji | hji
            · exact hri j s' hji hs'
            · obtain rfl : j = i := by omega
              rw [hs] at hs'; cases hs'
              refine ⟨by omega, fun p' _ hp' => ?_⟩
              rw [hp] at hp'; cases hp'; omega
          rw [wrap_i64 (by omega) (by omega)]
          refine ⟨fun hgt => ?_, fun hle => ?_⟩
          · have : chk tr l = 70 := by
              unfold chk; rw [if_neg]; rintro ⟨h, _⟩; unfold slen at *; omega
            rw [this] at hr; exact hr
          · have hle : total (l.take i) + slen s.pay ≤ 16384 := by unfold slen at *; omega
            rw [wrap_i64 (by unfold slen at *; omega) (by unfold slen at *; omega), wrap_i64 (by omega) (by omega)]
            refine cutW_self.2 ⟨l.length - (i + 1), by omega, rfl, i + 1, total (l.take (i + 1)), ?_, by omega, rfl, by omega, hri', hx3, hf3, by omega, by omega, hg3, rfl⟩
            rw [ht]
            rfl
      · obtain rfl : i = 0 := by omega
        · have hri' : Rises l (0 + 1) := by
            intro j s' hj hs'
            obtain rfl : j = 0 := by omega
            rw [hs] at hs'; cases hs'
            exact ⟨by omega, fun p' h0 _ => by omega⟩
          have i : Nat := 0
          rw [wrap_i64 (by omega) (by omega)]
          refine ⟨fun hgt => ?_, fun hle => ?_⟩
          · have : chk tr l = 70 := by
              unfold chk; rw [if_neg]; rintro ⟨h, _⟩; unfold slen at *; omega
            rw [this] at hr; exact hr
          · have hle : total (l.take 0) + slen s.pay ≤ 16384 := by unfold slen at *; omega
            rw [wrap_i64 (by unfold slen at *; omega) (by unfold slen at *; omega), wrap_i64 (by omega) (by omega)]
            refine cutW_self.2 ⟨l.length - (0 + 1), by omega, rfl, 0 + 1, total (l.take (0 + 1)), ?_, by omega, rfl, by omega, hri', hx3, hf3, by omega, by omega, hg3, rfl⟩
            rw [ht]
            rfl
    · have hi : i = l.length := by omega
      subst hi
      rw [List.take_length] at hn
      have hr := hk A' hx hf' (by omega)
      match l, hl, hl', hn, hr, hri with
      | [], hl, hl', hn, hr, hri =>
        simp [chk, shape, total, tyAt] at hr
        simp
        simp_all
      | [a], hl, hl', hn, hr, hri =>
        obtain ⟨r0, o0, p0, q0, _, _, _⟩ := hl'.at (i := 0) (s := a) rfl
        have p0 : indexAddrA Try.prog 23 sv (.int .i64 0) = _ := p0
        have y0 := (hri 0 a (by simp) rfl).1
        simp only [p0, q0, fa_28_0, ld_5, pureW_some, bin_neq, forkW_bne, List.length_cons, List.length_nil]
        clear hd h1 h3 h7 h8 h9 hk hri
        simp only [chk, shape, tyAt, List.length_cons, List.length_nil, hn, true_and] at hr
        grind
      | [a, b], hl, hl', hn, hr, hri =>
        obtain ⟨r0, o0, p0, q0, _, _, _⟩ := hl'.at (i := 0) (s := a) rfl
        have p0 : indexAddrA Try.prog 23 sv (.int .i64 0) = _ := p0
        have y0 := (hri 0 a (by simp) rfl).1
        have y1 := (hri 1 b (by simp) rfl).1
        have z1 := (hri 1 b (by simp) rfl).2 a (by decide) rfl
        simp only [p0, q0, fa_28_0, ld_5, pureW_some, bin_neq, forkW_bne, List.length_cons, List.length_nil]
        clear hd h1 h3 h7 h8 h9 hk hri
        simp only [chk, shape, tyAt, List.length_cons, List.length_nil, hn, true_and] at hr
        grind
      | [a, b, c], hl, hl', hn, hr, hri =>
        obtain ⟨r0, o0, p0, q0, _, _, _⟩ := hl'.at (i := 0) (s := a) rfl
        have p0 : indexAddrA Try.prog 23 sv (.int .i64 0) = _ := p0
        have y0 := (hri 0 a (by simp) rfl).1
        have y1 := (hri 1 b (by simp) rfl).1
        have z1 := (hri 1 b (by simp) rfl).2 a (by decide) rfl
        have y2 := (hri 2 c (by simp) rfl).1
        have z2 := (hri 2 c (by simp) rfl).2 b (by decide) rfl
        simp only [p0, q0, fa_28_0, ld_5, pureW_some, bin_neq, forkW_bne, List.length_cons, List.length_nil]
        clear hd h1 h3 h7 h8 h9 hk hri
        simp only [chk, shape, tyAt, List.length_cons, List.length_nil, hn, true_and] at hr
        grind
      | a :: b :: c :: e :: r, hl, hl', hn, hr, hri =>
        obtain ⟨r0, o0, p0, q0, _, _, _⟩ := hl'.at (i := 0) (s := a) rfl
        have p0 : indexAddrA Try.prog 23 sv (.int .i64 0) = _ := p0
        have y0 := (hri 0 a (by simp) rfl).1
        have y1 := (hri 1 b (by simp) rfl).1
        have z1 := (hri 1 b (by simp) rfl).2 a (by decide) rfl
        have y2 := (hri 2 c (by simp) rfl).1
        have z2 := (hri 2 c (by simp) rfl).2 b (by decide) rfl
        have y3 := (hri 3 e (by simp) rfl).1
        have z3 := (hri 3 e (by simp) rfl).2 c (by decide) rfl
        simp only [p0, q0, fa_28_0, ld_5, pureW_some, bin_neq, forkW_bne, List.length_cons, List.length_nil]
        clear hd h1 h3 h7 h8 h9 hk hri
        simp only [chk, shape, tyAt, List.length_cons, List.length_nil, hn, true_and] at hr
        grind
  · rw [e12]
    refine newP_made hf (by omega) (by simp [asmVal, asmCells, Value.cells, one_int, hl.one.1]) fun A' m => ?_
    have hg : A'.get A.next = some (.row (asmCells ch tr sv) 25 A.next 0 false) := m.row
    simp only [fa_25_2, ld_23, cell_row hg, asmCells, cellOf, hl.one.2, isT_int, cond_false, pureW_some, (hl.ext m.ext).len, Nat.zero_add]
    refine cutW_self.2 ⟨l.length, rfl, 0, 0, rfl, Nat.zero_le _, by simp [total], Nat.zero_le _, (fun j s hj => by omega), m.ext, m.fine, by rw [m.next]; omega, by rw [m.next]; omega, hg, rfl⟩
end
end Go.Proofs.Yteiiledpfhopdaa

namespace Go.Proofs.Yteiiledpfhopdaa
open Go.Abs

/-! the frames that a cut gives -/
def segFr (first last : Bool) (ty tr ch : Int) (m : Nat) (beg : Bool) (l : List UInt8) : List Fr :=
  if l.length ≤ m ∨ m = 0 then [⟨first, last, beg, true, ty, tr, ch, ⟨⟨l⟩⟩⟩] else ⟨first, last, beg, false, ty, tr, ch, ⟨⟨l.take m⟩⟩⟩ :: segFr first last ty tr ch m false (l.drop m)
termination_by l.length
decreasing_by simp only [List.length_drop]; omega
def segAt (l : List Seg) (tr ch : Int) (m i : Nat) : List Fr := match l[i]? with
  | some s => segFr (i == 0) (i + 1 == l.length) s.ty tr ch m true s.pay.data.toList
  | none => []
def cutTo (l : List Seg) (tr ch : Int) (m : Nat) : Nat → List Fr
  | 0 => []
  | i + 1 => cutTo l tr ch m i ++ segAt l tr ch m i
theorem segFr_one {first last : Bool} {ty tr ch : Int} {m : Nat} {beg : Bool} {l : List UInt8} (h : l.length ≤ m) : segFr first last ty tr ch m beg l = [⟨first, last, beg, true, ty, tr, ch, ⟨⟨l⟩⟩⟩] := by
  rw [segFr, if_pos (.inl h)]
theorem segFr_more {first last : Bool} {ty tr ch : Int} {m : Nat} {beg : Bool} {l : List UInt8} (h : m < l.length) (hm : 0 < m) : segFr first last ty tr ch m beg l = ⟨first, last, beg, false, ty, tr, ch, ⟨⟨l.take m⟩⟩⟩ :: segFr first last ty tr ch m false (l.drop m) := by
  rw [segFr, if_neg (by omega)]
theorem segFr_length {first last : Bool} {ty tr ch : Int} {m : Nat} (hm : 0 < m) : ∀ (n : Nat) (beg : Bool) (l : List UInt8), l.length = n → (segFr first last ty tr ch m beg l).length ≤ n + 1 := by
  intro n
  induction n using Nat.strongRecOn with
  | _ n ih =>
    intro beg l hl
    rcases Nat.lt_or_ge m l.length with h | h
    · rw [segFr_more h hm, List.length_cons]
      have := ih (l.drop m).length (by simp; omega) false (l.drop m) rfl
      simp only [List.length_drop] at this
      omega
    · rw [segFr_one h]; simp
theorem cutTo_length {l : List Seg} {tr ch : Int} {m : Nat} (hm : 0 < m) : ∀ i, i ≤ l.length → (cutTo l tr ch m i).length ≤ total (l.take i) + i
  | 0, _ => by simp [cutTo]
  | i + 1, h => by
    obtain ⟨s, hs⟩ : ∃ s, l[i]? = some s := ⟨l[i], List.getElem?_eq_getElem (by omega)⟩
    have h1 := cutTo_length (l := l) (tr := tr) (ch := ch) hm i (by omega)
    have h2 : (segAt l tr ch m i).length ≤ slen s.pay + 1 := by
      unfold segAt; rw [hs]; exact segFr_length hm _ _ _ rfl
    have ht : total (l.take (i + 1)) = total (l.take i) + slen s.pay := by rw [List.take_add_one, hs]; simp [total]
    simp only [cutTo, List.length_append]
    omega
def frCells (l : List Fr) : List Value := l.flatMap Fr.cells
theorem frCells_append (a b : List Fr) : frCells (a ++ b) = frCells a ++ frCells b := by simp [frCells]

/-! operations at the program's types -/
theorem zero45 : zeroT Try.prog 45 = some (.agg #[.bool false, .bool false, .bool false, .bool false, .int .u8 0, .int .u8 0, .int .u16 0, .string .empty]) := by kernel_rfl
theorem build45 (b0 b1 : Bool) (ty tr ch : Int) : buildA Try.prog 45 [(0, .bool b0), (1, .bool b1), (2, .bool true), (4, .int .u8 ty), (5, .int .u8 tr), (6, .int .u16 ch)] = some (.agg ⟨[.bool b0, .bool b1, .bool true, .bool false, .int .u8 ty, .int .u8 tr, .int .u16 ch, .string .empty]⟩) := by kernel_rfl
theorem bslice29 (A : AW) (f : Fr) : buildSliceA Try.prog A 29 1 [(0, f.val)] = (match A.newRow f.cells 45 with | some (a, w') => .ok (.slice (some a) 1 1) w' | none => .fail "buildSlice new") := by kernel_rfl
theorem sl29 : sliceElemT Try.prog 29 = some 45 := by kernel_rfl
theorem sz45 : szT Try.prog 45 = some (7 + 1) := by kernel_rfl
theorem by45 : bytesT Try.prog 45 = some 24 := by kernel_rfl
theorem hz45 : hasZero Try.prog 45 (7 + 1) = true := by kernel_rfl
theorem src29 (A : AW) (b : Nat) : sourceZ Try.prog A 45 29 (7 + 1) (.slice (some ⟨b, 0, none⟩) 1 1) = (match A.cells? ⟨b, 0, none⟩ 8 with | some l => some (1, l) | none => none) := by kernel_rfl
theorem str_hi (A : AW) (s : ByteArray) (n : Nat) (h : n ≤ s.data.toList.length) : sliceA Try.prog A 9 (.string s) none (some (.int .i64 (n : Int))) none = some (.string ⟨⟨s.data.toList.take n⟩⟩) := by
  show sliceA Try.prog A 9 (.string s) none (some (.int .i64 (.ofNat n))) none = _
  unfold sliceA
  rw [Try.underlying9]
  simp only [bounds, okMax, boundA, ble_true.2 h, Option.isSome_some, Option.isSome_none, Bool.not_false, Bool.or_self, cond_true, List.drop_zero]
theorem str_lo (A : AW) (s : ByteArray) (n : Nat) (h : n ≤ s.data.toList.length) : sliceA Try.prog A 9 (.string s) (some (.int .i64 (n : Int))) none none = some (.string ⟨⟨s.data.toList.drop n⟩⟩) := by
  show sliceA Try.prog A 9 (.string s) (some (.int .i64 (.ofNat n))) none none = _
  unfold sliceA
  rw [Try.underlying9]
  simp only [bounds, okMax, boundA, ble_true.2 h, cond_true]
  simp
  rw [List.take_of_length_le (by simp)]
theorem min_two {k : IntKind} {a b : Int} : minP (.int k a) [.int k b] = some (.int k (if b < a then b else a)) := by simp [minP, minL]
theorem bslice_made {A : AW} {f : Fr} {K : Value → AW → Prop} (hf : Fine A) (h : A.next < maxId) (hk : ∀ A', Made A A' f.cells 45 → K (.slice (some ⟨A.next, 0, none⟩) 1 1) A') : bothW (buildSliceA Try.prog A 29 1 [(0, f.val)]) K := by
  rw [bslice29]
  have hc : f.cells.all oneCell = true := rfl
  unfold AW.newRow AW.new
  simp only [hc, cond_true, blt_true.2 h]
  exact bothW_ok.2 (hk (A.push (.row f.cells 45 A.next 0 false)) ⟨AW.push_ext _ h, rfl, by rw [AW.push_get _ h, if_pos rfl], hf.alone (Nat.le_refl _), hf.push _ h⟩)
end Go.Proofs.Yteiiledpfhopdaa

namespace Go.Proofs.Yteiiledpfhopdaa
open Go.Abs

theorem segAt_length {l : List Seg} {tr ch : Int} {m i : Nat} {s : Seg} (hm : 0 < m) (hs : l[i]? = some s) : (segAt l tr ch m i).length ≤ slen s.pay + 1 := by
  unfold segAt; rw [hs]; exact segFr_length hm _ _ _ rfl

theorem beq_cast0 (i : Nat) : ((i : Int) == 0) = (i == 0) := by
  rw [Bool.eq_iff_iff]; simp
theorem beq_castL (i n : Nat) : ((i : Int) == (n : Int) - 1) = (i + 1 == n) := by
  rw [Bool.eq_iff_iff]; simp; omega
theorem total_mem {l : List Seg} {i : Nat} {s : Seg} (h : l[i]? = some s) : slen s.pay + total (l.take i) ≤ total l := by
  have h1 : total l = total (l.take (i + 1)) + total (l.drop (i + 1)) := by
    conv => lhs; rw [← List.take_append_drop (i + 1) l]
    exact total_append _ _
  have ht : total (l.take (i + 1)) = total (l.take i) + slen s.pay := by rw [List.take_add_one, h]; simp [total]
  omega
theorem own_ne {lo : Nat} {A A' : AW} {e size n : Nat} {cs : List Value} {v : Value} {b : Nat} (h : OwnS lo A e size v n cs) (hb : A.next ≤ b) (hget : ∀ i, i < A.next → A'.get i = A.get i) (hf : Fine A) :
    ∀ b' f, v = .slice (some ⟨b', 0, none⟩) n (capU + n) → OwnAt lo A' e size n cs b' f → f ≠ b := by
  intro b' f hv ho
  rcases h with ⟨rfl, _⟩ | ⟨b2, f2, rfl, ho2⟩
  · cases hv
  · simp only [Value.slice.injEq, Option.some.injEq, Addr.mk.injEq] at hv
    obtain ⟨⟨rfl, _⟩, _⟩ := hv
    have h5 := ho2.row
    have h6 := ho.row
    rw [hget _ (hf.lt h5), h5] at h6
    simp only [Option.some.injEq, AO.row.injEq] at h6
    have := ho2.ltf
    omega

theorem own_tr {lo : Nat} {A A' : AW} {e size n : Nat} {cs : List Value} {v : Value} {b : Nat} {ds : List Value} {e2 b2 : Nat} {ro : Bool} (h : OwnS lo A e size v n cs) (hne : ∀ b' f, v = .slice (some ⟨b', 0, none⟩) n (capU + n) → OwnAt lo A e size n cs b' f → f ≠ b)
    (hb : A.get b = some (.row ds e2 b b2 ro)) (hf : Fine A) (hget : ∀ i, i ≠ b → i < A.next → A'.get i = A.get i) : ∀ b' f, v = .slice (some ⟨b', 0, none⟩) n (capU + n) → OwnAt lo A' e size n cs b' f → f ≠ b := by
  intro b' f hv ho
  rcases h with ⟨rfl, _⟩ | ⟨b2, f2, rfl, ho2⟩
  · cases hv
  · simp only [Value.slice.injEq, Option.some.injEq, Addr.mk.injEq] at hv
    obtain ⟨⟨rfl, _⟩, _⟩ := hv
    have h7 := hne _ _ rfl ho2
    have h5 := ho2.row
    have h6 := ho.row
    have hbb : b2 ≠ b := by
      rintro rfl
      rw [hb] at h5
      simp only [Option.some.injEq, AO.row.injEq] at h5
      exact h7 h5.2.2.1.symm
    rw [hget _ hbb (hf.lt h5), h5] at h6
    simp only [Option.some.injEq, AO.row.injEq] at h6
    rw [← h6.2.2.1]
    exact h7
theorem own_out {lo : Nat} {A : AW} {e size n : Nat} {cs : List Value} {b b' f : Nat} {ds : List Value} {e2 b2 : Nat} {ro : Bool} (ho : OwnAt lo A e size n cs b' f) (hb : A.get b = some (.row ds e2 b b2 ro)) (hne : f ≠ b) : b ∉ A.members f := by
  intro hi
  obtain ⟨_, _, cs', e', b3, ro', h3⟩ := ho.mem b hi
  rw [hb] at h3
  simp only [Option.some.injEq, AO.row.injEq] at h3
  exact hne h3.2.2.1.symm

section
variable {W0 : World} {m0 : Inj Try.prog}
/-- Cut, where Check lets the assembly be -/
theorem wc9 {ch tr : Int} {sv : Value} {l : List Seg} {m : Nat} {A : AW} {K : Value → AW → Prop} (hf : Fine A) (hA : A.next + 70000 ≤ maxId) (hl : IsSegs A sv l) (hn : l.length ≤ 1000) (htr : 0 ≤ tr) (hm : 0 < m) (hm2 : m ≤ 4084) (hok : chk tr l = 0)
    (hk : ∀ A' v, Ext A A' → Fine A' → A'.next ≤ A.next + 60000 → OwnS A.next A' 45 8 v (cutTo l tr ch m l.length).length (frCells (cutTo l tr ch m l.length)) → K (.tuple ⟨[v, .int .i64 0]⟩) A') :
    Wc Try.prog theX W0 m0 9 [asmVal ch tr sv, .int .i64 m] A K := by
  have hmax : maxId = 4194304 := rfl
  have htot : total l ≤ 16384 := by
    unfold chk at hok
    split at hok
    · rename_i h; exact h.1
    · cases hok
  let I : Nat → Nat → List Value → AW → Prop := fun g id vals A' =>
    (id = 0 ∧ ∃ (i : Nat) (v : Value), vals = [.int .i64 m, .pointer (some ⟨A.next, 0, none⟩), v, sv, .int .i64 l.length, .int .i64 i] ∧ i ≤ l.length ∧ Ext A A' ∧ Fine A' ∧ A.next < A'.next ∧
      A'.get A.next = some (.row (asmCells ch tr sv) 25 A.next 0 false) ∧ OwnS (A.next + 1) A' 45 8 v (cutTo l tr ch m i).length (frCells (cutTo l tr ch m i)) ∧
      A'.next ≤ A.next + 2 + l.length + 2 * i + 2 * (cutTo l tr ch m i).length ∧ g = (l.length - i) * 20000) ∨
    (id = 2 ∧ ∃ (i b : Nat) (v : Value) (s : Seg) (rest : List UInt8) (done : List Fr) (beg e : Bool) (pay : ByteArray), vals = [.int .i64 m, .pointer (some ⟨A.next, 0, none⟩), v, .pointer (some ⟨b, 0, none⟩), .string ⟨⟨rest⟩⟩, sv, .int .i64 l.length, .int .i64 i] ∧
      l[i]? = some s ∧ Ext A A' ∧ Fine A' ∧ A.next < A'.next ∧ A'.get A.next = some (.row (asmCells ch tr sv) 25 A.next 0 false) ∧
      OwnS (A.next + 1) A' 45 8 v (cutTo l tr ch m i ++ done).length (frCells (cutTo l tr ch m i ++ done)) ∧ (∀ b' f, v = .slice (some ⟨b', 0, none⟩) (cutTo l tr ch m i ++ done).length (capU + (cutTo l tr ch m i ++ done).length) → OwnAt (A.next + 1) A' 45 8 (cutTo l tr ch m i ++ done).length (frCells (cutTo l tr ch m i ++ done)) b' f → f ≠ b) ∧
      A'.get b = some (.row (Fr.cells ⟨i == 0, i + 1 == l.length, beg, e, s.ty, tr, ch, pay⟩) 45 b 0 false) ∧ A'.members b = [b] ∧ A.next < b ∧
      done ++ segFr (i == 0) (i + 1 == l.length) s.ty tr ch m beg rest = segAt l tr ch m i ∧ done.length + rest.length ≤ slen s.pay ∧
      A'.next ≤ A.next + 2 + l.length + 2 * (i + 1) + 2 * (cutTo l tr ch m i ++ done).length ∧ g = (l.length - i - 1) * 20000 + rest.length + 1)
  refine w9 _ _ _ (c9 (I := I) ?_) ?_
  · rintro g id vals A' d (⟨rfl, i, v, rfl, hi, hx, hf', hlt0, hg, hv, hnx, rfl⟩ | ⟨rfl, i, b, v, s, rest, done, beg, e, pay, rfl, hs, hx, hf', hlt0, hg, hv, hvb, hb, hbm, hbl, hdone, hle, hnx, rfl⟩) hd
    · rw [l9_0]
      have h1 : d 1 = .int .i64 (m : Nat) := by simp [L9] at hd; exact hd.1
      have h2 : d 2 = .pointer (some ⟨A.next, 0, none⟩) := by simp [L9] at hd; exact hd.2.1
      have h7 : d 7 = v := by simp [L9] at hd; exact hd.2.2.1
      have h25 : d 25 = sv := by simp [L9] at hd; exact hd.2.2.2.1
      have h26 : d 26 = .int .i64 (l.length : Nat) := by simp [L9] at hd; exact hd.2.2.2.2.1
      have h27 : d 27 = .int .i64 (i : Nat) := by simp [L9] at hd; exact hd.2.2.2.2.2
      have hct := cutTo_length (l := l) (tr := tr) (ch := ch) hm i hi
      have htt : total (l.take i) ≤ total l := by
        have : total l = total (l.take i) + total (l.drop i) := by
          conv => lhs; rw [← List.take_append_drop i l]
          exact total_append _ _
        omega
      simp only [h1, h2, h7, h25, h26, h27, pureW_some, bin_lss, forkW_dec]
      refine ⟨fun hlt => ?_, fun hge => ?_⟩
      · have hlt : i < l.length := by omega
        obtain ⟨s, hs⟩ : ∃ s, l[i]? = some s := ⟨l[i], List.getElem?_eq_getElem hlt⟩
        have hl' := hl.ext hx
        obtain ⟨r, o, g1, g2, g3, g4, g5⟩ := hl'.at hs
        simp only [g1, pureW_some, ld_28, g4]
        refine allocP_made zero28 hf' (by omega) rfl fun A2 m2 => ?_
        refine effW_store (st_28 _ _ _) rfl m2.row m2.mem (by decide) rfl (by omega) fun A3 m3 => ?_
        have hx3 : Ext A A3 := m3.ext (hx.trans m2.ext) (by omega)
        have hf3 : Fine A3 := m3.fine m2.fine m2.row
        have hn3 : A3.next = A'.next + 1 := by rw [m3.next, m2.next]
        have hr3 : A3.get A'.next = some (.row [.int .u8 s.ty, .string s.pay] 28 A'.next 0 false) := m3.row
        have hg3 : A3.get A.next = some (.row (asmCells ch tr sv) 25 A.next 0 false) := by rw [m3.get _ (by omega), m2.ext.get _ hlt0]; exact hg
        have hv3 : OwnS (A.next + 1) A3 45 8 v (cutTo l tr ch m i).length (frCells (cutTo l tr ch m i)) := by
          exact (hv.made hf' m2).wrote m3 m2.row (own_ne hv (Nat.le_refl _) (fun i hi => m2.ext.get i hi) hf')
        have hl3 := hl.ext hx3
        have e9 : IntKind.i64.wrap ((l.length : Int) - 1) = (l.length : Int) - 1 := wrap_i64 (by omega) (by omega)
        simp only [fa_28_0, fa_28_1, fa_25_0, fa_25_1, fa_25_2, ld_5, ld_9, ld_22, ld_23, cell_row hr3, cell_row hg3, asmCells, cellOf, hl.one.2, isT_int, isT_string, cond_false, pureW_some, bin_eql, bin_sub, hl3.len, e9, Nat.zero_add, build45]
        refine allocP_made zero45 hf3 (by omega) rfl fun A4 m4 => ?_
        refine effW_store (st_45 _ _ _) rfl m4.row m4.mem (by decide) rfl (by omega) fun A5 m5 => ?_
        have hr5 : A5.get A'.next = some (.row [.int .u8 s.ty, .string s.pay] 28 A'.next 0 false) := by rw [m5.get _ (by omega), m4.ext.get _ (by omega)]; exact hr3
        simp only [cell_row hr5, cellOf, isT_int, isT_string, cond_false, pureW_some, ld_9, fa_28_1, Nat.zero_add]
        refine cutW_self.2 ⟨(l.length - i - 1) * 20000 + s.pay.data.toList.length + 1, ?_, .inr ⟨rfl, i, A3.next, v, s, s.pay.data.toList, [], true, false, .empty, ?_, hs, m5.ext (hx3.trans m4.ext) (by omega), m5.fine m4.fine m4.row, ?_, ?_, ?_, ?_, ?_, ?_, ?_, ?_, ?_, ?_, rfl⟩⟩
        · have := total_mem hs
          unfold slen at this
          omega
        · rfl
        · rw [m5.next, m4.next]; omega
        · rw [m5.get _ (by omega), m4.ext.get _ (by omega)]; exact hg3
        · simp only [List.append_nil]
          exact (hv3.made hf3 m4).wrote m5 m4.row (own_ne hv3 (Nat.le_refl _) (fun i hi => m4.ext.get i hi) hf3)
        · simp only [List.append_nil]
          exact own_ne hv3 (Nat.le_refl _) (fun i hi => by rw [m5.get i (by omega)]; exact m4.ext.get i hi) hf3
        · have h := m5.row
          rw [beq_cast0, beq_castL] at h
          exact h
        · rw [m5.mem]; exact m4.mem
        · omega
        · rw [List.nil_append]; unfold segAt; rw [hs]
        · simp [slen]
        · rw [m5.next, m4.next, List.append_nil]; omega
      · have hi : i = l.length := by omega
        subst hi
        exact hk A' v hx hf' (by omega) (hv.low (by omega))
    · rw [l9_2]
      have h1 : d 1 = .int .i64 (m : Nat) := by simp [L9] at hd; exact hd.1
      have h2 : d 2 = .pointer (some ⟨A.next, 0, none⟩) := by simp [L9] at hd; exact hd.2.1
      have h7 : d 7 = v := by simp [L9] at hd; exact hd.2.2.1
      have h10 : d 10 = .pointer (some ⟨b, 0, none⟩) := by simp [L9] at hd; exact hd.2.2.2.1
      have h11 : d 11 = .string ⟨⟨rest⟩⟩ := by simp [L9] at hd; exact hd.2.2.2.2.1
      have h25 : d 25 = sv := by simp [L9] at hd; exact hd.2.2.2.2.2.1
      have h26 : d 26 = .int .i64 (l.length : Nat) := by simp [L9] at hd; exact hd.2.2.2.2.2.2.1
      have h27 : d 27 = .int .i64 (i : Nat) := by simp [L9] at hd; exact hd.2.2.2.2.2.2.2
      have hlt : i < l.length := (List.getElem?_eq_some_iff.1 hs).1
      have hct := cutTo_length (l := l) (tr := tr) (ch := ch) hm i (by omega)
      have htm := total_mem hs
      have hmin : (if (rest.length : Int) < (m : Int) then (rest.length : Int) else (m : Int)) = ((min m rest.length : Nat) : Int) := by
        split <;> omega
      have hn1 : min m rest.length ≤ rest.length := Nat.min_le_right _ _
      have hl0 : A'.next < maxId := by rw [List.length_append] at hnx; omega
      have hs1 : ∀ B : AW, sliceA Try.prog B 9 (.string ⟨⟨rest⟩⟩) none (some (.int .i64 ((min m rest.length : Nat) : Int))) none = some (.string ⟨⟨rest.take (min m rest.length)⟩⟩) := fun B => str_hi B ⟨⟨rest⟩⟩ _ hn1
      have hs2 : ∀ B : AW, sliceA Try.prog B 9 (.string ⟨⟨rest⟩⟩) (some (.int .i64 ((min m rest.length : Nat) : Int))) none none = some (.string ⟨⟨rest.drop (min m rest.length)⟩⟩) := fun B => str_lo B ⟨⟨rest⟩⟩ _ hn1
      simp only [h1, h2, h7, h10, h11, h25, h26, h27, ln_9, pureW_some, min_two, hmin, hs1, hs2, fa_45_7, fa_45_3, fa_45_2, Nat.zero_add]
      refine effW_store (st_9 _ _ _) rfl hb hbm (by show 7 + 1 ≤ 8; decide) rfl (by have := hf'.lt hb; omega) fun A5 m5 => ?_
      simp only [hs2, pureW_some, eqW_self, bin_streq]
      have hb5 : A5.get b = some (.row (Fr.cells ⟨i == 0, i + 1 == l.length, beg, e, s.ty, tr, ch, ⟨⟨rest.take (min m rest.length)⟩⟩⟩) 45 b 0 false) := m5.row
      refine effW_store (st_4 _ _ _) rfl hb5 (by rw [m5.mem]; exact hbm) (by show 3 + 1 ≤ 8; decide) rfl (by have := hf'.lt hb; omega) fun A6 m6 => ?_
      have hb6 : A6.get b = some (.row (Fr.cells ⟨i == 0, i + 1 == l.length, beg, (rest.drop (min m rest.length) == []), s.ty, tr, ch, ⟨⟨rest.take (min m rest.length)⟩⟩⟩) 45 b 0 false) := m6.row
      have hx6 : Ext A A6 := m6.ext (m5.ext hx (by omega)) (by omega)
      have hf6 : Fine A6 := m6.fine (m5.fine hf' hb) hb5
      have hn6 : A6.next = A'.next := by rw [m6.next, m5.next]
      have hv6 : OwnS (A.next + 1) A6 45 8 v (cutTo l tr ch m i ++ done).length (frCells (cutTo l tr ch m i ++ done)) := by
        exact (hv.wrote m5 hb hvb).wrote m6 hb5 (own_tr hv hvb hb hf' fun i hi _ => m5.get i hi)
      have hvb6 : ∀ b' f, v = .slice (some ⟨b', 0, none⟩) (cutTo l tr ch m i ++ done).length (capU + (cutTo l tr ch m i ++ done).length) → OwnAt (A.next + 1) A6 45 8 (cutTo l tr ch m i ++ done).length (frCells (cutTo l tr ch m i ++ done)) b' f → f ≠ b :=
        own_tr hv hvb hb hf' fun i hi _ => by rw [m6.get i hi, m5.get i hi]
      generalize hfr : (⟨i == 0, i + 1 == l.length, beg, (rest.drop (min m rest.length) == []), s.ty, tr, ch, ⟨⟨rest.take (min m rest.length)⟩⟩⟩ : Fr) = fr at hb6
      have hld : loadP Try.prog A6 45 (.pointer (some ⟨b, 0, none⟩)) = some fr.val := by
        rw [ld_45, cells_row hb6]; rfl
      simp only [hld, pureW_some]
      refine bslice_made hf6 (by omega) fun A7 m7 => ?_
      have hv7 := hv6.made hf6 m7
      have hb7 : A7.get b = some (.row fr.cells 45 b 0 false) := by rw [m7.ext.get _ (hf6.lt hb6)]; exact hb6
      have hvb7 := own_tr hv6 hvb6 hb6 hf6 (A' := A7) fun i _ hi => m7.ext.get i hi
      have hsrc : sourceZ Try.prog A7 45 29 (7 + 1) (.slice (some ⟨A6.next, 0, none⟩) 1 1) = some (0 + 1, fr.cells) := by
        rw [src29, cells_row m7.row]; rfl
      have hlen : (cutTo l tr ch m i ++ done).length ≤ 17400 := by
        rw [List.length_append]; omega
      have hroom : room = 68719476736 := rfl
      obtain ⟨v', A8, e8, ap⟩ := append_own (P := Try.prog) sl29 sz45 by45 hz45 hsrc rfl rfl hv7 m7.fine (by rw [m7.next]; omega) (by rw [m7.next]; omega) (by rw [hroom]; omega) (by rw [hroom]; omega)
      rw [e8]
      refine bothW_ok.2 ?_
      have hb8 : A8.get b = some (.row fr.cells 45 b 0 false) := by
        rw [ap.get b (by rw [m7.next]; have := hf6.lt hb6; omega) fun b' f hvv ho => own_out ho hb7 (hvb7 b' f hvv ho)]
        exact hb7
      have hcat : frCells (cutTo l tr ch m i ++ done) ++ fr.cells = frCells (cutTo l tr ch m i ++ (done ++ [fr])) := by
        rw [← List.append_assoc, frCells_append (cutTo l tr ch m i ++ done)]; simp [frCells]
      have hcl : (cutTo l tr ch m i ++ done).length + (0 + 1) = (cutTo l tr ch m i ++ (done ++ [fr])).length := by simp; omega
      have hx7 : Ext A A7 := hx6.trans m7.ext
      have hn7 : A7.next = A'.next + 1 := by rw [m7.next, hn6]
      have hbn : b < A'.next := hf'.lt hb
      have hx8 : Ext A A8 := ⟨by rw [ap.next]; have := hx7.next; omega, fun j hj => by rw [ap.get j (by omega) fun b' f hvv ho hi' => by have := (ho.mem j hi').1; omega]; exact hx7.get j hj,
        fun g hg => by rw [ap.mem g (by omega) fun b' f hvv ho => by have := ho.lof; omega]; exact hx7.mem g hg⟩
      have hg8 : A8.get A.next = some (.row (asmCells ch tr sv) 25 A.next 0 false) := by
        rw [ap.get _ (by omega) fun b' f hvv ho hi' => by have := (ho.mem _ hi').1; omega]
        rw [m7.ext.get _ (by omega), m6.get _ (by omega), m5.get _ (by omega)]
        exact hg
      have hm8 : A8.members b = [b] := by
        rw [ap.mem b (by omega) fun b' f hvv ho => (hvb7 b' f hvv ho).symm, m7.ext.mem b (by omega), m6.mem, m5.mem]
        exact hbm
      have hv8 := ap.own
      have hf8 := ap.fam
      rw [hcat, hcl] at hv8 hf8
      have hvb8 : ∀ b' f, v' = .slice (some ⟨b', 0, none⟩) (cutTo l tr ch m i ++ (done ++ [fr])).length (capU + (cutTo l tr ch m i ++ (done ++ [fr])).length) → OwnAt (A.next + 1) A8 45 8 (cutTo l tr ch m i ++ (done ++ [fr])).length (frCells (cutTo l tr ch m i ++ (done ++ [fr]))) b' f → f ≠ b := by
        intro b' f hvv ho
        rcases hf8 b' f hvv ho with h | ⟨b2, h3, h4⟩
        · omega
        · exact hvb7 b2 f h3 h4
      simp only [ld_4, cell_row hb8, Fr.cells, cellOf, isT_bool, cond_false, pureW_some, forkW_bool, bin_add]
      have hl9 : (cutTo l tr ch m i ++ (done ++ [fr])).length = (cutTo l tr ch m i ++ done).length + 1 := by simp; omega
      refine ⟨fun hend => ?_, fun hend => ?_⟩
      · have hem : rest.drop (min m rest.length) = [] := by
          rw [← hfr] at hend; simpa using hend
        have hlm : rest.length ≤ m := by
          have := congrArg List.length hem
          simp only [List.length_drop, List.length_nil] at this
          omega
        have hseg : done ++ [fr] = segAt l tr ch m i := by
          rw [← hdone, segFr_one hlm, ← hfr, hem]
          rw [show min m rest.length = rest.length by omega, List.take_length]
          rfl
        rw [wrap_i64 (by omega) (by omega)]
        refine cutW_self.2 ⟨(l.length - (i + 1)) * 20000, by omega, .inl ⟨rfl, i + 1, v', rfl, by omega, hx8, ap.fine, by rw [ap.next]; omega, hg8, ?_, ?_, rfl⟩⟩
        · rw [hseg] at hv8
          exact hv8
        · have : cutTo l tr ch m (i + 1) = cutTo l tr ch m i ++ (done ++ [fr]) := by rw [hseg]; rfl
          rw [this, hl9, ap.next]; omega
      · have hne : rest.drop (min m rest.length) ≠ [] := by
          intro hem
          rw [← hfr] at hend; simp [hem] at hend
        have hlm : m < rest.length := by
          rcases Nat.lt_or_ge m rest.length with h | h
          · exact h
          · exact absurd (List.drop_eq_nil_of_le (by omega)) hne
        have hmm : min m rest.length = m := by omega
        rw [hmm] at hfr hne ⊢
        have hb8' : A8.get b = some (.row fr.cells 45 b 0 false) := hb8
        refine effW_store (st_4 _ _ _) rfl hb8' hm8 (by show 2 + 1 ≤ 8; decide) rfl (by omega) fun A9 m9 => ?_
        have hb9 : A9.get b = some (.row (Fr.cells ⟨i == 0, i + 1 == l.length, false, fr.fin, s.ty, tr, ch, fr.pay⟩) 45 b 0 false) := by
          rw [← hfr] at m9 ⊢
          exact m9.row
        have hxx : ∀ j, j ≠ b → j < A8.next → A9.get j = A8.get j := fun j hj _ => m9.get j hj
        refine cutW_self.2 ⟨(l.length - i - 1) * 20000 + (rest.drop m).length + 1, by rw [List.length_drop]; omega, .inr ⟨rfl, i, b, v', s, rest.drop m, done ++ [fr], false, fr.fin, fr.pay, rfl, hs, m9.ext hx8 (by omega), m9.fine ap.fine hb8', by rw [m9.next, ap.next]; omega, by rw [m9.get _ (by omega)]; exact hg8, ?_, ?_, hb9, by rw [m9.mem]; exact hm8, hbl, ?_, ?_, ?_, rfl⟩⟩
        · exact hv8.wrote m9 hb8' hvb8
        · exact own_tr hv8 hvb8 hb8' ap.fine hxx
        · rw [← hdone, segFr_more hlm hm, List.append_assoc, ← hfr]
          simp only [List.singleton_append]
          congr 2
          simp [hne]
        · rw [List.length_append, List.length_drop]; simp only [List.length_cons, List.length_nil]; omega
        · rw [m9.next, ap.next, hl9]; omega
  · rw [e9]
    have hone : (Value.cells (asmVal ch tr sv)).toList.all oneCell = true := by simp [asmVal, asmCells, Value.cells, one_int, hl.one.1]
    refine newP_made hf (by omega) hone fun A1 m1 => ?_
    have hg : A1.get A.next = some (.row (asmCells ch tr sv) 25 A.next 0 false) := m1.row
    have hld : loadP Try.prog A1 25 (.pointer (some ⟨A.next, 0, none⟩)) = some (asmVal ch tr sv) := by
      rw [ld_25, cells_row hg]
      simp [asmCells, takeCells, isT_int, hl.one.2, asmVal]
    simp only [bin_lss, bin_gtr, forkW_dec, hld, pureW_some]
    refine ⟨fun h => by omega, fun _ => ⟨fun h => by omega, fun _ => ?_⟩⟩
    refine wc12 m1.fine (by rw [m1.next]; omega) (hl.ext m1.ext) (by omega) htr fun A2 hx2 hf2 hn2 => ?_
    rw [hok]
    have hg2 : A2.get A.next = some (.row (asmCells ch tr sv) 25 A.next 0 false) := by rw [hx2.get _ (by rw [m1.next]; omega)]; exact hg
    have hx2' := m1.ext.trans hx2
    simp only [bin_neq, pureW_some, forkW_bne, fa_25_2, ld_23, cell_row hg2, asmCells, cellOf, hl.one.2, isT_int, cond_false, (hl.ext hx2').len, Nat.zero_add]
    refine ⟨fun h => absurd rfl h, fun _ => cutW_self.2 ⟨_, .inl ⟨rfl, 0, .slice none 0 0, rfl, Nat.zero_le _, hx2', hf2, by have := hx2.next; rw [m1.next] at this; omega, hg2, .inl ⟨rfl, rfl, rfl⟩, by rw [m1.next] at hn2; simp only [cutTo, List.length_nil]; omega, rfl⟩⟩⟩
end
end Go.Proofs.Yteiiledpfhopdaa


namespace Go.Proofs.Yteiiledpfhopdaa
open Go.Abs

theorem build45b (b0 b1 b2 b3 : Bool) (ty tr ch : Int) (s : ByteArray) : buildA Try.prog 45 [(0, .bool b0), (1, .bool b1), (2, .bool b2), (3, .bool b3), (4, .int .u8 ty), (5, .int .u8 tr), (6, .int .u16 ch), (7, .string s)] = some (.agg ⟨[.bool b0, .bool b1, .bool b2, .bool b3, .int .u8 ty, .int .u8 tr, .int .u16 ch, .string s]⟩) := by kernel_rfl
theorem fresh45 (f : Fr) : freshOf Try.prog (evalT (Tm.fill ⟨1, .nil⟩ 0 [f.val])) (.buildSlice 29 1 #[(0, .tmp 0)]) = some (.slice f.cells 45 1) := by kernel_rfl
theorem frame_same (f : Fr) : sameL (sameV 6) f.cells f.cells = true := by
  simp only [Fr.cells, sameL, same_bool, same_int, same_string, Bool.and_self]
theorem freshW_frame {f : Fr} {A : AW} {b : Nat} {p : Prop} (h : A.get b = some (.row f.cells 45 b 0 false)) (hp : p) : freshW (freshOf Try.prog (evalT (Tm.fill ⟨1, .nil⟩ 0 [f.val])) (.buildSlice 29 1 #[(0, .tmp 0)])) A (.slice (some ⟨b, 0, none⟩) 1 1) p := by
  refine ⟨⟨_, fresh45 f, ?_⟩, hp⟩
  simp only [stillFresh, rowHas, h, frame_same, Option.isNone_none, Bool.true_and, Nat.beq_refl, Bool.and_self]
theorem str_mid (A : AW) (s : ByteArray) (x y : Nat) (h1 : x ≤ y) (h2 : y ≤ s.data.toList.length) : sliceA Try.prog A 9 (.string s) (some (.int .i64 (x : Int))) (some (.int .i64 (y : Int))) none = some (.string ⟨⟨(s.data.toList.take y).drop x⟩⟩) := by
  show sliceA Try.prog A 9 (.string s) (some (.int .i64 (.ofNat x))) (some (.int .i64 (.ofNat y))) none = _
  unfold sliceA
  rw [Try.underlying9]
  simp only [bounds, okMax, boundA, ble_true.2 h1, ble_true.2 h2, Option.isSome_some, Option.isSome_none, Bool.not_false, Bool.or_true, cond_true]
theorem chunk_seg {first last : Bool} {ty tr ch : Int} {m F : Nat} {beg : Bool} {pay : List UInt8} (hm : 0 < m) (hF : F ≤ pay.length) :
    segFr first last ty tr ch m beg (pay.drop F) = ⟨first, last, beg, (min (F + m) pay.length == pay.length), ty, tr, ch, ⟨⟨(pay.take (min (F + m) pay.length)).drop F⟩⟩⟩ :: (if pay.length ≤ F + m then [] else segFr first last ty tr ch m false (pay.drop (F + m))) := by
  rcases Nat.lt_or_ge (F + m) pay.length with h | h
  · rw [segFr_more (by rw [List.length_drop]; omega) hm, if_neg (by omega), List.drop_drop]
    have e1 : min (F + m) pay.length = F + m := by omega
    have e2 : (F + m == pay.length) = false := by simp; omega
    have e3 : (pay.take (F + m)).drop F = (pay.drop F).take m := by rw [List.drop_take]; congr 1; omega
    rw [e1, e2, e3]
  · rw [segFr_one (by rw [List.length_drop]; omega), if_pos h]
    have e1 : min (F + m) pay.length = pay.length := by omega
    rw [e1, List.take_length]
    simp

section
variable {W0 : World} {m0 : Inj Try.prog}
/-- the document's Cut, where Check lets the assembly be -/
theorem wc10 {ch tr : Int} {sv : Value} {l : List Seg} {m : Nat} {A : AW} {K : Value → AW → Prop} (hf : Fine A) (hA : A.next + 70000 ≤ maxId) (hl : IsSegs A sv l) (hn : l.length ≤ 1000) (htr : 0 ≤ tr) (hm : 0 < m) (hm2 : m ≤ 4084) (hok : chk tr l = 0)
    (hk : ∀ A' v, Ext A A' → Fine A' → A'.next ≤ A.next + 60000 → OwnS A.next A' 45 8 v (cutTo l tr ch m l.length).length (frCells (cutTo l tr ch m l.length)) → K (.tuple ⟨[v, .int .i64 0]⟩) A') :
    Wc Try.prog theX W0 m0 10 [asmVal ch tr sv, .int .i64 m] A K := by
  have hmax : maxId = 4194304 := rfl
  have hroom : room = 68719476736 := rfl
  have htot : total l ≤ 16384 := by
    unfold chk at hok
    split at hok
    · rename_i h; exact h.1
    · cases hok
  let I : Nat → Nat → List Value → AW → Prop := fun g id vals A' =>
    (id = 0 ∧ ∃ (i : Nat) (v : Value), vals = [.int .i64 m, .pointer (some ⟨A.next, 0, none⟩), v, .int .i64 i] ∧ i ≤ l.length ∧ Ext A A' ∧ Fine A' ∧ A.next < A'.next ∧
      A'.get A.next = some (.row (asmCells ch tr sv) 25 A.next 0 false) ∧ OwnS (A.next + 1) A' 45 8 v (cutTo l tr ch m i).length (frCells (cutTo l tr ch m i)) ∧
      A'.next ≤ A.next + 3 + 2 * (cutTo l tr ch m i).length ∧ g = (l.length - i) * 50000) ∨
    (id = 2 ∧ ∃ (i F : Nat) (v : Value) (s : Seg) (done : List Fr), vals = [.int .i64 m, .pointer (some ⟨A.next, 0, none⟩), v, .int .i64 i, .string s.pay, .int .i64 F] ∧
      l[i]? = some s ∧ Ext A A' ∧ Fine A' ∧ A.next < A'.next ∧ A'.get A.next = some (.row (asmCells ch tr sv) 25 A.next 0 false) ∧
      OwnS (A.next + 1) A' 45 8 v (cutTo l tr ch m i ++ done).length (frCells (cutTo l tr ch m i ++ done)) ∧
      done ++ (if F = 0 ∨ F < slen s.pay then segFr (i == 0) (i + 1 == l.length) s.ty tr ch m (F == 0) (s.pay.data.toList.drop F) else []) = segAt l tr ch m i ∧ done.length ≤ F ∧ F ≤ slen s.pay + m ∧
      A'.next ≤ A.next + 3 + 2 * (cutTo l tr ch m i ++ done).length ∧ g = (l.length - i - 1) * 50000 + (30000 - F) + 1)
  refine w10 _ _ _ (c10 (I := I) ?_) ?_
  · rintro g id vals A' d (⟨rfl, i, v, rfl, hi, hx, hf', hlt0, hg, hv, hnx, rfl⟩ | ⟨rfl, i, F, v, s, done, rfl, hs, hx, hf', hlt0, hg, hv, hdone, hle, hFm, hnx, rfl⟩) hd
    · rw [l10_0]
      have h1 : d 1 = .int .i64 (m : Nat) := by simp [L10] at hd; exact hd.1
      have h2 : d 2 = .pointer (some ⟨A.next, 0, none⟩) := by simp [L10] at hd; exact hd.2.1
      have h6 : d 6 = v := by simp [L10] at hd; exact hd.2.2.1
      have h7 : d 7 = .int .i64 (i : Nat) := by simp [L10] at hd; exact hd.2.2.2
      have hct := cutTo_length (l := l) (tr := tr) (ch := ch) hm i hi
      have htt : total (l.take i) ≤ total l := by
        have : total l = total (l.take i) + total (l.drop i) := by
          conv => lhs; rw [← List.take_append_drop i l]
          exact total_append _ _
        omega
      have hl' := hl.ext hx
      simp only [h1, h2, h6, h7, fa_25_2, ld_23, cell_row hg, asmCells, cellOf, hl.one.2, isT_int, cond_false, pureW_some, hl'.len, bin_lss, forkW_dec, Nat.zero_add]
      refine ⟨fun hlt => ?_, fun hge => ?_⟩
      · have hlt : i < l.length := by omega
        obtain ⟨s, hs⟩ : ∃ s, l[i]? = some s := ⟨l[i], List.getElem?_eq_getElem hlt⟩
        obtain ⟨r, o, g1, g2, g3, g4, g5⟩ := hl'.at hs
        simp only [g1, pureW_some, fa_28_1, ld_9, g3]
        refine cutW_self.2 ⟨(l.length - i - 1) * 50000 + (30000 - 0) + 1, by omega, .inr ⟨rfl, i, 0, v, s, [], rfl, hs, hx, hf', hlt0, hg, by rw [List.append_nil]; exact hv, ?_, Nat.le_refl _, Nat.zero_le _, by rw [List.append_nil]; exact hnx, rfl⟩⟩
        rw [if_pos (.inl rfl), List.nil_append, List.drop_zero]
        unfold segAt
        rw [hs]
        rfl
      · have hi : i = l.length := by omega
        subst hi
        exact hk A' v hx hf' (by omega) (hv.low (by omega))
    · rw [l10_2]
      have h1 : d 1 = .int .i64 (m : Nat) := by simp [L10] at hd; exact hd.1
      have h2 : d 2 = .pointer (some ⟨A.next, 0, none⟩) := by simp [L10] at hd; exact hd.2.1
      have h6 : d 6 = v := by simp [L10] at hd; exact hd.2.2.1
      have h7 : d 7 = .int .i64 (i : Nat) := by simp [L10] at hd; exact hd.2.2.2.1
      have h8 : d 8 = .string s.pay := by simp [L10] at hd; exact hd.2.2.2.2.1
      have h9 : d 9 = .int .i64 (F : Nat) := by simp [L10] at hd; exact hd.2.2.2.2.2
      have hlt : i < l.length := (List.getElem?_eq_some_iff.1 hs).1
      have hct := cutTo_length (l := l) (tr := tr) (ch := ch) hm i (by omega)
      have htm := total_mem hs
      have hl' := hl.ext hx
      obtain ⟨r, o, g1, g2, g3, g4, g5⟩ := hl'.at hs
      have hpl : s.pay.data.toList.length = slen s.pay := rfl
      have hmin : (if (slen s.pay : Int) < ((F : Int) + (m : Int)) then (slen s.pay : Int) else ((F : Int) + (m : Int))) = ((min (F + m) (slen s.pay) : Nat) : Int) := by
        split <;> omega
      have e9 : IntKind.i64.wrap ((l.length : Int) - 1) = (l.length : Int) - 1 := wrap_i64 (by omega) (by omega)
      have eF : IntKind.i64.wrap ((F : Int) + (m : Int)) = (F : Int) + (m : Int) := wrap_i64 (by omega) (by omega)
      have eb1 : (((min (F + m) (slen s.pay) : Nat) : Int) == (slen s.pay : Int)) = (min (F + m) (slen s.pay) == slen s.pay) := by rw [Bool.eq_iff_iff]; simp; omega
      have hl0 : A'.next + 10 < maxId := by rw [List.length_append] at hnx; omega
      simp only [h9, bin_eql, pureW_some, forkW_beq]
      refine ⟨fun hF0 => ?_, fun hF0 => ?_⟩
      · have hF0 : F = 0 := by omega
        have hmid : ∀ B : AW, sliceA Try.prog B 9 (.string s.pay) (some (.int .i64 (F : Int))) (some (.int .i64 ((min (F + m) (slen s.pay) : Nat) : Int))) none = some (.string ⟨⟨(s.pay.data.toList.take (min (F + m) (slen s.pay))).drop F⟩⟩) := fun B => str_mid B s.pay F _ (by omega) (by rw [hpl]; omega)
        simp only [h1, h2, h6, h7, h8, h9, bin_add, eF, pureW_some, ln_9, hpl, min_two, hmin, bin_eql, fa_25_0, fa_25_1, fa_25_2, ld_23, ld_22, ld_5, cell_row hg, asmCells, cellOf, hl.one.2, isT_int, cond_false, hl'.len, bin_sub, e9, g1, fa_28_0, g2, hmid, beq_cast0, beq_castL, eb1, build45b, Nat.zero_add]
        refine bslice_made (f := ⟨i == 0, i + 1 == l.length, F == 0, min (F + m) (slen s.pay) == slen s.pay, s.ty, tr, ch, ⟨⟨(s.pay.data.toList.take (min (F + m) (slen s.pay))).drop F⟩⟩⟩) hf' (by omega) fun A7 m7 => ?_
        have hg7 : A7.get A.next = some (.row (asmCells ch tr sv) 25 A.next 0 false) := by rw [m7.ext.get _ hlt0]; exact hg
        have hx7 := hx.trans m7.ext
        have hl7 := hl.ext hx7
        have g27 : A7.cell? ⟨r, o, none⟩ = some (.int .u8 s.ty) := by rw [cell_ext m7.ext g5]; exact g2
        refine freshW_frame m7.row ?_
        simp only [fa_25_0, fa_25_1, fa_25_2, ld_23, ld_22, ld_5, cell_row hg7, asmCells, cellOf, hl.one.2, isT_int, cond_false, pureW_some, hl7.len, ln_9, hpl, eqW_self, g1, fa_28_0, g27, hmid, beq_cast0, beq_castL, eb1, Nat.zero_add]
        generalize hfr : (⟨i == 0, i + 1 == l.length, F == 0, min (F + m) (slen s.pay) == slen s.pay, s.ty, tr, ch, ⟨⟨(s.pay.data.toList.take (min (F + m) (slen s.pay))).drop F⟩⟩⟩ : Fr) = fr at m7 ⊢
        have hv7 := hv.made hf' m7
        have hsrc : sourceZ Try.prog A7 45 29 (7 + 1) (.slice (some ⟨A'.next, 0, none⟩) 1 1) = some (0 + 1, fr.cells) := by
          rw [src29, cells_row m7.row]; rfl
        have hlen : (cutTo l tr ch m i ++ done).length ≤ 40000 := by
          rw [List.length_append]; omega
        obtain ⟨v', A8, e8, ap⟩ := append_own (P := Try.prog) sl29 sz45 by45 hz45 hsrc rfl rfl hv7 m7.fine (by rw [m7.next]; omega) (by rw [m7.next]; omega) (by rw [hroom]; omega) (by rw [hroom]; omega)
        rw [e8]
        refine bothW_ok.2 ?_
        have hcat : frCells (cutTo l tr ch m i ++ done) ++ fr.cells = frCells (cutTo l tr ch m i ++ (done ++ [fr])) := by
          rw [← List.append_assoc, frCells_append (cutTo l tr ch m i ++ done)]; simp [frCells]
        have hcl : (cutTo l tr ch m i ++ done).length + (0 + 1) = (cutTo l tr ch m i ++ (done ++ [fr])).length := by simp; omega
        have hn7 : A7.next = A'.next + 1 := m7.next
        have hx8 : Ext A A8 := ⟨by rw [ap.next]; have := hx7.next; omega, fun j hj => by rw [ap.get j (by omega) fun b' f hvv ho hi' => by have := (ho.mem j hi').1; omega]; exact hx7.get j hj,
          fun g hg => by rw [ap.mem g (by omega) fun b' f hvv ho => by have := ho.lof; omega]; exact hx7.mem g hg⟩
        have hg8 : A8.get A.next = some (.row (asmCells ch tr sv) 25 A.next 0 false) := by
          rw [ap.get _ (by omega) fun b' f hvv ho hi' => by have := (ho.mem _ hi').1; omega]
          exact hg7
        have hv8 := ap.own
        rw [hcat, hcl] at hv8
        have hl9 : (cutTo l tr ch m i ++ (done ++ [fr])).length = (cutTo l tr ch m i ++ done).length + 1 := by simp; omega
        have hcs := chunk_seg (first := i == 0) (last := i + 1 == l.length) (ty := s.ty) (tr := tr) (ch := ch) (beg := F == 0) (pay := s.pay.data.toList) hm (F := F) (by rw [hpl]; omega)
        rw [hpl, hfr] at hcs
        rw [if_pos (.inl hF0), hcs] at hdone
        refine cutW_self.2 ⟨(l.length - i - 1) * 50000 + (30000 - (F + m)) + 1, by omega, .inr ⟨rfl, i, F + m, v', s, done ++ [fr], by simp, hs, hx8, ap.fine, by rw [ap.next]; omega, hg8, hv8, ?_, by simp; omega, by omega, by rw [ap.next, hl9]; omega, rfl⟩⟩
        rw [← hdone, List.append_assoc]
        congr 1
        rw [List.singleton_append]
        congr 1
        have e0 : (F + m == 0) = false := by simp; omega
        rcases Nat.lt_or_ge (F + m) (slen s.pay) with h | h
        · rw [if_pos (.inr h), if_neg (by omega), e0]
        · rw [if_neg (by omega), if_pos h]
      · have hF0 : F ≠ 0 := by omega
        simp only [h8, h9, ln_9, hpl, bin_lss, pureW_some, forkW_dec]
        refine ⟨fun hFl => ?_, fun hFl => ?_⟩
        · have hFl : F < slen s.pay := by omega
          have hmid : ∀ B : AW, sliceA Try.prog B 9 (.string s.pay) (some (.int .i64 (F : Int))) (some (.int .i64 ((min (F + m) (slen s.pay) : Nat) : Int))) none = some (.string ⟨⟨(s.pay.data.toList.take (min (F + m) (slen s.pay))).drop F⟩⟩) := fun B => str_mid B s.pay F _ (by omega) (by rw [hpl]; omega)
          simp only [h1, h2, h6, h7, h8, h9, bin_add, eF, pureW_some, ln_9, hpl, min_two, hmin, bin_eql, fa_25_0, fa_25_1, fa_25_2, ld_23, ld_22, ld_5, cell_row hg, asmCells, cellOf, hl.one.2, isT_int, cond_false, hl'.len, bin_sub, e9, g1, fa_28_0, g2, hmid, beq_cast0, beq_castL, eb1, build45b, Nat.zero_add]
          refine bslice_made (f := ⟨i == 0, i + 1 == l.length, F == 0, min (F + m) (slen s.pay) == slen s.pay, s.ty, tr, ch, ⟨⟨(s.pay.data.toList.take (min (F + m) (slen s.pay))).drop F⟩⟩⟩) hf' (by omega) fun A7 m7 => ?_
          have hg7 : A7.get A.next = some (.row (asmCells ch tr sv) 25 A.next 0 false) := by rw [m7.ext.get _ hlt0]; exact hg
          have hx7 := hx.trans m7.ext
          have hl7 := hl.ext hx7
          have g27 : A7.cell? ⟨r, o, none⟩ = some (.int .u8 s.ty) := by rw [cell_ext m7.ext g5]; exact g2
          refine freshW_frame m7.row ?_
          simp only [fa_25_0, fa_25_1, fa_25_2, ld_23, ld_22, ld_5, cell_row hg7, asmCells, cellOf, hl.one.2, isT_int, cond_false, pureW_some, hl7.len, ln_9, hpl, eqW_self, g1, fa_28_0, g27, hmid, beq_cast0, beq_castL, eb1, Nat.zero_add]
          generalize hfr : (⟨i == 0, i + 1 == l.length, F == 0, min (F + m) (slen s.pay) == slen s.pay, s.ty, tr, ch, ⟨⟨(s.pay.data.toList.take (min (F + m) (slen s.pay))).drop F⟩⟩⟩ : Fr) = fr at m7 ⊢
          have hv7 := hv.made hf' m7
          have hsrc : sourceZ Try.prog A7 45 29 (7 + 1) (.slice (some ⟨A'.next, 0, none⟩) 1 1) = some (0 + 1, fr.cells) := by
            rw [src29, cells_row m7.row]; rfl
          have hlen : (cutTo l tr ch m i ++ done).length ≤ 40000 := by
            rw [List.length_append]; omega
          obtain ⟨v', A8, e8, ap⟩ := append_own (P := Try.prog) sl29 sz45 by45 hz45 hsrc rfl rfl hv7 m7.fine (by rw [m7.next]; omega) (by rw [m7.next]; omega) (by rw [hroom]; omega) (by rw [hroom]; omega)
          rw [e8]
          refine bothW_ok.2 ?_
          have hcat : frCells (cutTo l tr ch m i ++ done) ++ fr.cells = frCells (cutTo l tr ch m i ++ (done ++ [fr])) := by
            rw [← List.append_assoc, frCells_append (cutTo l tr ch m i ++ done)]; simp [frCells]
          have hcl : (cutTo l tr ch m i ++ done).length + (0 + 1) = (cutTo l tr ch m i ++ (done ++ [fr])).length := by simp; omega
          have hn7 : A7.next = A'.next + 1 := m7.next
          have hx8 : Ext A A8 := ⟨by rw [ap.next]; have := hx7.next; omega, fun j hj => by rw [ap.get j (by omega) fun b' f hvv ho hi' => by have := (ho.mem j hi').1; omega]; exact hx7.get j hj,
            fun g hg => by rw [ap.mem g (by omega) fun b' f hvv ho => by have := ho.lof; omega]; exact hx7.mem g hg⟩
          have hg8 : A8.get A.next = some (.row (asmCells ch tr sv) 25 A.next 0 false) := by
            rw [ap.get _ (by omega) fun b' f hvv ho hi' => by have := (ho.mem _ hi').1; omega]
            exact hg7
          have hv8 := ap.own
          rw [hcat, hcl] at hv8
          have hl9 : (cutTo l tr ch m i ++ (done ++ [fr])).length = (cutTo l tr ch m i ++ done).length + 1 := by simp; omega
          have hcs := chunk_seg (first := i == 0) (last := i + 1 == l.length) (ty := s.ty) (tr := tr) (ch := ch) (beg := F == 0) (pay := s.pay.data.toList) hm (F := F) (by rw [hpl]; omega)
          rw [hpl, hfr] at hcs
          rw [if_pos (.inr hFl), hcs] at hdone
          refine cutW_self.2 ⟨(l.length - i - 1) * 50000 + (30000 - (F + m)) + 1, by omega, .inr ⟨rfl, i, F + m, v', s, done ++ [fr], by simp, hs, hx8, ap.fine, by rw [ap.next]; omega, hg8, hv8, ?_, by simp; omega, by omega, by rw [ap.next, hl9]; omega, rfl⟩⟩
          rw [← hdone, List.append_assoc]
          congr 1
          rw [List.singleton_append]
          congr 1
          have e0 : (F + m == 0) = false := by simp; omega
          rcases Nat.lt_or_ge (F + m) (slen s.pay) with h | h
          · rw [if_pos (.inr h), if_neg (by omega), e0]
          · rw [if_neg (by omega), if_pos h]
        · have hFl : slen s.pay ≤ F := by omega
          rw [if_neg (by omega), List.append_nil] at hdone
          simp only [h1, h2, h6, h7, bin_add, pureW_some]
          rw [wrap_i64 (by omega) (by omega)]
          refine cutW_self.2 ⟨(l.length - (i + 1)) * 50000, by omega, .inl ⟨rfl, i + 1, v, rfl, by omega, hx, hf', hlt0, hg, ?_, ?_, rfl⟩⟩
          · rw [hdone] at hv; exact hv
          · rw [hdone] at hnx; exact hnx
  · rw [e10]
    have hone : (Value.cells (asmVal ch tr sv)).toList.all oneCell = true := by simp [asmVal, asmCells, Value.cells, one_int, hl.one.1]
    refine newP_made hf (by omega) hone fun A1 m1 => ?_
    have hg : A1.get A.next = some (.row (asmCells ch tr sv) 25 A.next 0 false) := m1.row
    have hld : loadP Try.prog A1 25 (.pointer (some ⟨A.next, 0, none⟩)) = some (asmVal ch tr sv) := by
      rw [ld_25, cells_row hg]
      simp [asmCells, takeCells, isT_int, hl.one.2, asmVal]
    simp only [bin_lss, bin_gtr, forkW_dec, hld, pureW_some]
    refine ⟨fun h => by omega, fun _ => ⟨fun h => by omega, fun _ => ?_⟩⟩
    refine wc13 m1.fine (by rw [m1.next]; omega) (hl.ext m1.ext) (by omega) fun A2 hx2 hf2 hn2 => ?_
    rw [hok]
    have hg2 : A2.get A.next = some (.row (asmCells ch tr sv) 25 A.next 0 false) := by rw [hx2.get _ (by rw [m1.next]; omega)]; exact hg
    have hx2' := m1.ext.trans hx2
    simp only [bin_neq, pureW_some, forkW_bne]
    refine ⟨fun h => absurd rfl h, fun _ => cutW_self.2 ⟨_, .inl ⟨rfl, 0, .slice none 0 0, rfl, Nat.zero_le _, hx2', hf2, by have := hx2.next; rw [m1.next] at this; omega, hg2, .inl ⟨rfl, rfl, rfl⟩, by rw [m1.next] at hn2; simp only [cutTo, List.length_nil]; omega, rfl⟩⟩⟩
end
end Go.Proofs.Yteiiledpfhopdaa

namespace Go.Proofs.Yteiiledpfhopdaa
open Go.Abs

/-- what a cut answers -/
def cutE (tr : Int) (l : List Seg) (most : Int) : Int := if most < 1 ∨ 4084 < most then 2 else chk tr l
def cutL (ch tr : Int) (l : List Seg) (most : Int) : List Fr := if cutE tr l most = 0 then cutTo l tr ch most.toNat l.length else []
theorem chk_cases (tr : Int) (l : List Seg) : chk tr l = 0 ∨ chk tr l = 70 := by unfold chk; split <;> simp

section
variable {W0 : World} {m0 : Inj Try.prog}
theorem wc9g {ch tr most : Int} {sv : Value} {l : List Seg} {A : AW} {K : Value → AW → Prop} (hf : Fine A) (hA : A.next + 70000 ≤ maxId) (hl : IsSegs A sv l) (hn : l.length ≤ 1000) (htr : 0 ≤ tr)
    (hk : ∀ A' v, Ext A A' → Fine A' → A'.next ≤ A.next + 60000 → OwnS A.next A' 45 8 v (cutL ch tr l most).length (frCells (cutL ch tr l most)) → K (.tuple ⟨[v, .int .i64 (cutE tr l most)]⟩) A') :
    Wc Try.prog theX W0 m0 9 [asmVal ch tr sv, .int .i64 most] A K := by
  have hmax : maxId = 4194304 := rfl
  by_cases hr : most < 1 ∨ 4084 < most
  · have he : cutE tr l most = 2 := by unfold cutE; rw [if_pos hr]
    have hcl : cutL ch tr l most = [] := by unfold cutL; rw [he]; rfl
    rw [he, hcl] at hk
    refine w9 _ _ _ (cuts_none (S := fun _ _ _ => False) fun _ _ _ h => h) ?_
    rw [e9]
    refine newP_made hf (by omega) (by simp [asmVal, asmCells, Value.cells, one_int, hl.one.1]) fun A1 m1 => ?_
    have := hk A1 (.slice none 0 0) m1.ext m1.fine (by rw [m1.next]; omega) (.inl ⟨rfl, rfl, rfl⟩)
    simp only [bin_lss, bin_gtr, forkW_dec, pureW_some]
    refine ⟨fun _ => this, fun h1 => ⟨fun _ => this, fun h2 => by omega⟩⟩
  · obtain ⟨m, rfl⟩ : ∃ m : Nat, most = m := ⟨most.toNat, by omega⟩
    have he : cutE tr l m = chk tr l := by unfold cutE; rw [if_neg hr]
    rcases chk_cases tr l with hc | hc
    · have hcl : cutL ch tr l m = cutTo l tr ch m l.length := by unfold cutL; rw [he, hc]; rfl
      rw [he, hcl, hc] at hk
      exact wc9 hf hA hl hn htr (by omega) (by omega) hc hk
    · have hcl : cutL ch tr l m = [] := by unfold cutL; rw [he, hc]; rfl
      rw [he, hcl, hc] at hk
      refine w9 _ _ _ (cuts_none (S := fun _ _ _ => False) fun _ _ _ h => h) ?_
      rw [e9]
      refine newP_made hf (by omega) (by simp [asmVal, asmCells, Value.cells, one_int, hl.one.1]) fun A1 m1 => ?_
      have hg : A1.get A.next = some (.row (asmCells ch tr sv) 25 A.next 0 false) := m1.row
      have hld : loadP Try.prog A1 25 (.pointer (some ⟨A.next, 0, none⟩)) = some (asmVal ch tr sv) := by
        rw [ld_25, cells_row hg]
        simp [asmCells, takeCells, isT_int, hl.one.2, asmVal]
      simp only [bin_lss, bin_gtr, forkW_dec, hld, pureW_some]
      refine ⟨fun h => by omega, fun _ => ⟨fun h => by omega, fun _ => ?_⟩⟩
      refine wc12 m1.fine (by rw [m1.next]; omega) (hl.ext m1.ext) (by omega) htr fun A2 hx2 hf2 hn2 => ?_
      rw [hc]
      simp only [bin_neq, pureW_some, forkW_bne]
      refine ⟨fun _ => hk A2 (.slice none 0 0) (m1.ext.trans hx2) hf2 (by rw [m1.next] at hn2; omega) (.inl ⟨rfl, rfl, rfl⟩), fun h => by omega⟩

theorem wc10g {ch tr most : Int} {sv : Value} {l : List Seg} {A : AW} {K : Value → AW → Prop} (hf : Fine A) (hA : A.next + 70000 ≤ maxId) (hl : IsSegs A sv l) (hn : l.length ≤ 1000) (htr : 0 ≤ tr)
    (hk : ∀ A' v, Ext A A' → Fine A' → A'.next ≤ A.next + 60000 → OwnS A.next A' 45 8 v (cutL ch tr l most).length (frCells (cutL ch tr l most)) → K (.tuple ⟨[v, .int .i64 (cutE tr l most)]⟩) A') :
    Wc Try.prog theX W0 m0 10 [asmVal ch tr sv, .int .i64 most] A K := by
  have hmax : maxId = 4194304 := rfl
  by_cases hr : most < 1 ∨ 4084 < most
  · have he : cutE tr l most = 2 := by unfold cutE; rw [if_pos hr]
    have hcl : cutL ch tr l most = [] := by unfold cutL; rw [he]; rfl
    rw [he, hcl] at hk
    refine w10 _ _ _ (cuts_none (S := fun _ _ _ => False) fun _ _ _ h => h) ?_
    rw [e10]
    refine newP_made hf (by omega) (by simp [asmVal, asmCells, Value.cells, one_int, hl.one.1]) fun A1 m1 => ?_
    have := hk A1 (.slice none 0 0) m1.ext m1.fine (by rw [m1.next]; omega) (.inl ⟨rfl, rfl, rfl⟩)
    simp only [bin_lss, bin_gtr, forkW_dec, pureW_some]
    refine ⟨fun _ => this, fun h1 => ⟨fun _ => this, fun h2 => by omega⟩⟩
  · obtain ⟨m, rfl⟩ : ∃ m : Nat, most = m := ⟨most.toNat, by omega⟩
    have he : cutE tr l m = chk tr l := by unfold cutE; rw [if_neg hr]
    rcases chk_cases tr l with hc | hc
    · have hcl : cutL ch tr l m = cutTo l tr ch m l.length := by unfold cutL; rw [he, hc]; rfl
      rw [he, hcl, hc] at hk
      exact wc10 hf hA hl hn htr (by omega) (by omega) hc hk
    · have hcl : cutL ch tr l m = [] := by unfold cutL; rw [he, hc]; rfl
      rw [he, hcl, hc] at hk
      refine w10 _ _ _ (cuts_none (S := fun _ _ _ => False) fun _ _ _ h => h) ?_
      rw [e10]
      refine newP_made hf (by omega) (by simp [asmVal, asmCells, Value.cells, one_int, hl.one.1]) fun A1 m1 => ?_
      have hg : A1.get A.next = some (.row (asmCells ch tr sv) 25 A.next 0 false) := m1.row
      have hld : loadP Try.prog A1 25 (.pointer (some ⟨A.next, 0, none⟩)) = some (asmVal ch tr sv) := by
        rw [ld_25, cells_row hg]
        simp [asmCells, takeCells, isT_int, hl.one.2, asmVal]
      simp only [bin_lss, bin_gtr, forkW_dec, hld, pureW_some]
      refine ⟨fun h => by omega, fun _ => ⟨fun h => by omega, fun _ => ?_⟩⟩
      refine wc13 m1.fine (by rw [m1.next]; omega) (hl.ext m1.ext) (by omega) fun A2 hx2 hf2 hn2 => ?_
      rw [hc]
      simp only [bin_neq, pureW_some, forkW_bne]
      refine ⟨fun _ => hk A2 (.slice none 0 0) (m1.ext.trans hx2) hf2 (by rw [m1.next] at hn2; omega) (.inl ⟨rfl, rfl, rfl⟩), fun h => by omega⟩
end
end Go.Proofs.Yteiiledpfhopdaa

namespace Go.Proofs.Yteiiledpfhopdaa
open Go.Abs

/-- v is a slice of these frames -/
def IsFrames (A : AW) (v : Value) (l : List Fr) : Prop :=
  (l = [] ∧ v = .slice none 0 0) ∨ ∃ r c f b ro, v = .slice (some ⟨r, 0, none⟩) l.length c ∧ A.get r = some (.row (frCells l) 45 f b ro) ∧ r < A.next
theorem IsFrames.ext {A A' : AW} {v : Value} {l : List Fr} (h : IsFrames A v l) (hx : Ext A A') : IsFrames A' v l := by
  rcases h with h | ⟨r, c, f, b, ro, h1, h2, h3⟩
  · exact .inl h
  · exact .inr ⟨r, c, f, b, ro, h1, by rw [hx.get r h3]; exact h2, Nat.lt_of_lt_of_le h3 hx.next⟩
theorem OwnS.frames {lo : Nat} {A : AW} {v : Value} {l : List Fr} (h : OwnS lo A 45 8 v l.length (frCells l)) (hf : Fine A) : IsFrames A v l := by
  rcases h with ⟨h1, h2, h3⟩ | ⟨b, f, h1, h2⟩
  · exact .inl ⟨List.length_eq_zero_iff.1 h2, h1⟩
  · exact .inr ⟨b, _, f, 0, false, h1, h2.row, hf.lt h2.row⟩
theorem IsFrames.len {A : AW} {v : Value} {l : List Fr} (h : IsFrames A v l) : lenA Try.prog A 29 v = some (.int .i64 l.length) := by
  rcases h with ⟨rfl, rfl⟩ | ⟨r, c, f, b, ro, rfl, _⟩
  · exact ln_29 A none 0 0
  · exact ln_29 A _ _ _
theorem frCells_drop : ∀ (l : List Fr) (i : Nat) (f : Fr), l[i]? = some f → ∃ r, (frCells l).drop (i * 8) = f.cells ++ r
  | [], i, f, h => by simp at h
  | x :: l, 0, f, h => by
    simp at h
    subst h
    exact ⟨frCells l, by simp [frCells]⟩
  | x :: l, i + 1, f, h => by
    obtain ⟨r, hr⟩ := frCells_drop l i f (by simpa using h)
    refine ⟨r, ?_⟩
    rw [← hr]
    have : (frCells (x :: l)) = x.cells ++ frCells l := by simp [frCells]
    rw [this, show (i + 1) * 8 = x.cells.length + i * 8 by show _ = 8 + _; omega, ← List.drop_drop, List.drop_left]
theorem takeCells_frame (f : Fr) (r : List Value) : takeCells (f.cells ++ r) 8 = some f.cells := by
  simp [Fr.cells, takeCells, isT_bool, isT_int, isT_string]
theorem IsFrames.at {A : AW} {v : Value} {l : List Fr} (h : IsFrames A v l) {i : Nat} {f : Fr} (hi : l[i]? = some f) : ∃ r o, indexAddrA Try.prog 29 v (.int .i64 (i : Int)) = some (.pointer (some ⟨r, o, none⟩)) ∧ loadP Try.prog A 45 (.pointer (some ⟨r, o, none⟩)) = some f.val := by
  rcases h with ⟨rfl, rfl⟩ | ⟨r, c, fm, b, ro, rfl, h2, h3⟩
  · simp at hi
  · have hlt : i < l.length := (List.getElem?_eq_some_iff.1 hi).1
    refine ⟨r, i * 8, ?_, ?_⟩
    · show indexAddrA Try.prog 29 _ (.int .i64 (.ofNat i)) = _
      rw [ia_29, blt_true.2 hlt, cond_true]
      unfold addA
      cases hb : Nat.beq (i * 8) 0 with
      | true => rw [cond_true, Nat.eq_of_beq_eq_true hb]
      | false => simp only [cond_false, Nat.zero_add]
    · rw [ld_45, cells_row h2]
      obtain ⟨r', hr⟩ := frCells_drop l i f hi
      rw [hr, takeCells_frame]
      rfl
theorem ft45 : quiet Try.prog (underlying 45) = some (.struct (Try.prog.fieldsOf 45)) := by kernel_rfl
noncomputable def F45 (i : Nat) : Field := (Try.prog.fieldsOf 45).toList.getD i default
theorem fs45 : (Try.prog.fieldsOf 45).toList = [F45 0, F45 1, F45 2, F45 3, F45 4, F45 5, F45 6, F45 7] := by kernel_rfl
theorem pt45_0 (f : Fr) : quiet Try.prog (part (F45 0).type ⟨f.cells⟩ (F45 0).offset) = some (.bool f.first) := by kernel_rfl
theorem pt45_1 (f : Fr) : quiet Try.prog (part (F45 1).type ⟨f.cells⟩ (F45 1).offset) = some (.bool f.last) := by kernel_rfl
theorem pt45_2 (f : Fr) : quiet Try.prog (part (F45 2).type ⟨f.cells⟩ (F45 2).offset) = some (.bool f.beg) := by kernel_rfl
theorem pt45_3 (f : Fr) : quiet Try.prog (part (F45 3).type ⟨f.cells⟩ (F45 3).offset) = some (.bool f.fin) := by kernel_rfl
theorem pt45_4 (f : Fr) : quiet Try.prog (part (F45 4).type ⟨f.cells⟩ (F45 4).offset) = some (.int .u8 f.ty) := by kernel_rfl
theorem pt45_5 (f : Fr) : quiet Try.prog (part (F45 5).type ⟨f.cells⟩ (F45 5).offset) = some (.int .u8 f.tr) := by kernel_rfl
theorem pt45_6 (f : Fr) : quiet Try.prog (part (F45 6).type ⟨f.cells⟩ (F45 6).offset) = some (.int .u16 f.ch) := by kernel_rfl
theorem pt45_7 (f : Fr) : quiet Try.prog (part (F45 7).type ⟨f.cells⟩ (F45 7).offset) = some (.string f.pay) := by kernel_rfl
theorem ut4 : quiet Try.prog (underlying 4) = some .bool := by kernel_rfl
theorem ut5 : quiet Try.prog (underlying 5) = some (.int .u8) := by kernel_rfl
theorem ut22 : quiet Try.prog (underlying 22) = some (.int .u16) := by kernel_rfl
theorem ut9 : quiet Try.prog (underlying 9) = some .string := by kernel_rfl
theorem ty45_0 : (F45 0).type = 4 := by kernel_rfl
theorem ty45_1 : (F45 1).type = 4 := by kernel_rfl
theorem ty45_2 : (F45 2).type = 4 := by kernel_rfl
theorem ty45_3 : (F45 3).type = 4 := by kernel_rfl
theorem ty45_4 : (F45 4).type = 5 := by kernel_rfl
theorem ty45_5 : (F45 5).type = 5 := by kernel_rfl
theorem ty45_6 : (F45 6).type = 22 := by kernel_rfl
theorem ty45_7 : (F45 7).type = 9 := by kernel_rfl
theorem quiet45 (f : Fr) : quiet Try.prog (Op.equal 45 f.val f.val) = some true := by
  show quiet Try.prog (Op.equalIn (9999 + 1) 45 (.agg ⟨f.cells⟩) (.agg ⟨f.cells⟩)) = _
  rw [quiet_struct 9999 45 _ _ ft45 (by kernel_rfl), fs45]
  rw [quiet_field (pt45_0 f) (pt45_0 f) (by rw [ty45_0, quiet_eq_bool 9998 4 _ _ ut4]; simp)]
  rw [quiet_field (pt45_1 f) (pt45_1 f) (by rw [ty45_1, quiet_eq_bool 9998 4 _ _ ut4]; simp)]
  rw [quiet_field (pt45_2 f) (pt45_2 f) (by rw [ty45_2, quiet_eq_bool 9998 4 _ _ ut4]; simp)]
  rw [quiet_field (pt45_3 f) (pt45_3 f) (by rw [ty45_3, quiet_eq_bool 9998 4 _ _ ut4]; simp)]
  rw [quiet_field (pt45_4 f) (pt45_4 f) (by rw [ty45_4, quiet_eq_int 9998 5 _ _ _ _ ut5]; simp)]
  rw [quiet_field (pt45_5 f) (pt45_5 f) (by rw [ty45_5, quiet_eq_int 9998 5 _ _ _ _ ut5]; simp)]
  rw [quiet_field (pt45_6 f) (pt45_6 f) (by rw [ty45_6, quiet_eq_int 9998 22 _ _ _ _ ut22]; simp)]
  rw [quiet_field (pt45_7 f) (pt45_7 f) (by rw [ty45_7, quiet_eq_string 9998 9 _ _ ut9, beq_toListBytes]; simp)]
  rfl
theorem neq45 (f : Fr) (x y : Operand) : binA Try.prog .neq 45 x y f.val f.val = some (.bool false) := by
  have hg : eqGuardA Try.prog 45 x y f.val f.val = true := by
    show (!Try.prog.eqGuardType Try.prog.depth 45) = true
    kernel_rfl
  show (bif eqGuardA Try.prog 45 x y f.val f.val then (match eqA Try.prog 45 f.val f.val with | some b => some (Value.bool !b) | none => none) else none) = _
  rw [hg, cond_true]
  have he : eqA Try.prog 45 f.val f.val = some true := by
    unfold eqA
    have hc : (closedV 4 f.val && closedV 4 f.val) = true := rfl
    rw [hc, cond_true]
    exact quiet45 f
  rw [he]
  rfl
end Go.Proofs.Yteiiledpfhopdaa

namespace Go.Proofs.Yteiiledpfhopdaa
open Go.Abs

section
variable {W0 : World} {m0 : Inj Try.prog}
/-- Same, of the same -/
theorem wc11 {v1 v2 : Value} {l : List Fr} {A : AW} {K : Value → AW → Prop} (h1 : IsFrames A v1 l) (h2 : IsFrames A v2 l) (hn : l.length < 1000000) (hk : K (.bool true) A) : Wc Try.prog theX W0 m0 11 [v1, v2] A K := by
  let I : Nat → Nat → List Value → AW → Prop := fun g id vals A' => id = 0 ∧ ∃ i : Nat, vals = [v1, v2, .int .i64 i] ∧ i ≤ l.length ∧ A' = A ∧ g = l.length - i
  refine w11 _ _ _ (c11 (I := I) ?_) ?_
  · rintro g id vals A' d ⟨rfl, i, rfl, hi, rfl, rfl⟩ hd
    rw [l11_0]
    have e0 : d 0 = v1 := by simp [L11] at hd; exact hd.1
    have e1 : d 1 = v2 := by simp [L11] at hd; exact hd.2.1
    have e5 : d 5 = .int .i64 (i : Nat) := by simp [L11] at hd; exact hd.2.2
    simp only [e0, e1, e5, h1.len, pureW_some, bin_lss, forkW_dec]
    refine ⟨fun hlt => ?_, fun hge => hk⟩
    have hlt : i < l.length := by omega
    obtain ⟨f, hf⟩ : ∃ f, l[i]? = some f := ⟨l[i], List.getElem?_eq_getElem hlt⟩
    obtain ⟨r1, o1, g1, g2⟩ := h1.at hf
    obtain ⟨r2, o2, g3, g4⟩ := h2.at hf
    simp only [g1, g2, g3, g4, pureW_some, neq45, forkW_bool, bin_add]
    refine ⟨(fun h => Bool.noConfusion h), fun _ => ?_⟩
    rw [wrap_i64 (by omega) (by omega)]
    exact cutW_self.2 ⟨l.length - (i + 1), by omega, rfl, i + 1, rfl, by omega, rfl, rfl⟩
  · rw [e11]
    simp only [h1.len, h2.len, pureW_some, bin_neq, forkW_bne]
    refine ⟨fun h => absurd rfl h, fun _ => cutW_self.2 ⟨l.length, rfl, 0, rfl, Nat.zero_le _, rfl, rfl⟩⟩

/-- the law, where its own examples are known to answer true -/
theorem wc3 {ch tr most : Int} {sv : Value} {l : List Seg} {A : AW} (hf : Fine A) (hA : A.next + 400000 ≤ maxId) (hl : IsSegs A sv l) (htr : 0 ≤ tr) (hK : KC.Holds Try.prog W0 m0 ⟨8, [], [.bool true]⟩) :
    Wc Try.prog theX W0 m0 3 [asmVal ch tr sv, .int .i64 most] A fun v _ => v = .bool true := by
  have hmax : maxId = 4194304 := rfl
  have hkn : ∀ A', knW Try.prog W0 m0 8 [] A' fun v _ => v = .bool true := fun A' => ⟨[.bool true], by decide, hK, rfl, fun v hv => by simpa using hv⟩
  let I : Nat → Nat → List Value → AW → Prop := fun g id vals A' => id = 0 ∧ ∃ i : Nat, vals = [.int .i64 most, .pointer (some ⟨A.next, 0, none⟩), .int .i64 i] ∧ i ≤ l.length ∧ l.length ≤ 10 ∧ Ext A A' ∧ Fine A' ∧ A'.next = A.next + 1 ∧
    A'.get A.next = some (.row (asmCells ch tr sv) 25 A.next 0 false) ∧ g = l.length - i
  refine w3 _ _ _ (c3 (I := I) ?_) ?_
  · rintro g id vals A' d ⟨rfl, i, rfl, hi, hn, hx, hf', hnx, hg, rfl⟩ hd
    rw [l3_0]
    have h1 : d 1 = .int .i64 most := by simp [L3] at hd; exact hd.1
    have h2 : d 2 = .pointer (some ⟨A.next, 0, none⟩) := by simp [L3] at hd; exact hd.2.1
    have h5 : d 5 = .int .i64 (i : Nat) := by simp [L3] at hd; exact hd.2.2
    have hl' := hl.ext hx
    have hld : ∀ B : AW, B.get A.next = some (.row (asmCells ch tr sv) 25 A.next 0 false) → loadP Try.prog B 25 (.pointer (some ⟨A.next, 0, none⟩)) = some (asmVal ch tr sv) := by
      intro B hB
      rw [ld_25, cells_row hB]
      simp [asmCells, takeCells, isT_int, hl.one.2, asmVal]
    simp only [h1, h2, h5, fa_25_2, ld_23, cell_row hg, asmCells, cellOf, hl.one.2, isT_int, cond_false, pureW_some, hl'.len, bin_lss, forkW_dec, Nat.zero_add]
    refine ⟨fun hlt => ?_, fun hge => ?_⟩
    · have hlt : i < l.length := by omega
      obtain ⟨s, hs⟩ : ∃ s, l[i]? = some s := ⟨l[i], List.getElem?_eq_getElem hlt⟩
      obtain ⟨r, o, g1, g2, g3, g4, g5⟩ := hl'.at hs
      have next : cutW (T3 0) (T3 0) (∃ g', g' < l.length - i ∧ I g' 0 [.int .i64 most, .pointer (some ⟨A.next, 0, none⟩), .int .i64 (IntKind.i64.wrap ((i : Int) + 1))] A') := by
        rw [wrap_i64 (by omega) (by omega)]
        exact cutW_self.2 ⟨l.length - (i + 1), by omega, rfl, i + 1, rfl, by omega, hn, hx, hf', hnx, hg, rfl⟩
      simp only [g1, g3, fa_28_1, ld_9, ln_9, pureW_some, bin_gtr, bin_add, bin_lss, forkW_dec]
      exact ⟨fun _ => ⟨fun _ => ⟨fun _ => hkn A', fun _ => next⟩, fun _ => next⟩, fun _ => next⟩
    · rw [hld A' hg]
      refine pureW_some.2 ?_
      refine wc9g hf' (by omega) hl' (by omega) htr fun A2 v2 hx2 hf2 hn2 hv2 => ?_
      have hg2 : A2.get A.next = some (.row (asmCells ch tr sv) 25 A.next 0 false) := by rw [hx2.get _ (by omega)]; exact hg
      have hl2 := hl'.ext hx2
      refine pureW_of (v := v2) rfl (pureW_of (v := .int .i64 (cutE tr l most)) rfl ?_)
      rw [hld A2 hg2]
      refine pureW_some.2 ?_
      refine wc10g hf2 (by omega) hl2 (by omega) htr fun A3 v3 hx3 hf3 hn3 hv3 => ?_
      have hg3 : A3.get A.next = some (.row (asmCells ch tr sv) 25 A.next 0 false) := by rw [hx3.get _ (by have := hx2.next; omega)]; exact hg2
      have hl3 := hl2.ext hx3
      refine pureW_of (v := v3) rfl (pureW_of (v := .int .i64 (cutE tr l most)) rfl ?_)
      have hcl : (cutL ch tr l most).length < 1000000 := by
        unfold cutL
        split
        · rename_i h0
          have hr : ¬ (most < 1 ∨ 4084 < most) := by
            intro hr; unfold cutE at h0; rw [if_pos hr] at h0; cases h0
          have hc : chk tr l = 0 := by unfold cutE at h0; rwa [if_neg hr] at h0
          have htot : total l ≤ 16384 := by
            unfold chk at hc
            split at hc
            · rename_i h; exact h.1
            · cases hc
          have := cutTo_length (l := l) (tr := tr) (ch := ch) (m := most.toNat) (by omega) l.length (Nat.le_refl _)
          rw [List.take_length] at this
          omega
        · simp
      refine wc11 ((OwnS.frames hv2 hf2).ext hx3) (OwnS.frames hv3 hf3) hcl ?_
      refine forkW_bool.2 ⟨fun _ => ?_, (fun h => Bool.noConfusion h)⟩
      simp only [bin_eql, pureW_some, forkW_beq]
      refine ⟨fun _ => ?_, fun h => absurd rfl h⟩
      rw [hld A3 hg3]
      refine pureW_some.2 (pureW_some.2 ?_)
      refine wc12 hf3 (by omega) hl3 (by omega) htr fun A4 hx4 hf4 hn4 => ?_
      have hg4 : A4.get A.next = some (.row (asmCells ch tr sv) 25 A.next 0 false) := by rw [hx4.get _ (by have := hx2.next; have := hx3.next; omega)]; exact hg3
      rw [hld A4 hg4]
      refine pureW_some.2 (eqW_self.2 ?_)
      refine wc13 hf4 (by omega) (hl3.ext hx4) (by omega) fun A5 hx5 hf5 hn5 => ?_
      simp only [bin_eql, pureW_some, forkW_beq]
      exact ⟨fun _ => hkn A5, fun h => absurd rfl h⟩
  · rw [e3]
    refine newP_made hf (by omega) (by simp [asmVal, asmCells, Value.cells, one_int, hl.one.1]) fun A1 m1 => ?_
    have hg : A1.get A.next = some (.row (asmCells ch tr sv) 25 A.next 0 false) := m1.row
    simp only [fa_25_2, ld_23, cell_row hg, asmCells, cellOf, hl.one.2, isT_int, cond_false, pureW_some, (hl.ext m1.ext).len, bin_gtr, forkW_dec, Nat.zero_add]
    refine ⟨fun _ => hkn A1, fun h => cutW_self.2 ⟨l.length, rfl, 0, rfl, Nat.zero_le _, by omega, m1.ext, m1.fine, m1.next, hg, rfl⟩⟩
end
end Go.Proofs.Yteiiledpfhopdaa
