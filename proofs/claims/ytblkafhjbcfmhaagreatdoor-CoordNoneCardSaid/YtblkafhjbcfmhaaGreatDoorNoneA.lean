/-
  What the operations are at the program's types. Conditions: none.
-/
import Derived.Test.YtblkafhjbcfmhaaGreatDoorText
import Derived.Test.YtblkafhjbcfmhaaGreatDoorAbsI

namespace Go.Proofs.YtblkafhjbcfmhaaGreatDoor
open Go.Abs
theorem fa_25_0 (b o : Nat) : fieldAddrA Tryz.prog 25 (.pointer (some ⟨b, o, none⟩)) 0 = some (.pointer (some ⟨b, o, none⟩)) := by kernel_rfl
theorem fa_25_1 (b o : Nat) : fieldAddrA Tryz.prog 25 (.pointer (some ⟨b, o, none⟩)) 1 = some (.pointer (some ⟨b, o + 1, none⟩)) := by kernel_rfl
theorem fa_25_2 (b o : Nat) : fieldAddrA Tryz.prog 25 (.pointer (some ⟨b, o, none⟩)) 2 = some (.pointer (some ⟨b, o + 2, none⟩)) := by kernel_rfl
theorem fa_30_0 (b o : Nat) : fieldAddrA Tryz.prog 30 (.pointer (some ⟨b, o, none⟩)) 0 = some (.pointer (some ⟨b, o, none⟩)) := by kernel_rfl
theorem fa_30_1 (b o : Nat) : fieldAddrA Tryz.prog 30 (.pointer (some ⟨b, o, none⟩)) 1 = some (.pointer (some ⟨b, o + 1, none⟩)) := by kernel_rfl
theorem fa_30_2 (b o : Nat) : fieldAddrA Tryz.prog 30 (.pointer (some ⟨b, o, none⟩)) 2 = some (.pointer (some ⟨b, o + 4, none⟩)) := by kernel_rfl
theorem fa_30_3 (b o : Nat) : fieldAddrA Tryz.prog 30 (.pointer (some ⟨b, o, none⟩)) 3 = some (.pointer (some ⟨b, o + 5, none⟩)) := by kernel_rfl
theorem fa_30_4 (b o : Nat) : fieldAddrA Tryz.prog 30 (.pointer (some ⟨b, o, none⟩)) 4 = some (.pointer (some ⟨b, o + 6, none⟩)) := by kernel_rfl
theorem fa_33_0 (b o : Nat) : fieldAddrA Tryz.prog 33 (.pointer (some ⟨b, o, none⟩)) 0 = some (.pointer (some ⟨b, o, none⟩)) := by kernel_rfl
theorem fa_33_1 (b o : Nat) : fieldAddrA Tryz.prog 33 (.pointer (some ⟨b, o, none⟩)) 1 = some (.pointer (some ⟨b, o + 1, none⟩)) := by kernel_rfl
theorem fa_33_2 (b o : Nat) : fieldAddrA Tryz.prog 33 (.pointer (some ⟨b, o, none⟩)) 2 = some (.pointer (some ⟨b, o + 2, none⟩)) := by kernel_rfl
theorem fa_33_3 (b o : Nat) : fieldAddrA Tryz.prog 33 (.pointer (some ⟨b, o, none⟩)) 3 = some (.pointer (some ⟨b, o + 5, none⟩)) := by kernel_rfl
theorem fa_33_4 (b o : Nat) : fieldAddrA Tryz.prog 33 (.pointer (some ⟨b, o, none⟩)) 4 = some (.pointer (some ⟨b, o + 6, none⟩)) := by kernel_rfl
theorem fa_33_5 (b o : Nat) : fieldAddrA Tryz.prog 33 (.pointer (some ⟨b, o, none⟩)) 5 = some (.pointer (some ⟨b, o + 7, none⟩)) := by kernel_rfl
theorem fa_33_7 (b o : Nat) : fieldAddrA Tryz.prog 33 (.pointer (some ⟨b, o, none⟩)) 7 = some (.pointer (some ⟨b, o + 15, none⟩)) := by kernel_rfl
theorem fa_47_0 (b o : Nat) : fieldAddrA Tryz.prog 47 (.pointer (some ⟨b, o, none⟩)) 0 = some (.pointer (some ⟨b, o, none⟩)) := by kernel_rfl
theorem fa_47_1 (b o : Nat) : fieldAddrA Tryz.prog 47 (.pointer (some ⟨b, o, none⟩)) 1 = some (.pointer (some ⟨b, o + 1, none⟩)) := by kernel_rfl
theorem fa_47_3 (b o : Nat) : fieldAddrA Tryz.prog 47 (.pointer (some ⟨b, o, none⟩)) 3 = some (.pointer (some ⟨b, o + 3, none⟩)) := by kernel_rfl
theorem fa_47_5 (b o : Nat) : fieldAddrA Tryz.prog 47 (.pointer (some ⟨b, o, none⟩)) 5 = some (.pointer (some ⟨b, o + 5, none⟩)) := by kernel_rfl
theorem fa_47_6 (b o : Nat) : fieldAddrA Tryz.prog 47 (.pointer (some ⟨b, o, none⟩)) 6 = some (.pointer (some ⟨b, o + 6, none⟩)) := by kernel_rfl
theorem fa_47_7 (b o : Nat) : fieldAddrA Tryz.prog 47 (.pointer (some ⟨b, o, none⟩)) 7 = some (.pointer (some ⟨b, o + 7, none⟩)) := by kernel_rfl
theorem fa_62_0 (b o : Nat) : fieldAddrA Tryz.prog 62 (.pointer (some ⟨b, o, none⟩)) 0 = some (.pointer (some ⟨b, o, none⟩)) := by kernel_rfl
theorem fa_85_0 (b o : Nat) : fieldAddrA Tryz.prog 85 (.pointer (some ⟨b, o, none⟩)) 0 = some (.pointer (some ⟨b, o, none⟩)) := by kernel_rfl
theorem fa_85_1 (b o : Nat) : fieldAddrA Tryz.prog 85 (.pointer (some ⟨b, o, none⟩)) 1 = some (.pointer (some ⟨b, o + 1, none⟩)) := by kernel_rfl
theorem fa_85_2 (b o : Nat) : fieldAddrA Tryz.prog 85 (.pointer (some ⟨b, o, none⟩)) 2 = some (.pointer (some ⟨b, o + 2, none⟩)) := by kernel_rfl
theorem fa_85_3 (b o : Nat) : fieldAddrA Tryz.prog 85 (.pointer (some ⟨b, o, none⟩)) 3 = some (.pointer (some ⟨b, o + 3, none⟩)) := by kernel_rfl
theorem ld_3 (A : AW) (a : Addr) : loadP Tryz.prog A 3 (.pointer (some a)) = A.cell? a := by kernel_rfl
theorem ld_4 (A : AW) (a : Addr) : loadP Tryz.prog A 4 (.pointer (some a)) = A.cell? a := by kernel_rfl
theorem ld_5 (A : AW) (a : Addr) : loadP Tryz.prog A 5 (.pointer (some a)) = A.cell? a := by kernel_rfl
theorem ld_9 (A : AW) (a : Addr) : loadP Tryz.prog A 9 (.pointer (some a)) = A.cell? a := by kernel_rfl
theorem ld_22 (A : AW) (a : Addr) : loadP Tryz.prog A 22 (.pointer (some a)) = A.cell? a := by kernel_rfl
theorem ld_23 (A : AW) (a : Addr) : loadP Tryz.prog A 23 (.pointer (some a)) = A.cell? a := by kernel_rfl
theorem ld_25 (A : AW) (a : Addr) : loadP Tryz.prog A 25 (.pointer (some a)) = (match A.cells? a 3 with | some l => some (.agg ⟨l⟩) | none => none) := by kernel_rfl
theorem ld_26 (A : AW) (a : Addr) : loadP Tryz.prog A 26 (.pointer (some a)) = A.cell? a := by kernel_rfl
theorem ld_27 (A : AW) (a : Addr) : loadP Tryz.prog A 27 (.pointer (some a)) = A.cell? a := by kernel_rfl
theorem ld_28 (A : AW) (a : Addr) : loadP Tryz.prog A 28 (.pointer (some a)) = A.cell? a := by kernel_rfl
theorem ld_30 (A : AW) (a : Addr) : loadP Tryz.prog A 30 (.pointer (some a)) = (match A.cells? a 7 with | some l => some (.agg ⟨l⟩) | none => none) := by kernel_rfl
theorem ld_31 (A : AW) (a : Addr) : loadP Tryz.prog A 31 (.pointer (some a)) = A.cell? a := by kernel_rfl
theorem ld_33 (A : AW) (a : Addr) : loadP Tryz.prog A 33 (.pointer (some a)) = (match A.cells? a 16 with | some l => some (.agg ⟨l⟩) | none => none) := by kernel_rfl
theorem ld_34 (A : AW) (a : Addr) : loadP Tryz.prog A 34 (.pointer (some a)) = A.cell? a := by kernel_rfl
theorem ld_40 (A : AW) (a : Addr) : loadP Tryz.prog A 40 (.pointer (some a)) = A.cell? a := by kernel_rfl
theorem ld_41 (A : AW) (a : Addr) : loadP Tryz.prog A 41 (.pointer (some a)) = A.cell? a := by kernel_rfl
theorem ld_42 (A : AW) (a : Addr) : loadP Tryz.prog A 42 (.pointer (some a)) = A.cell? a := by kernel_rfl
theorem ld_44 (A : AW) (a : Addr) : loadP Tryz.prog A 44 (.pointer (some a)) = A.cell? a := by kernel_rfl
theorem ld_45 (A : AW) (a : Addr) : loadP Tryz.prog A 45 (.pointer (some a)) = A.cell? a := by kernel_rfl
theorem ld_62 (A : AW) (a : Addr) : loadP Tryz.prog A 62 (.pointer (some a)) = (match A.cells? a 4 with | some l => some (.agg ⟨l⟩) | none => none) := by kernel_rfl
theorem ld_80 (A : AW) (a : Addr) : loadP Tryz.prog A 80 (.pointer (some a)) = A.cell? a := by kernel_rfl
theorem st_25 (A : AW) (a : Addr) (v : Value) : storeP Tryz.prog A 25 (.pointer (some a)) v = (bif Nat.beq v.cells.toList.length 3 then A.setCells a v.cells.toList else none) := by kernel_rfl
theorem st_45 (A : AW) (a : Addr) (v : Value) : storeP Tryz.prog A 45 (.pointer (some a)) v = (bif Nat.beq v.cells.toList.length 1 then A.setCells a v.cells.toList else none) := by kernel_rfl
theorem st_62 (A : AW) (a : Addr) (v : Value) : storeP Tryz.prog A 62 (.pointer (some a)) v = (bif Nat.beq v.cells.toList.length 4 then A.setCells a v.cells.toList else none) := by kernel_rfl
theorem ia_22 (b o n c i : Nat) (k : IntKind) : indexAddrA Tryz.prog 22 (.slice (some ⟨b, o, none⟩) n c) (.int k (.ofNat i)) = (bif Nat.blt i n then some (.pointer (some (addA ⟨b, o, none⟩ (i * 1)))) else none) := by kernel_rfl
theorem ia_28 (b o n c i : Nat) (k : IntKind) : indexAddrA Tryz.prog 28 (.slice (some ⟨b, o, none⟩) n c) (.int k (.ofNat i)) = (bif Nat.blt i n then some (.pointer (some (addA ⟨b, o, none⟩ (i * 3)))) else none) := by kernel_rfl
theorem ia_48 (b o n c i : Nat) (k : IntKind) : indexAddrA Tryz.prog 48 (.slice (some ⟨b, o, none⟩) n c) (.int k (.ofNat i)) = (bif Nat.blt i n then some (.pointer (some (addA ⟨b, o, none⟩ (i * 1)))) else none) := by kernel_rfl
theorem ia_58 (b o n c i : Nat) (k : IntKind) : indexAddrA Tryz.prog 58 (.slice (some ⟨b, o, none⟩) n c) (.int k (.ofNat i)) = (bif Nat.blt i n then some (.pointer (some (addA ⟨b, o, none⟩ (i * 4)))) else none) := by kernel_rfl
theorem ln_9 (A : AW) (s : ByteArray) : lenA Tryz.prog A 9 (.string s) = some (.int .i64 s.data.toList.length) := by kernel_rfl
theorem ln_22 (A : AW) (a : Option Addr) (n c : Nat) : lenA Tryz.prog A 22 (.slice a n c) = some (.int .i64 n) := by kernel_rfl
theorem ln_28 (A : AW) (a : Option Addr) (n c : Nat) : lenA Tryz.prog A 28 (.slice a n c) = some (.int .i64 n) := by kernel_rfl
theorem ln_31 (A : AW) (a : Option Addr) (n c : Nat) : lenA Tryz.prog A 31 (.slice a n c) = some (.int .i64 n) := by kernel_rfl
theorem ln_45 (A : AW) (a : Option Addr) (n c : Nat) : lenA Tryz.prog A 45 (.slice a n c) = some (.int .i64 n) := by kernel_rfl
theorem ln_48 (A : AW) (a : Option Addr) (n c : Nat) : lenA Tryz.prog A 48 (.slice a n c) = some (.int .i64 n) := by kernel_rfl
theorem ln_52 (A : AW) (a : Option Addr) (n c : Nat) : lenA Tryz.prog A 52 (.slice a n c) = some (.int .i64 n) := by kernel_rfl
theorem ln_58 (A : AW) (a : Option Addr) (n c : Nat) : lenA Tryz.prog A 58 (.slice a n c) = some (.int .i64 n) := by kernel_rfl

theorem st_5 (A : AW) (a : Addr) (v : Value) : storeP Tryz.prog A 5 (.pointer (some a)) v = (bif Nat.beq v.cells.toList.length 1 then A.setCells a v.cells.toList else none) := by kernel_rfl
theorem tb : BT Tryz.prog 5 22 9 where
  sl := by kernel_rfl
  sz := by kernel_rfl
  by_ := by kernel_rfl
  hz := by kernel_rfl
  us := by kernel_rfl
  ub := by kernel_rfl
  ust := by kernel_rfl
  zt := by kernel_rfl
  ln := ln_22
  ia := fun b o n c i k => ia_22 b o n c i k
  ld := ld_5
  st := st_5
theorem cv_3_5 (A : AW) (n : Int) (k : IntKind) : convertA Tryz.prog A 3 5 (.int k n) = .ok (.int .u8 (IntKind.u8.wrap n)) A := by kernel_rfl
theorem cv_27_5 (A : AW) (n : Int) (k : IntKind) : convertA Tryz.prog A 27 5 (.int k n) = .ok (.int .u8 (IntKind.u8.wrap n)) A := by kernel_rfl
theorem cv_23_5 (A : AW) (n : Int) (k : IntKind) : convertA Tryz.prog A 23 5 (.int k n) = .ok (.int .u8 (IntKind.u8.wrap n)) A := by kernel_rfl
theorem cv_43_5 (A : AW) (n : Int) (k : IntKind) : convertA Tryz.prog A 43 5 (.int k n) = .ok (.int .u8 (IntKind.u8.wrap n)) A := by kernel_rfl
theorem cv_5_23 (A : AW) (n : Int) (k : IntKind) : convertA Tryz.prog A 5 23 (.int k n) = .ok (.int .u32 (IntKind.u32.wrap n)) A := by kernel_rfl
theorem cv_23_43 (A : AW) (n : Int) (k : IntKind) : convertA Tryz.prog A 23 43 (.int k n) = .ok (.int .u64 (IntKind.u64.wrap n)) A := by kernel_rfl
theorem zero25 : zeroT Tryz.prog 25 = some (.agg #[.int .u32 0, .string .empty, .string .empty]) := by kernel_rfl
theorem ba25 : buildA Tryz.prog 25 [] = some (.agg ⟨[.int .u32 0, .string ⟨⟨[]⟩⟩, .string ⟨⟨[]⟩⟩]⟩) := by kernel_rfl
theorem ba47 : buildA Tryz.prog 47 [] = some (.agg ⟨[.pointer none, .pointer none, .int .i64 0, .map none, .int .u64 0, .map none, .slice none 0 0, .bool false]⟩) := by kernel_rfl
theorem pn34s (a : Addr) (xo yo : Operand) : binA Tryz.prog .neq 34 xo yo (.pointer (some a)) (.pointer none) = some (.bool true) := by kernel_rfl
theorem pn34n (xo yo : Operand) : binA Tryz.prog .neq 34 xo yo (.pointer none) (.pointer none) = some (.bool false) := by kernel_rfl
theorem pn41n (xo yo : Operand) : binA Tryz.prog .neq 41 xo yo (.pointer none) (.pointer none) = some (.bool false) := by kernel_rfl
theorem pe41n (xo yo : Operand) : binA Tryz.prog .eql 41 xo yo (.pointer none) (.pointer none) = some (.bool true) := by kernel_rfl
theorem mn42 (xo yo : Operand) : binA Tryz.prog .neq 42 xo yo (.map none) (.map none) = some (.bool false) := by kernel_rfl
theorem bs22_1 (A : AW) (n : Int) : buildSliceA Tryz.prog A 22 1 [(0, .int .u8 n)] = (match A.newRow [.int .u8 n] 5 with | some (a, w') => .ok (.slice (some a) 1 1) w' | none => .fail "buildSlice new") := by kernel_rfl
theorem bs22_2 (A : AW) (n m : Int) : buildSliceA Tryz.prog A 22 2 [(0, .int .u8 n), (1, .int .u8 m)] = (match A.newRow [.int .u8 n, .int .u8 m] 5 with | some (a, w') => .ok (.slice (some a) 2 2) w' | none => .fail "buildSlice new") := by kernel_rfl
theorem bs22_4 (A : AW) (a b c d : Int) : buildSliceA Tryz.prog A 22 4 [(0, .int .u8 a), (1, .int .u8 b), (2, .int .u8 c), (3, .int .u8 d)] = (match A.newRow [.int .u8 a, .int .u8 b, .int .u8 c, .int .u8 d] 5 with | some (a, w') => .ok (.slice (some a) 4 4) w' | none => .fail "buildSlice new") := by kernel_rfl
theorem bs48 (A : AW) (a : Addr) : buildSliceA Tryz.prog A 48 2 [(0, .pointer none), (1, .pointer (some a))] = (match A.newRow [.pointer none, .pointer (some a)] 34 with | some (a, w') => .ok (.slice (some a) 2 2) w' | none => .fail "buildSlice new") := by kernel_rfl
theorem fresh25 : freshOf Tryz.prog (fun _ => undef) (.alloc 25) = some (.row [.int .u32 0, .string .empty, .string .empty] 25) := by kernel_rfl
end Go.Proofs.YtblkafhjbcfmhaaGreatDoor


namespace Go.Proofs.YtblkafhjbcfmhaaGreatDoor
open Go.Abs

def xidV (f : Int) (g b : ByteArray) : Value := .agg ⟨[.int .u32 f, .string g, .string b]⟩
/-! integers -/
theorem bin_mul {P : Program} {t : TypeId} {xo yo : Operand} {k : IntKind} {a b : Int} : binA P .mul t xo yo (.int k a) (.int k b) = some (.int k (k.wrap (a * b))) := by simp [binA, binOp, Op.intArith, quiet, closedO, closedV, pure]
theorem bin_rem {P : Program} {t : TypeId} {xo yo : Operand} {k : IntKind} {a b : Int} (hb : b ≠ 0) : binA P .rem t xo yo (.int k a) (.int k b) = some (.int k (a.tmod b)) := by simp [binA, binOp, Op.intDiv, hb, quiet, closedO, closedV, pure]
theorem bin_quo {P : Program} {t : TypeId} {xo yo : Operand} {k : IntKind} {a b : Int} (hb : b ≠ 0) : binA P .quo t xo yo (.int k a) (.int k b) = some (.int k (k.wrap (a.tdiv b))) := by simp [binA, binOp, Op.intDiv, hb, quiet, closedO, closedV, pure]
theorem bin_shr {P : Program} {t : TypeId} {xo yo : Operand} {k k2 : IntKind} {a b : Int} (hb : ¬ b < 0) : binA P .shr t xo yo (.int k a) (.int k2 b) = some (.int k (a.fdiv (2 ^ (min b.toNat k.bits)))) := by simp [binA, binOp, Op.shift, hb, quiet, closedO, closedV, pure]
theorem wrap_u8 {n : Int} : IntKind.u8.wrap n = n % 256 := by
  simp [IntKind.wrap, IntKind.bits, IntKind.signed]
theorem wrap_u64 {n : Int} (h1 : 0 ≤ n) (h2 : n < 18446744073709551616) : IntKind.u64.wrap n = n := by
  simp [IntKind.wrap, IntKind.bits, IntKind.signed]
  omega
theorem ofNat_u8 (n : Nat) : ((UInt8.ofNat n).toNat : Int) = (n : Int) % 256 := by
  rw [UInt8.toNat_ofNat']
  omega

/-- a call allocates at most n more objects, and leaves what was -/
structure Grow (A A' : AW) (n : Nat) : Prop where
  keeps : Keeps A A' []
  fine : Fine A'
  next : A'.next ≤ A.next + n
theorem Grow.le {A A' : AW} {n : Nat} (h : Grow A A' n) : A.next ≤ A'.next := h.keeps.next
theorem Grow.refl {A : AW} (hf : Fine A) : Grow A A 0 := ⟨.refl _ _, hf, Nat.le_refl _⟩
theorem Grow.trans {A B C : AW} {n m : Nat} (h : Grow A B n) (k : Grow B C m) : Grow A C (n + m) := ⟨h.keeps.trans k.keeps (by simp), k.fine, by have := h.next; have := k.next; omega⟩
theorem Grow.more {A B : AW} {n m : Nat} (h : Grow A B n) (hm : n ≤ m) : Grow A B m := ⟨h.keeps, h.fine, by have := h.next; omega⟩
theorem Grow.made {A A' : AW} {cs : List Value} {e : TypeId} (m : Made A A' cs e) (hf : Fine A) : Grow A A' 1 := ⟨m.keeps hf, m.fine, by rw [m.next]; omega⟩
/-- behind a call that writes into what a call of this one made -/
theorem Grow.own {A B C : AW} {n m : Nat} {F : List Nat} (h : Grow A B n) (k : Keeps B C F) (hF : ∀ x ∈ F, A.next ≤ x) (hc : C.next ≤ B.next + m) (hf : Fine C) : Grow A C (n + m) :=
  ⟨h.keeps.trans k (fun x hx => .inr (hF x hx)), hf, by have := h.next; omega⟩

def slen (s : ByteArray) : Nat := s.data.toList.length
/-- a number's bytes, the greatest first -/
def be (n : Nat) : Nat → List UInt8
  | 0 => []
  | i + 1 => UInt8.ofNat (n / 256 ^ i) :: be n i
theorem be_length (n : Nat) : ∀ i, (be n i).length = i
  | 0 => rfl
  | i + 1 => by rw [be, List.length_cons, be_length n i]

/-- may a name be? -/
def xchk (g b : ByteArray) : Int := if slen g = 0 ∨ 64 < slen g ∨ 64 < slen b then 40 else 0
theorem xchk_cases (g b : ByteArray) : xchk g b = 0 ∨ xchk g b = 40 := by unfold xchk; split <;> simp
section
variable {W0 : World} {m0 : Inj Tryz.prog}
theorem wc191 {f : Int} {g b : ByteArray} {A : AW} {K : Value → AW → Prop} (hf : Fine A) (hA : A.next < maxId) (hk : ∀ A', Grow A A' 1 → K (.int .i64 (xchk g b)) A') : Wc Tryz.prog theX W0 m0 191 [xidV f g b] A K := by
  refine w191 _ _ (cuts_none (S := fun _ _ _ => False) fun _ _ _ h => h) ?_
  rw [e191]
  refine newP_made (cs := (Value.cells (xidV f g b)).toList) hf hA rfl fun A1 m1 => ?_
  have hg : A1.get A.next = some (.row [.int .u32 f, .string g, .string b] 25 A.next 0 false) := m1.row
  have hr := hk A1 (.made m1 hf)
  simp only [fa_25_1, fa_25_2, ld_9, ln_9, cell_row hg, cellOf, isTuple, cond_false, pureW_some, bin_lss, bin_gtr, forkW_dec, Nat.zero_add]
  refine ⟨fun h => ?_, fun h => ⟨fun h2 => ?_, fun h2 => ⟨fun h3 => ?_, fun h3 => ?_⟩⟩⟩
  · rw [show xchk g b = 40 by unfold xchk; rw [if_pos (.inl (by unfold slen; omega))]] at hr; exact hr
  · rw [show xchk g b = 40 by unfold xchk; rw [if_pos (.inr (.inl (by unfold slen; omega)))]] at hr; exact hr
  · rw [show xchk g b = 40 by unfold xchk; rw [if_pos (.inr (.inr (by unfold slen; omega)))]] at hr; exact hr
  · rw [show xchk g b = 0 by unfold xchk; rw [if_neg (by unfold slen; omega)]] at hr; exact hr

theorem bslice1 {A : AW} {n : Int} {K : Value → AW → Prop} (hf : Fine A) (h : A.next < maxId) (hk : ∀ A', Made A A' [.int .u8 n] 5 → K (.slice (some ⟨A.next, 0, none⟩) 1 1) A') : bothW (buildSliceA Tryz.prog A 22 1 [(0, .int .u8 n)]) K := by
  rw [bs22_1]
  unfold AW.newRow AW.new
  simp only [show ([Value.int .u8 n].all oneCell) = true from rfl, cond_true, blt_true.2 h]
  exact bothW_ok.2 (hk (A.push (.row [.int .u8 n] 5 A.next 0 false)) ⟨AW.push_ext _ h, rfl, by rw [AW.push_get _ h, if_pos rfl], hf.alone (Nat.le_refl _), hf.push _ h⟩)
theorem buf1 {A : AW} {b : Nat} {c : UInt8} (h : Row1 A b [.int .u8 c.toNat] 5) : Buf 5 A (.slice (some ⟨b, 0, none⟩) 1 1) [c] [b] :=
  .inr (.inr ⟨b, 1, [], rfl, by decide, by simpa [bytesV] using h, rfl, rfl, rfl⟩)
theorem wc193 {n w : Nat} {A : AW} {K : Value → AW → Prop} (hf : Fine A) (hA : A.next + 20 < maxId) (hn : n < 18446744073709551616) (hw : w ≤ 8)
    (hk : ∀ A' v F, Grow A A' 16 → Buf 5 A' v (be n w) F → (∀ x ∈ F, A.next ≤ x) → K v A') : Wc Tryz.prog theX W0 m0 193 [.int .u64 (n : Int), .int .i64 (w : Int)] A K := by
  let I : Nat → Nat → List Value → AW → Prop := fun g id vals A' => id = 0 ∧ ∃ (i : Nat) (v : Value) (F : List Nat), vals = [.int .u64 ((n / 256 ^ i : Nat) : Int), .int .i64 (w : Int), v, .int .i64 (i : Int)] ∧ i ≤ w ∧
    Buf 5 A' v (be n i) F ∧ (∀ x ∈ F, A.next ≤ x) ∧ Grow A A' (2 * i) ∧ g = w - i
  refine w193 _ _ _ (c193 (I := I) ?_) ?_
  · rintro g id vals A' d ⟨rfl, i, v, F, rfl, hi, hb, hF, hg, rfl⟩ hd
    rw [l193_0]
    simp only [L193, List.map_cons, List.map_nil, List.cons.injEq, and_true] at hd
    obtain ⟨h0, h1, h5, h6⟩ := hd
    have hnx := hg.next
    have hq : n / 256 ^ i < 18446744073709551616 := Nat.lt_of_le_of_lt (Nat.div_le_self _ _) hn
    obtain ⟨q, hqd⟩ : ∃ q, n / 256 ^ i = q := ⟨_, rfl⟩
    rw [hqd] at h0 hq
    simp only [h0, h1, h5, h6, bin_lss, pureW_some, forkW_dec]
    refine ⟨fun hlt => ?_, fun hge => ?_⟩
    · have hlt : i < w := by omega
      rw [bin_rem (by decide), bin_quo (by decide)]
      simp only [pureW_some, cv_43_5, bothW_ok]
      have hx : IntKind.u8.wrap ((q : Int).tmod 256) = ((UInt8.ofNat q).toNat : Int) := by
        rw [wrap_u8, ofNat_u8, Int.tmod_eq_emod_of_nonneg (by omega)]; omega
      have hq2 : IntKind.u64.wrap ((q : Int).tdiv 256) = ((n / 256 ^ (i + 1) : Nat) : Int) := by
        have e : n / 256 ^ (i + 1) = q / 256 := by rw [Nat.pow_succ, ← Nat.div_div_eq_div_mul, hqd]
        rw [Int.tdiv_eq_ediv_of_nonneg (by omega), wrap_u64 (by omega) (by omega), e]
        omega
      rw [hx, hq2]
      refine bslice1 hg.fine (by omega) fun A2 m2 => ?_
      have n2 := m2.next
      have hb2 := hb.keeps (m2.keeps hg.fine) (by simp)
      refine appendBuf tb (buf1 m2.row1) (src_slice tb hb2.rd) m2.fine (by omega) (by rw [be_length]; have : room = 68719476736 := rfl; simp; omega) fun v3 A3 F3 hb3 k3 hF3 n3 f3 => ?_
      simp only [bin_add, pureW_some]
      rw [wrap_i64 (by omega) (by omega)]
      have hnx2 := hg.le
      refine cutW_self.2 ⟨w - (i + 1), by omega, rfl, i + 1, v3, F3, rfl, by omega, by rw [be, hqd]; exact hb3, fun x hx => ?_, ?_, rfl⟩
      · rcases hF3 x hx with h | h
        · simp at h; omega
        · omega
      · exact ((hg.trans (.made m2 hg.fine)).own k3 (by simp; omega) (m := 1) (by omega) f3).more (by omega)
    · have hi : i = w := by omega
      subst hi
      exact hk A' v F (hg.more (by omega)) hb hF
  · rw [e193]
    refine cutW_self.2 ⟨w, rfl, 0, .slice none 0 0, [], by simp, by omega, .nil _ _, by simp, .refl hf, rfl⟩

end
/-- a text behind its length -/
def tx (s : ByteArray) : List UInt8 := be (slen s) 1 ++ s.data.toList
/-- a name's bytes -/
def xb (f : Nat) (g b : ByteArray) : List UInt8 := be f 4 ++ tx g ++ tx b
theorem tx_length (s : ByteArray) : (tx s).length = 1 + slen s := by unfold tx; rw [List.length_append, be_length]; rfl
theorem xb_length (f : Nat) (g b : ByteArray) : (xb f g b).length = 6 + slen g + slen b := by unfold xb; rw [List.length_append, List.length_append, tx_length, tx_length, be_length]; omega
theorem xchk_zero {g b : ByteArray} (h : xchk g b = 0) : 0 < slen g ∧ slen g ≤ 64 ∧ slen b ≤ 64 := by
  unfold xchk at h
  split at h
  · cases h
  · omega
theorem one_be (n : Nat) : be n 1 = [UInt8.ofNat n] := by simp [be]
theorem bytes1 (n : Nat) : Value.int .u8 (IntKind.u8.wrap (n : Int)) = .int .u8 ((UInt8.ofNat n).toNat : Int) := by rw [wrap_u8, ofNat_u8]

section
variable {W0 : World} {m0 : Inj Tryz.prog}
theorem wc122 {f : Nat} {g b : ByteArray} {A : AW} {K : Value → AW → Prop} (hf : Fine A) (hA : A.next + 40 < maxId) (hfl : f < 4294967296) (hx : xchk g b = 0)
    (hk : ∀ A' v F, Grow A A' 30 → Buf 5 A' v (xb f g b) F → (∀ x ∈ F, A.next ≤ x) → K (.tuple ⟨[v, .int .i64 0]⟩) A') : Wc Tryz.prog theX W0 m0 122 [xidV f g b] A K := by
  have hroom : room = 68719476736 := rfl
  obtain ⟨hx1, hx2, hx3⟩ := xchk_zero hx
  refine w122 _ _ (cuts_none (S := fun _ _ _ => False) fun _ _ _ h => h) ?_
  rw [e122]
  refine newP_made (cs := (Value.cells (xidV f g b)).toList) hf (by omega) rfl fun A1 m1 => ?_
  have n1 := m1.next
  have r1 : Row1 A1 A.next [.int .u32 (f : Int), .string g, .string b] 25 := m1.row1
  have hld : A1.cells? ⟨A.next, 0, none⟩ 3 = some [.int .u32 (f : Int), .string g, .string b] := by rw [cells_row r1.row]; rfl
  simp only [ld_25, hld, pureW_some]
  refine wc191 (f := (f : Int)) (g := g) (b := b) m1.fine (by omega) fun A2 g2 => ?_
  rw [hx]
  have n2 := g2.next
  have l2 := g2.le
  have r2 := r1.keeps g2.keeps (by simp)
  simp only [bin_neq, pureW_some, forkW_bne]
  refine ⟨fun h => absurd rfl h, fun _ => ?_⟩
  simp only [fa_25_0, fa_25_1, fa_25_2, ld_23, cell_row r2.row, cellOf, isTuple, cond_false, pureW_some, cv_23_43, bothW_ok, Nat.zero_add]
  rw [wrap_u64 (by omega) (by omega)]
  refine wc193 (n := f) (w := 4) g2.fine (by omega) (by omega) (by omega) fun A3 v3 F3 g3 b3 hF3 => ?_
  have n3 := g3.next
  have l3 := g3.le
  have g03 := ((Grow.made m1 hf).trans g2).trans g3
  have r3 := r2.keeps g3.keeps (by simp)
  simp only [ld_9, cell_row r3.row, cellOf, isTuple, cond_false, pureW_some, ln_9, cv_3_5, bothW_ok]
  rw [show (g.data.toList.length : Int) = ((slen g : Nat) : Int) from rfl, bytes1]
  refine bslice1 g3.fine (by omega) fun A4 m4 => ?_
  have n4 := m4.next
  have g04 := g03.trans (.made m4 g3.fine)
  refine appendBuf tb (b3.keeps (m4.keeps g3.fine) (by simp)) (src_slice tb (buf1 m4.row1).rd) m4.fine (by omega) (by rw [be_length]; simp; omega) fun v5 A5 F5 b5 k5 hF5 n5 f5 => ?_
  have g05 := g04.own k5 (fun x hx => by have := hF3 x hx; omega) (m := 1) (by omega) f5
  have hF5' : ∀ x ∈ F5, A.next ≤ x := fun x hx => by
    rcases hF5 x hx with h | h
    · have := hF3 x h; omega
    · omega
  have hne : A.next ∉ F3 := fun h => by have := hF3 _ h; omega
  have r5 := (r3.keeps (m4.keeps g3.fine) (by simp)).keeps k5 hne
  simp only [cell_row r5.row, cellOf, isTuple, cond_false, pureW_some]
  refine appendBuf tb b5 (src_text tb) f5 (by omega) (by simp only [List.length_append, be_length, List.length_cons, List.length_nil]; unfold slen at *; omega) fun v6 A6 F6 b6 k6 hF6 n6 f6 => ?_
  have hne5 : A.next ∉ F5 := fun h => by
    rcases hF5 _ h with h | h
    · exact hne h
    · omega
  have g06 := g05.own k6 hF5' (m := 1) (by omega) f6
  have hF6' : ∀ x ∈ F6, A.next ≤ x := fun x hx => by
    rcases hF6 x hx with h | h
    · exact hF5' x h
    · have := g05.le; omega
  have r6 := r5.keeps k6 hne5
  have hne6 : A.next ∉ F6 := fun h => by
    rcases hF6 _ h with h | h
    · exact hne5 h
    · have := k5.next; omega
  simp only [cell_row r6.row, cellOf, isTuple, cond_false, pureW_some, ln_9, cv_3_5, bothW_ok]
  rw [show (b.data.toList.length : Int) = ((slen b : Nat) : Int) from rfl, bytes1]
  refine bslice1 f6 (by omega) fun A7 m7 => ?_
  have n7 := m7.next
  have g07 := g06.trans (.made m7 f6)
  have e6 : be f 4 ++ [UInt8.ofNat (slen g)] ++ g.data.toList = be f 4 ++ tx g := by unfold tx; rw [one_be, List.append_assoc]
  rw [e6] at b6
  have lx : (be f 4 ++ tx g).length = 5 + slen g := by rw [List.length_append, be_length, tx_length]; omega
  refine appendBuf tb (b6.keeps (m7.keeps f6) (by simp)) (src_slice tb (buf1 m7.row1).rd) m7.fine (by omega) (by rw [lx]; simp; omega) fun v8 A8 F8 b8 k8 hF8 n8 f8 => ?_
  have g08 := g07.own k8 hF6' (m := 1) (by omega) f8
  have hF8' : ∀ x ∈ F8, A.next ≤ x := fun x hx => by
    rcases hF8 x hx with h | h
    · exact hF6' x h
    · have := g07.le; omega
  have r8 := (r6.keeps (m7.keeps f6) (by simp)).keeps k8 hne6
  simp only [cell_row r8.row, cellOf, isTuple, cond_false, pureW_some]
  refine appendBuf tb b8 (src_text tb) f8 (by omega) (by rw [List.length_append, lx]; simp only [List.length_cons, List.length_nil]; unfold slen at *; omega) fun v9 A9 F9 b9 k9 hF9 n9 f9 => ?_
  have g09 := g08.own k9 hF8' (m := 1) (by omega) f9
  have e9 : be f 4 ++ tx g ++ [UInt8.ofNat (slen b)] ++ b.data.toList = xb f g b := by unfold xb; rw [show tx b = [UInt8.ofNat (slen b)] ++ b.data.toList by unfold tx; rw [one_be], ← List.append_assoc (be f 4 ++ tx g)]
  rw [e9] at b9
  refine hk A9 v9 F9 (g09.more (by omega)) b9 fun x hx => ?_
  rcases hF9 x hx with h | h
  · exact hF8' x h
  · have := g08.le; omega

end
end Go.Proofs.YtblkafhjbcfmhaaGreatDoor


namespace Go.Proofs.YtblkafhjbcfmhaaGreatDoor
open Go.Abs

theorem ft25 : quiet Tryz.prog (underlying 25) = some (.struct (Tryz.prog.fieldsOf 25)) := by kernel_rfl
noncomputable def F25 (i : Nat) : Field := (Tryz.prog.fieldsOf 25).toList.getD i default
theorem fs25 : (Tryz.prog.fieldsOf 25).toList = [F25 0, F25 1, F25 2] := by kernel_rfl
theorem pt25_0 (f : Int) (g b : ByteArray) : quiet Tryz.prog (part (F25 0).type ⟨[.int .u32 f, .string g, .string b]⟩ (F25 0).offset) = some (.int .u32 f) := by kernel_rfl
theorem pt25_1 (f : Int) (g b : ByteArray) : quiet Tryz.prog (part (F25 1).type ⟨[.int .u32 f, .string g, .string b]⟩ (F25 1).offset) = some (.string g) := by kernel_rfl
theorem pt25_2 (f : Int) (g b : ByteArray) : quiet Tryz.prog (part (F25 2).type ⟨[.int .u32 f, .string g, .string b]⟩ (F25 2).offset) = some (.string b) := by kernel_rfl
theorem ty25_0 : (F25 0).type = 23 := by kernel_rfl
theorem ty25_1 : (F25 1).type = 9 := by kernel_rfl
theorem ty25_2 : (F25 2).type = 9 := by kernel_rfl
theorem ut9 : quiet Tryz.prog (underlying 9) = some .string := by kernel_rfl
theorem ut23 : quiet Tryz.prog (underlying 23) = some (.int .u32) := by kernel_rfl
/-- are names the same? -/
def sameX (f f' : Int) (g g' b b' : ByteArray) : Bool := f == f' && (g.data.toList == g'.data.toList && b.data.toList == b'.data.toList)
theorem quiet25 (f f' : Int) (g g' b b' : ByteArray) : quiet Tryz.prog (Op.equal 25 (xidV f g b) (xidV f' g' b')) = some (sameX f f' g g' b b') := by
  show quiet Tryz.prog (Op.equalIn (9999 + 1) 25 _ _) = _
  unfold xidV
  rw [quiet_struct 9999 25 _ _ ft25 (by kernel_rfl), fs25]
  rw [quiet_fieldR (by kernel_rfl) (pt25_0 f g b) (pt25_0 f' g' b') (by rw [ty25_0]; exact quiet_eq_int 9998 23 _ _ _ _ ut23)]
  rw [quiet_fieldR (by kernel_rfl) (pt25_1 f g b) (pt25_1 f' g' b') (by rw [ty25_1]; exact quiet_eqs ut9)]
  rw [quiet_fieldR (by kernel_rfl) (pt25_2 f g b) (pt25_2 f' g' b') (by rw [ty25_2]; exact quiet_eqs ut9)]
  unfold sameX
  cases f == f' <;> cases g.data.toList == g'.data.toList <;> cases b.data.toList == b'.data.toList <;> rfl
set_option maxRecDepth 100000 in
theorem eq25 (f f' : Int) (g g' b b' : ByteArray) (xo yo : Operand) : binA Tryz.prog .eql 25 xo yo (xidV f g b) (xidV f' g' b') = some (.bool (sameX f f' g g' b b')) := by
  unfold xidV
  have hg : eqGuardA Tryz.prog 25 xo yo (.agg ⟨[.int .u32 f, .string g, .string b]⟩) (.agg ⟨[.int .u32 f', .string g', .string b']⟩) = true := by
    show (!Tryz.prog.eqGuardType Tryz.prog.depth 25) = true
    kernel_rfl
  show (bif eqGuardA Tryz.prog 25 xo yo (.agg ⟨[.int .u32 f, .string g, .string b]⟩) (.agg ⟨[.int .u32 f', .string g', .string b']⟩) then (match eqA Tryz.prog 25 (.agg ⟨[.int .u32 f, .string g, .string b]⟩) (.agg ⟨[.int .u32 f', .string g', .string b']⟩) with | some b => some (Value.bool b) | none => none) else none) = _
  rw [hg, cond_true]
  have he : eqA Tryz.prog 25 (.agg ⟨[.int .u32 f, .string g, .string b]⟩) (.agg ⟨[.int .u32 f', .string g', .string b']⟩) = some (sameX f f' g g' b b') := by
    unfold eqA
    have hc : (closedV 4 (.agg ⟨[.int .u32 f, .string g, .string b]⟩) && closedV 4 (.agg ⟨[.int .u32 f', .string g', .string b']⟩)) = true := rfl
    rw [hc, cond_true]
    exact quiet25 f f' g g' b b'
  rw [he]

theorem un_xor {P : Program} (n : Int) : ∃ m, unA P .xor (.int .u32 n) = some (.int .u32 m) := ⟨_, by simp only [unA, closedV, Op.unary, quiet, closedO, pure]; rfl⟩
theorem bin_xor {P : Program} {t : TypeId} {xo yo : Operand} {k : IntKind} {a b : Int} : binA P .xor t xo yo (.int k a) (.int k b) = some (.int k (k.wrap ((BitVec.ofInt k.bits a ^^^ BitVec.ofInt k.bits b).toNat : Int))) := by simp [binA, binOp, Op.intBits, quiet, closedO, closedV, pure]
theorem byte_any (n : Int) : ∃ c : UInt8, IntKind.u8.wrap n = (c.toNat : Int) := by
  refine ⟨UInt8.ofNat (n % 256).toNat, ?_⟩
  rw [wrap_u8, ofNat_u8]
  omega
theorem idx9 {s : ByteArray} {i : Nat} (h : i < s.data.toList.length) : ∃ n, indexA Tryz.prog 9 (.string s) (.int .i64 (i : Int)) = some (.int .u8 n) := by
  refine ⟨(s.data.toList[i].toNat : Int), ?_⟩
  show indexA Tryz.prog 9 (.string s) (.int .i64 (.ofNat i)) = some (.int .u8 (s.data.toList[i].toNat : Int))
  unfold indexA
  simp only [tb.ust]
  rw [List.getElem?_eq_getElem h]

section
variable {W0 : World} {m0 : Inj Tryz.prog}
theorem wc237 {A : AW} {x : Value} {l : List UInt8} {F : List Nat} {s0 : Int} {K : Value → AW → Prop} (h : RdB A x l F) (hl : l.length < 1000000) (hk : ∀ n, K (.int .u32 n) A) : Wc Tryz.prog theX W0 m0 237 [.int .u32 s0, x] A K := by
  let I : Nat → Nat → List Value → AW → Prop := fun g id vals A' => A' = A ∧ ((id = 0 ∧ ∃ (i : Nat) (r : Int), vals = [x, .int .u32 r, .int .i64 (i : Int)] ∧ i ≤ l.length ∧ g = (l.length - i) * 20 + 10) ∨
    (id = 2 ∧ ∃ (i k : Nat) (r : Int), vals = [x, .int .u32 r, .int .i64 (i : Int), .int .i64 (k : Int)] ∧ i < l.length ∧ k ≤ 8 ∧ g = (l.length - i - 1) * 20 + 10 + (9 - k)))
  refine w237 _ _ _ (c237 (I := I) ?_) ?_
  · rintro g id vals A' d ⟨rfl, ⟨rfl, i, r, rfl, hi, hg⟩ | ⟨rfl, i, k, r, rfl, hi, hk8, hg⟩⟩ hd
    · rw [l237_0]
      simp only [L237, List.map_cons, List.map_nil, List.cons.injEq, and_true] at hd
      obtain ⟨h1, h5, h6⟩ := hd
      simp only [h1, h5, h6, h.len tb, bin_lss, pureW_some, forkW_dec]
      refine ⟨fun hlt => ?_, fun _ => ?_⟩
      · have hlt : i < l.length := by omega
        obtain ⟨c, hc⟩ : ∃ c, l[i]? = some c := ⟨_, List.getElem?_eq_getElem hlt⟩
        obtain ⟨a, a1, a2⟩ := h.at tb hc
        simp only [a1, a2, cv_5_23, bothW_ok, bin_xor, pureW_some]
        exact cutW_self.2 ⟨(l.length - i - 1) * 20 + 10 + (9 - 0), by omega, rfl, .inr ⟨rfl, i, 0, _, rfl, hlt, by omega, rfl⟩⟩
      · obtain ⟨m, hm⟩ := un_xor (P := Tryz.prog) r
        simp only [hm, pureW_some]
        exact hk m
    · rw [l237_2]
      simp only [L237, List.map_cons, List.map_nil, List.cons.injEq, and_true] at hd
      obtain ⟨h1, h5, h6, h7⟩ := hd
      simp only [h1, h5, h6, h7, bin_lss, pureW_some, forkW_dec]
      refine ⟨fun hlt => ?_, fun _ => ?_⟩
      · rw [bin_rem (by decide), bin_quo (by decide)]
        simp only [bin_eql, bin_xor, bin_add, pureW_some, forkW_beq]
        rw [wrap_i64 (by omega) (by omega)]
        exact ⟨fun _ => cutW_self.2 ⟨(l.length - i - 1) * 20 + 10 + (9 - (k + 1)), by omega, rfl, .inr ⟨rfl, i, k + 1, _, rfl, hi, by omega, rfl⟩⟩, fun _ => cutW_self.2 ⟨(l.length - i - 1) * 20 + 10 + (9 - (k + 1)), by omega, rfl, .inr ⟨rfl, i, k + 1, _, rfl, hi, by omega, rfl⟩⟩⟩
      · simp only [bin_add, pureW_some]
        rw [wrap_i64 (by omega) (by omega)]
        exact cutW_self.2 ⟨(l.length - (i + 1)) * 20 + 10, by omega, rfl, .inl ⟨rfl, i + 1, _, rfl, by omega, rfl⟩⟩
  · rw [e237]
    obtain ⟨m, hm⟩ := un_xor (P := Tryz.prog) s0
    simp only [hm, pureW_some]
    exact cutW_self.2 ⟨_, rfl, .inl ⟨rfl, 0, _, rfl, by omega, rfl⟩⟩
theorem wc194 {A : AW} {x : Value} {l : List UInt8} {F : List Nat} {K : Value → AW → Prop} (h : RdB A x l F) (hl : l.length < 1000000) (hk : ∀ n, K (.int .u32 n) A) : Wc Tryz.prog theX W0 m0 194 [x] A K := by
  refine w194 _ _ (cuts_none (S := fun _ _ _ => False) fun _ _ _ h => h) ?_
  rw [e194]
  exact wc237 h hl hk
theorem bslice4 {A : AW} {a b c d : Int} {K : Value → AW → Prop} (hf : Fine A) (h : A.next < maxId) (hk : ∀ A', Made A A' [.int .u8 a, .int .u8 b, .int .u8 c, .int .u8 d] 5 → K (.slice (some ⟨A.next, 0, none⟩) 4 4) A') : bothW (buildSliceA Tryz.prog A 22 4 [(0, .int .u8 a), (1, .int .u8 b), (2, .int .u8 c), (3, .int .u8 d)]) K := by
  rw [bs22_4]
  unfold AW.newRow AW.new
  have hc : ([Value.int .u8 a, .int .u8 b, .int .u8 c, .int .u8 d].all oneCell) = true := rfl
  simp only [hc, cond_true, blt_true.2 h]
  exact bothW_ok.2 (hk (A.push (.row [.int .u8 a, .int .u8 b, .int .u8 c, .int .u8 d] 5 A.next 0 false)) ⟨AW.push_ext _ h, rfl, by rw [AW.push_get _ h, if_pos rfl], hf.alone (Nat.le_refl _), hf.push _ h⟩)
theorem bufN {A : AW} {b : Nat} {l : List UInt8} (h : Row1 A b (bytesV l) 5) (hl : l.length < 1000) : Buf 5 A (.slice (some ⟨b, 0, none⟩) l.length l.length) l [b] :=
  .inr (.inr ⟨b, l.length, [], rfl, by have : room = 68719476736 := rfl; omega, by simpa using h, rfl, rfl, rfl⟩)
theorem wc123 {A : AW} {x : Value} {l : List UInt8} {F : List Nat} {K : Value → AW → Prop} (h : RdB A x l F) (hf : Fine A) (hA : A.next + 6 < maxId) (hl : l.length < 900000) (hk : ∀ A' v l' F', Grow A A' 3 → Buf 5 A' v l' F' → K v A') : Wc Tryz.prog theX W0 m0 123 [x] A K := by
  have hroom : room = 68719476736 := rfl
  refine w123 _ _ (cuts_none (S := fun _ _ _ => False) fun _ _ _ h => h) ?_
  rw [e123]
  refine wc194 h (by omega) fun n => ?_
  refine appendBuf tb (Buf.nil 5 A) (src_slice tb h) hf (by omega) (by simp; omega) fun v1 A1 F1 b1 k1 hF1 n1 f1 => ?_
  rw [List.nil_append] at b1
  rw [bin_shr (by decide), bin_shr (by decide), bin_shr (by decide)]
  simp only [cv_23_5, bothW_ok, pureW_some]
  obtain ⟨c0, e0⟩ := byte_any n
  obtain ⟨c1, e1⟩ := byte_any (n.fdiv (2 ^ (min (8 : Int).toNat (IntKind.bits .u32))))
  obtain ⟨c2, e2⟩ := byte_any (n.fdiv (2 ^ (min (16 : Int).toNat (IntKind.bits .u32))))
  obtain ⟨c3, e3⟩ := byte_any (n.fdiv (2 ^ (min (24 : Int).toNat (IntKind.bits .u32))))
  rw [e0, e1, e2, e3]
  refine bslice4 f1 (by omega) fun A2 m2 => ?_
  have n2 := m2.next
  have r2 : Row1 A2 A1.next (bytesV [c0, c1, c2, c3]) 5 := m2.row1
  have b2 : Buf 5 A2 (.slice (some ⟨A1.next, 0, none⟩) 4 4) [c0, c1, c2, c3] [A1.next] := bufN r2 (by simp)
  have hF1' : ∀ y ∈ F1, A.next ≤ y := fun y hy => by
    rcases hF1 y hy with h | h
    · simp at h
    · exact h
  refine appendBuf tb (b1.keeps (m2.keeps f1) (by simp)) (src_slice tb b2.rd) m2.fine (by omega) (by simp; omega) fun v3 A3 F3 b3 k3 hF3 n3 f3 => ?_
  have g1 : Grow A A1 1 := ⟨k1, f1, by omega⟩
  exact hk A3 v3 _ F3 ((g1.trans (.made m2 f1)).own k3 hF1' (m := 1) (by omega) f3) b3

theorem wc236 {A : AW} {a b : ByteArray} {K : Value → AW → Prop} (ha : slen a < 1000000) (hk : ∀ t, K (.bool t) A) : Wc Tryz.prog theX W0 m0 236 [.string a, .string b] A K := by
  let I : Nat → Nat → List Value → AW → Prop := fun g id vals A' => id = 0 ∧ A' = A ∧ ∃ i : Nat, vals = [.string a, .string b, .int .i64 (i : Int)] ∧ i ≤ slen a ∧ g = slen a - i
  refine w236 _ _ _ (c236 (I := I) ?_) ?_
  · rintro g id vals A' d ⟨rfl, rfl, i, rfl, hi, rfl⟩ hd
    rw [l236_0]
    simp only [L236, List.map_cons, List.map_nil, List.cons.injEq, and_true] at hd
    obtain ⟨h0, h1, h5⟩ := hd
    have hsa : a.data.toList.length = slen a := rfl
    simp only [h0, h1, h5, ln_9, hsa, bin_lss, pureW_some, forkW_dec]
    refine ⟨fun hlt => ⟨fun hlt2 => ?_, fun _ => hk _⟩, fun _ => hk _⟩
    obtain ⟨n1, e1⟩ := idx9 (s := a) (i := i) (by omega)
    obtain ⟨n2, e2⟩ := idx9 (s := b) (i := i) (by omega)
    simp only [e1, e2, bin_neq, bin_lss, bin_add, pureW_some, forkW_bne]
    refine ⟨fun _ => hk _, fun _ => ?_⟩
    rw [wrap_i64 (by omega) (by omega)]
    exact cutW_self.2 ⟨slen a - (i + 1), by omega, rfl, rfl, i + 1, rfl, by omega, rfl⟩
  · rw [e236]
    exact cutW_self.2 ⟨_, rfl, rfl, 0, rfl, by omega, rfl⟩
theorem wc192 {A : AW} {f f' : Int} {g b g' b' : ByteArray} {K : Value → AW → Prop} (hf : Fine A) (hA : A.next + 4 < maxId) (h1 : slen g < 1000000) (h2 : slen b < 1000000) (hk : ∀ A' r, Grow A A' 2 → K (.int .i64 r) A') : Wc Tryz.prog theX W0 m0 192 [xidV f g b, xidV f' g' b'] A K := by
  refine w192 _ _ _ (cuts_none (S := fun _ _ _ => False) fun _ _ _ h => h) ?_
  rw [e192]
  refine newP_made (cs := (Value.cells (xidV f g b)).toList) hf (by omega) rfl fun A1 m1 => ?_
  have n1 := m1.next
  refine newP_made (cs := (Value.cells (xidV f' g' b')).toList) m1.fine (by omega) rfl fun A2 m2 => ?_
  have gr := (Grow.made m1 hf).trans (.made m2 m1.fine)
  have r1 : Row1 A2 A.next [.int .u32 f, .string g, .string b] 25 := m1.row1.keeps (m2.keeps m1.fine) (by simp)
  have r2 : Row1 A2 A1.next [.int .u32 f', .string g', .string b'] 25 := m2.row1
  have t1 : A2.cells? ⟨A.next, 0, none⟩ 3 = some [.int .u32 f, .string g, .string b] := by rw [cells_row r1.row]; rfl
  have t2 : A2.cells? ⟨A1.next, 0, none⟩ 3 = some [.int .u32 f', .string g', .string b'] := by rw [cells_row r2.row]; rfl
  have he := eq25 f f' g g' b b' (.tmp 6) (.tmp 7)
  unfold xidV at he
  simp only [ld_25, t1, t2, he, pureW_some]
  refine forkW_bool.2 ⟨fun _ => hk A2 _ gr, fun _ => ?_⟩
  simp only [fa_25_0, fa_25_1, fa_25_2, ld_9, cell_row r1.row, cell_row r2.row, cellOf, isT_int, isT_string, cond_false, pureW_some, Nat.zero_add]
  refine wc236 h2 fun t => ?_
  simp only [fa_25_0, fa_25_1, fa_25_2, ld_9, ld_23, cell_row r1.row, cell_row r2.row, cellOf, isT_int, isT_string, cond_false, bin_strneq, bin_neq, bin_lss, pureW_some, forkW_bne, forkW_dec, Nat.zero_add]
  refine forkW_bool.2 ⟨fun _ => ?_, fun _ => ⟨fun _ => ⟨fun _ => hk A2 _ gr, fun _ => hk A2 _ gr⟩, fun _ => forkW_bool.2 ⟨fun _ => hk A2 _ gr, fun _ => hk A2 _ gr⟩⟩⟩
  refine wc236 h1 fun t => ?_
  simp only [fa_25_0, ld_23, cell_row r1.row, cell_row r2.row, cellOf, isT_int, isT_string, cond_false, bin_neq, bin_lss, pureW_some, forkW_bne, forkW_dec, Nat.zero_add]
  exact ⟨fun _ => ⟨fun _ => hk A2 _ gr, fun _ => hk A2 _ gr⟩, fun _ => forkW_bool.2 ⟨fun _ => hk A2 _ gr, fun _ => hk A2 _ gr⟩⟩
end

end Go.Proofs.YtblkafhjbcfmhaaGreatDoor


namespace Go.Proofs.YtblkafhjbcfmhaaGreatDoor
open Go.Abs

def zc : List Value := [.pointer none, .pointer none, .int .i64 0, .map none, .int .u64 0, .map none, .slice none 0 0, .bool false]
/-- a coordinator that is none, or that nobody opened -/
def NoC (A : AW) (c : Value) : Prop := c = .pointer none ∨ ∃ q, c = .pointer (some ⟨q, 0, none⟩) ∧ Row1 A q zc 47
theorem NoC.keeps {A A' : AW} {c : Value} {S : List Nat} (h : NoC A c) (k : Keeps A A' S) (hs : ∀ x ∈ S, A.next ≤ x) : NoC A' c := by
  rcases h with h | ⟨q, h1, h2⟩
  · exact .inl h
  · exact .inr ⟨q, h1, h2.keeps k fun hm => by have := hs q hm; have := h2.lt; omega⟩
theorem NoC.one {A : AW} {c : Value} (h : NoC A c) : oneCell c = true ∧ isTuple c = false ∧ (Value.cells c).toList = [c] := by
  rcases h with rfl | ⟨q, rfl, _⟩ <;> exact ⟨rfl, rfl, rfl⟩
def xid0 : Value := .agg ⟨[.int .u32 0, .string ⟨⟨[]⟩⟩, .string ⟨⟨[]⟩⟩]⟩

section
variable {W0 : World} {m0 : Inj Tryz.prog}
theorem wc23 {A : AW} {c : Value} {K : Value → AW → Prop} (h : NoC A c) (hk : K (.bool false) A) : Wc Tryz.prog theX W0 m0 23 [c] A K := by
  refine w23 _ _ (cuts_none (S := fun _ _ _ => False) fun _ _ _ h => h) ?_
  rw [e23]
  rcases h with rfl | ⟨q, rfl, hq⟩
  · simp only [pn34n, pureW_some]
    exact forkW_bool.2 ⟨fun h => by simp at h, fun _ => hk⟩
  · have hn : ∀ a : Addr, nilP (.pointer (some a)) = some (.pointer (some a)) := fun _ => rfl
    simp only [pn34s, hn, fa_47_3, ld_42, cell_row hq.row, zc, cellOf, isT_ptr, isT_int, isT_map, cond_false, mn42, pureW_some, Nat.zero_add]
    exact forkW_bool.2 ⟨fun _ => hk, fun h => by simp at h⟩
theorem wc8 {A : AW} {c : Value} {K : Value → AW → Prop} (h : NoC A c) (hk : K (.slice none 0 0) A) : Wc Tryz.prog theX W0 m0 8 [c] A K := by
  refine w8 _ _ (cuts_none (S := fun _ _ _ => False) fun _ _ _ h => h) ?_
  rw [e8]
  refine wc23 h ?_
  simp only [un_not, pureW_some]
  exact forkW_bool.2 ⟨fun _ => hk, fun h => by simp at h⟩
theorem wc9 {A : AW} {c : Value} {K : Value → AW → Prop} (h : NoC A c) (hk : K (.slice none 0 0) A) : Wc Tryz.prog theX W0 m0 9 [c] A K := by
  refine w9 _ _ (cuts_none (S := fun _ _ _ => False) fun _ _ _ h => h) ?_
  rw [e9]
  refine wc23 h ?_
  simp only [un_not, pureW_some]
  exact forkW_bool.2 ⟨fun _ => hk, fun h => by simp at h⟩
theorem wc10 {A : AW} {c : Value} {K : Value → AW → Prop} (h : NoC A c) (hk : K (.int .u32 0) A) : Wc Tryz.prog theX W0 m0 10 [c] A K := by
  refine w10 _ _ (cuts_none (S := fun _ _ _ => False) fun _ _ _ h => h) ?_
  rw [e10]
  refine wc23 h ?_
  simp only [un_not, pureW_some]
  exact forkW_bool.2 ⟨fun _ => hk, fun h => by simp at h⟩
theorem wc11 {A : AW} {c : Value} {K : Value → AW → Prop} (h : NoC A c) (hk : K (.bool true) A) : Wc Tryz.prog theX W0 m0 11 [c] A K := by
  refine w11 _ _ (cuts_none (S := fun _ _ _ => False) fun _ _ _ h => h) ?_
  rw [e11]
  refine wc23 h ?_
  simp only [un_not, pureW_some]
  exact forkW_bool.2 ⟨fun _ => hk, fun h => by simp at h⟩
theorem wc43 {A : AW} {c f : Value} {K : Value → AW → Prop} (h : NoC A c) (hk : K (.int .i64 1) A) : Wc Tryz.prog theX W0 m0 43 [c, f] A K := by
  refine w43 _ _ _ (cuts_none (S := fun _ _ _ => False) fun _ _ _ h => h) ?_
  rw [e43]
  refine wc23 h ?_
  simp only [un_not, pureW_some]
  exact forkW_bool.2 ⟨fun _ => hk, fun h => by simp at h⟩
/-- a value of one cell, in a place of its own -/
theorem newP_one {A : AW} {v : Value} {e : TypeId} {K : Value → AW → Prop} (hf : Fine A) (h : A.next < maxId) (h1 : oneCell v = true) (hc : (Value.cells v).toList = [v]) (hk : ∀ A', Made A A' [v] e → K (.pointer (some ⟨A.next, 0, none⟩)) A') : bothW (newP A (Value.cells v).toList e) K := by
  rw [hc]
  exact newP_made hf h (by simp [h1]) hk
theorem load34 {A A' : AW} {q : Nat} {c : Value} (h : Row1 A q [c] 34) (hc : isTuple c = false) : loadP Tryz.prog A 34 (.pointer (some ⟨q, 0, none⟩)) = some c := by
  rw [ld_34, cell_row h.row]
  simp only [cellOf, hc, cond_false]
theorem store25 {A : AW} {t : Nat} {f : Int} {g b : ByteArray} {zs : List Value} {K : AW → Prop} (ht : Row1 A t zs 25) (hz : zs.length = 3) (hf : Fine A) (hA : A.next ≤ maxId)
    (hk : ∀ A', Row1 A' t [.int .u32 f, .string g, .string b] 25 → Keeps A A' [t] → A'.next = A.next → Fine A' → K A') : effW (storeP Tryz.prog A 25 (.pointer (some ⟨t, 0, none⟩)) (.agg ⟨[.int .u32 f, .string g, .string b]⟩)) K := by
  refine ht.store hf hA (st_25 _ _ _) rfl (by rw [hz]; exact Nat.le_refl 3) rfl fun A3 t3 k3 n3 f3 => ?_
  have e : setL zs 0 (Value.cells (.agg ⟨[.int .u32 f, .string g, .string b]⟩)).toList = [.int .u32 f, .string g, .string b] := by
    match zs, hz with
    | [z0, z1, z2], _ => rfl
  rw [e] at t3
  exact hk A3 t3 k3 n3 f3
theorem load25 {A : AW} {t : Nat} {f : Int} {g b : ByteArray} (h : Row1 A t [.int .u32 f, .string g, .string b] 25) : loadP Tryz.prog A 25 (.pointer (some ⟨t, 0, none⟩)) = some (.agg ⟨[.int .u32 f, .string g, .string b]⟩) := by
  rw [ld_25, cells_row h.row]
  rfl
/-- Begin -/
theorem wc17 {A : AW} {c : Value} {o : Option Addr} {n k : Nat} {K : Value → AW → Prop} (h : NoC A c) (hf : Fine A) (hA : A.next + 5 < maxId) (hk : ∀ A', Grow A A' 3 → K (.tuple ⟨[xid0, .int .i64 1]⟩) A') : Wc Tryz.prog theX W0 m0 17 [c, .slice o n k] A K := by
  have h1 := h.one
  refine w17 _ _ _ (cuts_none (S := fun _ _ _ => False) fun _ _ _ h => h) ?_
  rw [e17]
  refine newP_one hf (by omega) h1.1 h1.2.2 fun A1 m1 => ?_
  have n1 := m1.next
  refine newP_one m1.fine (by omega) rfl rfl fun A2 m2 => ?_
  have n2 := m2.next
  refine allocP_made zero25 m2.fine (by omega) rfl fun A3 m3 => ?_
  have n3 := m3.next
  have g3 := ((Grow.made m1 hf).trans (.made m2 m1.fine)).trans (.made m3 m2.fine)
  have r3 := (m1.row1.keeps (m2.keeps m1.fine) (by simp)).keeps (m3.keeps m2.fine) (by simp)
  rw [load34 (A' := A) r3 h1.2.1]
  simp only [pureW_some]
  refine wc43 (h.keeps g3.keeps (by simp)) ?_
  have t3 : Row1 A3 A2.next [.int .u32 0, .string ⟨⟨[]⟩⟩, .string ⟨⟨[]⟩⟩] 25 := m3.row1
  rw [load25 t3]
  simp only [pureW_some]
  refine store25 t3 rfl m3.fine (by omega) fun A4 t4 k4 n4 f4 => ?_
  rw [load25 t4]
  simp only [pureW_some]
  exact hk A4 ((g3.own k4 (by simp; omega) (m := 0) (by omega) f4).more (by omega))
/-- End -/
theorem wc18 {A : AW} {c : Value} {f : Int} {g b : ByteArray} {t : Bool} {K : Value → AW → Prop} (h : NoC A c) (hf : Fine A) (hA : A.next + 5 < maxId) (hk : ∀ A', Grow A A' 3 → K (.int .i64 1) A') : Wc Tryz.prog theX W0 m0 18 [c, xidV f g b, .bool t] A K := by
  have h1 := h.one
  refine w18 _ _ _ _ (cuts_none (S := fun _ _ _ => False) fun _ _ _ h => h) ?_
  rw [e18]
  refine newP_one hf (by omega) h1.1 h1.2.2 fun A1 m1 => ?_
  have n1 := m1.next
  refine newP_made (cs := (Value.cells (xidV f g b)).toList) m1.fine (by omega) rfl fun A2 m2 => ?_
  have n2 := m2.next
  refine newP_one m2.fine (by omega) rfl rfl fun A3 m3 => ?_
  have n3 := m3.next
  have g3 := ((Grow.made m1 hf).trans (.made m2 m1.fine)).trans (.made m3 m2.fine)
  have r3 := (m1.row1.keeps (m2.keeps m1.fine) (by simp)).keeps (m3.keeps m2.fine) (by simp)
  rw [load34 (A' := A) r3 h1.2.1]
  simp only [pureW_some]
  exact wc43 (h.keeps g3.keeps (by simp)) (hk A3 g3)
/-- Take -/
theorem wc19 {A : AW} {c : Value} {u : Int} {s : ByteArray} {K : Value → AW → Prop} (h : NoC A c) (hf : Fine A) (hA : A.next + 5 < maxId) (hk : ∀ A', Grow A A' 3 → K (.int .i64 1) A') : Wc Tryz.prog theX W0 m0 19 [c, .int .u8 u, .string s] A K := by
  have h1 := h.one
  refine w19 _ _ _ _ (cuts_none (S := fun _ _ _ => False) fun _ _ _ h => h) ?_
  rw [e19]
  refine newP_one hf (by omega) h1.1 h1.2.2 fun A1 m1 => ?_
  have n1 := m1.next
  refine newP_one m1.fine (by omega) rfl rfl fun A2 m2 => ?_
  have n2 := m2.next
  refine newP_one m2.fine (by omega) rfl rfl fun A3 m3 => ?_
  have n3 := m3.next
  have g3 := ((Grow.made m1 hf).trans (.made m2 m1.fine)).trans (.made m3 m2.fine)
  have r3 := (m1.row1.keeps (m2.keeps m1.fine) (by simp)).keeps (m3.keeps m2.fine) (by simp)
  rw [load34 (A' := A) r3 h1.2.1]
  simp only [pureW_some]
  exact wc43 (h.keeps g3.keeps (by simp)) (hk A3 g3)
/-- Tick -/
theorem wc21 {A : AW} {c : Value} {K : Value → AW → Prop} (h : NoC A c) (hf : Fine A) (hA : A.next + 5 < maxId) (hk : ∀ A', Grow A A' 1 → K (.int .i64 1) A') : Wc Tryz.prog theX W0 m0 21 [c] A K := by
  have h1 := h.one
  refine w21 _ _ (cuts_none (S := fun _ _ _ => False) fun _ _ _ h => h) ?_
  rw [e21]
  refine newP_one hf (by omega) h1.1 h1.2.2 fun A1 m1 => ?_
  have g1 := Grow.made m1 hf
  rw [load34 (A' := A) m1.row1 h1.2.1]
  simp only [pureW_some]
  exact wc43 (h.keeps g1.keeps (by simp)) (hk A1 g1)
/-- Forget -/
theorem wc22 {A : AW} {c : Value} {f : Int} {g b : ByteArray} {K : Value → AW → Prop} (h : NoC A c) (hf : Fine A) (hA : A.next + 5 < maxId) (hk : ∀ A', Grow A A' 2 → K (.int .i64 1) A') : Wc Tryz.prog theX W0 m0 22 [c, xidV f g b] A K := by
  have h1 := h.one
  refine w22 _ _ _ (cuts_none (S := fun _ _ _ => False) fun _ _ _ h => h) ?_
  rw [e22]
  refine newP_one hf (by omega) h1.1 h1.2.2 fun A1 m1 => ?_
  have n1 := m1.next
  refine newP_made (cs := (Value.cells (xidV f g b)).toList) m1.fine (by omega) rfl fun A2 m2 => ?_
  have g2 := (Grow.made m1 hf).trans (.made m2 m1.fine)
  rw [load34 (A' := A) (m1.row1.keeps (m2.keeps m1.fine) (by simp)) h1.2.1]
  simp only [pureW_some]
  exact wc43 (h.keeps g2.keeps (by simp)) (hk A2 g2)
/-- no disk -/
theorem wc28 {A : AW} {K : Value → AW → Prop} (hk : K (.bool false) A) : Wc Tryz.prog theX W0 m0 28 [.pointer none] A K := by
  refine w28 _ _ (cuts_none (S := fun _ _ _ => False) fun _ _ _ h => h) ?_
  rw [e28]
  simp only [pn41n, pureW_some]
  exact forkW_bool.2 ⟨fun h => by simp at h, fun _ => hk⟩
theorem wc12 {A : AW} {K : Value → AW → Prop} (hk : K (.pointer none) A) : Wc Tryz.prog theX W0 m0 12 [.pointer none] A K := by
  refine w12 _ _ (cuts_none (S := fun _ _ _ => False) fun _ _ _ h => h) ?_
  rw [e12]
  refine wc28 ?_
  simp only [un_not, pureW_some]
  exact forkW_bool.2 ⟨fun _ => hk, fun h => by simp at h⟩
theorem wc4 {A : AW} {K : Value → AW → Prop} {a b : Value} (hk : K (.tuple ⟨[.pointer none, .int .i64 1]⟩) A) : Wc Tryz.prog theX W0 m0 4 [.pointer none, a, b] A K := by
  refine w4 _ _ _ _ (cuts_none (S := fun _ _ _ => False) fun _ _ _ h => h) ?_
  rw [e4]
  refine wc12 ?_
  simp only [pe41n, pureW_some]
  exact forkW_bool.2 ⟨fun _ => hk, fun h => by simp at h⟩
end
end Go.Proofs.YtblkafhjbcfmhaaGreatDoor
