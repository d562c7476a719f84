/-
  What the operations are at the program's types. Conditions: none.
-/
import Derived.Test.YteooonkpannpbaaGreatDoorText
import Derived.Test.YteooonkpannpbaaGreatDoorAbsI

namespace Go.Proofs.YteooonkpannpbaaGreatDoor
open Go.Abs
theorem fa_24_0 (b o : Nat) : fieldAddrA Tryz.prog 24 (.pointer (some ⟨b, o, none⟩)) 0 = some (.pointer (some ⟨b, o, none⟩)) := by kernel_rfl
theorem fa_24_1 (b o : Nat) : fieldAddrA Tryz.prog 24 (.pointer (some ⟨b, o, none⟩)) 1 = some (.pointer (some ⟨b, o + 1, none⟩)) := by kernel_rfl
theorem fa_24_2 (b o : Nat) : fieldAddrA Tryz.prog 24 (.pointer (some ⟨b, o, none⟩)) 2 = some (.pointer (some ⟨b, o + 2, none⟩)) := by kernel_rfl
theorem fa_27_0 (b o : Nat) : fieldAddrA Tryz.prog 27 (.pointer (some ⟨b, o, none⟩)) 0 = some (.pointer (some ⟨b, o, none⟩)) := by kernel_rfl
theorem fa_27_1 (b o : Nat) : fieldAddrA Tryz.prog 27 (.pointer (some ⟨b, o, none⟩)) 1 = some (.pointer (some ⟨b, o + 3, none⟩)) := by kernel_rfl
theorem fa_50_0 (b o : Nat) : fieldAddrA Tryz.prog 50 (.pointer (some ⟨b, o, none⟩)) 0 = some (.pointer (some ⟨b, o, none⟩)) := by kernel_rfl
theorem fa_50_1 (b o : Nat) : fieldAddrA Tryz.prog 50 (.pointer (some ⟨b, o, none⟩)) 1 = some (.pointer (some ⟨b, o + 1, none⟩)) := by kernel_rfl
theorem fa_50_2 (b o : Nat) : fieldAddrA Tryz.prog 50 (.pointer (some ⟨b, o, none⟩)) 2 = some (.pointer (some ⟨b, o + 4, none⟩)) := by kernel_rfl
theorem fa_98_0 (b o : Nat) : fieldAddrA Tryz.prog 98 (.pointer (some ⟨b, o, none⟩)) 0 = some (.pointer (some ⟨b, o, none⟩)) := by kernel_rfl
theorem fa_98_1 (b o : Nat) : fieldAddrA Tryz.prog 98 (.pointer (some ⟨b, o, none⟩)) 1 = some (.pointer (some ⟨b, o + 1, none⟩)) := by kernel_rfl
theorem fa_98_2 (b o : Nat) : fieldAddrA Tryz.prog 98 (.pointer (some ⟨b, o, none⟩)) 2 = some (.pointer (some ⟨b, o + 2, none⟩)) := by kernel_rfl
theorem fa_100_0 (b o : Nat) : fieldAddrA Tryz.prog 100 (.pointer (some ⟨b, o, none⟩)) 0 = some (.pointer (some ⟨b, o, none⟩)) := by kernel_rfl
theorem fa_109_0 (b o : Nat) : fieldAddrA Tryz.prog 109 (.pointer (some ⟨b, o, none⟩)) 0 = some (.pointer (some ⟨b, o, none⟩)) := by kernel_rfl
theorem fa_109_1 (b o : Nat) : fieldAddrA Tryz.prog 109 (.pointer (some ⟨b, o, none⟩)) 1 = some (.pointer (some ⟨b, o + 1, none⟩)) := by kernel_rfl
theorem ld_4 (A : AW) (a : Addr) : loadP Tryz.prog A 4 (.pointer (some a)) = A.cell? a := by kernel_rfl
theorem ld_5 (A : AW) (a : Addr) : loadP Tryz.prog A 5 (.pointer (some a)) = A.cell? a := by kernel_rfl
theorem ld_9 (A : AW) (a : Addr) : loadP Tryz.prog A 9 (.pointer (some a)) = A.cell? a := by kernel_rfl
theorem ld_22 (A : AW) (a : Addr) : loadP Tryz.prog A 22 (.pointer (some a)) = A.cell? a := by kernel_rfl
theorem ld_24 (A : AW) (a : Addr) : loadP Tryz.prog A 24 (.pointer (some a)) = (match A.cells? a 3 with | some l => some (.agg ⟨l⟩) | none => none) := by kernel_rfl
theorem ld_25 (A : AW) (a : Addr) : loadP Tryz.prog A 25 (.pointer (some a)) = A.cell? a := by kernel_rfl
theorem ld_27 (A : AW) (a : Addr) : loadP Tryz.prog A 27 (.pointer (some a)) = (match A.cells? a 4 with | some l => some (.agg ⟨l⟩) | none => none) := by kernel_rfl
theorem ld_48 (A : AW) (a : Addr) : loadP Tryz.prog A 48 (.pointer (some a)) = A.cell? a := by kernel_rfl
theorem ld_50 (A : AW) (a : Addr) : loadP Tryz.prog A 50 (.pointer (some a)) = (match A.cells? a 5 with | some l => some (.agg ⟨l⟩) | none => none) := by kernel_rfl
theorem ld_55 (A : AW) (a : Addr) : loadP Tryz.prog A 55 (.pointer (some a)) = A.cell? a := by kernel_rfl
theorem ld_95 (A : AW) (a : Addr) : loadP Tryz.prog A 95 (.pointer (some a)) = A.cell? a := by kernel_rfl
theorem st_4 (A : AW) (a : Addr) (v : Value) : storeP Tryz.prog A 4 (.pointer (some a)) v = (bif Nat.beq v.cells.toList.length 1 then A.setCells a v.cells.toList else none) := by kernel_rfl
theorem st_5 (A : AW) (a : Addr) (v : Value) : storeP Tryz.prog A 5 (.pointer (some a)) v = (bif Nat.beq v.cells.toList.length 1 then A.setCells a v.cells.toList else none) := by kernel_rfl
theorem st_9 (A : AW) (a : Addr) (v : Value) : storeP Tryz.prog A 9 (.pointer (some a)) v = (bif Nat.beq v.cells.toList.length 1 then A.setCells a v.cells.toList else none) := by kernel_rfl
theorem st_24 (A : AW) (a : Addr) (v : Value) : storeP Tryz.prog A 24 (.pointer (some a)) v = (bif Nat.beq v.cells.toList.length 3 then A.setCells a v.cells.toList else none) := by kernel_rfl
theorem st_25 (A : AW) (a : Addr) (v : Value) : storeP Tryz.prog A 25 (.pointer (some a)) v = (bif Nat.beq v.cells.toList.length 1 then A.setCells a v.cells.toList else none) := by kernel_rfl
theorem st_27 (A : AW) (a : Addr) (v : Value) : storeP Tryz.prog A 27 (.pointer (some a)) v = (bif Nat.beq v.cells.toList.length 4 then A.setCells a v.cells.toList else none) := by kernel_rfl
theorem st_50 (A : AW) (a : Addr) (v : Value) : storeP Tryz.prog A 50 (.pointer (some a)) v = (bif Nat.beq v.cells.toList.length 5 then A.setCells a v.cells.toList else none) := by kernel_rfl
theorem st_55 (A : AW) (a : Addr) (v : Value) : storeP Tryz.prog A 55 (.pointer (some a)) v = (bif Nat.beq v.cells.toList.length 1 then A.setCells a v.cells.toList else none) := by kernel_rfl
theorem ia_25 (b o n c i : Nat) (k : IntKind) : indexAddrA Tryz.prog 25 (.slice (some ⟨b, o, none⟩) n c) (.int k (.ofNat i)) = (bif Nat.blt i n then some (.pointer (some (addA ⟨b, o, none⟩ (i * 5)))) else none) := by kernel_rfl
theorem ia_41 (b o n c i : Nat) (k : IntKind) : indexAddrA Tryz.prog 41 (.slice (some ⟨b, o, none⟩) n c) (.int k (.ofNat i)) = (bif Nat.blt i n then some (.pointer (some (addA ⟨b, o, none⟩ (i * 4)))) else none) := by kernel_rfl
theorem ia_55 (b o n c i : Nat) (k : IntKind) : indexAddrA Tryz.prog 55 (.slice (some ⟨b, o, none⟩) n c) (.int k (.ofNat i)) = (bif Nat.blt i n then some (.pointer (some (addA ⟨b, o, none⟩ (i * 1)))) else none) := by kernel_rfl
theorem ln_9 (A : AW) (s : ByteArray) : lenA Tryz.prog A 9 (.string s) = some (.int .i64 s.data.toList.length) := by kernel_rfl
theorem ln_25 (A : AW) (a : Option Addr) (n c : Nat) : lenA Tryz.prog A 25 (.slice a n c) = some (.int .i64 n) := by kernel_rfl
theorem ln_41 (A : AW) (a : Option Addr) (n c : Nat) : lenA Tryz.prog A 41 (.slice a n c) = some (.int .i64 n) := by kernel_rfl
theorem ln_55 (A : AW) (a : Option Addr) (n c : Nat) : lenA Tryz.prog A 55 (.slice a n c) = some (.int .i64 n) := by kernel_rfl

theorem tb : BT Tryz.prog 5 55 9 where
  sl := by kernel_rfl
  sz := by kernel_rfl
  by_ := by kernel_rfl
  hz := by kernel_rfl
  us := by kernel_rfl
  ub := by kernel_rfl
  ust := by kernel_rfl
  zt := by kernel_rfl
  ln := ln_55
  ia := fun b o n c i k => ia_55 b o n c i k
  ld := ld_5
  st := st_5
theorem cv_3_5 (A : AW) (n : Int) (k : IntKind) : convertA Tryz.prog A 3 5 (.int k n) = .ok (.int .u8 (IntKind.u8.wrap n)) A := by kernel_rfl
theorem cv_102_5 (A : AW) (n : Int) (k : IntKind) : convertA Tryz.prog A 102 5 (.int k n) = .ok (.int .u8 (IntKind.u8.wrap n)) A := by kernel_rfl
theorem cv_22_102 (A : AW) (n : Int) (k : IntKind) : convertA Tryz.prog A 22 102 (.int k n) = .ok (.int .u64 (IntKind.u64.wrap n)) A := by kernel_rfl
theorem cv_3_102 (A : AW) (n : Int) (k : IntKind) : convertA Tryz.prog A 3 102 (.int k n) = .ok (.int .u64 (IntKind.u64.wrap n)) A := by kernel_rfl
theorem zero50 : zeroT Tryz.prog 50 = some (.agg #[.int .u8 0, .int .u32 0, .string .empty, .string .empty, .int .u8 0]) := by kernel_rfl
theorem bs55 (A : AW) (n : Int) : buildSliceA Tryz.prog A 55 1 [(0, .int .u8 n)] = (match A.newRow [.int .u8 n] 5 with | some (a, w') => .ok (.slice (some a) 1 1) w' | none => .fail "buildSlice new") := by kernel_rfl
theorem fresh55 (n : Int) : freshOf Tryz.prog (evalT (Tm.fill ⟨1, .nil⟩ 0 [.int .u8 n])) (.buildSlice 55 1 #[(0, .tmp 0)]) = some (.slice [.int .u8 n] 5 1) := by kernel_rfl
theorem ft24 : quiet Tryz.prog (underlying 24) = some (.struct (Tryz.prog.fieldsOf 24)) := by kernel_rfl
noncomputable def F24 (i : Nat) : Field := (Tryz.prog.fieldsOf 24).toList.getD i default
theorem fs24 : (Tryz.prog.fieldsOf 24).toList = [F24 0, F24 1, F24 2] := by kernel_rfl
def xidV (f : Int) (g b : ByteArray) : Value := .agg ⟨[.int .u32 f, .string g, .string b]⟩
theorem pt24_0 (f : Int) (g b : ByteArray) : quiet Tryz.prog (part (F24 0).type ⟨[.int .u32 f, .string g, .string b]⟩ (F24 0).offset) = some (.int .u32 f) := by kernel_rfl
theorem pt24_1 (f : Int) (g b : ByteArray) : quiet Tryz.prog (part (F24 1).type ⟨[.int .u32 f, .string g, .string b]⟩ (F24 1).offset) = some (.string g) := by kernel_rfl
theorem pt24_2 (f : Int) (g b : ByteArray) : quiet Tryz.prog (part (F24 2).type ⟨[.int .u32 f, .string g, .string b]⟩ (F24 2).offset) = some (.string b) := by kernel_rfl
theorem ty24_0 : (F24 0).type = 22 := by kernel_rfl
theorem ty24_1 : (F24 1).type = 9 := by kernel_rfl
theorem ty24_2 : (F24 2).type = 9 := by kernel_rfl
theorem ut9 : quiet Tryz.prog (underlying 9) = some .string := by kernel_rfl
theorem ut22 : quiet Tryz.prog (underlying 22) = some (.int .u32) := by kernel_rfl
/-- are names the same? -/
def sameX (f f' : Int) (g g' b b' : ByteArray) : Bool := f == f' && (g.data.toList == g'.data.toList && b.data.toList == b'.data.toList)
theorem quiet24 (f f' : Int) (g g' b b' : ByteArray) : quiet Tryz.prog (Op.equal 24 (xidV f g b) (xidV f' g' b')) = some (sameX f f' g g' b b') := by
  show quiet Tryz.prog (Op.equalIn (9999 + 1) 24 _ _) = _
  unfold xidV
  rw [quiet_struct 9999 24 _ _ ft24 (by kernel_rfl), fs24]
  rw [quiet_fieldR (by kernel_rfl) (pt24_0 f g b) (pt24_0 f' g' b') (by rw [ty24_0]; exact quiet_eq_int 9998 22 _ _ _ _ ut22)]
  rw [quiet_fieldR (by kernel_rfl) (pt24_1 f g b) (pt24_1 f' g' b') (by rw [ty24_1]; exact quiet_eqs ut9)]
  rw [quiet_fieldR (by kernel_rfl) (pt24_2 f g b) (pt24_2 f' g' b') (by rw [ty24_2]; exact quiet_eqs ut9)]
  unfold sameX
  cases f == f' <;> cases g.data.toList == g'.data.toList <;> cases b.data.toList == b'.data.toList <;> rfl
set_option maxRecDepth 100000 in
theorem eq24 (f f' : Int) (g g' b b' : ByteArray) (xo yo : Operand) : binA Tryz.prog .eql 24 xo yo (xidV f g b) (xidV f' g' b') = some (.bool (sameX f f' g g' b b')) := by
  unfold xidV
  have hg : eqGuardA Tryz.prog 24 xo yo (.agg ⟨[.int .u32 f, .string g, .string b]⟩) (.agg ⟨[.int .u32 f', .string g', .string b']⟩) = true := by
    show (!Tryz.prog.eqGuardType Tryz.prog.depth 24) = true
    kernel_rfl
  show (bif eqGuardA Tryz.prog 24 xo yo (.agg ⟨[.int .u32 f, .string g, .string b]⟩) (.agg ⟨[.int .u32 f', .string g', .string b']⟩) then (match eqA Tryz.prog 24 (.agg ⟨[.int .u32 f, .string g, .string b]⟩) (.agg ⟨[.int .u32 f', .string g', .string b']⟩) with | some b => some (Value.bool b) | none => none) else none) = _
  rw [hg, cond_true]
  have he : eqA Tryz.prog 24 (.agg ⟨[.int .u32 f, .string g, .string b]⟩) (.agg ⟨[.int .u32 f', .string g', .string b']⟩) = some (sameX f f' g g' b b') := by
    unfold eqA
    have hc : (closedV 4 (.agg ⟨[.int .u32 f, .string g, .string b]⟩) && closedV 4 (.agg ⟨[.int .u32 f', .string g', .string b']⟩)) = true := rfl
    rw [hc, cond_true]
    exact quiet24 f f' g g' b b'
  rw [he]

end Go.Proofs.YteooonkpannpbaaGreatDoor


namespace Go.Proofs.YteooonkpannpbaaGreatDoor
open Go.Abs

/-! integers -/
theorem bin_mul {P : Program} {t : TypeId} {xo yo : Operand} {k : IntKind} {a b : Int} : binA P .mul t xo yo (.int k a) (.int k b) = some (.int k (k.wrap (a * b))) := by simp [binA, binOp, Op.intArith, quiet, closedO, closedV, pure]
theorem bin_rem {P : Program} {t : TypeId} {xo yo : Operand} {k : IntKind} {a b : Int} (hb : b ≠ 0) : binA P .rem t xo yo (.int k a) (.int k b) = some (.int k (a.tmod b)) := by simp [binA, binOp, Op.intDiv, hb, quiet, closedO, closedV, pure]
theorem bin_quo {P : Program} {t : TypeId} {xo yo : Operand} {k : IntKind} {a b : Int} (hb : b ≠ 0) : binA P .quo t xo yo (.int k a) (.int k b) = some (.int k (k.wrap (a.tdiv b))) := by simp [binA, binOp, Op.intDiv, hb, quiet, closedO, closedV, pure]
theorem bin_shr {P : Program} {t : TypeId} {xo yo : Operand} {k k2 : IntKind} {a b : Int} (hb : ¬ b < 0) : binA P .shr t xo yo (.int k a) (.int k2 b) = some (.int k (a.fdiv (2 ^ (min b.toNat k.bits)))) := by simp [binA, binOp, Op.shift, hb, quiet, closedO, closedV, pure]
theorem wrap_u8 {n : Int} : IntKind.u8.wrap n = n % 256 := by
  simp [IntKind.wrap, IntKind.bits, IntKind.signed]
theorem wrap_u64 {n : Int} (h1 : 0 ≤ n) (h2 : n < 18446744073709551616) : IntKind.u64.wrap n = n := by
  simp [IntKind.wrap, IntKind.bits, IntKind.signed]
  omega
theorem ofNat_u8 (n : Nat) : ((UInt8.ofNat n).toNat : Int) = (n : Int) % 256 := by
  rw [UInt8.toNat_ofNat']
  omega

/-- a call allocates at most n more objects, and leaves what was -/
structure Grow (A A' : AW) (n : Nat) : Prop where
  keeps : Keeps A A' []
  fine : Fine A'
  next : A'.next ≤ A.next + n
theorem Grow.le {A A' : AW} {n : Nat} (h : Grow A A' n) : A.next ≤ A'.next := h.keeps.next
theorem Grow.refl {A : AW} (hf : Fine A) : Grow A A 0 := ⟨.refl _ _, hf, Nat.le_refl _⟩
theorem Grow.trans {A B C : AW} {n m : Nat} (h : Grow A B n) (k : Grow B C m) : Grow A C (n + m) := ⟨h.keeps.trans k.keeps (by simp), k.fine, by have := h.next; have := k.next; omega⟩
theorem Grow.more {A B : AW} {n m : Nat} (h : Grow A B n) (hm : n ≤ m) : Grow A B m := ⟨h.keeps, h.fine, by have := h.next; omega⟩
theorem Grow.made {A A' : AW} {cs : List Value} {e : TypeId} (m : Made A A' cs e) (hf : Fine A) : Grow A A' 1 := ⟨m.keeps hf, m.fine, by rw [m.next]; omega⟩
/-- behind a call that writes into what a call of this one made -/
theorem Grow.own {A B C : AW} {n m : Nat} {F : List Nat} (h : Grow A B n) (k : Keeps B C F) (hF : ∀ x ∈ F, A.next ≤ x) (hc : C.next ≤ B.next + m) (hf : Fine C) : Grow A C (n + m) :=
  ⟨h.keeps.trans k (fun x hx => .inr (hF x hx)), hf, by have := h.next; omega⟩

def slen (s : ByteArray) : Nat := s.data.toList.length
/-- a number's bytes, the greatest first -/
def be (n : Nat) : Nat → List UInt8
  | 0 => []
  | i + 1 => UInt8.ofNat (n / 256 ^ i) :: be n i
theorem be_length (n : Nat) : ∀ i, (be n i).length = i
  | 0 => rfl
  | i + 1 => by rw [be, List.length_cons, be_length n i]

section
variable {W0 : World} {m0 : Inj Tryz.prog}
theorem wc95 {w : Int} {A : AW} {K : Value → AW → Prop} (hk : K (.bool (w == 1 || (w == 2 || (w == 4 || w == 8)))) A) : Wc Tryz.prog theX W0 m0 95 [.int .i64 w] A K := by
  refine w95 _ _ (cuts_none (S := fun _ _ _ => False) fun _ _ _ h => h) ?_
  rw [e95]
  simp only [bin_eql, pureW_some, forkW_beq]
  refine ⟨fun h => by subst h; exact hk, fun h1 => ⟨fun h => by subst h; exact hk, fun h2 => ⟨fun h => by subst h; exact hk, fun h3 => ⟨fun h => by subst h; exact hk, fun h4 => ?_⟩⟩⟩⟩
  have : (w == 1 || (w == 2 || (w == 4 || w == 8))) = false := by simp [h1, h2, h3, h4]
  rw [this] at hk
  exact hk
theorem wc99 {w : Int} {A : AW} {K : Value → AW → Prop} (hk : K (.bool (w == 1 || (w == 2 || (w == 4 || w == 8)))) A) : Wc Tryz.prog theX W0 m0 99 [.int .i64 w] A K := by
  refine w99 _ _ (cuts_none (S := fun _ _ _ => False) fun _ _ _ h => h) ?_
  rw [e99]
  simp only [bin_eql, pureW_some, forkW_beq]
  refine ⟨fun h => by subst h; exact hk, fun h1 => ⟨fun h => by subst h; exact hk, fun h2 => ⟨fun h => by subst h; exact hk, fun h3 => ?_⟩⟩⟩
  have : (w == 1 || (w == 2 || (w == 4 || w == 8))) = (w == 8) := by rw [beq_false_of_ne h1, beq_false_of_ne h2, beq_false_of_ne h3]; rfl
  rw [this] at hk
  exact hk

/-- may a name be? -/
def xchk (g b : ByteArray) : Int := if slen g = 0 ∨ 64 < slen g ∨ 64 < slen b then 40 else 0
theorem xchk_cases (g b : ByteArray) : xchk g b = 0 ∨ xchk g b = 40 := by unfold xchk; split <;> simp
theorem wc23 {f : Int} {g b : ByteArray} {A : AW} {K : Value → AW → Prop} (hf : Fine A) (hA : A.next < maxId) (hk : ∀ A', Grow A A' 1 → K (.int .i64 (xchk g b)) A') : Wc Tryz.prog theX W0 m0 23 [xidV f g b] A K := by
  refine w23 _ _ (cuts_none (S := fun _ _ _ => False) fun _ _ _ h => h) ?_
  rw [e23]
  refine newP_made (cs := (Value.cells (xidV f g b)).toList) hf hA rfl fun A1 m1 => ?_
  have hg : A1.get A.next = some (.row [.int .u32 f, .string g, .string b] 24 A.next 0 false) := m1.row
  have hr := hk A1 (.made m1 hf)
  simp only [fa_24_1, fa_24_2, ld_9, ln_9, cell_row hg, cellOf, isTuple, cond_false, pureW_some, bin_streq, bin_gtr, forkW_dec, Nat.zero_add]
  refine forkW_bool.2 ⟨fun h => ?_, fun h => ⟨fun h2 => ?_, fun h2 => ⟨fun h3 => ?_, fun h3 => ?_⟩⟩⟩
  · have : slen g = 0 := by unfold slen; rw [beq_iff_eq.1 h]; rfl
    rw [show xchk g b = 40 by unfold xchk; rw [if_pos (.inl this)]] at hr; exact hr
  · rw [show xchk g b = 40 by unfold xchk; rw [if_pos (.inr (.inl (by unfold slen; omega)))]] at hr; exact hr
  · rw [show xchk g b = 40 by unfold xchk; rw [if_pos (.inr (.inr (by unfold slen; omega)))]] at hr; exact hr
  · have : slen g ≠ 0 := by
      unfold slen
      intro h0
      rw [List.eq_nil_of_length_eq_zero h0] at h
      simp at h
    rw [show xchk g b = 0 by unfold xchk; rw [if_neg (by unfold slen at *; omega)]] at hr; exact hr
theorem wc49 {f : Int} {g b : ByteArray} {A : AW} {K : Value → AW → Prop} (hf : Fine A) (hA : A.next < maxId) (hk : ∀ A', Grow A A' 1 → K (.int .i64 (xchk g b)) A') : Wc Tryz.prog theX W0 m0 49 [xidV f g b] A K := by
  refine w49 _ _ (cuts_none (S := fun _ _ _ => False) fun _ _ _ h => h) ?_
  rw [e49]
  refine newP_made (cs := (Value.cells (xidV f g b)).toList) hf hA rfl fun A1 m1 => ?_
  have hg : A1.get A.next = some (.row [.int .u32 f, .string g, .string b] 24 A.next 0 false) := m1.row
  have hr := hk A1 (.made m1 hf)
  simp only [fa_24_1, fa_24_2, ld_9, ln_9, cell_row hg, cellOf, isTuple, cond_false, pureW_some, bin_lss, bin_gtr, forkW_dec, Nat.zero_add]
  refine ⟨fun h => ?_, fun h => ⟨fun h2 => ?_, fun h2 => ⟨fun h3 => ?_, fun h3 => ?_⟩⟩⟩
  · rw [show xchk g b = 40 by unfold xchk; rw [if_pos (.inl (by unfold slen; omega))]] at hr; exact hr
  · rw [show xchk g b = 40 by unfold xchk; rw [if_pos (.inr (.inl (by unfold slen; omega)))]] at hr; exact hr
  · rw [show xchk g b = 40 by unfold xchk; rw [if_pos (.inr (.inr (by unfold slen; omega)))]] at hr; exact hr
  · rw [show xchk g b = 0 by unfold xchk; rw [if_neg (by unfold slen; omega)]] at hr; exact hr

/-- are names of one global transaction? -/
def oneG (f f' : Int) (g g' : ByteArray) : Bool := f == f' && g.data.toList == g'.data.toList
theorem wc24 {f f' : Int} {g b g' b' : ByteArray} {A : AW} {K : Value → AW → Prop} (hf : Fine A) (hA : A.next + 2 < maxId) (hk : ∀ A', Grow A A' 2 → K (.bool (oneG f f' g g')) A') : Wc Tryz.prog theX W0 m0 24 [xidV f g b, xidV f' g' b'] A K := by
  refine w24 _ _ _ (cuts_none (S := fun _ _ _ => False) fun _ _ _ h => h) ?_
  rw [e24]
  refine newP_made (cs := (Value.cells (xidV f g b)).toList) hf (by omega) rfl fun A1 m1 => ?_
  refine newP_made (cs := (Value.cells (xidV f' g' b')).toList) m1.fine (by rw [m1.next]; omega) rfl fun A2 m2 => ?_
  have n1 := m1.next
  have n2 := m2.next
  have r1 : Row1 A2 A.next [.int .u32 f, .string g, .string b] 24 := (m1.row1).keeps (m2.keeps m1.fine) (by simp)
  have r2 : Row1 A2 A1.next [.int .u32 f', .string g', .string b'] 24 := m2.row1
  simp only [fa_24_2, pureW_some, Nat.zero_add]
  refine r1.store m2.fine (by omega) (st_9 _ _ _) rfl (by simp [Value.cells]) rfl fun A3 q1 k1 n3 f3 => ?_
  have q2 : Row1 A3 A1.next [.int .u32 f', .string g', .string b'] 24 := r2.keeps k1 (by simp; omega)
  refine q2.store f3 (by omega) (st_9 _ _ _) rfl (by simp [Value.cells]) rfl fun A4 q3 k2 n4 f4 => ?_
  have q1' := q1.keeps k2 (by simp; omega)
  have g1 : A4.cells? ⟨A.next, 0, none⟩ 3 = some [.int .u32 f, .string g, .string ⟨⟨[]⟩⟩] := by rw [cells_row q1'.row]; rfl
  have g2 : A4.cells? ⟨A1.next, 0, none⟩ 3 = some [.int .u32 f', .string g', .string ⟨⟨[]⟩⟩] := by rw [cells_row q3.row]; rfl
  have he := eq24 f f' g g' ⟨⟨[]⟩⟩ ⟨⟨[]⟩⟩ (.tmp 7) (.tmp 8)
  unfold xidV at he
  simp only [ld_24, g1, g2, pureW_some, he]
  have hs : sameX f f' g g' ⟨⟨[]⟩⟩ ⟨⟨[]⟩⟩ = oneG f f' g g' := by simp [sameX, oneG]
  rw [hs]
  refine hk A4 ?_
  have gr : Grow A A2 2 := (Grow.made m1 hf).trans (.made m2 m1.fine)
  exact (gr.own k1 (by simp) (m := 0) (by omega) f3).own k2 (by simp; omega) (m := 0) (by omega) f4

/-- a row of one byte -/
theorem bslice1 {A : AW} {n : Int} {K : Value → AW → Prop} (hf : Fine A) (h : A.next < maxId) (hk : ∀ A', Made A A' [.int .u8 n] 5 → K (.slice (some ⟨A.next, 0, none⟩) 1 1) A') : bothW (buildSliceA Tryz.prog A 55 1 [(0, .int .u8 n)]) K := by
  rw [bs55]
  unfold AW.newRow AW.new
  simp only [show ([Value.int .u8 n].all oneCell) = true from rfl, cond_true, blt_true.2 h]
  exact bothW_ok.2 (hk (A.push (.row [.int .u8 n] 5 A.next 0 false)) ⟨AW.push_ext _ h, rfl, by rw [AW.push_get _ h, if_pos rfl], hf.alone (Nat.le_refl _), hf.push _ h⟩)
theorem freshW_1 {n : Int} {A : AW} {b : Nat} {p : Prop} (h : A.get b = some (.row [.int .u8 n] 5 b 0 false)) (hp : p) : freshW (freshOf Tryz.prog (evalT (Tm.fill ⟨1, .nil⟩ 0 [.int .u8 n])) (.buildSlice 55 1 #[(0, .tmp 0)])) A (.slice (some ⟨b, 0, none⟩) 1 1) p := by
  refine ⟨⟨_, fresh55 n, ?_⟩, hp⟩
  simp only [stillFresh, rowHas, h, sameL, same_int, Bool.and_self, Option.isNone_none, Bool.true_and, Nat.beq_refl]
theorem buf1 {A : AW} {b : Nat} {c : UInt8} (h : Row1 A b [.int .u8 c.toNat] 5) : Buf 5 A (.slice (some ⟨b, 0, none⟩) 1 1) [c] [b] :=
  .inr (.inr ⟨b, 1, [], rfl, by decide, by simpa [bytesV] using h, rfl, rfl, rfl⟩)
end
end Go.Proofs.YteooonkpannpbaaGreatDoor


namespace Go.Proofs.YteooonkpannpbaaGreatDoor
open Go.Abs

theorem byte_of (n i : Nat) : IntKind.u8.wrap ((n : Int).fdiv (2 ^ (8 * i))) = ((UInt8.ofNat (n / 256 ^ i)).toNat : Int) := by
  rw [wrap_u8, ofNat_u8, Int.fdiv_eq_ediv_of_nonneg _ (Int.pow_nonneg (by decide))]
  rw [show (2 : Int) ^ (8 * i) = ((256 ^ i : Nat) : Int) by rw [Int.pow_mul, show (2 : Int) ^ 8 = ((256 : Nat) : Int) from by decide, Int.natCast_pow]]
  rfl
theorem zeros_be {w i : Nat} (n : Nat) (h : i < w) : setL (List.replicate (w - i) (.int .u8 0) ++ bytesV (be n i)) (w - 1 - i) [.int .u8 ((UInt8.ofNat (n / 256 ^ i)).toNat : Int)] = List.replicate (w - (i + 1)) (.int .u8 0) ++ bytesV (be n (i + 1)) := by
  have e1 : w - i = (w - 1 - i) + 1 := by omega
  have e2 : w - (i + 1) = w - 1 - i := by omega
  rw [e1, e2, List.replicate_succ', List.append_assoc]
  have h := setL_mid (List.replicate (w - 1 - i) (Value.int .u8 0)) [.int .u8 0] [.int .u8 ((UInt8.ofNat (n / 256 ^ i)).toNat : Int)] (bytesV (be n i)) rfl
  rw [List.length_replicate] at h
  rw [h]
  rfl

section
variable {W0 : World} {m0 : Inj Tryz.prog}
theorem wc121 {n w : Nat} {A : AW} {K : Value → AW → Prop} (hf : Fine A) (hA : A.next + 1 < maxId) (hw : w ≤ 8)
    (hk : ∀ A' v F, Grow A A' 1 → Buf 5 A' v (be n w) F → (∀ x ∈ F, A.next ≤ x) → K v A') : Wc Tryz.prog theX W0 m0 121 [.int .u64 (n : Int), .int .i64 (w : Int)] A K := by
  let I : Nat → Nat → List Value → AW → Prop := fun g id vals A' => id = 0 ∧ ∃ i : Nat, vals = [.int .u64 (n : Int), .int .i64 (w : Int), .slice (some ⟨A.next, 0, none⟩) w w, .int .i64 (w : Int), .int .i64 (i : Int)] ∧ i ≤ w ∧
    Row1 A' A.next (List.replicate (w - i) (.int .u8 0) ++ bytesV (be n i)) 5 ∧ Grow A A' 1 ∧ A'.next = A.next + 1 ∧ g = w - i
  refine w121 _ _ _ (c121 (I := I) ?_) ?_
  · rintro g id vals A' d ⟨rfl, i, rfl, hi, hr, hg, hn, rfl⟩ hd
    rw [l121_0]
    have h0 : d 0 = .int .u64 (n : Int) := by simp [L121] at hd; exact hd.1
    have h1 : d 1 = .int .i64 (w : Int) := by simp [L121] at hd; exact hd.2.1
    have h5 : d 5 = .slice (some ⟨A.next, 0, none⟩) w w := by simp [L121] at hd; exact hd.2.2.1
    have h10 : d 10 = .int .i64 (w : Int) := by simp [L121] at hd; exact hd.2.2.2.1
    have h11 : d 11 = .int .i64 (i : Int) := by simp [L121] at hd; exact hd.2.2.2.2
    simp only [h0, h1, h5, h10, h11, bin_lss, bin_sub, bin_mul, pureW_some, forkW_dec]
    refine ⟨fun hlt => ?_, fun hge => ?_⟩
    · have hlt : i < w := by omega
      rw [wrap_i64 (n := (w : Int) - 1) (by omega) (by omega), wrap_i64 (n := (w : Int) - 1 - i) (by omega) (by omega), wrap_i64 (n := 8 * (i : Int)) (by omega) (by omega)]
      have e2 : (w : Int) - 1 - i = ((w - 1 - i : Nat) : Int) := by omega
      have e3 : min (8 * (i : Int)).toNat (IntKind.bits .u64) = 8 * i := by show min _ 64 = _; omega
      rw [bin_shr (by omega), e2, e3]
      simp only [pureW_some, cv_102_5, bothW_ok, byte_of]
      have hia : indexAddrA Tryz.prog 55 (.slice (some ⟨A.next, 0, none⟩) w w) (.int .i64 ((w - 1 - i : Nat) : Int)) = some (.pointer (some ⟨A.next, w - 1 - i, none⟩)) := by
        show indexAddrA Tryz.prog 55 _ (.int .i64 (.ofNat (w - 1 - i))) = _
        rw [ia_55, blt_true.2 (by omega), cond_true]
        unfold addA
        cases hb : Nat.beq ((w - 1 - i) * 1) 0 with
        | true => rw [cond_true]; have := Nat.eq_of_beq_eq_true hb; rw [Nat.mul_one] at this; rw [this]
        | false => rw [cond_false, Nat.mul_one, Nat.zero_add]
      rw [hia]
      simp only [pureW_some, bin_add]
      refine hr.store hg.fine (by omega) (st_5 _ _ _) rfl (by simp [Value.cells, be_length]; omega) rfl fun A2 r2 k2 n2 f2 => ?_
      have hs : setL (List.replicate (w - i) (Value.int .u8 0) ++ bytesV (be n i)) (w - 1 - i) (Value.cells (.int .u8 ((UInt8.ofNat (n / 256 ^ i)).toNat : Int))).toList = _ := zeros_be n hlt
      rw [hs] at r2
      rw [wrap_i64 (by omega) (by omega)]
      refine cutW_self.2 ⟨w - (i + 1), by omega, rfl, i + 1, rfl, by omega, r2, ?_, by omega, rfl⟩
      exact hg.own k2 (by simp) (m := 0) (by omega) f2
    · have hi : i = w := by omega
      subst hi
      rw [Nat.sub_self] at hr
      refine hk A' _ [A.next] hg ?_ (by simp)
      refine .inr (.inr ⟨A.next, i, [], ?_, by have : room = 68719476736 := rfl; omega, by simpa using hr, by rw [be_length]; rfl, rfl, rfl⟩)
      rw [be_length]
  · rw [e121]
    refine makeBytes tb hf (by omega) (Nat.le_refl w) (by have : room = 68719476736 := rfl; omega) fun A1 m1 => ?_
    simp only [ln_55, pureW_some]
    refine cutW_self.2 ⟨w, rfl, 0, rfl, by omega, ?_, .made m1 hf, m1.next, rfl⟩
    simpa [be, bytesV] using m1.row1

theorem wc93 {n w : Nat} {A : AW} {K : Value → AW → Prop} (hf : Fine A) (hA : A.next + 20 < maxId) (hn : n < 18446744073709551616) (hw : w ≤ 8)
    (hk : ∀ A' v F, Grow A A' 16 → Buf 5 A' v (be n w) F → (∀ x ∈ F, A.next ≤ x) → K v A') : Wc Tryz.prog theX W0 m0 93 [.int .u64 (n : Int), .int .i64 (w : Int)] A K := by
  let I : Nat → Nat → List Value → AW → Prop := fun g id vals A' => id = 0 ∧ ∃ (i : Nat) (v : Value) (F : List Nat), vals = [.int .u64 ((n / 256 ^ i : Nat) : Int), .int .i64 (w : Int), v, .int .i64 (i : Int)] ∧ i ≤ w ∧
    Buf 5 A' v (be n i) F ∧ (∀ x ∈ F, A.next ≤ x) ∧ Grow A A' (2 * i) ∧ g = w - i
  refine w93 _ _ _ (c93 (I := I) ?_) ?_
  · rintro g id vals A' d ⟨rfl, i, v, F, rfl, hi, hb, hF, hg, rfl⟩ hd
    rw [l93_0]
    simp only [L93, List.map_cons, List.map_nil, List.cons.injEq, and_true] at hd
    obtain ⟨h0, h1, h5, h6⟩ := hd
    have hnx := hg.next
    have hq : n / 256 ^ i < 18446744073709551616 := Nat.lt_of_le_of_lt (Nat.div_le_self _ _) hn
    obtain ⟨q, hqd⟩ : ∃ q, n / 256 ^ i = q := ⟨_, rfl⟩
    rw [hqd] at h0 hq
    simp only [h0, h1, h5, h6, bin_lss, pureW_some, forkW_dec]
    refine ⟨fun hlt => ?_, fun hge => ?_⟩
    · have hlt : i < w := by omega
      rw [bin_rem (by decide), bin_quo (by decide)]
      simp only [pureW_some, cv_102_5, bothW_ok]
      have hx : IntKind.u8.wrap ((q : Int).tmod 256) = ((UInt8.ofNat q).toNat : Int) := by
        rw [wrap_u8, ofNat_u8, Int.tmod_eq_emod_of_nonneg (by omega)]; omega
      have hq2 : IntKind.u64.wrap ((q : Int).tdiv 256) = ((n / 256 ^ (i + 1) : Nat) : Int) := by
        have e : n / 256 ^ (i + 1) = q / 256 := by rw [Nat.pow_succ, ← Nat.div_div_eq_div_mul, hqd]
        rw [Int.tdiv_eq_ediv_of_nonneg (by omega), wrap_u64 (by omega) (by omega), e]
        omega
      rw [hx, hq2]
      refine bslice1 hg.fine (by omega) fun A2 m2 => ?_
      have n2 := m2.next
      have hb2 := hb.keeps (m2.keeps hg.fine) (by simp)
      refine appendBuf tb (buf1 m2.row1) (src_slice tb hb2.rd) m2.fine (by omega) (by rw [be_length]; have : room = 68719476736 := rfl; simp; omega) fun v3 A3 F3 hb3 k3 hF3 n3 f3 => ?_
      simp only [bin_add, pureW_some]
      rw [wrap_i64 (by omega) (by omega)]
      have hnx2 := hg.le
      refine cutW_self.2 ⟨w - (i + 1), by omega, rfl, i + 1, v3, F3, rfl, by omega, by rw [be, hqd]; exact hb3, fun x hx => ?_, ?_, rfl⟩
      · rcases hF3 x hx with h | h
        · simp at h; omega
        · omega
      · exact ((hg.trans (.made m2 hg.fine)).own k3 (by simp; omega) (m := 1) (by omega) f3).more (by omega)
    · have hi : i = w := by omega
      subst hi
      exact hk A' v F (hg.more (by omega)) hb hF
  · rw [e93]
    refine cutW_self.2 ⟨w, rfl, 0, .slice none 0 0, [], by simp, by omega, .nil _ _, by simp, .refl hf, rfl⟩

/-- bytes behind others, in new memory -/
theorem wc120 {v1 v2 : Value} {l1 l2 : List UInt8} {F1 F2 : List Nat} {A : AW} {K : Value → AW → Prop} (hf : Fine A) (hA : A.next + 3 < maxId) (h1 : RdB A v1 l1 F1) (h2 : RdB A v2 l2 F2) (hr : l1.length + l2.length < 1000000)
    (hk : ∀ A' v F, Grow A A' 3 → Buf 5 A' v (l1 ++ l2) F → (∀ x ∈ F, A.next ≤ x) → K v A') : Wc Tryz.prog theX W0 m0 120 [v1, v2] A K := by
  have hroom : room = 68719476736 := rfl
  have lt1 := h1.lt
  have lt2 := h2.lt
  refine w120 _ _ _ (cuts_none (S := fun _ _ _ => False) fun _ _ _ h => h) ?_
  rw [e120]
  simp only [h1.len tb, h2.len tb, bin_add, pureW_some]
  rw [wrap_i64 (by omega) (by omega)]
  have e : ((l1.length : Nat) : Int) + ((l2.length : Nat) : Int) = ((l1.length + l2.length : Nat) : Int) := by omega
  rw [e]
  refine makeBytes (n := 0) (k := .i64) tb hf (by omega) (Nat.zero_le _) (by omega) fun A1 m1 => ?_
  have n1 := m1.next
  refine appendBuf tb (m1.buf0 (by omega)) (src_slice tb (h1.keeps (m1.keeps hf) (by simp))) m1.fine (by omega) (by simp; omega) fun v3 A3 F3 hb3 k3 hF3 n3 f3 => ?_
  have g3 : Grow A A3 2 := (Grow.made m1 hf).own k3 (by simp) (m := 1) (by omega) f3
  have hF3' : ∀ x ∈ F3, A.next ≤ x := fun x hx => by
    rcases hF3 x hx with h | h
    · simp at h; omega
    · omega
  refine appendBuf tb hb3 (src_slice tb (h2.keeps g3.keeps (by simp))) f3 (by omega) (by simp; omega) fun v4 A4 F4 hb4 k4 hF4 n4 f4 => ?_
  rw [List.nil_append] at hb4
  refine hk A4 v4 F4 ((g3.own k4 hF3' (m := 1) (by omega) f4).more (by omega)) hb4 fun x hx => ?_
  rcases hF4 x hx with h | h
  · exact hF3' x h
  · have := g3.le; omega

theorem wc85 {v : Value} {l : List UInt8} {F0 : List Nat} {n w : Nat} {A : AW} {K : Value → AW → Prop} (hf : Fine A) (hA : A.next + 5 < maxId) (hv : RdB A v l F0) (hl : l.length < 900000) (hw : w = 1 ∨ w = 2 ∨ w = 4 ∨ w = 8)
    (hk : ∀ A' v F, Grow A A' 4 → Buf 5 A' v (l ++ be n w) F → (∀ x ∈ F, A.next ≤ x) → K v A') : Wc Tryz.prog theX W0 m0 85 [v, .int .u64 (n : Int), .int .i64 (w : Int)] A K := by
  refine w85 _ _ _ _ (cuts_none (S := fun _ _ _ => False) fun _ _ _ h => h) ?_
  rw [e85]
  refine wc95 ?_
  have hb : ((w : Int) == 1 || ((w : Int) == 2 || ((w : Int) == 4 || (w : Int) == 8))) = true := by rcases hw with rfl | rfl | rfl | rfl <;> rfl
  rw [hb]
  simp only [un_not, pureW_some]
  refine forkW_bool.2 ⟨fun h => by simp at h, fun _ => ?_⟩
  refine wc121 hf (by omega) (by omega) fun A1 v1 F1 g1 b1 _ => ?_
  have n1 := g1.next
  have l1 := g1.le
  refine wc120 g1.fine (by omega) (hv.keeps g1.keeps (by simp)) b1.rd (by rw [be_length]; omega) fun A2 v2 F2 g2 b2 hF2 => ?_
  exact hk A2 v2 F2 ((g1.trans g2).more (by omega)) b2 fun x hx => Nat.le_trans l1 (hF2 x hx)

theorem wc132 {v : Value} {l : List UInt8} {F0 : List Nat} {s : ByteArray} {A : AW} {K : Value → AW → Prop} (hf : Fine A) (hA : A.next + 6 < maxId) (hv : RdB A v l F0) (hl : l.length < 900000) (hs : slen s < 256)
    (hk : ∀ A' v F, Grow A A' 5 → Buf 5 A' v (l ++ (be (slen s) 1 ++ s.data.toList)) F → (∀ x ∈ F, A.next ≤ x) → K (.tuple ⟨[v, .int .i64 0]⟩) A') : Wc Tryz.prog theX W0 m0 132 [v, .string s, .int .i64 1] A K := by
  have hroom : room = 68719476736 := rfl
  have hsl : s.data.toList.length = slen s := rfl
  refine w132 _ _ _ _ (cuts_none (S := fun _ _ _ => False) fun _ _ _ h => h) ?_
  rw [e132]
  simp only [bin_eql, pureW_some, forkW_beq]
  refine ⟨fun h => by omega, fun _ => ?_⟩
  refine wc95 ?_
  simp only [un_not, pureW_some]
  refine forkW_bool.2 ⟨fun h => by simp at h, fun _ => ?_⟩
  simp only [ln_9, hsl, pureW_some, cv_3_102, bothW_ok, bin_mul]
  rw [wrap_u64 (by omega) (by omega), wrap_i64 (by omega) (by omega), bin_shr (by omega)]
  have hz : ((slen s : Nat) : Int).fdiv (2 ^ (min ((8 : Int) * 1).toNat (IntKind.bits .u64))) = 0 := by
    show ((slen s : Nat) : Int).fdiv (2 ^ 8) = 0
    rw [Int.fdiv_eq_ediv_of_nonneg _ (by decide)]
    omega
  rw [hz]
  simp only [pureW_some, bin_neq, forkW_bne]
  refine ⟨fun h => by omega, fun _ => ?_⟩
  refine wc121 (n := slen s) (w := 1) hf (by omega) (by omega) fun A1 v1 F1 g1 b1 hF1 => ?_
  have n1 := g1.next
  have l1 := g1.le
  refine appendBuf tb b1 (src_text tb) g1.fine (by omega) (by rw [be_length]; omega) fun v2 A2 F2 b2 k2 hF2 n2 f2 => ?_
  have g2 := g1.own k2 hF1 (m := 1) (by omega) f2
  have n2 := g2.next
  have l2 := g2.le
  refine wc120 g2.fine (by omega) (hv.keeps g2.keeps (by simp)) b2.rd (by rw [List.length_append, be_length]; omega) fun A3 v3 F3 g3 b3 hF3 => ?_
  exact hk A3 v3 F3 ((g2.trans g3).more (by omega)) b3 fun x hx => Nat.le_trans l2 (hF3 x hx)
end
end Go.Proofs.YteooonkpannpbaaGreatDoor


namespace Go.Proofs.YteooonkpannpbaaGreatDoor
open Go.Abs

/-- a text behind its length -/
def tx (s : ByteArray) : List UInt8 := be (slen s) 1 ++ s.data.toList
/-- a name's bytes -/
def xb (f : Nat) (g b : ByteArray) : List UInt8 := be f 4 ++ tx g ++ tx b
theorem tx_length (s : ByteArray) : (tx s).length = 1 + slen s := by unfold tx; rw [List.length_append, be_length]; rfl
theorem xb_length (f : Nat) (g b : ByteArray) : (xb f g b).length = 6 + slen g + slen b := by unfold xb; rw [List.length_append, List.length_append, tx_length, tx_length, be_length]; omega
theorem xchk_zero {g b : ByteArray} (h : xchk g b = 0) : 0 < slen g ∧ slen g ≤ 64 ∧ slen b ≤ 64 := by
  unfold xchk at h
  split at h
  · cases h
  · omega
theorem one_be (n : Nat) : be n 1 = [UInt8.ofNat n] := by simp [be]
theorem bytes1 (n : Nat) : Value.int .u8 (IntKind.u8.wrap (n : Int)) = .int .u8 ((UInt8.ofNat n).toNat : Int) := by rw [wrap_u8, ofNat_u8]

section
variable {W0 : World} {m0 : Inj Tryz.prog}
theorem wc92 {f : Nat} {g b : ByteArray} {A : AW} {K : Value → AW → Prop} (hf : Fine A) (hA : A.next + 20 < maxId) (hfl : f < 4294967296) (hx : xchk g b = 0)
    (hk : ∀ A' v F, Grow A A' 16 → Buf 5 A' v (xb f g b) F → (∀ x ∈ F, A.next ≤ x) → K (.tuple ⟨[v, .int .i64 0]⟩) A') : Wc Tryz.prog theX W0 m0 92 [xidV f g b] A K := by
  obtain ⟨hx1, hx2, hx3⟩ := xchk_zero hx
  refine w92 _ _ (cuts_none (S := fun _ _ _ => False) fun _ _ _ h => h) ?_
  rw [e92]
  refine newP_made (cs := (Value.cells (xidV f g b)).toList) hf (by omega) rfl fun A1 m1 => ?_
  have n1 := m1.next
  have r1 : Row1 A1 A.next [.int .u32 (f : Int), .string g, .string b] 24 := m1.row1
  have hld : A1.cells? ⟨A.next, 0, none⟩ 3 = some [.int .u32 (f : Int), .string g, .string b] := by rw [cells_row r1.row]; rfl
  simp only [ld_24, hld, pureW_some]
  refine wc23 (f := (f : Int)) (g := g) (b := b) m1.fine (by omega) fun A2 g2 => ?_
  rw [hx]
  have n2 := g2.next
  have l2 := g2.le
  have r2 := r1.keeps g2.keeps (by simp)
  simp only [bin_neq, pureW_some, forkW_bne]
  refine ⟨fun h => absurd rfl h, fun _ => ?_⟩
  simp only [fa_24_0, fa_24_1, fa_24_2, ld_22, cell_row r2.row, cellOf, isTuple, cond_false, pureW_some, cv_22_102, bothW_ok, Nat.zero_add]
  rw [wrap_u64 (by omega) (by omega)]
  refine wc85 (n := f) (w := 4) g2.fine (by omega) (Buf.nil 5 _).rd (by simp) (by simp) fun A3 v3 F3 g3 b3 hF3 => ?_
  have n3 := g3.next
  have l3 := g3.le
  have r3 := r2.keeps g3.keeps (by simp)
  simp only [ld_9, cell_row r3.row, cellOf, isTuple, cond_false, pureW_some]
  rw [List.nil_append] at b3
  refine wc132 g3.fine (by omega) b3.rd (by rw [be_length]; omega) (by omega) fun A4 v4 F4 g4 b4 hF4 => ?_
  have n4 := g4.next
  have l4 := g4.le
  have r4 := r3.keeps g4.keeps (by simp)
  have b4 : Buf 5 A4 v4 (be f 4 ++ tx g) F4 := b4
  simp only [extractP, List.getElem?_cons_zero, List.getElem?_cons_succ, pureW_some, cell_row r4.row, cellOf, isTuple, cond_false]
  refine wc132 g4.fine (by omega) b4.rd (by rw [List.length_append, be_length, tx_length]; omega) (by omega) fun A5 v5 F5 g5 b5 hF5 => ?_
  have b5 : Buf 5 A5 v5 (xb f g b) F5 := b5
  simp only [extractP, List.getElem?_cons_zero, List.getElem?_cons_succ, pureW_some]
  exact hk A5 v5 F5 (((((Grow.made m1 hf).trans g2).trans g3).trans g4).trans g5) b5 fun x hx => by have := hF5 x hx; omega

theorem wc50 {f : Nat} {g b : ByteArray} {A : AW} {K : Value → AW → Prop} (hf : Fine A) (hA : A.next + 40 < maxId) (hfl : f < 4294967296) (hx : xchk g b = 0)
    (hk : ∀ A' v F, Grow A A' 30 → Buf 5 A' v (xb f g b) F → (∀ x ∈ F, A.next ≤ x) → K (.tuple ⟨[v, .int .i64 0]⟩) A') : Wc Tryz.prog theX W0 m0 50 [xidV f g b] A K := by
  have hroom : room = 68719476736 := rfl
  obtain ⟨hx1, hx2, hx3⟩ := xchk_zero hx
  refine w50 _ _ (cuts_none (S := fun _ _ _ => False) fun _ _ _ h => h) ?_
  rw [e50]
  refine newP_made (cs := (Value.cells (xidV f g b)).toList) hf (by omega) rfl fun A1 m1 => ?_
  have n1 := m1.next
  have r1 : Row1 A1 A.next [.int .u32 (f : Int), .string g, .string b] 24 := m1.row1
  have hld : A1.cells? ⟨A.next, 0, none⟩ 3 = some [.int .u32 (f : Int), .string g, .string b] := by rw [cells_row r1.row]; rfl
  simp only [ld_24, hld, pureW_some]
  refine wc49 (f := (f : Int)) (g := g) (b := b) m1.fine (by omega) fun A2 g2 => ?_
  rw [hx]
  have n2 := g2.next
  have l2 := g2.le
  have r2 := r1.keeps g2.keeps (by simp)
  simp only [bin_neq, pureW_some, forkW_bne]
  refine ⟨fun h => absurd rfl h, fun _ => ?_⟩
  simp only [fa_24_0, fa_24_1, fa_24_2, ld_22, cell_row r2.row, cellOf, isTuple, cond_false, pureW_some, cv_22_102, bothW_ok, Nat.zero_add]
  rw [wrap_u64 (by omega) (by omega)]
  refine wc93 (n := f) (w := 4) g2.fine (by omega) (by omega) (by omega) fun A3 v3 F3 g3 b3 hF3 => ?_
  have n3 := g3.next
  have l3 := g3.le
  have g03 := ((Grow.made m1 hf).trans g2).trans g3
  have r3 := r2.keeps g3.keeps (by simp)
  simp only [ld_9, cell_row r3.row, cellOf, isTuple, cond_false, pureW_some, ln_9, cv_3_5, bothW_ok]
  rw [show (g.data.toList.length : Int) = ((slen g : Nat) : Int) from rfl, bytes1]
  refine bslice1 g3.fine (by omega) fun A4 m4 => ?_
  have n4 := m4.next
  have g04 := g03.trans (.made m4 g3.fine)
  refine appendBuf tb (b3.keeps (m4.keeps g3.fine) (by simp)) (src_slice tb (buf1 m4.row1).rd) m4.fine (by omega) (by rw [be_length]; simp; omega) fun v5 A5 F5 b5 k5 hF5 n5 f5 => ?_
  have g05 := g04.own k5 (fun x hx => by have := hF3 x hx; omega) (m := 1) (by omega) f5
  have hF5' : ∀ x ∈ F5, A.next ≤ x := fun x hx => by
    rcases hF5 x hx with h | h
    · have := hF3 x h; omega
    · omega
  have hne : A.next ∉ F3 := fun h => by have := hF3 _ h; omega
  have r5 := (r3.keeps (m4.keeps g3.fine) (by simp)).keeps k5 hne
  simp only [cell_row r5.row, cellOf, isTuple, cond_false, pureW_some]
  refine appendBuf tb b5 (src_text tb) f5 (by omega) (by simp only [List.length_append, be_length, List.length_cons, List.length_nil]; unfold slen at *; omega) fun v6 A6 F6 b6 k6 hF6 n6 f6 => ?_
  have hne5 : A.next ∉ F5 := fun h => by
    rcases hF5 _ h with h | h
    · exact hne h
    · omega
  have g06 := g05.own k6 hF5' (m := 1) (by omega) f6
  have hF6' : ∀ x ∈ F6, A.next ≤ x := fun x hx => by
    rcases hF6 x hx with h | h
    · exact hF5' x h
    · have := g05.le; omega
  have r6 := r5.keeps k6 hne5
  have hne6 : A.next ∉ F6 := fun h => by
    rcases hF6 _ h with h | h
    · exact hne5 h
    · have := k5.next; omega
  simp only [cell_row r6.row, cellOf, isTuple, cond_false, pureW_some, ln_9, cv_3_5, bothW_ok]
  rw [show (b.data.toList.length : Int) = ((slen b : Nat) : Int) from rfl, bytes1]
  refine bslice1 f6 (by omega) fun A7 m7 => ?_
  have n7 := m7.next
  have g07 := g06.trans (.made m7 f6)
  have e6 : be f 4 ++ [UInt8.ofNat (slen g)] ++ g.data.toList = be f 4 ++ tx g := by unfold tx; rw [one_be, List.append_assoc]
  rw [e6] at b6
  have lx : (be f 4 ++ tx g).length = 5 + slen g := by rw [List.length_append, be_length, tx_length]; omega
  refine appendBuf tb (b6.keeps (m7.keeps f6) (by simp)) (src_slice tb (buf1 m7.row1).rd) m7.fine (by omega) (by rw [lx]; simp; omega) fun v8 A8 F8 b8 k8 hF8 n8 f8 => ?_
  have g08 := g07.own k8 hF6' (m := 1) (by omega) f8
  have hF8' : ∀ x ∈ F8, A.next ≤ x := fun x hx => by
    rcases hF8 x hx with h | h
    · exact hF6' x h
    · have := g07.le; omega
  have r8 := (r6.keeps (m7.keeps f6) (by simp)).keeps k8 hne6
  simp only [cell_row r8.row, cellOf, isTuple, cond_false, pureW_some]
  refine appendBuf tb b8 (src_text tb) f8 (by omega) (by rw [List.length_append, lx]; simp only [List.length_cons, List.length_nil]; unfold slen at *; omega) fun v9 A9 F9 b9 k9 hF9 n9 f9 => ?_
  have g09 := g08.own k9 hF8' (m := 1) (by omega) f9
  have e9 : be f 4 ++ tx g ++ [UInt8.ofNat (slen b)] ++ b.data.toList = xb f g b := by unfold xb; rw [show tx b = [UInt8.ofNat (slen b)] ++ b.data.toList by unfold tx; rw [one_be], ← List.append_assoc (be f 4 ++ tx g)]
  rw [e9] at b9
  refine hk A9 v9 F9 (g09.more (by omega)) b9 fun x hx => ?_
  rcases hF9 x hx with h | h
  · exact hF8' x h
  · have := g08.le; omega

/-- the document's name: a text -/
theorem wc22 {f : Nat} {g b : ByteArray} {A : AW} {K : Value → AW → Prop} (hf : Fine A) (hA : A.next + 50 < maxId) (hfl : f < 4294967296) (hx : xchk g b = 0)
    (hk : ∀ A', Grow A A' 31 → K (.string ⟨⟨xb f g b⟩⟩) A') : Wc Tryz.prog theX W0 m0 22 [xidV f g b] A K := by
  refine w22 _ _ (cuts_none (S := fun _ _ _ => False) fun _ _ _ h => h) ?_
  rw [e22]
  refine newP_made (cs := (Value.cells (xidV f g b)).toList) hf (by omega) rfl fun A1 m1 => ?_
  have n1 := m1.next
  have hld : A1.cells? ⟨A.next, 0, none⟩ 3 = some [.int .u32 (f : Int), .string g, .string b] := by rw [cells_row m1.row]; rfl
  simp only [ld_24, hld, pureW_some]
  refine wc50 m1.fine (by omega) hfl hx fun A2 v2 F2 g2 b2 hF2 => ?_
  simp only [extractP, List.getElem?_cons_zero, List.getElem?_cons_succ, pureW_some, b2.rd.str tb, bothW_ok]
  exact hk A2 (((Grow.made m1 hf).trans g2).more (by omega))

/-- a name's bytes behind others -/
theorem wc48 {v : Value} {l : List UInt8} {F : List Nat} {f : Nat} {g b : ByteArray} {A A0 : AW} {n : Nat} {K : Value → AW → Prop} (h0 : Grow A0 A n) (hA : A.next + 30 < maxId) (hfl : f < 4294967296) (hx : xchk g b = 0) (hb : Buf 5 A v l F) (hF : ∀ x ∈ F, A0.next ≤ x) (hl : l.length < 900000)
    (hk : ∀ A' v' F', Grow A0 A' (n + 18) → Keeps A A' F → A'.next ≤ A.next + 18 → Buf 5 A' v' (l ++ xb f g b) F' → (∀ x ∈ F', x ∈ F ∨ A.next ≤ x) → K v' A') : Wc Tryz.prog theX W0 m0 48 [v, xidV f g b] A K := by
  have hroom : room = 68719476736 := rfl
  obtain ⟨hx1, hx2, hx3⟩ := xchk_zero hx
  have hf := h0.fine
  have l0 := h0.le
  refine w48 _ _ _ (cuts_none (S := fun _ _ _ => False) fun _ _ _ h => h) ?_
  rw [e48]
  refine newP_made (cs := (Value.cells (xidV f g b)).toList) hf (by omega) rfl fun A1 m1 => ?_
  have n1 := m1.next
  have hld : A1.cells? ⟨A.next, 0, none⟩ 3 = some [.int .u32 (f : Int), .string g, .string b] := by rw [cells_row m1.row]; rfl
  simp only [ld_24, hld, pureW_some]
  refine wc92 m1.fine (by omega) hfl hx fun A2 v2 F2 g2 b2 hF2 => ?_
  have n2 := g2.next
  have l2 := g2.le
  have g02 := (Grow.made m1 hf).trans g2
  simp only [extractP, List.getElem?_cons_zero, List.getElem?_cons_succ, pureW_some]
  refine appendBuf tb (hb.keeps g02.keeps (by simp)) (src_slice tb b2.rd) g2.fine (by omega) (by rw [xb_length]; omega) fun v3 A3 F3 b3 k3 hF3 n3 f3 => ?_
  refine hk A3 v3 F3 ?_ (g02.keeps.more (by simp) |>.trans k3 (fun x hx => .inl hx)) (by omega) b3 fun x hx => ?_
  · exact ((h0.trans g02).own k3 hF (m := 1) (by omega) f3).more (by omega)
  · rcases hF3 x hx with h | h
    · exact .inl h
    · exact .inr (by omega)
end
end Go.Proofs.YteooonkpannpbaaGreatDoor


namespace Go.Proofs.YteooonkpannpbaaGreatDoor
open Go.Abs

/-- a part -/
structure Pt where
  node : Nat
  f : Nat
  g : ByteArray
  b : ByteArray
  st : Nat
def Pt.cells (p : Pt) : List Value := [.int .u8 (p.node : Int), .int .u32 (p.f : Int), .string p.g, .string p.b, .int .u8 (p.st : Int)]
def Pt.wf (p : Pt) : Prop := p.node < 256 ∧ p.f < 4294967296 ∧ p.st < 256
/-- v is a slice of these parts, in these families -/
def RdPt (A : AW) (v : Value) (l : List Pt) (F : List Nat) : Prop :=
  (l = [] ∧ F = [] ∧ ∃ o c, v = .slice o 0 c) ∨ ∃ r o c cs e f b ro, v = .slice (some ⟨r, o, none⟩) l.length c ∧ A.get r = some (.row cs e f b ro) ∧ f < A.next ∧ F = [f] ∧ ∀ (i : Nat) p, l[i]? = some p → ∃ rest, cs.drop (o + i * 5) = p.cells ++ rest
theorem RdPt.keeps {A A' : AW} {v : Value} {l : List Pt} {F S : List Nat} (h : RdPt A v l F) (k : Keeps A A' S) (hd : ∀ x ∈ F, x ∉ S) : RdPt A' v l F := by
  rcases h with h | ⟨r, o, c, cs, e, f, b, ro, h1, h2, h3, rfl, h4⟩
  · exact .inl h
  · exact .inr ⟨r, o, c, cs, e, f, b, ro, h1, k.get r _ h2 h3 (hd f (by simp)), Nat.lt_of_lt_of_le h3 k.next, rfl, h4⟩
theorem RdPt.one {A : AW} {v : Value} {l : List Pt} {F : List Nat} (h : RdPt A v l F) : oneCell v = true ∧ isTuple v = false := by
  rcases h with ⟨_, _, o, c, rfl⟩ | ⟨r, o, c, cs, e, f, b, ro, rfl, _⟩ <;> exact ⟨rfl, rfl⟩
theorem RdPt.len {A B : AW} {v : Value} {l : List Pt} {F : List Nat} (h : RdPt A v l F) : lenA Tryz.prog B 25 v = some (.int .i64 (l.length : Int)) := by
  rcases h with ⟨rfl, _, o, c, rfl⟩ | ⟨r, o, c, cs, e, f, b, ro, rfl, _⟩ <;> exact ln_25 _ _ _ _
theorem RdPt.at {A : AW} {v : Value} {l : List Pt} {F : List Nat} (h : RdPt A v l F) {i : Nat} {p : Pt} (hi : l[i]? = some p) :
    ∃ r o, indexAddrA Tryz.prog 25 v (.int .i64 (i : Int)) = some (.pointer (some ⟨r, o, none⟩)) ∧ A.cells? ⟨r, o, none⟩ 5 = some p.cells ∧ A.cell? ⟨r, o, none⟩ = some (.int .u8 (p.node : Int)) ∧ A.cells? ⟨r, o + 1, none⟩ 3 = some [.int .u32 (p.f : Int), .string p.g, .string p.b] := by
  rcases h with ⟨rfl, _⟩ | ⟨r, o, c, cs, e, f, b, ro, rfl, h2, h3, _, h4⟩
  · simp at hi
  · have hlt : i < l.length := (List.getElem?_eq_some_iff.1 hi).1
    obtain ⟨rest, hr⟩ := h4 i p hi
    have hr1 : cs.drop (o + i * 5 + 1) = [.int .u32 (p.f : Int), .string p.g, .string p.b, .int .u8 (p.st : Int)] ++ rest := by
      rw [← List.drop_drop, hr]; rfl
    refine ⟨r, o + i * 5, ?_, ?_, ?_, ?_⟩
    · show indexAddrA Tryz.prog 25 _ (.int .i64 (.ofNat i)) = _
      rw [ia_25, blt_true.2 hlt, cond_true]
      unfold addA
      cases hb : Nat.beq (i * 5) 0 with
      | true => rw [cond_true, Nat.eq_of_beq_eq_true hb, Nat.add_zero]
      | false => rfl
    · rw [cells_row h2, hr]; simp [Pt.cells, takeCells, isTuple]
    · rw [cell_row h2]
      have : cs[o + i * 5]? = some (.int .u8 (p.node : Int)) := by
        have := congrArg (fun l => l[0]?) hr
        simpa [Pt.cells] using this
      exact cellOf_get this rfl
    · rw [cells_row h2, hr1]; simp [takeCells, isTuple]

/-- a decision -/
def decCells (f : Nat) (g b : ByteArray) (sv : Value) : List Value := [.int .u32 (f : Int), .string g, .string b, sv]
def decV (f : Nat) (g b : ByteArray) (sv : Value) : Value := .agg ⟨decCells f g b sv⟩
/-- may parts be, behind a node's, of a transaction? -/
def partsOk (f : Nat) (g : ByteArray) : Nat → List Pt → Bool
  | _, [] => true
  | last, p :: r => decide (last < p.node) && (decide (p.node ≤ 8) && (decide (p.st = 0) && (decide (xchk p.g p.b = 0) && (oneG (p.f : Int) (f : Int) p.g g && partsOk f g p.node r))))
def dchk (f : Nat) (g b : ByteArray) (l : List Pt) : Int := if xchk g b = 0 ∧ b.data.toList = [] ∧ 1 ≤ l.length ∧ l.length ≤ 8 ∧ partsOk f g 0 l = true then 0 else 260
theorem dchk_cases (f : Nat) (g b : ByteArray) (l : List Pt) : dchk f g b l = 0 ∨ dchk f g b l = 260 := by unfold dchk; split <;> simp
theorem partsOk_cons {f : Nat} {g : ByteArray} {last : Nat} {p : Pt} {r : List Pt} : partsOk f g last (p :: r) = true ↔ last < p.node ∧ p.node ≤ 8 ∧ p.st = 0 ∧ xchk p.g p.b = 0 ∧ oneG (p.f : Int) (f : Int) p.g g = true ∧ partsOk f g p.node r = true := by
  rw [partsOk]
  simp only [Bool.and_eq_true, decide_eq_true_eq]
theorem drop_at {l : List Pt} {i : Nat} {p : Pt} (h : l[i]? = some p) : l.drop i = p :: l.drop (i + 1) := by
  obtain ⟨hlt, rfl⟩ := List.getElem?_eq_some_iff.1 h
  exact List.drop_eq_getElem_cons hlt

section
variable {W0 : World} {m0 : Inj Tryz.prog}
theorem wc8 {f : Nat} {g b : ByteArray} {sv : Value} {l : List Pt} {F : List Nat} {A : AW} {K : Value → AW → Prop} (hf : Fine A) (hA : A.next + 60 < maxId) (hl : RdPt A sv l F) (hn : l.length < 1000000)
    (hk : ∀ A', Grow A A' 40 → K (.int .i64 (dchk f g b l)) A') : Wc Tryz.prog theX W0 m0 8 [decV f g b sv] A K := by
  let I : Nat → Nat → List Value → AW → Prop := fun g' id vals A' => id = 0 ∧ ∃ i last : Nat, vals = [.pointer (some ⟨A.next, 0, none⟩), .int .u8 (last : Int), sv, .int .i64 (l.length : Int), .int .i64 (i : Int)] ∧ i ≤ l.length ∧ l.length ≤ 8 ∧
    dchk f g b l = (if partsOk f g last (l.drop i) = true then 0 else 260) ∧ Row1 A' A.next (decCells f g b sv) 27 ∧ RdPt A' sv l F ∧ Grow A A' (2 + 4 * i) ∧ g' = l.length - i
  refine w8 _ _ (c8 (I := I) ?_) ?_
  · rintro g' id vals A' d ⟨rfl, i, last, rfl, hi, h8, hR, hr, hl', hg, rfl⟩ hd
    rw [l8_0]
    simp only [L8, List.map_cons, List.map_nil, List.cons.injEq, and_true] at hd
    obtain ⟨h1, h3, h29, h30, h31⟩ := hd
    have hnx := hg.next
    have hle := hg.le
    simp only [h1, h3, h29, h30, h31, bin_lss, pureW_some, forkW_dec]
    refine ⟨fun hlt => ?_, fun hge => ?_⟩
    · have hlt : i < l.length := by omega
      obtain ⟨p, hp⟩ : ∃ p, l[i]? = some p := ⟨l[i], List.getElem?_eq_getElem hlt⟩
      obtain ⟨r, o, a1, a2, a3, a4⟩ := hl'.at hp
      rw [drop_at hp] at hR
      have bad : partsOk f g last (p :: l.drop (i + 1)) ≠ true → dchk f g b l = 260 := fun h => by rw [hR, if_neg h]
      simp only [a1, ld_50, a2, pureW_some]
      refine allocP_made zero50 hg.fine (by omega) rfl fun A2 m2 => ?_
      have n2 := m2.next
      have r2 := m2.row1
      refine r2.store m2.fine (by omega) (st_50 _ _ _) rfl (by simp [Value.cells]) rfl fun A3 r3 k3 n3 f3 => ?_
      have r3 : Row1 A3 A'.next p.cells 50 := r3
      have hne : A.next ∉ [A'.next] := by have := hr.lt; simp; omega
      have hr3 := (hr.keeps (m2.keeps hg.fine) (by simp)).keeps k3 hne
      have g3 : Grow A A3 (3 + 4 * i) := ((hg.trans (.made m2 hg.fine)).own k3 (by simp; omega) (m := 0) (by omega) f3).more (by omega)
      have hF : ∀ x ∈ F, x ∉ [A'.next] := by
        intro x hx
        rcases hl' with ⟨_, rfl, _⟩ | ⟨_, _, _, _, _, fm, _, _, _, _, hfm, rfl, _⟩
        · simp at hx
        · simp at hx ⊢; omega
      have hl3 := (hl'.keeps (m2.keeps hg.fine) (by simp)).keeps k3 hF
      have e260 : partsOk f g last (p :: l.drop (i + 1)) ≠ true → ∀ A4, Grow A A4 40 → K (.int .i64 260) A4 := fun h A4 h4 => by have := hk A4 h4; rwa [bad h] at this
      simp only [ne_eq, partsOk_cons] at e260
      simp only [fa_50_0, fa_50_1, fa_50_2, ld_5, ld_48, ld_24, cell_row r3.row, cells_row r3.row, Pt.cells, cellOf, isTuple, cond_false, pureW_some, bin_leq, bin_gtr, bin_neq, forkW_dec, forkW_bne, Nat.zero_add]
      refine ⟨fun h => e260 (by omega) A3 (g3.more (by omega)), fun h => ⟨fun h' => e260 (by omega) A3 (g3.more (by omega)), fun h' => ⟨fun h'' => e260 (by omega) A3 (g3.more (by omega)), fun h'' => ?_⟩⟩⟩
      have ht : takeCells (List.drop 1 [Value.int .u8 (p.node : Int), .int .u32 (p.f : Int), .string p.g, .string p.b, .int .u8 (p.st : Int)]) 3 = some [.int .u32 (p.f : Int), .string p.g, .string p.b] := rfl
      simp only [ht, pureW_some]
      refine wc23 (f := (p.f : Int)) (g := p.g) (b := p.b) f3 (by omega) fun A4 g4 => ?_
      have n4 := g4.next
      have l4 := g4.le
      have g04 := g3.trans g4
      simp only [bin_neq, pureW_some, forkW_bne]
      refine ⟨fun hx => e260 (by omega) A4 (g04.more (by omega)), fun hx => ?_⟩
      have r4 := r3.keeps g4.keeps (by simp)
      have hr4 := hr3.keeps g4.keeps (by simp)
      have ht1 : A4.cells? ⟨A'.next, 1, none⟩ 3 = some [.int .u32 (p.f : Int), .string p.g, .string p.b] := by rw [cells_row r4.row]; rfl
      have ht2 : A4.cells? ⟨A.next, 0, none⟩ 3 = some [.int .u32 (f : Int), .string g, .string b] := by rw [cells_row hr4.row]; rfl
      simp only [fa_27_0, ld_24, ht1, ht2, pureW_some]
      refine wc24 (f := (p.f : Int)) (f' := (f : Int)) (g := p.g) (b := p.b) (g' := g) (b' := b) g4.fine (by omega) fun A5 g5 => ?_
      have n5 := g5.next
      have l5 := g5.le
      have g05 := g04.trans g5
      have r5 := r4.keeps g5.keeps (by simp)
      simp only [un_not, pureW_some]
      refine forkW_bool.2 ⟨fun ho => e260 (by intro hh; simp [hh.2.2.2.2.1] at ho) A5 (g05.more (by omega)), fun ho => ?_⟩
      simp only [ld_5, cell_row r5.row, Pt.cells, cellOf, isTuple, cond_false, pureW_some, bin_add]
      rw [wrap_i64 (by omega) (by omega)]
      have ho : oneG (p.f : Int) (f : Int) p.g g = true := by simpa using ho
      refine cutW_self.2 ⟨l.length - (i + 1), by omega, rfl, i + 1, p.node, rfl, by omega, h8, ?_, hr4.keeps g5.keeps (by simp), (hl3.keeps g4.keeps (by simp)).keeps g5.keeps (by simp), g05.more (by omega), rfl⟩
      rw [hR]
      have : (partsOk f g last (p :: l.drop (i + 1)) = true) ↔ partsOk f g p.node (l.drop (i + 1)) = true := by
        rw [partsOk_cons]
        exact ⟨fun h => h.2.2.2.2.2, fun hh => ⟨by omega, by omega, by omega, by omega, ho, hh⟩⟩
      simp only [this]
    · have hi : i = l.length := by omega
      subst hi
      have := hk A' (hg.more (by omega))
      rw [hR, List.drop_length] at this
      exact this
  · rw [e8]
    refine newP_made (cs := (Value.cells (decV f g b sv)).toList) hf (by omega) (by simp [decV, decCells, Value.cells, one_int, one_string, hl.one.1]) fun A1 m1 => ?_
    have n1 := m1.next
    have r1 : Row1 A1 A.next (decCells f g b sv) 27 := m1.row1
    have hl1 := hl.keeps (m1.keeps hf) (by simp)
    have ht : A1.cells? ⟨A.next, 0, none⟩ 3 = some [.int .u32 (f : Int), .string g, .string b] := by rw [cells_row r1.row]; rfl
    simp only [fa_27_0, ld_24, ht, pureW_some]
    refine wc23 (f := (f : Int)) (g := g) (b := b) m1.fine (by omega) fun A2 g2 => ?_
    have n2 := g2.next
    have g02 := (Grow.made m1 hf).trans g2
    have r2 := r1.keeps g2.keeps (by simp)
    have hl2 := hl1.keeps g2.keeps (by simp)
    have e260 : ¬ (xchk g b = 0 ∧ b.data.toList = [] ∧ 1 ≤ l.length ∧ l.length ≤ 8 ∧ partsOk f g 0 l = true) → K (.int .i64 260) A2 := fun h => by have := hk A2 (g02.more (by omega)); unfold dchk at this; rwa [if_neg h] at this
    simp only [fa_24_2, fa_27_1, ld_9, ld_25, cell_row r2.row, decCells, cellOf, isT_int, isT_string, hl2.one.2, cond_false, hl2.len, pureW_some, bin_neq, bin_lss, bin_gtr, bin_strneq, forkW_dec, forkW_bne, Nat.zero_add]
    refine ⟨fun h => e260 (by omega), fun h => forkW_bool.2 ⟨fun hb => e260 (by intro hh; simp [hh.2.1] at hb), fun hb => ⟨fun h1 => e260 (by omega), fun h1 => ⟨fun h2 => e260 (by omega), fun h2 => ?_⟩⟩⟩⟩
    refine cutW_self.2 ⟨l.length, rfl, 0, 0, rfl, by omega, by omega, ?_, r2, hl2, g02, rfl⟩
    have hb : b.data.toList = [] := by simpa using hb
    unfold dchk
    rw [List.drop_zero]
    have : (xchk g b = 0 ∧ b.data.toList = [] ∧ 1 ≤ l.length ∧ l.length ≤ 8 ∧ partsOk f g 0 l = true) ↔ partsOk f g 0 l = true := ⟨fun h => h.2.2.2.2, fun hh => ⟨by omega, hb, by omega, by omega, hh⟩⟩
    simp only [this]
end
end Go.Proofs.YteooonkpannpbaaGreatDoor


namespace Go.Proofs.YteooonkpannpbaaGreatDoor
open Go.Abs

section
variable {W0 : World} {m0 : Inj Tryz.prog}
theorem wc21 {f : Nat} {g b : ByteArray} {sv : Value} {l : List Pt} {F : List Nat} {A : AW} {K : Value → AW → Prop} (hf : Fine A) (hA : A.next + 60 < maxId) (hl : RdPt A sv l F) (hn : l.length < 1000000)
    (hk : ∀ A', Grow A A' 40 → K (.int .i64 (dchk f g b l)) A') : Wc Tryz.prog theX W0 m0 21 [decV f g b sv] A K := by
  let I : Nat → Nat → List Value → AW → Prop := fun g' id vals A' => id = 0 ∧ ∃ i last : Nat, vals = [.pointer (some ⟨A.next, 0, none⟩), .int .i64 (i : Int)] ∧ i ≤ l.length ∧ l.length ≤ 8 ∧ (i = 0 → last = 0) ∧ (∀ j, i = j + 1 → ∃ q, l[j]? = some q ∧ last = q.node) ∧
    dchk f g b l = (if partsOk f g last (l.drop i) = true then 0 else 260) ∧ Row1 A' A.next (decCells f g b sv) 27 ∧ RdPt A' sv l F ∧ Grow A A' (2 + 4 * i) ∧ g' = l.length - i
  refine w21 _ _ (c21 (I := I) ?_) ?_
  · rintro g' id vals A' d ⟨rfl, i, last, rfl, hi, h8, hl0, hl1, hR, hr, hl', hg, rfl⟩ hd
    rw [l21_0]
    simp only [L21, List.map_cons, List.map_nil, List.cons.injEq, and_true] at hd
    obtain ⟨h1, h3⟩ := hd
    have hnx := hg.next
    have hle := hg.le
    simp only [h1, h3, fa_27_1, ld_25, cell_row hr.row, decCells, cellOf, isT_int, isT_string, hl'.one.2, cond_false, hl'.len, bin_lss, pureW_some, forkW_dec, Nat.zero_add]
    refine ⟨fun hlt => ?_, fun hge => ?_⟩
    · have hlt : i < l.length := by omega
      obtain ⟨p, hp⟩ : ∃ p, l[i]? = some p := ⟨l[i], List.getElem?_eq_getElem hlt⟩
      obtain ⟨r, o, a1, a2, a3, a4⟩ := hl'.at hp
      rw [drop_at hp] at hR
      have bad : partsOk f g last (p :: l.drop (i + 1)) ≠ true → dchk f g b l = 260 := fun h => by rw [hR, if_neg h]
      simp only [a1, ld_50, a2, pureW_some]
      refine allocP_made zero50 hg.fine (by omega) rfl fun A2 m2 => ?_
      have n2 := m2.next
      have r2 := m2.row1
      refine r2.store m2.fine (by omega) (st_50 _ _ _) rfl (by simp [Value.cells]) rfl fun A3 r3 k3 n3 f3 => ?_
      have r3 : Row1 A3 A'.next p.cells 50 := r3
      have hne : A.next ∉ [A'.next] := by have := hr.lt; simp; omega
      have hr3 := (hr.keeps (m2.keeps hg.fine) (by simp)).keeps k3 hne
      have g3 : Grow A A3 (3 + 4 * i) := ((hg.trans (.made m2 hg.fine)).own k3 (by simp; omega) (m := 0) (by omega) f3).more (by omega)
      have hF : ∀ x ∈ F, x ∉ [A'.next] := by
        intro x hx
        rcases hl' with ⟨_, rfl, _⟩ | ⟨_, _, _, _, _, fm, _, _, _, _, hfm, rfl, _⟩
        · simp at hx
        · simp at hx ⊢; omega
      have hl3 := (hl'.keeps (m2.keeps hg.fine) (by simp)).keeps k3 hF
      have e260 : partsOk f g last (p :: l.drop (i + 1)) ≠ true → ∀ A4, Grow A A4 40 → K (.int .i64 260) A4 := fun h A4 h4 => by have := hk A4 h4; rwa [bad h] at this
      simp only [ne_eq, partsOk_cons] at e260
      have e3 : K (.int .i64 260) A3 ∨ (last < p.node ∧ p.node ≤ 8) := by
        by_cases h : last < p.node ∧ p.node ≤ 8
        · exact .inr h
        · exact .inl (e260 (by omega) A3 (g3.more (by omega)))
      simp only [fa_50_0, fa_50_1, fa_50_2, ld_5, ld_48, ld_24, cell_row r3.row, cells_row r3.row, cell_row hr3.row, decCells, hl3.one.2, Pt.cells, cellOf, isT_int, isT_string, cond_false, pureW_some, bin_lss, bin_gtr, bin_sub, bin_neq, forkW_dec, forkW_bne, Nat.zero_add]
      refine ⟨fun h => e260 (by omega) A3 (g3.more (by omega)), fun h => ⟨fun h' => e260 (by omega) A3 (g3.more (by omega)), fun h' => ⟨fun hpos => ?_, fun hz => ?_⟩⟩⟩
      · obtain ⟨j, rfl⟩ : ∃ j, i = j + 1 := ⟨i - 1, by omega⟩
        obtain ⟨q, hq, rfl⟩ := hl1 j rfl
        obtain ⟨r', o', b1, b2, b3, b4⟩ := hl3.at hq
        rw [wrap_i64 (by omega) (by omega)]
        have ej : ((j + 1 : Nat) : Int) - 1 = (j : Int) := by omega
        rw [ej, b1]
        simp only [pureW_some, fa_50_0, ld_5, b3, bin_geq, forkW_dec]
        refine ⟨fun h => e260 (by omega) A3 (g3.more (by omega)), fun hlast => ?_⟩
        have hlast : q.node < p.node := by omega
        refine ⟨fun h'' => e260 (by omega) A3 (g3.more (by omega)), fun h'' => ?_⟩
        have ht : takeCells (List.drop 1 [Value.int .u8 (p.node : Int), .int .u32 (p.f : Int), .string p.g, .string p.b, .int .u8 (p.st : Int)]) 3 = some [.int .u32 (p.f : Int), .string p.g, .string p.b] := rfl
        simp only [ht, pureW_some]
        refine wc49 (f := (p.f : Int)) (g := p.g) (b := p.b) f3 (by omega) fun A4 g4 => ?_
        have n4 := g4.next
        have l4 := g4.le
        have g04 := g3.trans g4
        simp only [bin_neq, pureW_some, forkW_bne]
        refine ⟨fun hx => e260 (by omega) A4 (g04.more (by omega)), fun hx => ?_⟩
        have r4 := r3.keeps g4.keeps (by simp)
        have hr4 := hr3.keeps g4.keeps (by simp)
        simp only [fa_24_0, fa_24_1, fa_27_0, ld_22, ld_9, cell_row r4.row, cell_row hr4.row, Pt.cells, decCells, cellOf, isT_int, isT_string, cond_false, pureW_some, bin_neq, bin_strneq, bin_add, forkW_bne, Nat.zero_add, Nat.add_zero]
        refine ⟨fun ho => e260 (by intro hh; have := hh.2.2.2.2.1; simp [oneG] at this; omega) A4 (g04.more (by omega)), fun ho => forkW_bool.2 ⟨fun ho2 => e260 (by intro hh; have := hh.2.2.2.2.1; simp [oneG] at this; simp [this.2] at ho2) A4 (g04.more (by omega)), fun ho2 => ?_⟩⟩
        rw [wrap_i64 (by omega) (by omega)]
        have ho : oneG (p.f : Int) (f : Int) p.g g = true := by simp [oneG]; simp at ho2; exact ⟨by omega, ho2⟩
        have hkj : ∀ k, j + 1 + 1 = k + 1 → l[k]? = some p := fun k hk' => by
          have e : k = j + 1 := by omega
          rw [e]; exact hp
        refine cutW_self.2 ⟨l.length - (j + 1 + 1), by omega, rfl, j + 1 + 1, p.node, rfl, by omega, h8, by omega, fun k hk' => ⟨p, hkj k hk', rfl⟩, ?_, hr4, hl3.keeps g4.keeps (by simp), g04.more (by omega), rfl⟩
        rw [hR]
        have : (partsOk f g q.node (p :: l.drop (j + 1 + 1)) = true) ↔ partsOk f g p.node (l.drop (j + 1 + 1)) = true := by
          rw [partsOk_cons]
          exact ⟨fun h => h.2.2.2.2.2, fun hh => ⟨by omega, by omega, by omega, by omega, ho, hh⟩⟩
        simp only [this]
      · obtain rfl : i = 0 := by omega
        obtain rfl : last = 0 := hl0 rfl
        have hlast : 0 < p.node := by omega
        refine ⟨fun h'' => e260 (by omega) A3 (g3.more (by omega)), fun h'' => ?_⟩
        have ht : takeCells (List.drop 1 [Value.int .u8 (p.node : Int), .int .u32 (p.f : Int), .string p.g, .string p.b, .int .u8 (p.st : Int)]) 3 = some [.int .u32 (p.f : Int), .string p.g, .string p.b] := rfl
        simp only [ht, pureW_some]
        refine wc49 (f := (p.f : Int)) (g := p.g) (b := p.b) f3 (by omega) fun A4 g4 => ?_
        have n4 := g4.next
        have l4 := g4.le
        have g04 := g3.trans g4
        simp only [bin_neq, pureW_some, forkW_bne]
        refine ⟨fun hx => e260 (by omega) A4 (g04.more (by omega)), fun hx => ?_⟩
        have r4 := r3.keeps g4.keeps (by simp)
        have hr4 := hr3.keeps g4.keeps (by simp)
        simp only [fa_24_0, fa_24_1, fa_27_0, ld_22, ld_9, cell_row r4.row, cell_row hr4.row, Pt.cells, decCells, cellOf, isT_int, isT_string, cond_false, pureW_some, bin_neq, bin_strneq, bin_add, forkW_bne, Nat.zero_add, Nat.add_zero]
        refine ⟨fun ho => e260 (by intro hh; have := hh.2.2.2.2.1; simp [oneG] at this; omega) A4 (g04.more (by omega)), fun ho => forkW_bool.2 ⟨fun ho2 => e260 (by intro hh; have := hh.2.2.2.2.1; simp [oneG] at this; simp [this.2] at ho2) A4 (g04.more (by omega)), fun ho2 => ?_⟩⟩
        rw [wrap_i64 (by omega) (by omega)]
        have ho : oneG (p.f : Int) (f : Int) p.g g = true := by simp [oneG]; simp at ho2; exact ⟨by omega, ho2⟩
        have hkj : ∀ k, 0 + 1 = k + 1 → l[k]? = some p := fun k hk' => by
          have e : k = 0 := by omega
          rw [e]; exact hp
        refine cutW_self.2 ⟨l.length - (0 + 1), by omega, rfl, 0 + 1, p.node, rfl, by omega, h8, by omega, fun k hk' => ⟨p, hkj k hk', rfl⟩, ?_, hr4, hl3.keeps g4.keeps (by simp), g04.more (by omega), rfl⟩
        rw [hR]
        have : (partsOk f g 0 (p :: l.drop (0 + 1)) = true) ↔ partsOk f g p.node (l.drop (0 + 1)) = true := by
          rw [partsOk_cons]
          exact ⟨fun h => h.2.2.2.2.2, fun hh => ⟨by omega, by omega, by omega, by omega, ho, hh⟩⟩
        simp only [this]
    · have hi : i = l.length := by omega
      subst hi
      have := hk A' (hg.more (by omega))
      rw [hR, List.drop_length] at this
      exact this
  · rw [e21]
    refine newP_made (cs := (Value.cells (decV f g b sv)).toList) hf (by omega) (by simp [decV, decCells, Value.cells, one_int, one_string, hl.one.1]) fun A1 m1 => ?_
    have n1 := m1.next
    have r1 : Row1 A1 A.next (decCells f g b sv) 27 := m1.row1
    have hl1 := hl.keeps (m1.keeps hf) (by simp)
    have ht : A1.cells? ⟨A.next, 0, none⟩ 3 = some [.int .u32 (f : Int), .string g, .string b] := by rw [cells_row r1.row]; rfl
    simp only [fa_27_0, ld_24, ht, pureW_some]
    refine wc49 (f := (f : Int)) (g := g) (b := b) m1.fine (by omega) fun A2 g2 => ?_
    have n2 := g2.next
    have g02 := (Grow.made m1 hf).trans g2
    have r2 := r1.keeps g2.keeps (by simp)
    have hl2 := hl1.keeps g2.keeps (by simp)
    have e260 : ¬ (xchk g b = 0 ∧ b.data.toList = [] ∧ 1 ≤ l.length ∧ l.length ≤ 8 ∧ partsOk f g 0 l = true) → K (.int .i64 260) A2 := fun h => by have := hk A2 (g02.more (by omega)); unfold dchk at this; rwa [if_neg h] at this
    simp only [fa_24_2, fa_27_1, ld_9, ld_25, cell_row r2.row, decCells, cellOf, isT_int, isT_string, hl2.one.2, cond_false, hl2.len, pureW_some, bin_neq, bin_lss, bin_gtr, bin_strneq, forkW_dec, forkW_bne, Nat.zero_add]
    refine ⟨fun h => e260 (by omega), fun h => forkW_bool.2 ⟨fun hb => e260 (by intro hh; simp [hh.2.1] at hb), fun hb => ⟨fun h1 => e260 (by omega), fun h1 => ⟨fun h2 => e260 (by omega), fun h2 => ?_⟩⟩⟩⟩
    refine cutW_self.2 ⟨l.length, rfl, 0, 0, rfl, by omega, by omega, fun _ => rfl, by omega, ?_, r2, hl2, g02, rfl⟩
    have hb : b.data.toList = [] := by simpa using hb
    unfold dchk
    rw [List.drop_zero]
    have : (xchk g b = 0 ∧ b.data.toList = [] ∧ 1 ≤ l.length ∧ l.length ≤ 8 ∧ partsOk f g 0 l = true) ↔ partsOk f g 0 l = true := ⟨fun h => h.2.2.2.2, fun hh => ⟨by omega, hb, by omega, by omega, hh⟩⟩
    simp only [this]
end
end Go.Proofs.YteooonkpannpbaaGreatDoor
