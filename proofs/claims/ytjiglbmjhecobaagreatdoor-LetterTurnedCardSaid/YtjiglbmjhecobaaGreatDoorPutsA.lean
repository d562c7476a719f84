/-
  What the operations are at the program's types. Conditions: none.
-/
import Derived.Test.YtjiglbmjhecobaaGreatDoorText
import Derived.Test.YtjiglbmjhecobaaGreatDoorAbsI
import Derived.Lib.Bytealg

namespace Go.Proofs.YtjiglbmjhecobaaGreatDoor
open Go.Abs
theorem fa_24_0 (b o : Nat) : fieldAddrA Tryz.prog 24 (.pointer (some ⟨b, o, none⟩)) 0 = some (.pointer (some ⟨b, o, none⟩)) := by kernel_rfl
theorem fa_24_1 (b o : Nat) : fieldAddrA Tryz.prog 24 (.pointer (some ⟨b, o, none⟩)) 1 = some (.pointer (some ⟨b, o + 1, none⟩)) := by kernel_rfl
theorem fa_24_2 (b o : Nat) : fieldAddrA Tryz.prog 24 (.pointer (some ⟨b, o, none⟩)) 2 = some (.pointer (some ⟨b, o + 2, none⟩)) := by kernel_rfl
theorem fa_29_0 (b o : Nat) : fieldAddrA Tryz.prog 29 (.pointer (some ⟨b, o, none⟩)) 0 = some (.pointer (some ⟨b, o, none⟩)) := by kernel_rfl
theorem fa_29_1 (b o : Nat) : fieldAddrA Tryz.prog 29 (.pointer (some ⟨b, o, none⟩)) 1 = some (.pointer (some ⟨b, o + 1, none⟩)) := by kernel_rfl
theorem fa_29_2 (b o : Nat) : fieldAddrA Tryz.prog 29 (.pointer (some ⟨b, o, none⟩)) 2 = some (.pointer (some ⟨b, o + 4, none⟩)) := by kernel_rfl
theorem fa_29_3 (b o : Nat) : fieldAddrA Tryz.prog 29 (.pointer (some ⟨b, o, none⟩)) 3 = some (.pointer (some ⟨b, o + 5, none⟩)) := by kernel_rfl
theorem fa_29_4 (b o : Nat) : fieldAddrA Tryz.prog 29 (.pointer (some ⟨b, o, none⟩)) 4 = some (.pointer (some ⟨b, o + 6, none⟩)) := by kernel_rfl
theorem fa_77_0 (b o : Nat) : fieldAddrA Tryz.prog 77 (.pointer (some ⟨b, o, none⟩)) 0 = some (.pointer (some ⟨b, o, none⟩)) := by kernel_rfl
theorem fa_77_1 (b o : Nat) : fieldAddrA Tryz.prog 77 (.pointer (some ⟨b, o, none⟩)) 1 = some (.pointer (some ⟨b, o + 1, none⟩)) := by kernel_rfl
theorem fa_242_0 (b o : Nat) : fieldAddrA Tryz.prog 242 (.pointer (some ⟨b, o, none⟩)) 0 = some (.pointer (some ⟨b, o, none⟩)) := by kernel_rfl
theorem fa_242_1 (b o : Nat) : fieldAddrA Tryz.prog 242 (.pointer (some ⟨b, o, none⟩)) 1 = some (.pointer (some ⟨b, o + 1, none⟩)) := by kernel_rfl
theorem fa_242_2 (b o : Nat) : fieldAddrA Tryz.prog 242 (.pointer (some ⟨b, o, none⟩)) 2 = some (.pointer (some ⟨b, o + 2, none⟩)) := by kernel_rfl
theorem fa_244_0 (b o : Nat) : fieldAddrA Tryz.prog 244 (.pointer (some ⟨b, o, none⟩)) 0 = some (.pointer (some ⟨b, o, none⟩)) := by kernel_rfl
theorem ld_3 (A : AW) (a : Addr) : loadP Tryz.prog A 3 (.pointer (some a)) = A.cell? a := by kernel_rfl
theorem ld_4 (A : AW) (a : Addr) : loadP Tryz.prog A 4 (.pointer (some a)) = A.cell? a := by kernel_rfl
theorem ld_5 (A : AW) (a : Addr) : loadP Tryz.prog A 5 (.pointer (some a)) = A.cell? a := by kernel_rfl
theorem ld_9 (A : AW) (a : Addr) : loadP Tryz.prog A 9 (.pointer (some a)) = A.cell? a := by kernel_rfl
theorem ld_22 (A : AW) (a : Addr) : loadP Tryz.prog A 22 (.pointer (some a)) = A.cell? a := by kernel_rfl
theorem ld_24 (A : AW) (a : Addr) : loadP Tryz.prog A 24 (.pointer (some a)) = (match A.cells? a 3 with | some l => some (.agg ⟨l⟩) | none => none) := by kernel_rfl
theorem ld_25 (A : AW) (a : Addr) : loadP Tryz.prog A 25 (.pointer (some a)) = A.cell? a := by kernel_rfl
theorem ld_26 (A : AW) (a : Addr) : loadP Tryz.prog A 26 (.pointer (some a)) = A.cell? a := by kernel_rfl
theorem ld_27 (A : AW) (a : Addr) : loadP Tryz.prog A 27 (.pointer (some a)) = A.cell? a := by kernel_rfl
theorem ld_29 (A : AW) (a : Addr) : loadP Tryz.prog A 29 (.pointer (some a)) = (match A.cells? a 7 with | some l => some (.agg ⟨l⟩) | none => none) := by kernel_rfl
theorem ld_44 (A : AW) (a : Addr) : loadP Tryz.prog A 44 (.pointer (some a)) = A.cell? a := by kernel_rfl
theorem ld_240 (A : AW) (a : Addr) : loadP Tryz.prog A 240 (.pointer (some a)) = A.cell? a := by kernel_rfl
theorem st_4 (A : AW) (a : Addr) (v : Value) : storeP Tryz.prog A 4 (.pointer (some a)) v = (bif Nat.beq v.cells.toList.length 1 then A.setCells a v.cells.toList else none) := by kernel_rfl
theorem st_5 (A : AW) (a : Addr) (v : Value) : storeP Tryz.prog A 5 (.pointer (some a)) v = (bif Nat.beq v.cells.toList.length 1 then A.setCells a v.cells.toList else none) := by kernel_rfl
theorem st_9 (A : AW) (a : Addr) (v : Value) : storeP Tryz.prog A 9 (.pointer (some a)) v = (bif Nat.beq v.cells.toList.length 1 then A.setCells a v.cells.toList else none) := by kernel_rfl
theorem st_24 (A : AW) (a : Addr) (v : Value) : storeP Tryz.prog A 24 (.pointer (some a)) v = (bif Nat.beq v.cells.toList.length 3 then A.setCells a v.cells.toList else none) := by kernel_rfl
theorem st_25 (A : AW) (a : Addr) (v : Value) : storeP Tryz.prog A 25 (.pointer (some a)) v = (bif Nat.beq v.cells.toList.length 1 then A.setCells a v.cells.toList else none) := by kernel_rfl
theorem st_26 (A : AW) (a : Addr) (v : Value) : storeP Tryz.prog A 26 (.pointer (some a)) v = (bif Nat.beq v.cells.toList.length 1 then A.setCells a v.cells.toList else none) := by kernel_rfl
theorem st_27 (A : AW) (a : Addr) (v : Value) : storeP Tryz.prog A 27 (.pointer (some a)) v = (bif Nat.beq v.cells.toList.length 1 then A.setCells a v.cells.toList else none) := by kernel_rfl
theorem st_29 (A : AW) (a : Addr) (v : Value) : storeP Tryz.prog A 29 (.pointer (some a)) v = (bif Nat.beq v.cells.toList.length 7 then A.setCells a v.cells.toList else none) := by kernel_rfl
theorem st_44 (A : AW) (a : Addr) (v : Value) : storeP Tryz.prog A 44 (.pointer (some a)) v = (bif Nat.beq v.cells.toList.length 1 then A.setCells a v.cells.toList else none) := by kernel_rfl
theorem ia_27 (b o n c i : Nat) (k : IntKind) : indexAddrA Tryz.prog 27 (.slice (some ⟨b, o, none⟩) n c) (.int k (.ofNat i)) = (bif Nat.blt i n then some (.pointer (some (addA ⟨b, o, none⟩ (i * 3)))) else none) := by kernel_rfl
theorem ia_44 (b o n c i : Nat) (k : IntKind) : indexAddrA Tryz.prog 44 (.slice (some ⟨b, o, none⟩) n c) (.int k (.ofNat i)) = (bif Nat.blt i n then some (.pointer (some (addA ⟨b, o, none⟩ (i * 1)))) else none) := by kernel_rfl
theorem ia_154 (b o n c i : Nat) (k : IntKind) : indexAddrA Tryz.prog 154 (.slice (some ⟨b, o, none⟩) n c) (.int k (.ofNat i)) = (bif Nat.blt i n then some (.pointer (some (addA ⟨b, o, none⟩ (i * 1)))) else none) := by kernel_rfl
theorem ia_174 (b o n c i : Nat) (k : IntKind) : indexAddrA Tryz.prog 174 (.slice (some ⟨b, o, none⟩) n c) (.int k (.ofNat i)) = (bif Nat.blt i n then some (.pointer (some (addA ⟨b, o, none⟩ (i * 1)))) else none) := by kernel_rfl
theorem ia_301 (b o i : Nat) (k : IntKind) : indexAddrA Tryz.prog 301 (.pointer (some ⟨b, o, none⟩)) (.int k (.ofNat i)) = (bif Nat.blt i 16 then some (.pointer (some (addA ⟨b, o, none⟩ (i * 1)))) else none) := by kernel_rfl
theorem ln_9 (A : AW) (s : ByteArray) : lenA Tryz.prog A 9 (.string s) = some (.int .i64 s.data.toList.length) := by kernel_rfl
theorem ln_27 (A : AW) (a : Option Addr) (n c : Nat) : lenA Tryz.prog A 27 (.slice a n c) = some (.int .i64 n) := by kernel_rfl
theorem ln_44 (A : AW) (a : Option Addr) (n c : Nat) : lenA Tryz.prog A 44 (.slice a n c) = some (.int .i64 n) := by kernel_rfl
theorem ln_154 (A : AW) (a : Option Addr) (n c : Nat) : lenA Tryz.prog A 154 (.slice a n c) = some (.int .i64 n) := by kernel_rfl
theorem ln_174 (A : AW) (a : Option Addr) (n c : Nat) : lenA Tryz.prog A 174 (.slice a n c) = some (.int .i64 n) := by kernel_rfl

theorem tb : BT Tryz.prog 5 44 9 where
  sl := by kernel_rfl
  sz := by kernel_rfl
  by_ := by kernel_rfl
  hz := by kernel_rfl
  us := by kernel_rfl
  ub := by kernel_rfl
  ust := by kernel_rfl
  zt := by kernel_rfl
  ln := ln_44
  ia := fun b o n c i k => ia_44 b o n c i k
  ld := ld_5
  st := st_5
theorem cv_3_5 (A : AW) (n : Int) (k : IntKind) : convertA Tryz.prog A 3 5 (.int k n) = .ok (.int .u8 (IntKind.u8.wrap n)) A := by kernel_rfl
theorem cv_57_5 (A : AW) (n : Int) (k : IntKind) : convertA Tryz.prog A 57 5 (.int k n) = .ok (.int .u8 (IntKind.u8.wrap n)) A := by kernel_rfl
theorem cv_26_5 (A : AW) (n : Int) (k : IntKind) : convertA Tryz.prog A 26 5 (.int k n) = .ok (.int .u8 (IntKind.u8.wrap n)) A := by kernel_rfl
theorem cv_22_5 (A : AW) (n : Int) (k : IntKind) : convertA Tryz.prog A 22 5 (.int k n) = .ok (.int .u8 (IntKind.u8.wrap n)) A := by kernel_rfl
theorem cv_22_57 (A : AW) (n : Int) (k : IntKind) : convertA Tryz.prog A 22 57 (.int k n) = .ok (.int .u64 (IntKind.u64.wrap n)) A := by kernel_rfl
theorem cv_26_57 (A : AW) (n : Int) (k : IntKind) : convertA Tryz.prog A 26 57 (.int k n) = .ok (.int .u64 (IntKind.u64.wrap n)) A := by kernel_rfl
theorem cv_3_57 (A : AW) (n : Int) (k : IntKind) : convertA Tryz.prog A 3 57 (.int k n) = .ok (.int .u64 (IntKind.u64.wrap n)) A := by kernel_rfl
theorem cv_57_3 (A : AW) (n : Int) (k : IntKind) : convertA Tryz.prog A 57 3 (.int k n) = .ok (.int .i64 (IntKind.i64.wrap n)) A := by kernel_rfl
theorem cv_57_22 (A : AW) (n : Int) (k : IntKind) : convertA Tryz.prog A 57 22 (.int k n) = .ok (.int .u32 (IntKind.u32.wrap n)) A := by kernel_rfl
theorem cv_57_26 (A : AW) (n : Int) (k : IntKind) : convertA Tryz.prog A 57 26 (.int k n) = .ok (.int .u16 (IntKind.u16.wrap n)) A := by kernel_rfl
theorem cv_5_22 (A : AW) (n : Int) (k : IntKind) : convertA Tryz.prog A 5 22 (.int k n) = .ok (.int .u32 (IntKind.u32.wrap n)) A := by kernel_rfl
theorem cv_5_26 (A : AW) (n : Int) (k : IntKind) : convertA Tryz.prog A 5 26 (.int k n) = .ok (.int .u16 (IntKind.u16.wrap n)) A := by kernel_rfl
theorem cv_5_3 (A : AW) (n : Int) (k : IntKind) : convertA Tryz.prog A 5 3 (.int k n) = .ok (.int .i64 (IntKind.i64.wrap n)) A := by kernel_rfl
theorem cv_5_57 (A : AW) (n : Int) (k : IntKind) : convertA Tryz.prog A 5 57 (.int k n) = .ok (.int .u64 (IntKind.u64.wrap n)) A := by kernel_rfl
theorem zero24 : zeroT Tryz.prog 24 = some (.agg #[.int .u32 0, .string .empty, .string .empty]) := by kernel_rfl
theorem ba24 : buildA Tryz.prog 24 [] = some (.agg ⟨[.int .u32 0, .string ⟨⟨[]⟩⟩, .string ⟨⟨[]⟩⟩]⟩) := by kernel_rfl
theorem ba29 : buildA Tryz.prog 29 [] = some (.agg ⟨[.int .u8 0, .int .u32 0, .string ⟨⟨[]⟩⟩, .string ⟨⟨[]⟩⟩, .int .u8 0, .int .u16 0, .slice none 0 0]⟩) := by kernel_rfl
theorem zero29 : zeroT Tryz.prog 29 = some (.agg #[.int .u8 0, .int .u32 0, .string .empty, .string .empty, .int .u8 0, .int .u16 0, .slice none 0 0]) := by kernel_rfl
theorem bs44 (A : AW) (n : Int) : buildSliceA Tryz.prog A 44 1 [(0, .int .u8 n)] = (match A.newRow [.int .u8 n] 5 with | some (a, w') => .ok (.slice (some a) 1 1) w' | none => .fail "buildSlice new") := by kernel_rfl
theorem bs44_2 (A : AW) (n m : Int) : buildSliceA Tryz.prog A 44 2 [(0, .int .u8 n), (1, .int .u8 m)] = (match A.newRow [.int .u8 n, .int .u8 m] 5 with | some (a, w') => .ok (.slice (some a) 2 2) w' | none => .fail "buildSlice new") := by kernel_rfl
theorem bs44_4 (A : AW) (a b c d : Int) : buildSliceA Tryz.prog A 44 4 [(0, .int .u8 a), (1, .int .u8 b), (2, .int .u8 c), (3, .int .u8 d)] = (match A.newRow [.int .u8 a, .int .u8 b, .int .u8 c, .int .u8 d] 5 with | some (a, w') => .ok (.slice (some a) 4 4) w' | none => .fail "buildSlice new") := by kernel_rfl
theorem bs174 (A : AW) (a b c : Int) : buildSliceA Tryz.prog A 174 3 [(0, .int .i64 a), (1, .int .i64 b), (2, .int .i64 c)] = (match A.newRow [.int .i64 a, .int .i64 b, .int .i64 c] 3 with | some (a, w') => .ok (.slice (some a) 3 3) w' | none => .fail "buildSlice new") := by kernel_rfl
theorem bs154 (A : AW) (a b : Option Addr) (n1 c1 n2 c2 : Nat) : buildSliceA Tryz.prog A 154 2 [(0, .slice a n1 c1), (1, .slice b n2 c2)] = (match A.newRow [.slice a n1 c1, .slice b n2 c2] 44 with | some (a, w') => .ok (.slice (some a) 2 2) w' | none => .fail "buildSlice new") := by kernel_rfl
theorem bs27 (A : AW) (f : Int) (g b : ByteArray) : buildSliceA Tryz.prog A 27 1 [(0, .agg ⟨[.int .u32 f, .string g, .string b]⟩)] = (match A.newRow [.int .u32 f, .string g, .string b] 24 with | some (a, w') => .ok (.slice (some a) 1 1) w' | none => .fail "buildSlice new") := by kernel_rfl
theorem fresh44 (n : Int) : freshOf Tryz.prog (evalT (Tm.fill ⟨1, .nil⟩ 0 [.int .u8 n])) (.buildSlice 44 1 #[(0, .tmp 0)]) = some (.slice [.int .u8 n] 5 1) := by kernel_rfl
theorem fresh44_2 (n m : Int) : freshOf Tryz.prog (evalT (Tm.fill ⟨2, .nil⟩ 0 [.int .u8 n, .int .u8 m])) (.buildSlice 44 2 #[(0, .tmp 0), (1, .tmp 1)]) = some (.slice [.int .u8 n, .int .u8 m] 5 2) := by kernel_rfl
theorem fresh154 (a b : Option Addr) (n1 c1 n2 c2 : Nat) : freshOf Tryz.prog (evalT (Tm.fill ⟨2, .nil⟩ 0 [.slice a n1 c1, .slice b n2 c2])) (.buildSlice 154 2 #[(0, .tmp 0), (1, .tmp 1)]) = some (.slice [.slice a n1 c1, .slice b n2 c2] 44 2) := by kernel_rfl
theorem fresh174 (a b c : Int) : freshOf Tryz.prog (evalT (Tm.fill ⟨3, .nil⟩ 0 [.int .i64 a, .int .i64 b, .int .i64 c])) (.buildSlice 174 3 #[(0, .tmp 0), (1, .tmp 1), (2, .tmp 2)]) = some (.slice [.int .i64 a, .int .i64 b, .int .i64 c] 3 3) := by kernel_rfl
theorem fresh27 (f : Int) (g b : ByteArray) : freshOf Tryz.prog (evalT (Tm.fill ⟨1, .nil⟩ 0 [.agg ⟨[.int .u32 f, .string g, .string b]⟩])) (.buildSlice 27 1 #[(0, .tmp 0)]) = some (.slice [.int .u32 f, .string g, .string b] 24 1) := by kernel_rfl
theorem ft24 : quiet Tryz.prog (underlying 24) = some (.struct (Tryz.prog.fieldsOf 24)) := by kernel_rfl
noncomputable def F24 (i : Nat) : Field := (Tryz.prog.fieldsOf 24).toList.getD i default
theorem fs24 : (Tryz.prog.fieldsOf 24).toList = [F24 0, F24 1, F24 2] := by kernel_rfl
def xidV (f : Int) (g b : ByteArray) : Value := .agg ⟨[.int .u32 f, .string g, .string b]⟩
theorem pt24_0 (f : Int) (g b : ByteArray) : quiet Tryz.prog (part (F24 0).type ⟨[.int .u32 f, .string g, .string b]⟩ (F24 0).offset) = some (.int .u32 f) := by kernel_rfl
theorem pt24_1 (f : Int) (g b : ByteArray) : quiet Tryz.prog (part (F24 1).type ⟨[.int .u32 f, .string g, .string b]⟩ (F24 1).offset) = some (.string g) := by kernel_rfl
theorem pt24_2 (f : Int) (g b : ByteArray) : quiet Tryz.prog (part (F24 2).type ⟨[.int .u32 f, .string g, .string b]⟩ (F24 2).offset) = some (.string b) := by kernel_rfl
theorem ty24_0 : (F24 0).type = 22 := by kernel_rfl
theorem ty24_1 : (F24 1).type = 9 := by kernel_rfl
theorem ty24_2 : (F24 2).type = 9 := by kernel_rfl
theorem ut9 : quiet Tryz.prog (underlying 9) = some .string := by kernel_rfl
theorem ut22 : quiet Tryz.prog (underlying 22) = some (.int .u32) := by kernel_rfl
def sameX (f f' : Int) (g g' b b' : ByteArray) : Bool := f == f' && (g.data.toList == g'.data.toList && b.data.toList == b'.data.toList)
theorem quiet24 (f f' : Int) (g g' b b' : ByteArray) : quiet Tryz.prog (Op.equal 24 (xidV f g b) (xidV f' g' b')) = some (sameX f f' g g' b b') := by
  show quiet Tryz.prog (Op.equalIn (9999 + 1) 24 _ _) = _
  unfold xidV
  rw [quiet_struct 9999 24 _ _ ft24 (by kernel_rfl), fs24]
  rw [quiet_fieldR (by kernel_rfl) (pt24_0 f g b) (pt24_0 f' g' b') (by rw [ty24_0]; exact quiet_eq_int 9998 22 _ _ _ _ ut22)]
  rw [quiet_fieldR (by kernel_rfl) (pt24_1 f g b) (pt24_1 f' g' b') (by rw [ty24_1]; exact quiet_eqs ut9)]
  rw [quiet_fieldR (by kernel_rfl) (pt24_2 f g b) (pt24_2 f' g' b') (by rw [ty24_2]; exact quiet_eqs ut9)]
  unfold sameX
  cases f == f' <;> cases g.data.toList == g'.data.toList <;> cases b.data.toList == b'.data.toList <;> rfl
set_option maxRecDepth 100000 in
theorem eq24 (f f' : Int) (g g' b b' : ByteArray) (xo yo : Operand) : binA Tryz.prog .eql 24 xo yo (xidV f g b) (xidV f' g' b') = some (.bool (sameX f f' g g' b b')) := by
  unfold xidV
  have hg : eqGuardA Tryz.prog 24 xo yo (.agg ⟨[.int .u32 f, .string g, .string b]⟩) (.agg ⟨[.int .u32 f', .string g', .string b']⟩) = true := by
    show (!Tryz.prog.eqGuardType Tryz.prog.depth 24) = true
    kernel_rfl
  show (bif eqGuardA Tryz.prog 24 xo yo (.agg ⟨[.int .u32 f, .string g, .string b]⟩) (.agg ⟨[.int .u32 f', .string g', .string b']⟩) then (match eqA Tryz.prog 24 (.agg ⟨[.int .u32 f, .string g, .string b]⟩) (.agg ⟨[.int .u32 f', .string g', .string b']⟩) with | some b => some (Value.bool b) | none => none) else none) = _
  rw [hg, cond_true]
  have he : eqA Tryz.prog 24 (.agg ⟨[.int .u32 f, .string g, .string b]⟩) (.agg ⟨[.int .u32 f', .string g', .string b']⟩) = some (sameX f f' g g' b b') := by
    unfold eqA
    have hc : (closedV 4 (.agg ⟨[.int .u32 f, .string g, .string b]⟩) && closedV 4 (.agg ⟨[.int .u32 f', .string g', .string b']⟩)) = true := rfl
    rw [hc, cond_true]
    exact quiet24 f f' g g' b b'
  rw [he]

end Go.Proofs.YtjiglbmjhecobaaGreatDoor


namespace Go.Proofs.YtjiglbmjhecobaaGreatDoor
open Go.Abs

theorem bin_mul {P : Program} {t : TypeId} {xo yo : Operand} {k : IntKind} {a b : Int} : binA P .mul t xo yo (.int k a) (.int k b) = some (.int k (k.wrap (a * b))) := by simp [binA, binOp, Op.intArith, quiet, closedO, closedV, pure]
theorem bin_rem {P : Program} {t : TypeId} {xo yo : Operand} {k : IntKind} {a b : Int} (hb : b ≠ 0) : binA P .rem t xo yo (.int k a) (.int k b) = some (.int k (a.tmod b)) := by simp [binA, binOp, Op.intDiv, hb, quiet, closedO, closedV, pure]
theorem bin_quo {P : Program} {t : TypeId} {xo yo : Operand} {k : IntKind} {a b : Int} (hb : b ≠ 0) : binA P .quo t xo yo (.int k a) (.int k b) = some (.int k (k.wrap (a.tdiv b))) := by simp [binA, binOp, Op.intDiv, hb, quiet, closedO, closedV, pure]
theorem bin_shr {P : Program} {t : TypeId} {xo yo : Operand} {k k2 : IntKind} {a b : Int} (hb : ¬ b < 0) : binA P .shr t xo yo (.int k a) (.int k2 b) = some (.int k (a.fdiv (2 ^ (min b.toNat k.bits)))) := by simp [binA, binOp, Op.shift, hb, quiet, closedO, closedV, pure]
theorem wrap_u8 {n : Int} : IntKind.u8.wrap n = n % 256 := by
  simp [IntKind.wrap, IntKind.bits, IntKind.signed]
theorem wrap_u64 {n : Int} (h1 : 0 ≤ n) (h2 : n < 18446744073709551616) : IntKind.u64.wrap n = n := by
  simp [IntKind.wrap, IntKind.bits, IntKind.signed]
  omega
theorem ofNat_u8 (n : Nat) : ((UInt8.ofNat n).toNat : Int) = (n : Int) % 256 := by
  rw [UInt8.toNat_ofNat']
  omega

structure Grow (A A' : AW) (n : Nat) : Prop where
  keeps : Keeps A A' []
  fine : Fine A'
  next : A'.next ≤ A.next + n
theorem Grow.le {A A' : AW} {n : Nat} (h : Grow A A' n) : A.next ≤ A'.next := h.keeps.next
theorem Grow.refl {A : AW} (hf : Fine A) : Grow A A 0 := ⟨.refl _ _, hf, Nat.le_refl _⟩
theorem Grow.trans {A B C : AW} {n m : Nat} (h : Grow A B n) (k : Grow B C m) : Grow A C (n + m) := ⟨h.keeps.trans k.keeps (by simp), k.fine, by have := h.next; have := k.next; omega⟩
theorem Grow.more {A B : AW} {n m : Nat} (h : Grow A B n) (hm : n ≤ m) : Grow A B m := ⟨h.keeps, h.fine, by have := h.next; omega⟩
theorem Grow.made {A A' : AW} {cs : List Value} {e : TypeId} (m : Made A A' cs e) (hf : Fine A) : Grow A A' 1 := ⟨m.keeps hf, m.fine, by rw [m.next]; omega⟩
theorem Grow.own {A B C : AW} {n m : Nat} {F : List Nat} (h : Grow A B n) (k : Keeps B C F) (hF : ∀ x ∈ F, A.next ≤ x) (hc : C.next ≤ B.next + m) (hf : Fine C) : Grow A C (n + m) :=
  ⟨h.keeps.trans k (fun x hx => .inr (hF x hx)), hf, by have := h.next; omega⟩

def slen (s : ByteArray) : Nat := s.data.toList.length
def be (n : Nat) : Nat → List UInt8
  | 0 => []
  | i + 1 => UInt8.ofNat (n / 256 ^ i) :: be n i
theorem be_length (n : Nat) : ∀ i, (be n i).length = i
  | 0 => rfl
  | i + 1 => by rw [be, List.length_cons, be_length n i]

section
variable {W0 : World} {m0 : Inj Tryz.prog}
theorem wc57 {w : Int} {A : AW} {K : Value → AW → Prop} (hk : K (.bool (w == 1 || (w == 2 || (w == 4 || w == 8)))) A) : Wc Tryz.prog theX W0 m0 57 [.int .i64 w] A K := by
  refine w57 _ _ (cuts_none (S := fun _ _ _ => False) fun _ _ _ h => h) ?_
  rw [e57]
  simp only [bin_eql, pureW_some, forkW_beq]
  refine ⟨fun h => by subst h; exact hk, fun h1 => ⟨fun h => by subst h; exact hk, fun h2 => ⟨fun h => by subst h; exact hk, fun h3 => ⟨fun h => by subst h; exact hk, fun h4 => ?_⟩⟩⟩⟩
  have : (w == 1 || (w == 2 || (w == 4 || w == 8))) = false := by simp [h1, h2, h3, h4]
  rw [this] at hk
  exact hk
theorem wc72 {w : Int} {A : AW} {K : Value → AW → Prop} (hk : K (.bool (w == 1 || (w == 2 || (w == 4 || w == 8)))) A) : Wc Tryz.prog theX W0 m0 72 [.int .i64 w] A K := by
  refine w72 _ _ (cuts_none (S := fun _ _ _ => False) fun _ _ _ h => h) ?_
  rw [e72]
  simp only [bin_eql, pureW_some, forkW_beq]
  refine ⟨fun h => by subst h; exact hk, fun h1 => ⟨fun h => by subst h; exact hk, fun h2 => ⟨fun h => by subst h; exact hk, fun h3 => ?_⟩⟩⟩
  have : (w == 1 || (w == 2 || (w == 4 || w == 8))) = (w == 8) := by rw [beq_false_of_ne h1, beq_false_of_ne h2, beq_false_of_ne h3]; rfl
  rw [this] at hk
  exact hk

def xchk (g b : ByteArray) : Int := if slen g = 0 ∨ 64 < slen g ∨ 64 < slen b then 40 else 0
theorem xchk_cases (g b : ByteArray) : xchk g b = 0 ∨ xchk g b = 40 := by unfold xchk; split <;> simp
theorem wc26 {f : Int} {g b : ByteArray} {A : AW} {K : Value → AW → Prop} (hf : Fine A) (hA : A.next < maxId) (hk : ∀ A', Grow A A' 1 → K (.int .i64 (xchk g b)) A') : Wc Tryz.prog theX W0 m0 26 [xidV f g b] A K := by
  refine w26 _ _ (cuts_none (S := fun _ _ _ => False) fun _ _ _ h => h) ?_
  rw [e26]
  refine newP_made (cs := (Value.cells (xidV f g b)).toList) hf hA rfl fun A1 m1 => ?_
  have hg : A1.get A.next = some (.row [.int .u32 f, .string g, .string b] 24 A.next 0 false) := m1.row
  have hr := hk A1 (.made m1 hf)
  simp only [fa_24_1, fa_24_2, ld_9, ln_9, cell_row hg, cellOf, isTuple, cond_false, pureW_some, bin_streq, bin_gtr, forkW_dec, Nat.zero_add]
  refine forkW_bool.2 ⟨fun h => ?_, fun h => ⟨fun h2 => ?_, fun h2 => ⟨fun h3 => ?_, fun h3 => ?_⟩⟩⟩
  · have : slen g = 0 := by unfold slen; rw [beq_iff_eq.1 h]; rfl
    rw [show xchk g b = 40 by unfold xchk; rw [if_pos (.inl this)]] at hr; exact hr
  · rw [show xchk g b = 40 by unfold xchk; rw [if_pos (.inr (.inl (by unfold slen; omega)))]] at hr; exact hr
  · rw [show xchk g b = 40 by unfold xchk; rw [if_pos (.inr (.inr (by unfold slen; omega)))]] at hr; exact hr
  · have : slen g ≠ 0 := by
      unfold slen
      intro h0
      rw [List.eq_nil_of_length_eq_zero h0] at h
      simp at h
    rw [show xchk g b = 0 by unfold xchk; rw [if_neg (by unfold slen at *; omega)]] at hr; exact hr
theorem wc62 {f : Int} {g b : ByteArray} {A : AW} {K : Value → AW → Prop} (hf : Fine A) (hA : A.next < maxId) (hk : ∀ A', Grow A A' 1 → K (.int .i64 (xchk g b)) A') : Wc Tryz.prog theX W0 m0 62 [xidV f g b] A K := by
  refine w62 _ _ (cuts_none (S := fun _ _ _ => False) fun _ _ _ h => h) ?_
  rw [e62]
  refine newP_made (cs := (Value.cells (xidV f g b)).toList) hf hA rfl fun A1 m1 => ?_
  have hg : A1.get A.next = some (.row [.int .u32 f, .string g, .string b] 24 A.next 0 false) := m1.row
  have hr := hk A1 (.made m1 hf)
  simp only [fa_24_1, fa_24_2, ld_9, ln_9, cell_row hg, cellOf, isTuple, cond_false, pureW_some, bin_lss, bin_gtr, forkW_dec, Nat.zero_add]
  refine ⟨fun h => ?_, fun h => ⟨fun h2 => ?_, fun h2 => ⟨fun h3 => ?_, fun h3 => ?_⟩⟩⟩
  · rw [show xchk g b = 40 by unfold xchk; rw [if_pos (.inl (by unfold slen; omega))]] at hr; exact hr
  · rw [show xchk g b = 40 by unfold xchk; rw [if_pos (.inr (.inl (by unfold slen; omega)))]] at hr; exact hr
  · rw [show xchk g b = 40 by unfold xchk; rw [if_pos (.inr (.inr (by unfold slen; omega)))]] at hr; exact hr
  · rw [show xchk g b = 0 by unfold xchk; rw [if_neg (by unfold slen; omega)]] at hr; exact hr

def oneG (f f' : Int) (g g' : ByteArray) : Bool := f == f' && g.data.toList == g'.data.toList
theorem bslice1 {A : AW} {n : Int} {K : Value → AW → Prop} (hf : Fine A) (h : A.next < maxId) (hk : ∀ A', Made A A' [.int .u8 n] 5 → K (.slice (some ⟨A.next, 0, none⟩) 1 1) A') : bothW (buildSliceA Tryz.prog A 44 1 [(0, .int .u8 n)]) K := by
  rw [bs44]
  unfold AW.newRow AW.new
  simp only [show ([Value.int .u8 n].all oneCell) = true from rfl, cond_true, blt_true.2 h]
  exact bothW_ok.2 (hk (A.push (.row [.int .u8 n] 5 A.next 0 false)) ⟨AW.push_ext _ h, rfl, by rw [AW.push_get _ h, if_pos rfl], hf.alone (Nat.le_refl _), hf.push _ h⟩)
theorem freshW_1 {n : Int} {A : AW} {b : Nat} {p : Prop} (h : A.get b = some (.row [.int .u8 n] 5 b 0 false)) (hp : p) : freshW (freshOf Tryz.prog (evalT (Tm.fill ⟨1, .nil⟩ 0 [.int .u8 n])) (.buildSlice 44 1 #[(0, .tmp 0)])) A (.slice (some ⟨b, 0, none⟩) 1 1) p := by
  refine ⟨⟨_, fresh44 n, ?_⟩, hp⟩
  simp only [stillFresh, rowHas, h, sameL, same_int, Bool.and_self, Option.isNone_none, Bool.true_and, Nat.beq_refl]
theorem buf1 {A : AW} {b : Nat} {c : UInt8} (h : Go.Abs.Row1 A b [.int .u8 c.toNat] 5) : Buf 5 A (.slice (some ⟨b, 0, none⟩) 1 1) [c] [b] :=
  .inr (.inr ⟨b, 1, [], rfl, by decide, by simpa [bytesV] using h, rfl, rfl, rfl⟩)
end
end Go.Proofs.YtjiglbmjhecobaaGreatDoor


namespace Go.Proofs.YtjiglbmjhecobaaGreatDoor
open Go.Abs

theorem byte_of (n i : Nat) : IntKind.u8.wrap ((n : Int).fdiv (2 ^ (8 * i))) = ((UInt8.ofNat (n / 256 ^ i)).toNat : Int) := by
  rw [wrap_u8, ofNat_u8, Int.fdiv_eq_ediv_of_nonneg _ (Int.pow_nonneg (by decide))]
  rw [show (2 : Int) ^ (8 * i) = ((256 ^ i : Nat) : Int) by rw [Int.pow_mul, show (2 : Int) ^ 8 = ((256 : Nat) : Int) from by decide, Int.natCast_pow]]
  rfl
theorem zeros_be {w i : Nat} (n : Nat) (h : i < w) : setL (List.replicate (w - i) (.int .u8 0) ++ bytesV (be n i)) (w - 1 - i) [.int .u8 ((UInt8.ofNat (n / 256 ^ i)).toNat : Int)] = List.replicate (w - (i + 1)) (.int .u8 0) ++ bytesV (be n (i + 1)) := by
  have e1 : w - i = (w - 1 - i) + 1 := by omega
  have e2 : w - (i + 1) = w - 1 - i := by omega
  rw [e1, e2, List.replicate_succ', List.append_assoc]
  have h := setL_mid (List.replicate (w - 1 - i) (Value.int .u8 0)) [.int .u8 0] [.int .u8 ((UInt8.ofNat (n / 256 ^ i)).toNat : Int)] (bytesV (be n i)) rfl
  rw [List.length_replicate] at h
  rw [h]
  rfl

section
variable {W0 : World} {m0 : Inj Tryz.prog}
theorem wc59 {n w : Nat} {A : AW} {K : Value → AW → Prop} (hf : Fine A) (hA : A.next + 1 < maxId) (hw : w ≤ 8)
    (hk : ∀ A' v F, Grow A A' 1 → Buf 5 A' v (be n w) F → (∀ x ∈ F, A.next ≤ x) → K v A') : Wc Tryz.prog theX W0 m0 59 [.int .u64 (n : Int), .int .i64 (w : Int)] A K := by
  let I : Nat → Nat → List Value → AW → Prop := fun g id vals A' => id = 0 ∧ ∃ i : Nat, vals = [.int .u64 (n : Int), .int .i64 (w : Int), .slice (some ⟨A.next, 0, none⟩) w w, .int .i64 (w : Int), .int .i64 (i : Int)] ∧ i ≤ w ∧
    Go.Abs.Row1 A' A.next (List.replicate (w - i) (.int .u8 0) ++ bytesV (be n i)) 5 ∧ Grow A A' 1 ∧ A'.next = A.next + 1 ∧ g = w - i
  refine w59 _ _ _ (c59 (I := I) ?_) ?_
  · rintro g id vals A' d ⟨rfl, i, rfl, hi, hr, hg, hn, rfl⟩ hd
    rw [l59_0]
    have h0 : d 0 = .int .u64 (n : Int) := by simp [L59] at hd; exact hd.1
    have h1 : d 1 = .int .i64 (w : Int) := by simp [L59] at hd; exact hd.2.1
    have h5 : d 5 = .slice (some ⟨A.next, 0, none⟩) w w := by simp [L59] at hd; exact hd.2.2.1
    have h10 : d 10 = .int .i64 (w : Int) := by simp [L59] at hd; exact hd.2.2.2.1
    have h11 : d 11 = .int .i64 (i : Int) := by simp [L59] at hd; exact hd.2.2.2.2
    simp only [h0, h1, h5, h10, h11, bin_lss, bin_sub, bin_mul, pureW_some, forkW_dec]
    refine ⟨fun hlt => ?_, fun hge => ?_⟩
    · have hlt : i < w := by omega
      rw [wrap_i64 (n := (w : Int) - 1) (by omega) (by omega), wrap_i64 (n := (w : Int) - 1 - i) (by omega) (by omega), wrap_i64 (n := 8 * (i : Int)) (by omega) (by omega)]
      have e2 : (w : Int) - 1 - i = ((w - 1 - i : Nat) : Int) := by omega
      have e3 : min (8 * (i : Int)).toNat (IntKind.bits .u64) = 8 * i := by show min _ 64 = _; omega
      rw [bin_shr (by omega), e2, e3]
      simp only [pureW_some, cv_57_5, bothW_ok, byte_of]
      have hia : indexAddrA Tryz.prog 44 (.slice (some ⟨A.next, 0, none⟩) w w) (.int .i64 ((w - 1 - i : Nat) : Int)) = some (.pointer (some ⟨A.next, w - 1 - i, none⟩)) := by
        show indexAddrA Tryz.prog 44 _ (.int .i64 (.ofNat (w - 1 - i))) = _
        rw [ia_44, blt_true.2 (by omega), cond_true]
        unfold addA
        cases hb : Nat.beq ((w - 1 - i) * 1) 0 with
        | true => rw [cond_true]; have := Nat.eq_of_beq_eq_true hb; rw [Nat.mul_one] at this; rw [this]
        | false => rw [cond_false, Nat.mul_one, Nat.zero_add]
      rw [hia]
      simp only [pureW_some, bin_add]
      refine hr.store hg.fine (by omega) (st_5 _ _ _) rfl (by simp [Value.cells, be_length]; omega) rfl fun A2 r2 k2 n2 f2 => ?_
      have hs : setL (List.replicate (w - i) (Value.int .u8 0) ++ bytesV (be n i)) (w - 1 - i) (Value.cells (.int .u8 ((UInt8.ofNat (n / 256 ^ i)).toNat : Int))).toList = _ := zeros_be n hlt
      rw [hs] at r2
      rw [wrap_i64 (by omega) (by omega)]
      refine cutW_self.2 ⟨w - (i + 1), by omega, rfl, i + 1, rfl, by omega, r2, ?_, by omega, rfl⟩
      exact hg.own k2 (by simp) (m := 0) (by omega) f2
    · have hi : i = w := by omega
      subst hi
      rw [Nat.sub_self] at hr
      refine hk A' _ [A.next] hg ?_ (by simp)
      refine .inr (.inr ⟨A.next, i, [], ?_, by have : room = 68719476736 := rfl; omega, by simpa using hr, by rw [be_length]; rfl, rfl, rfl⟩)
      rw [be_length]
  · rw [e59]
    refine makeBytes tb hf (by omega) (Nat.le_refl w) (by have : room = 68719476736 := rfl; omega) fun A1 m1 => ?_
    simp only [ln_44, pureW_some]
    refine cutW_self.2 ⟨w, rfl, 0, rfl, by omega, ?_, .made m1 hf, m1.next, rfl⟩
    simpa [be, bytesV] using m1.row1

theorem wc64 {n w : Nat} {A : AW} {K : Value → AW → Prop} (hf : Fine A) (hA : A.next + 20 < maxId) (hn : n < 18446744073709551616) (hw : w ≤ 8)
    (hk : ∀ A' v F, Grow A A' 16 → Buf 5 A' v (be n w) F → (∀ x ∈ F, A.next ≤ x) → K v A') : Wc Tryz.prog theX W0 m0 64 [.int .u64 (n : Int), .int .i64 (w : Int)] A K := by
  let I : Nat → Nat → List Value → AW → Prop := fun g id vals A' => id = 0 ∧ ∃ (i : Nat) (v : Value) (F : List Nat), vals = [.int .u64 ((n / 256 ^ i : Nat) : Int), .int .i64 (w : Int), v, .int .i64 (i : Int)] ∧ i ≤ w ∧
    Buf 5 A' v (be n i) F ∧ (∀ x ∈ F, A.next ≤ x) ∧ Grow A A' (2 * i) ∧ g = w - i
  refine w64 _ _ _ (c64 (I := I) ?_) ?_
  · rintro g id vals A' d ⟨rfl, i, v, F, rfl, hi, hb, hF, hg, rfl⟩ hd
    rw [l64_0]
    simp only [L64, List.map_cons, List.map_nil, List.cons.injEq, and_true] at hd
    obtain ⟨h0, h1, h5, h6⟩ := hd
    have hnx := hg.next
    have hq : n / 256 ^ i < 18446744073709551616 := Nat.lt_of_le_of_lt (Nat.div_le_self _ _) hn
    obtain ⟨q, hqd⟩ : ∃ q, n / 256 ^ i = q := ⟨_, rfl⟩
    rw [hqd] at h0 hq
    simp only [h0, h1, h5, h6, bin_lss, pureW_some, forkW_dec]
    refine ⟨fun hlt => ?_, fun hge => ?_⟩
    · have hlt : i < w := by omega
      rw [bin_rem (by decide), bin_quo (by decide)]
      simp only [pureW_some, cv_57_5, bothW_ok]
      have hx : IntKind.u8.wrap ((q : Int).tmod 256) = ((UInt8.ofNat q).toNat : Int) := by
        rw [wrap_u8, ofNat_u8, Int.tmod_eq_emod_of_nonneg (by omega)]; omega
      have hq2 : IntKind.u64.wrap ((q : Int).tdiv 256) = ((n / 256 ^ (i + 1) : Nat) : Int) := by
        have e : n / 256 ^ (i + 1) = q / 256 := by rw [Nat.pow_succ, ← Nat.div_div_eq_div_mul, hqd]
        rw [Int.tdiv_eq_ediv_of_nonneg (by omega), wrap_u64 (by omega) (by omega), e]
        omega
      rw [hx, hq2]
      refine bslice1 hg.fine (by omega) fun A2 m2 => ?_
      have n2 := m2.next
      have hb2 := hb.keeps (m2.keeps hg.fine) (by simp)
      refine appendBuf tb (buf1 m2.row1) (src_slice tb hb2.rd) m2.fine (by omega) (by rw [be_length]; have : room = 68719476736 := rfl; simp; omega) fun v3 A3 F3 hb3 k3 hF3 n3 f3 => ?_
      simp only [bin_add, pureW_some]
      rw [wrap_i64 (by omega) (by omega)]
      have hnx2 := hg.le
      refine cutW_self.2 ⟨w - (i + 1), by omega, rfl, i + 1, v3, F3, rfl, by omega, by rw [be, hqd]; exact hb3, fun x hx => ?_, ?_, rfl⟩
      · rcases hF3 x hx with h | h
        · simp at h; omega
        · omega
      · exact ((hg.trans (.made m2 hg.fine)).own k3 (by simp; omega) (m := 1) (by omega) f3).more (by omega)
    · have hi : i = w := by omega
      subst hi
      exact hk A' v F (hg.more (by omega)) hb hF
  · rw [e64]
    refine cutW_self.2 ⟨w, rfl, 0, .slice none 0 0, [], by simp, by omega, .nil _ _, by simp, .refl hf, rfl⟩

theorem wc58 {v1 v2 : Value} {l1 l2 : List UInt8} {F1 F2 : List Nat} {A : AW} {K : Value → AW → Prop} (hf : Fine A) (hA : A.next + 3 < maxId) (h1 : RdB A v1 l1 F1) (h2 : RdB A v2 l2 F2) (hr : l1.length + l2.length < 1000000)
    (hk : ∀ A' v F, Grow A A' 3 → Buf 5 A' v (l1 ++ l2) F → (∀ x ∈ F, A.next ≤ x) → K v A') : Wc Tryz.prog theX W0 m0 58 [v1, v2] A K := by
  have hroom : room = 68719476736 := rfl
  have lt1 := h1.lt
  have lt2 := h2.lt
  refine w58 _ _ _ (cuts_none (S := fun _ _ _ => False) fun _ _ _ h => h) ?_
  rw [e58]
  simp only [h1.len tb, h2.len tb, bin_add, pureW_some]
  rw [wrap_i64 (by omega) (by omega)]
  have e : ((l1.length : Nat) : Int) + ((l2.length : Nat) : Int) = ((l1.length + l2.length : Nat) : Int) := by omega
  rw [e]
  refine makeBytes (n := 0) (k := .i64) tb hf (by omega) (Nat.zero_le _) (by omega) fun A1 m1 => ?_
  have n1 := m1.next
  refine appendBuf tb (m1.buf0 (by omega)) (src_slice tb (h1.keeps (m1.keeps hf) (by simp))) m1.fine (by omega) (by simp; omega) fun v3 A3 F3 hb3 k3 hF3 n3 f3 => ?_
  have g3 : Grow A A3 2 := (Grow.made m1 hf).own k3 (by simp) (m := 1) (by omega) f3
  have hF3' : ∀ x ∈ F3, A.next ≤ x := fun x hx => by
    rcases hF3 x hx with h | h
    · simp at h; omega
    · omega
  refine appendBuf tb hb3 (src_slice tb (h2.keeps g3.keeps (by simp))) f3 (by omega) (by simp; omega) fun v4 A4 F4 hb4 k4 hF4 n4 f4 => ?_
  rw [List.nil_append] at hb4
  refine hk A4 v4 F4 ((g3.own k4 hF3' (m := 1) (by omega) f4).more (by omega)) hb4 fun x hx => ?_
  rcases hF4 x hx with h | h
  · exact hF3' x h
  · have := g3.le; omega

theorem wc19 {v : Value} {l : List UInt8} {F0 : List Nat} {n w : Nat} {A : AW} {K : Value → AW → Prop} (hf : Fine A) (hA : A.next + 5 < maxId) (hv : RdB A v l F0) (hl : l.length < 900000) (hw : w = 1 ∨ w = 2 ∨ w = 4 ∨ w = 8)
    (hk : ∀ A' v F, Grow A A' 4 → Buf 5 A' v (l ++ be n w) F → (∀ x ∈ F, A.next ≤ x) → K v A') : Wc Tryz.prog theX W0 m0 19 [v, .int .u64 (n : Int), .int .i64 (w : Int)] A K := by
  refine w19 _ _ _ _ (cuts_none (S := fun _ _ _ => False) fun _ _ _ h => h) ?_
  rw [e19]
  refine wc57 ?_
  have hb : ((w : Int) == 1 || ((w : Int) == 2 || ((w : Int) == 4 || (w : Int) == 8))) = true := by rcases hw with rfl | rfl | rfl | rfl <;> rfl
  rw [hb]
  simp only [un_not, pureW_some]
  refine forkW_bool.2 ⟨fun h => by simp at h, fun _ => ?_⟩
  refine wc59 hf (by omega) (by omega) fun A1 v1 F1 g1 b1 _ => ?_
  have n1 := g1.next
  have l1 := g1.le
  refine wc58 g1.fine (by omega) (hv.keeps g1.keeps (by simp)) b1.rd (by rw [be_length]; omega) fun A2 v2 F2 g2 b2 hF2 => ?_
  exact hk A2 v2 F2 ((g1.trans g2).more (by omega)) b2 fun x hx => Nat.le_trans l1 (hF2 x hx)

theorem wc60 {v : Value} {l : List UInt8} {F0 : List Nat} {s : ByteArray} {A : AW} {K : Value → AW → Prop} (hf : Fine A) (hA : A.next + 6 < maxId) (hv : RdB A v l F0) (hl : l.length < 900000) (hs : slen s < 256)
    (hk : ∀ A' v F, Grow A A' 5 → Buf 5 A' v (l ++ (be (slen s) 1 ++ s.data.toList)) F → (∀ x ∈ F, A.next ≤ x) → K (.tuple ⟨[v, .int .i64 0]⟩) A') : Wc Tryz.prog theX W0 m0 60 [v, .string s, .int .i64 1] A K := by
  have hroom : room = 68719476736 := rfl
  have hsl : s.data.toList.length = slen s := rfl
  refine w60 _ _ _ _ (cuts_none (S := fun _ _ _ => False) fun _ _ _ h => h) ?_
  rw [e60]
  simp only [bin_eql, pureW_some, forkW_beq]
  refine ⟨fun h => by omega, fun _ => ?_⟩
  refine wc57 ?_
  simp only [un_not, pureW_some]
  refine forkW_bool.2 ⟨fun h => by simp at h, fun _ => ?_⟩
  simp only [ln_9, hsl, pureW_some, cv_3_57, bothW_ok, bin_mul]
  rw [wrap_u64 (by omega) (by omega), wrap_i64 (by omega) (by omega), bin_shr (by omega)]
  have hz : ((slen s : Nat) : Int).fdiv (2 ^ (min ((8 : Int) * 1).toNat (IntKind.bits .u64))) = 0 := by
    show ((slen s : Nat) : Int).fdiv (2 ^ 8) = 0
    rw [Int.fdiv_eq_ediv_of_nonneg _ (by decide)]
    omega
  rw [hz]
  simp only [pureW_some, bin_neq, forkW_bne]
  refine ⟨fun h => by omega, fun _ => ?_⟩
  refine wc59 (n := slen s) (w := 1) hf (by omega) (by omega) fun A1 v1 F1 g1 b1 hF1 => ?_
  have n1 := g1.next
  have l1 := g1.le
  refine appendBuf tb b1 (src_text tb) g1.fine (by omega) (by rw [be_length]; omega) fun v2 A2 F2 b2 k2 hF2 n2 f2 => ?_
  have g2 := g1.own k2 hF1 (m := 1) (by omega) f2
  have n2 := g2.next
  have l2 := g2.le
  refine wc58 g2.fine (by omega) (hv.keeps g2.keeps (by simp)) b2.rd (by rw [List.length_append, be_length]; omega) fun A3 v3 F3 g3 b3 hF3 => ?_
  exact hk A3 v3 F3 ((g2.trans g3).more (by omega)) b3 fun x hx => Nat.le_trans l2 (hF3 x hx)
end
end Go.Proofs.YtjiglbmjhecobaaGreatDoor


namespace Go.Proofs.YtjiglbmjhecobaaGreatDoor
open Go.Abs

def tx (s : ByteArray) : List UInt8 := be (slen s) 1 ++ s.data.toList
def xb (f : Nat) (g b : ByteArray) : List UInt8 := be f 4 ++ tx g ++ tx b
theorem tx_length (s : ByteArray) : (tx s).length = 1 + slen s := by unfold tx; rw [List.length_append, be_length]; rfl
theorem xb_length (f : Nat) (g b : ByteArray) : (xb f g b).length = 6 + slen g + slen b := by unfold xb; rw [List.length_append, List.length_append, tx_length, tx_length, be_length]; omega
theorem xchk_zero {g b : ByteArray} (h : xchk g b = 0) : 0 < slen g ∧ slen g ≤ 64 ∧ slen b ≤ 64 := by
  unfold xchk at h
  split at h
  · cases h
  · omega
theorem one_be (n : Nat) : be n 1 = [UInt8.ofNat n] := by simp [be]
theorem bytes1 (n : Nat) : Value.int .u8 (IntKind.u8.wrap (n : Int)) = .int .u8 ((UInt8.ofNat n).toNat : Int) := by rw [wrap_u8, ofNat_u8]

section
variable {W0 : World} {m0 : Inj Tryz.prog}
theorem wc21 {f : Nat} {g b : ByteArray} {A : AW} {K : Value → AW → Prop} (hf : Fine A) (hA : A.next + 20 < maxId) (hfl : f < 4294967296) (hx : xchk g b = 0)
    (hk : ∀ A' v F, Grow A A' 16 → Buf 5 A' v (xb f g b) F → (∀ x ∈ F, A.next ≤ x) → K (.tuple ⟨[v, .int .i64 0]⟩) A') : Wc Tryz.prog theX W0 m0 21 [xidV f g b] A K := by
  obtain ⟨hx1, hx2, hx3⟩ := xchk_zero hx
  refine w21 _ _ (cuts_none (S := fun _ _ _ => False) fun _ _ _ h => h) ?_
  rw [e21]
  refine newP_made (cs := (Value.cells (xidV f g b)).toList) hf (by omega) rfl fun A1 m1 => ?_
  have n1 := m1.next
  have r1 : Go.Abs.Row1 A1 A.next [.int .u32 (f : Int), .string g, .string b] 24 := m1.row1
  have hld : A1.cells? ⟨A.next, 0, none⟩ 3 = some [.int .u32 (f : Int), .string g, .string b] := by rw [cells_row r1.row]; rfl
  simp only [ld_24, hld, pureW_some]
  refine wc26 (f := (f : Int)) (g := g) (b := b) m1.fine (by omega) fun A2 g2 => ?_
  rw [hx]
  have n2 := g2.next
  have l2 := g2.le
  have r2 := r1.keeps g2.keeps (by simp)
  simp only [bin_neq, pureW_some, forkW_bne]
  refine ⟨fun h => absurd rfl h, fun _ => ?_⟩
  simp only [fa_24_0, fa_24_1, fa_24_2, ld_22, cell_row r2.row, cellOf, isTuple, cond_false, pureW_some, cv_22_57, bothW_ok, Nat.zero_add]
  rw [wrap_u64 (by omega) (by omega)]
  refine wc19 (n := f) (w := 4) g2.fine (by omega) (Buf.nil 5 _).rd (by simp) (by simp) fun A3 v3 F3 g3 b3 hF3 => ?_
  have n3 := g3.next
  have l3 := g3.le
  have r3 := r2.keeps g3.keeps (by simp)
  simp only [ld_9, cell_row r3.row, cellOf, isTuple, cond_false, pureW_some]
  rw [List.nil_append] at b3
  refine wc60 g3.fine (by omega) b3.rd (by rw [be_length]; omega) (by omega) fun A4 v4 F4 g4 b4 hF4 => ?_
  have n4 := g4.next
  have l4 := g4.le
  have r4 := r3.keeps g4.keeps (by simp)
  have b4 : Buf 5 A4 v4 (be f 4 ++ tx g) F4 := b4
  simp only [extractP, List.getElem?_cons_zero, List.getElem?_cons_succ, pureW_some, cell_row r4.row, cellOf, isTuple, cond_false]
  refine wc60 g4.fine (by omega) b4.rd (by rw [List.length_append, be_length, tx_length]; omega) (by omega) fun A5 v5 F5 g5 b5 hF5 => ?_
  have b5 : Buf 5 A5 v5 (xb f g b) F5 := b5
  simp only [extractP, List.getElem?_cons_zero, List.getElem?_cons_succ, pureW_some]
  exact hk A5 v5 F5 (((((Grow.made m1 hf).trans g2).trans g3).trans g4).trans g5) b5 fun x hx => by have := hF5 x hx; omega

theorem wc24 {f : Nat} {g b : ByteArray} {A : AW} {K : Value → AW → Prop} (hf : Fine A) (hA : A.next + 40 < maxId) (hfl : f < 4294967296) (hx : xchk g b = 0)
    (hk : ∀ A' v F, Grow A A' 30 → Buf 5 A' v (xb f g b) F → (∀ x ∈ F, A.next ≤ x) → K (.tuple ⟨[v, .int .i64 0]⟩) A') : Wc Tryz.prog theX W0 m0 24 [xidV f g b] A K := by
  have hroom : room = 68719476736 := rfl
  obtain ⟨hx1, hx2, hx3⟩ := xchk_zero hx
  refine w24 _ _ (cuts_none (S := fun _ _ _ => False) fun _ _ _ h => h) ?_
  rw [e24]
  refine newP_made (cs := (Value.cells (xidV f g b)).toList) hf (by omega) rfl fun A1 m1 => ?_
  have n1 := m1.next
  have r1 : Go.Abs.Row1 A1 A.next [.int .u32 (f : Int), .string g, .string b] 24 := m1.row1
  have hld : A1.cells? ⟨A.next, 0, none⟩ 3 = some [.int .u32 (f : Int), .string g, .string b] := by rw [cells_row r1.row]; rfl
  simp only [ld_24, hld, pureW_some]
  refine wc62 (f := (f : Int)) (g := g) (b := b) m1.fine (by omega) fun A2 g2 => ?_
  rw [hx]
  have n2 := g2.next
  have l2 := g2.le
  have r2 := r1.keeps g2.keeps (by simp)
  simp only [bin_neq, pureW_some, forkW_bne]
  refine ⟨fun h => absurd rfl h, fun _ => ?_⟩
  simp only [fa_24_0, fa_24_1, fa_24_2, ld_22, cell_row r2.row, cellOf, isTuple, cond_false, pureW_some, cv_22_57, bothW_ok, Nat.zero_add]
  rw [wrap_u64 (by omega) (by omega)]
  refine wc64 (n := f) (w := 4) g2.fine (by omega) (by omega) (by omega) fun A3 v3 F3 g3 b3 hF3 => ?_
  have n3 := g3.next
  have l3 := g3.le
  have g03 := ((Grow.made m1 hf).trans g2).trans g3
  have r3 := r2.keeps g3.keeps (by simp)
  simp only [ld_9, cell_row r3.row, cellOf, isTuple, cond_false, pureW_some, ln_9, cv_3_5, bothW_ok]
  rw [show (g.data.toList.length : Int) = ((slen g : Nat) : Int) from rfl, bytes1]
  refine bslice1 g3.fine (by omega) fun A4 m4 => ?_
  have n4 := m4.next
  have g04 := g03.trans (.made m4 g3.fine)
  refine appendBuf tb (b3.keeps (m4.keeps g3.fine) (by simp)) (src_slice tb (buf1 m4.row1).rd) m4.fine (by omega) (by rw [be_length]; simp; omega) fun v5 A5 F5 b5 k5 hF5 n5 f5 => ?_
  have g05 := g04.own k5 (fun x hx => by have := hF3 x hx; omega) (m := 1) (by omega) f5
  have hF5' : ∀ x ∈ F5, A.next ≤ x := fun x hx => by
    rcases hF5 x hx with h | h
    · have := hF3 x h; omega
    · omega
  have hne : A.next ∉ F3 := fun h => by have := hF3 _ h; omega
  have r5 := (r3.keeps (m4.keeps g3.fine) (by simp)).keeps k5 hne
  simp only [cell_row r5.row, cellOf, isTuple, cond_false, pureW_some]
  refine appendBuf tb b5 (src_text tb) f5 (by omega) (by simp only [List.length_append, be_length, List.length_cons, List.length_nil]; unfold slen at *; omega) fun v6 A6 F6 b6 k6 hF6 n6 f6 => ?_
  have hne5 : A.next ∉ F5 := fun h => by
    rcases hF5 _ h with h | h
    · exact hne h
    · omega
  have g06 := g05.own k6 hF5' (m := 1) (by omega) f6
  have hF6' : ∀ x ∈ F6, A.next ≤ x := fun x hx => by
    rcases hF6 x hx with h | h
    · exact hF5' x h
    · have := g05.le; omega
  have r6 := r5.keeps k6 hne5
  have hne6 : A.next ∉ F6 := fun h => by
    rcases hF6 _ h with h | h
    · exact hne5 h
    · have := k5.next; omega
  simp only [cell_row r6.row, cellOf, isTuple, cond_false, pureW_some, ln_9, cv_3_5, bothW_ok]
  rw [show (b.data.toList.length : Int) = ((slen b : Nat) : Int) from rfl, bytes1]
  refine bslice1 f6 (by omega) fun A7 m7 => ?_
  have n7 := m7.next
  have g07 := g06.trans (.made m7 f6)
  have e6 : be f 4 ++ [UInt8.ofNat (slen g)] ++ g.data.toList = be f 4 ++ tx g := by unfold tx; rw [one_be, List.append_assoc]
  rw [e6] at b6
  have lx : (be f 4 ++ tx g).length = 5 + slen g := by rw [List.length_append, be_length, tx_length]; omega
  refine appendBuf tb (b6.keeps (m7.keeps f6) (by simp)) (src_slice tb (buf1 m7.row1).rd) m7.fine (by omega) (by rw [lx]; simp; omega) fun v8 A8 F8 b8 k8 hF8 n8 f8 => ?_
  have g08 := g07.own k8 hF6' (m := 1) (by omega) f8
  have hF8' : ∀ x ∈ F8, A.next ≤ x := fun x hx => by
    rcases hF8 x hx with h | h
    · exact hF6' x h
    · have := g07.le; omega
  have r8 := (r6.keeps (m7.keeps f6) (by simp)).keeps k8 hne6
  simp only [cell_row r8.row, cellOf, isTuple, cond_false, pureW_some]
  refine appendBuf tb b8 (src_text tb) f8 (by omega) (by rw [List.length_append, lx]; simp only [List.length_cons, List.length_nil]; unfold slen at *; omega) fun v9 A9 F9 b9 k9 hF9 n9 f9 => ?_
  have g09 := g08.own k9 hF8' (m := 1) (by omega) f9
  have e9 : be f 4 ++ tx g ++ [UInt8.ofNat (slen b)] ++ b.data.toList = xb f g b := by unfold xb; rw [show tx b = [UInt8.ofNat (slen b)] ++ b.data.toList by unfold tx; rw [one_be], ← List.append_assoc (be f 4 ++ tx g)]
  rw [e9] at b9
  refine hk A9 v9 F9 (g09.more (by omega)) b9 fun x hx => ?_
  rcases hF9 x hx with h | h
  · exact hF8' x h
  · have := g08.le; omega

end
end Go.Proofs.YtjiglbmjhecobaaGreatDoor


namespace Go.Proofs.YtjiglbmjhecobaaGreatDoor
open Go.Abs

structure Nm where
  f : Nat
  g : ByteArray
  b : ByteArray
instance : Inhabited Nm := ⟨⟨0, .empty, .empty⟩⟩
def Nm.cells (p : Nm) : List Value := [.int .u32 (p.f : Int), .string p.g, .string p.b]
def cmpI (a b : Int) : Int := if a < b then -1 else if b < a then 1 else 0
def orL : List Int → Int
  | [] => 0
  | a :: r => if a ≠ 0 then a else orL r
def cmpS (a b : ByteArray) : Int := Go.Lib.compareBytes a.data.toList b.data.toList
def xcmp (p q : Nm) : Int := orL [cmpI (p.f : Int) (q.f : Int), cmpS p.g q.g, cmpS p.b q.b]

theorem cb_refl : ∀ a : List UInt8, Go.Lib.compareBytes a a = 0
  | [] => rfl
  | a :: xs => by simp [Go.Lib.compareBytes, cb_refl xs]
theorem cb_eq : ∀ {a b : List UInt8}, Go.Lib.compareBytes a b = 0 → a = b
  | [], [], _ => rfl
  | [], _ :: _, h => by simp [Go.Lib.compareBytes] at h
  | _ :: _, [], h => by simp [Go.Lib.compareBytes] at h
  | a :: xs, b :: ys, h => by
    simp only [Go.Lib.compareBytes] at h
    split at h
    · simp at h
    · split at h
      · simp at h
      · rename_i h1 h2
        have hab : a = b := by
          have h1 := UInt8.not_lt.1 h1
          have h2 := UInt8.not_lt.1 h2
          exact UInt8.le_antisymm h2 h1
        rw [hab, cb_eq h]
theorem cb_range : ∀ (a b : List UInt8), Go.Lib.compareBytes a b = -1 ∨ Go.Lib.compareBytes a b = 0 ∨ Go.Lib.compareBytes a b = 1
  | [], [] => .inr (.inl rfl)
  | [], _ :: _ => .inl rfl
  | _ :: _, [] => .inr (.inr rfl)
  | a :: xs, b :: ys => by
    simp only [Go.Lib.compareBytes]
    split
    · exact .inl rfl
    · split
      · exact .inr (.inr rfl)
      · exact cb_range xs ys
theorem cb_swap : ∀ (a b : List UInt8), Go.Lib.compareBytes a b = -Go.Lib.compareBytes b a
  | [], [] => rfl
  | [], _ :: _ => rfl
  | _ :: _, [] => rfl
  | a :: xs, b :: ys => by
    simp only [Go.Lib.compareBytes]
    by_cases h1 : a < b
    · have h2 : ¬ b < a := fun h => UInt8.lt_irrefl a (UInt8.lt_trans h1 h)
      rw [if_pos h1, if_neg h2, if_pos h1]
    · by_cases h2 : b < a
      · rw [if_neg h1, if_pos h2, if_pos h2]; rfl
      · rw [if_neg h1, if_neg h2, if_neg h2, if_neg h1, cb_swap xs ys]
theorem cb_trans : ∀ {a b c : List UInt8}, Go.Lib.compareBytes a b < 0 → Go.Lib.compareBytes b c < 0 → Go.Lib.compareBytes a c < 0
  | [], [], _, h, _ => by simp [Go.Lib.compareBytes] at h
  | [], _ :: _, [], _, h => by simp [Go.Lib.compareBytes] at h
  | [], _ :: _, _ :: _, _, _ => by simp [Go.Lib.compareBytes]
  | _ :: _, [], _, h, _ => by simp [Go.Lib.compareBytes] at h
  | _ :: _, _ :: _, [], _, h => by simp [Go.Lib.compareBytes] at h
  | a :: xs, b :: ys, c :: zs, h1, h2 => by
    simp only [Go.Lib.compareBytes] at h1 h2 ⊢
    by_cases p1 : a < b
    · by_cases p2 : b < c
      · rw [if_pos (UInt8.lt_trans p1 p2)]; decide
      · rw [if_neg p2] at h2
        by_cases p3 : c < b
        · rw [if_pos p3] at h2; exact absurd h2 (by decide)
        · have : b = c := UInt8.le_antisymm (UInt8.not_lt.1 p3) (UInt8.not_lt.1 p2)
          subst this
          rw [if_pos p1]; decide
    · rw [if_neg p1] at h1
      by_cases p3 : b < a
      · rw [if_pos p3] at h1; exact absurd h1 (by decide)
      · have : a = b := UInt8.le_antisymm (UInt8.not_lt.1 p3) (UInt8.not_lt.1 p1)
        subst this
        rw [if_neg p3] at h1
        by_cases p2 : a < c
        · rw [if_pos p2]; decide
        · rw [if_neg p2] at h2 ⊢
          by_cases p4 : c < a
          · rw [if_pos p4] at h2; exact absurd h2 (by decide)
          · rw [if_neg p4] at h2 ⊢
            exact cb_trans h1 h2

theorem cmpI_swap (a b : Int) : cmpI a b = -cmpI b a := by
  unfold cmpI
  split <;> split <;> first | rfl | omega
theorem cmpI_neg {a b : Int} : cmpI a b < 0 ↔ a < b := by
  unfold cmpI
  split
  · omega
  · split <;> omega
theorem cmpI_zero {a b : Int} : cmpI a b = 0 ↔ a = b := by
  unfold cmpI
  split
  · omega
  · split <;> omega
theorem ba_eq {a b : ByteArray} (h : a.data.toList = b.data.toList) : a = b := by
  obtain ⟨⟨x⟩⟩ := a
  obtain ⟨⟨y⟩⟩ := b
  have h : x = y := h
  rw [h]
theorem cmpS_zero {a b : ByteArray} : cmpS a b = 0 ↔ a = b := ⟨fun h => ba_eq (cb_eq h), fun h => by subst h; exact cb_refl _⟩
theorem cmpS_swap (a b : ByteArray) : cmpS a b = -cmpS b a := cb_swap _ _
theorem cmpS_trans {a b c : ByteArray} (h1 : cmpS a b < 0) (h2 : cmpS b c < 0) : cmpS a c < 0 := cb_trans h1 h2
theorem xcmp_def (p q : Nm) : xcmp p q = if cmpI (p.f : Int) (q.f : Int) ≠ 0 then cmpI (p.f : Int) (q.f : Int) else if cmpS p.g q.g ≠ 0 then cmpS p.g q.g else cmpS p.b q.b := by
  unfold xcmp
  simp only [orL]
  split
  · rfl
  · split
    · rfl
    · split
      · rfl
      · rename_i h; exact (Classical.not_not.1 h).symm
theorem xcmp_zero {p q : Nm} : xcmp p q = 0 ↔ p = q := by
  rw [xcmp_def]
  constructor
  · intro h
    split at h
    · exact absurd h (by assumption)
    · split at h
      · exact absurd h (by assumption)
      · rename_i h1 h2
        have k1 := cmpI_zero.1 (Classical.not_not.1 h1)
        have k2 := cmpS_zero.1 (Classical.not_not.1 h2)
        have k3 := cmpS_zero.1 h
        clear h h1 h2
        obtain ⟨f, g, b⟩ := p
        obtain ⟨f', g', b'⟩ := q
        simp only at k1 k2 k3
        have k1 : f = f' := by omega
        subst k1; subst k2; subst k3; rfl
  · rintro rfl
    rw [if_neg (by rw [cmpI_zero.2 rfl]; simp), if_neg (by rw [cmpS_zero.2 rfl]; simp)]
    exact cmpS_zero.2 rfl
theorem xcmp_swap (p q : Nm) : xcmp p q = -xcmp q p := by
  rw [xcmp_def, xcmp_def, cmpI_swap (p.f : Int), cmpS_swap p.g, cmpS_swap p.b]
  generalize cmpI (q.f : Int) (p.f : Int) = x
  generalize cmpS q.g p.g = y
  by_cases h1 : x = 0 <;> by_cases h2 : y = 0 <;> simp [h1, h2]
theorem xcmp_neg {p q : Nm} : xcmp p q < 0 ↔ (p.f < q.f ∨ (p.f = q.f ∧ (cmpS p.g q.g < 0 ∨ (p.g = q.g ∧ cmpS p.b q.b < 0)))) := by
  rw [xcmp_def]
  by_cases h1 : (p.f : Int) = q.f
  · rw [if_neg (by rw [cmpI_zero.2 h1]; simp)]
    have h1' : p.f = q.f := by omega
    by_cases h2 : p.g = q.g
    · rw [if_neg (by rw [cmpS_zero.2 h2]; simp)]
      constructor
      · exact fun h => .inr ⟨h1', .inr ⟨h2, h⟩⟩
      · rintro (h | ⟨_, h | ⟨_, h⟩⟩)
        · omega
        · rw [cmpS_zero.2 h2] at h; omega
        · exact h
    · have h2' : cmpS p.g q.g ≠ 0 := fun h => h2 (cmpS_zero.1 h)
      rw [if_pos h2']
      constructor
      · exact fun h => .inr ⟨h1', .inl h⟩
      · rintro (h | ⟨_, h | ⟨h, _⟩⟩)
        · omega
        · exact h
        · exact absurd h h2
  · rw [if_pos (fun h => h1 (cmpI_zero.1 h)), cmpI_neg]
    constructor
    · exact fun h => .inl (by omega)
    · rintro (h | ⟨h, _⟩) <;> omega
theorem xcmp_trans {p q r : Nm} (h1 : xcmp p q < 0) (h2 : xcmp q r < 0) : xcmp p r < 0 := by
  rw [xcmp_neg] at *
  rcases h1 with h1 | ⟨e1, h1⟩
  · rcases h2 with h2 | ⟨e2, _⟩ <;> exact .inl (by omega)
  · rcases h2 with h2 | ⟨e2, h2⟩
    · exact .inl (by omega)
    · refine .inr ⟨by omega, ?_⟩
      rcases h1 with h1 | ⟨g1, h1⟩
      · rcases h2 with h2 | ⟨g2, _⟩
        · exact .inl (cmpS_trans h1 h2)
        · exact .inl (by rw [← g2]; exact h1)
      · rcases h2 with h2 | ⟨g2, h2⟩
        · exact .inl (by rw [g1]; exact h2)
        · exact .inr ⟨g1.trans g2, cmpS_trans h1 h2⟩
theorem lt_iff {p q : Nm} : Go.Proofs.ltOf xcmp p q = true ↔ xcmp p q < 0 := by unfold Go.Proofs.ltOf; simp
theorem lt_not {p q : Nm} : Go.Proofs.ltOf xcmp p q = false ↔ 0 ≤ xcmp p q := by unfold Go.Proofs.ltOf; simp
theorem xcmp_swo : Go.Sort.SWO (Go.Proofs.ltOf xcmp) where
  irrefl x := by rw [lt_not, xcmp_zero.2 rfl]; exact Int.le_refl _
  trans x y z h1 h2 := lt_iff.2 (xcmp_trans (lt_iff.1 h1) (lt_iff.1 h2))
  ntrans x y z h1 h2 := by
    rw [lt_not] at *
    rw [xcmp_swap] at h1 h2 ⊢
    by_cases e1 : xcmp y x = 0
    · have := xcmp_zero.1 e1; subst this; exact h2
    · by_cases e2 : xcmp z y = 0
      · have := xcmp_zero.1 e2; subst this; exact h1
      · have := xcmp_trans (show xcmp z y < 0 by omega) (show xcmp y x < 0 by omega)
        omega
theorem xcmp_total (x y : Nm) (h1 : Go.Proofs.ltOf xcmp x y = false) (h2 : Go.Proofs.ltOf xcmp y x = false) : x = y := by
  rw [lt_not] at h1 h2
  rw [xcmp_swap] at h2
  exact xcmp_zero.1 (by omega)

theorem ext369 (a b : ByteArray) : quiet Tryz.prog (callFunc 369 ⟨[.string a, .string b]⟩) = some (.value (.int .i64 (Go.Extern.BytealgCompare.cmp a b))) := by kernel_rfl
section
variable {W0 : World} {m0 : Inj Tryz.prog}
theorem wc304 {a b : ByteArray} {A : AW} {K : Value → AW → Prop} (hk : K (.int .i64 (cmpS a b)) A) : Wc Tryz.prog theX W0 m0 304 [.string a, .string b] A K := by
  refine w304 _ _ _ (cuts_none (S := fun _ _ _ => False) fun _ _ _ h => h) ?_
  rw [e304]
  have hb : hasBody Tryz.prog 369 = false := by kernel_rfl
  have hcf : callFuncA Tryz.prog theX A 369 [.string a, .string b] = .ok (.value (.int .i64 (cmpS a b))) A := by
    unfold callFuncA
    have hc : ([Value.string a, .string b].all (closedV 4)) = true := rfl
    simp only [hb, cond_false, theX, memN, hc, cond_true, ext369, Go.Lib.cmp_eq]
    rfl
  exact .inl ⟨_, _, hcf, hk⟩
theorem wc214 {a b : ByteArray} {A : AW} {K : Value → AW → Prop} (hk : K (.int .i64 (cmpS a b)) A) : Wc Tryz.prog theX W0 m0 214 [.string a, .string b] A K := by
  refine w214 _ _ _ (cuts_none (S := fun _ _ _ => False) fun _ _ _ h => h) ?_
  rw [e214]
  exact wc304 hk
theorem wc303 {n : Int} {A : AW} {K : Value → AW → Prop} (hk : K (.bool false) A) : Wc Tryz.prog theX W0 m0 303 [.int .u32 n] A K := by
  refine w303 _ _ (cuts_none (S := fun _ _ _ => False) fun _ _ _ h => h) ?_
  rw [e303]
  have : (n != n) = false := by simp
  simp only [bin_neq, pureW_some, this]
  exact hk
theorem wc213 {n m : Int} {A : AW} {K : Value → AW → Prop} (hk : K (.int .i64 (cmpI n m)) A) : Wc Tryz.prog theX W0 m0 213 [.int .u32 n, .int .u32 m] A K := by
  refine w213 _ _ _ (cuts_none (S := fun _ _ _ => False) fun _ _ _ h => h) ?_
  rw [e213]
  refine wc303 (wc303 ?_)
  refine forkW_bool.2 ⟨fun h => by simp at h, fun _ => forkW_bool.2 ⟨fun h => by simp at h, fun _ => ?_⟩⟩
  simp only [bin_lss, bin_gtr, pureW_some, forkW_dec]
  unfold cmpI at hk
  refine ⟨fun h => ?_, fun h => ⟨fun h2 => ?_, fun h2 => ?_⟩⟩
  · rw [if_pos h] at hk; exact hk
  · rw [if_neg h, if_pos h2] at hk; exact hk
  · rw [if_neg h, if_neg h2] at hk; exact hk
theorem ia174 {q n i : Nat} (hi : i < n) : indexAddrA Tryz.prog 174 (.slice (some ⟨q, 0, none⟩) n n) (.int .i64 (i : Int)) = some (.pointer (some ⟨q, i, none⟩)) := by
  show indexAddrA Tryz.prog 174 _ (.int .i64 (.ofNat i)) = _
  rw [ia_174, blt_true.2 hi, cond_true]
  unfold addA
  cases hb : Nat.beq (i * 1) 0 with
  | true => rw [cond_true]; have := Nat.eq_of_beq_eq_true hb; rw [Nat.mul_one] at this; rw [this]
  | false => rw [cond_false, Nat.mul_one, Nat.zero_add]
theorem wc212 {q : Nat} {a b c : Int} {A : AW} {K : Value → AW → Prop} (hr : Go.Abs.Row1 A q [.int .i64 a, .int .i64 b, .int .i64 c] 3) (hk : K (.int .i64 (orL [a, b, c])) A) : Wc Tryz.prog theX W0 m0 212 [.slice (some ⟨q, 0, none⟩) 3 3] A K := by
  let I : Nat → Nat → List Value → AW → Prop := fun g id vals A' => id = 0 ∧ A' = A ∧ ∃ i : Nat, vals = [.int .i64 0, .slice (some ⟨q, 0, none⟩) 3 3, .int .i64 3, .int .i64 (i : Int)] ∧ g = 3 - i ∧ i ≤ 3 ∧ orL [a, b, c] = orL ([a, b, c].drop i)
  refine w212 _ _ (c212 (I := I) ?_) ?_
  · rintro g id vals A' d ⟨rfl, rfl, i, rfl, rfl, hi, ho⟩ hd
    rw [l212_0]
    simp only [L212, List.map_cons, List.map_nil, List.cons.injEq, and_true] at hd
    obtain ⟨h3, h6, h7, h8⟩ := hd
    simp only [h3, h6, h7, h8, bin_lss, pureW_some, forkW_dec]
    have hcase : i = 0 ∨ i = 1 ∨ i = 2 ∨ i = 3 := by omega
    have fin : ∀ {x : Int} {r : List Int}, [a, b, c].drop i = x :: r → loadP Tryz.prog A' 3 (.pointer (some ⟨q, i, none⟩)) = some (.int .i64 x) → i < 3 →
        pureW (loadP Tryz.prog A' 3 (.pointer (some ⟨q, i, none⟩))) fun t2 => pureW (binA Tryz.prog .neq 3 (.tmp 12) (.tmp 13) t2 (.int .i64 0)) fun t3 => forkW t3 (K t2 A') (pureW (binA Tryz.prog .add 3 (.tmp 8) (.const (.int .i64 1)) (.int .i64 (i : Int)) (.int .i64 1)) fun t4 => cutW (T212 0) (T212 0) (∃ g', g' < 3 - i ∧ I g' 0 [.int .i64 0, .slice (some ⟨q, 0, none⟩) 3 3, .int .i64 3, t4] A')) := by
      intro x r hdr hld hlt
      rw [hld]
      simp only [pureW_some, bin_neq, forkW_bne, bin_add]
      rw [hdr] at ho
      refine ⟨fun hx => ?_, fun hx => ?_⟩
      · rw [ho] at hk
        simp only [orL] at hk
        rw [if_pos hx] at hk
        exact hk
      · rw [wrap_i64 (by omega) (by omega)]
        refine cutW_self.2 ⟨3 - (i + 1), by omega, rfl, rfl, i + 1, rfl, rfl, by omega, ?_⟩
        have : [a, b, c].drop (i + 1) = r := by rw [← List.drop_drop, hdr]; rfl
        rw [this, ho]
        simp only [orL]
        rw [if_neg (by simp [hx])]
    rcases hcase with rfl | rfl | rfl | rfl
    · refine ⟨fun _ => ?_, fun h => absurd (by decide) h⟩
      rw [ia174 (by decide)]
      simp only [pureW_some]
      exact fin rfl (by rw [ld_3, cell_row hr.row]; rfl) (by decide)
    · refine ⟨fun _ => ?_, fun h => absurd (by decide) h⟩
      rw [ia174 (by decide)]
      simp only [pureW_some]
      exact fin rfl (by rw [ld_3, cell_row hr.row]; rfl) (by decide)
    · refine ⟨fun _ => ?_, fun h => absurd (by decide) h⟩
      rw [ia174 (by decide)]
      simp only [pureW_some]
      exact fin rfl (by rw [ld_3, cell_row hr.row]; rfl) (by decide)
    · refine ⟨fun h => absurd h (by decide), fun _ => ?_⟩
      rw [ho] at hk
      exact hk
  · rw [e212]
    simp only [ln_174, pureW_some]
    exact cutW_self.2 ⟨3, rfl, rfl, 0, rfl, rfl, by decide, rfl⟩
theorem newSlice3 {A : AW} {a b c : Int} {K : Value → AW → Prop} (hf : Fine A) (h : A.next < maxId) (hk : ∀ A', Made A A' [.int .i64 a, .int .i64 b, .int .i64 c] 3 → K (.slice (some ⟨A.next, 0, none⟩) 3 3) A') : bothW (buildSliceA Tryz.prog A 174 3 [(0, .int .i64 a), (1, .int .i64 b), (2, .int .i64 c)]) K := by
  rw [bs174]
  unfold AW.newRow AW.new
  have hc : ([Value.int .i64 a, .int .i64 b, .int .i64 c].all oneCell) = true := rfl
  simp only [hc, cond_true, blt_true.2 h]
  exact bothW_ok.2 (hk (A.push (.row [.int .i64 a, .int .i64 b, .int .i64 c] 3 A.next 0 false)) ⟨AW.push_ext _ h, rfl, by rw [AW.push_get _ h, if_pos rfl], hf.alone (Nat.le_refl _), hf.push _ h⟩)
theorem freshW_174 {a b c : Int} {A : AW} {q : Nat} {p : Prop} (h : A.get q = some (.row [.int .i64 a, .int .i64 b, .int .i64 c] 3 q 0 false)) (hp : p) : freshW (freshOf Tryz.prog (evalT (Tm.fill ⟨3, .nil⟩ 0 [.int .i64 a, .int .i64 b, .int .i64 c])) (.buildSlice 174 3 #[(0, .tmp 0), (1, .tmp 1), (2, .tmp 2)])) A (.slice (some ⟨q, 0, none⟩) 3 3) p := by
  refine ⟨⟨_, fresh174 a b c, ?_⟩, hp⟩
  simp only [stillFresh, rowHas, h, sameL, same_int, Bool.and_self, Option.isNone_none, Bool.true_and, Nat.beq_refl]
theorem wc131 {p q : Nm} {A : AW} {K : Value → AW → Prop} (hf : Fine A) (hA : A.next + 5 < maxId) (hk : ∀ A', Grow A A' 3 → K (.int .i64 (xcmp p q)) A') : Wc Tryz.prog theX W0 m0 131 [.agg ⟨p.cells⟩, .agg ⟨q.cells⟩] A K := by
  refine w131 _ _ _ (cuts_none (S := fun _ _ _ => False) fun _ _ _ h => h) ?_
  rw [e131]
  refine newP_made (cs := p.cells) hf (by omega) rfl fun A1 m1 => ?_
  have n1 := m1.next
  refine newP_made (cs := q.cells) m1.fine (by omega) rfl fun A2 m2 => ?_
  have n2 := m2.next
  have g2 := (Grow.made m1 hf).trans (.made m2 m1.fine)
  have r1 : Go.Abs.Row1 A2 A.next [.int .u32 (p.f : Int), .string p.g, .string p.b] 24 := (m1.row1).keeps (m2.keeps m1.fine) (by simp)
  have r2 : Go.Abs.Row1 A2 A1.next [.int .u32 (q.f : Int), .string q.g, .string q.b] 24 := m2.row1
  simp only [fa_24_0, fa_24_1, fa_24_2, ld_22, ld_9, cell_row r1.row, cell_row r2.row, cellOf, isTuple, cond_false, pureW_some, Nat.zero_add]
  refine wc213 ?_
  simp only [cell_row r1.row, cell_row r2.row, cellOf, isTuple, cond_false, pureW_some, eqW_self]
  refine wc214 ?_
  simp only [cell_row r1.row, cell_row r2.row, cellOf, isTuple, cond_false, pureW_some, eqW_self]
  refine wc214 ?_
  refine newSlice3 m2.fine (by omega) fun A3 m3 => ?_
  have n3 := m3.next
  have q1 := r1.keeps (m3.keeps m2.fine) (by simp)
  have q2 := r2.keeps (m3.keeps m2.fine) (by simp)
  refine freshW_174 m3.row ?_
  simp only [cell_row q1.row, cell_row q2.row, cellOf, isTuple, cond_false, pureW_some, eqW_self]
  exact wc212 m3.row1 (hk A3 (g2.trans (.made m3 m2.fine)))
end
end Go.Proofs.YtjiglbmjhecobaaGreatDoor


namespace Go.Proofs.YtjiglbmjhecobaaGreatDoor
open Go.Abs

def RdN (A : AW) (v : Value) (l : List Nm) (F : List Nat) : Prop :=
  (l = [] ∧ F = [] ∧ ∃ o c, v = .slice o 0 c) ∨ ∃ r o c cs e f b ro, v = .slice (some ⟨r, o, none⟩) l.length c ∧ A.get r = some (.row cs e f b ro) ∧ f < A.next ∧ F = [f] ∧ ∀ (i : Nat) p, l[i]? = some p → ∃ rest, cs.drop (o + i * 3) = p.cells ++ rest
theorem RdN.keeps {A A' : AW} {v : Value} {l : List Nm} {F S : List Nat} (h : RdN A v l F) (k : Keeps A A' S) (hd : ∀ x ∈ F, x ∉ S) : RdN A' v l F := by
  rcases h with h | ⟨r, o, c, cs, e, f, b, ro, h1, h2, h3, rfl, h4⟩
  · exact .inl h
  · exact .inr ⟨r, o, c, cs, e, f, b, ro, h1, k.get r _ h2 h3 (hd f (by simp)), Nat.lt_of_lt_of_le h3 k.next, rfl, h4⟩
theorem RdN.one {A : AW} {v : Value} {l : List Nm} {F : List Nat} (h : RdN A v l F) : oneCell v = true ∧ isTuple v = false := by
  rcases h with ⟨_, _, o, c, rfl⟩ | ⟨r, o, c, cs, e, f, b, ro, rfl, _⟩ <;> exact ⟨rfl, rfl⟩
theorem RdN.slice {A : AW} {v : Value} {l : List Nm} {F : List Nat} (h : RdN A v l F) : ∃ o c, v = .slice o l.length c := by
  rcases h with ⟨rfl, _, o, c, rfl⟩ | ⟨r, o, c, cs, e, f, b, ro, rfl, _⟩ <;> exact ⟨_, _, rfl⟩
theorem RdN.len {A B : AW} {v : Value} {l : List Nm} {F : List Nat} (h : RdN A v l F) : lenA Tryz.prog B 27 v = some (.int .i64 (l.length : Int)) := by
  rcases h with ⟨rfl, _, o, c, rfl⟩ | ⟨r, o, c, cs, e, f, b, ro, rfl, _⟩ <;> exact ln_27 _ _ _ _
theorem RdN.at {A : AW} {v : Value} {l : List Nm} {F : List Nat} (h : RdN A v l F) {i : Nat} {p : Nm} (hi : l[i]? = some p) :
    ∃ r o, indexAddrA Tryz.prog 27 v (.int .i64 (i : Int)) = some (.pointer (some ⟨r, o, none⟩)) ∧ A.cells? ⟨r, o, none⟩ 3 = some p.cells := by
  rcases h with ⟨rfl, _⟩ | ⟨r, o, c, cs, e, f, b, ro, rfl, h2, h3, _, h4⟩
  · simp at hi
  · have hlt : i < l.length := (List.getElem?_eq_some_iff.1 hi).1
    obtain ⟨rest, hr⟩ := h4 i p hi
    refine ⟨r, o + i * 3, ?_, ?_⟩
    · show indexAddrA Tryz.prog 27 _ (.int .i64 (.ofNat i)) = _
      rw [ia_27, blt_true.2 hlt, cond_true]
      unfold addA
      cases hb : Nat.beq (i * 3) 0 with
      | true => rw [cond_true, Nat.eq_of_beq_eq_true hb, Nat.add_zero]
      | false => rfl
    · rw [cells_row h2, hr]; simp [Nm.cells, takeCells, isTuple]
theorem RdN.fam {A : AW} {v : Value} {l : List Nm} {F : List Nat} (h : RdN A v l F) : ∀ x ∈ F, x < A.next := by
  rcases h with ⟨_, rfl, _⟩ | ⟨r, o, c, cs, e, f, b, ro, _, _, h3, rfl, _⟩
  · simp
  · simpa using h3
theorem RdN.nil (A : AW) (o : Option Addr) (c : Nat) : RdN A (.slice o 0 c) [] [] := .inl ⟨rfl, rfl, o, c, rfl⟩

def OwnN (A : AW) (v : Value) (l : List Nm) (F : List Nat) : Prop := OwnG A 24 3 v l.length (flat Nm.cells l) F
theorem nm_len (p : Nm) : p.cells.length = 3 := rfl
theorem flat3 (l : List Nm) : (flat Nm.cells l).length = l.length * 3 := flat_length nm_len l
theorem flat_app (a b : List Nm) : flat Nm.cells (a ++ b) = flat Nm.cells a ++ flat Nm.cells b := by simp [flat]
theorem OwnN.rd {A : AW} {v : Value} {l : List Nm} {F : List Nat} (h : OwnN A v l F) : RdN A v l F := by
  rcases h with ⟨rfl, h2, _, rfl⟩ | ⟨b, f, rfl, h2, rfl⟩
  · have : l = [] := List.eq_nil_of_length_eq_zero h2
    subst this
    exact .nil _ _ _
  · exact .inr ⟨b, 0, _, _, _, f, 0, false, rfl, h2.row, h2.ltf, rfl, fun i p hi => by rw [Nat.zero_add]; exact flat_drop nm_len l i p hi⟩
theorem OwnN.keeps {A A' : AW} {v : Value} {l : List Nm} {F S : List Nat} (h : OwnN A v l F) (k : Keeps A A' S) (hd : ∀ x ∈ F, x ∉ S) : OwnN A' v l F := OwnG.keeps h k hd
theorem OwnN.nil (A : AW) : OwnN A (.slice none 0 0) [] [] := OwnG.nil _ _ _
theorem OwnN.lt {A : AW} {v : Value} {l : List Nm} {F : List Nat} (h : OwnN A v l F) : ∀ x ∈ F, x < A.next := OwnG.lt h

theorem se27 : sliceElemT Tryz.prog 27 = some 24 := by kernel_rfl
theorem sz24 : szT Tryz.prog 24 = some 3 := by kernel_rfl
theorem by24 : bytesT Tryz.prog 24 = some 40 := by kernel_rfl
theorem hz24 : hasZero Tryz.prog 24 3 = true := by kernel_rfl
theorem us27 : Tryz.prog.underlying 27 = some (.slice 24) := by kernel_rfl
theorem bslice27 {A : AW} {p : Nm} {K : Value → AW → Prop} (hf : Fine A) (h : A.next < maxId) (hk : ∀ A', Made A A' p.cells 24 → K (.slice (some ⟨A.next, 0, none⟩) 1 1) A') : bothW (buildSliceA Tryz.prog A 27 1 [(0, .agg ⟨p.cells⟩)]) K := by
  show bothW (buildSliceA Tryz.prog A 27 1 [(0, .agg ⟨[.int .u32 (p.f : Int), .string p.g, .string p.b]⟩)]) K
  rw [bs27]
  unfold AW.newRow AW.new
  have hc : ([Value.int .u32 (p.f : Int), .string p.g, .string p.b].all oneCell) = true := rfl
  simp only [hc, cond_true, blt_true.2 h]
  exact bothW_ok.2 (hk (A.push (.row p.cells 24 A.next 0 false)) ⟨AW.push_ext _ h, rfl, by rw [AW.push_get _ h, if_pos rfl], hf.alone (Nat.le_refl _), hf.push _ h⟩)
theorem OwnN.append {A : AW} {v : Value} {l : List Nm} {F : List Nat} {p : Nm} {q : Nat} {K : Value → AW → Prop} (h : OwnN A v l F) (hq : Go.Abs.Row1 A q p.cells 24) (hf : Fine A) (hA : A.next < maxId) (hl : l.length < 1000000)
    (hk : ∀ v' A' F', OwnN A' v' (l ++ [p]) F' → Keeps A A' F → (∀ x ∈ F', x ∈ F ∨ x = A.next) → A'.next = A.next + 1 → Fine A' → K v' A') : bothW (appendA Tryz.prog A 27 27 v (.slice (some ⟨q, 0, none⟩) 1 1)) K := by
  have hroom : room = 68719476736 := rfl
  have hx : sourceZ Tryz.prog A 24 27 (2 + 1) (.slice (some ⟨q, 0, none⟩) 1 1) = some (0 + 1, p.cells) := by
    unfold sourceZ
    rw [us27]
    show sourceA A 3 (.slice (some ⟨q, 0, none⟩) 1 1) = _
    unfold sourceA
    simp only [cells_row hq.row]
    simp [Nm.cells, takeCells, isTuple]
  refine appendG (m := 0) (size := 2) se27 sz24 by24 hz24 hx rfl rfl h hf hA (by omega) (by omega) fun v' A' F' h1 h2 h3 h4 h5 => ?_
  refine hk v' A' F' ?_ h2 h3 h4 h5
  show OwnG A' 24 3 v' (l ++ [p]).length (flat Nm.cells (l ++ [p])) F'
  rw [List.length_append, flat_app]
  have e : flat Nm.cells [p] = p.cells := by simp [flat]
  rw [e]
  exact h1
theorem set_split {l : List Nm} {i : Nat} (p : Nm) (hi : i < l.length) : l.set i p = l.take i ++ p :: l.drop (i + 1) := List.set_eq_take_append_cons_drop.trans (by rw [if_pos hi])
theorem setL_flat {l : List Nm} {i : Nat} (p : Nm) (hi : i < l.length) : setL (flat Nm.cells l) (i * 3) p.cells = flat Nm.cells (l.set i p) := by
  have e : l = l.take i ++ (l[i] :: l.drop (i + 1)) := by rw [← List.drop_eq_getElem_cons hi, List.take_append_drop]
  rw [set_split p hi]
  conv => lhs; arg 1; rw [e]
  have e2 : flat Nm.cells (l.take i ++ l[i] :: l.drop (i + 1)) = flat Nm.cells (l.take i) ++ (l[i].cells ++ flat Nm.cells (l.drop (i + 1))) := by
    rw [flat_app]; unfold flat; rw [List.flatMap_cons]
  have e3 : flat Nm.cells (l.take i ++ p :: l.drop (i + 1)) = flat Nm.cells (l.take i) ++ (p.cells ++ flat Nm.cells (l.drop (i + 1))) := by
    rw [flat_app]; unfold flat; rw [List.flatMap_cons]
  have e4 : i * 3 = (flat Nm.cells (l.take i)).length := by rw [flat3, List.length_take]; omega
  rw [e2, e3, e4]
  exact setL_mid _ _ _ _ rfl
theorem st24' (A : AW) (a : Addr) (p : Nm) : storeP Tryz.prog A 24 (.pointer (some a)) (.agg ⟨p.cells⟩) = (bif Nat.beq (Value.cells (.agg ⟨p.cells⟩)).toList.length 3 then A.setCells a (Value.cells (.agg ⟨p.cells⟩)).toList else none) := st_24 _ _ _
theorem OwnN.store {A : AW} {b : Nat} {l : List Nm} {F : List Nat} {i : Nat} {p : Nm} {K : AW → Prop} (h : OwnN A (.slice (some ⟨b, 0, none⟩) l.length (capU + l.length)) l F) (hi : i < l.length) (hf : Fine A) (hA : A.next ≤ maxId)
    (hk : ∀ A', OwnN A' (.slice (some ⟨b, 0, none⟩) l.length (capU + l.length)) (l.set i p) F → Keeps A A' F → A'.next = A.next → Fine A' → K A') : effW (storeP Tryz.prog A 24 (.pointer (some ⟨b, i * 3, none⟩)) (.agg ⟨p.cells⟩)) K := by
  refine storeG h hf hA (st24' _ _ p) rfl (by rw [flat3]; omega) rfl fun A' h1 h2 h3 h4 => ?_
  refine hk A' ?_ h2 h3 h4
  show OwnG A' 24 3 _ (l.set i p).length (flat Nm.cells (l.set i p)) F
  rw [List.length_set, ← setL_flat p hi]
  exact h1
theorem slice_from27 {A : AW} {b n i : Nat} {cs : List Value} {f b0 : Nat} {ro : Bool} (hr : A.get b = some (.row cs 24 f b0 ro)) (hi : i ≤ n) : sliceA Tryz.prog A 27 (.slice (some ⟨b, 0, none⟩) n (capU + n)) (some (.int .i64 (i : Int))) none none = some (.slice (some ⟨b, i * 3, none⟩) (n - i) (capU + (n - i))) := by
  show sliceA Tryz.prog A 27 _ (some (.int .i64 (.ofNat i))) none none = _
  have hrow : rowIs A (some ⟨b, 0, none⟩) 24 = true := by unfold rowIs; simp only [hr]; exact beq_true.2 rfl
  have hm : moved (some ⟨b, 0, none⟩) (i * 3) = some ⟨b, i * 3, none⟩ := by
    show some (bif Nat.beq (i * 3) 0 then (⟨b, 0, none⟩ : Addr) else ⟨b, 0 + i * 3, none⟩) = _
    cases hb : Nat.beq (i * 3) 0 with
    | true => rw [cond_true, Nat.eq_of_beq_eq_true hb]
    | false => rw [cond_false, Nat.zero_add]
  unfold sliceA
  simp only [us27, sz24, ble_true.2 (show capU ≤ capU + n by omega), cond_true, bounds, okMax, boundA, Nat.add_sub_cancel_left, ble_true.2 hi, ble_true.2 (Nat.le_refl n), Option.isSome_none, Bool.not_false, Bool.or_true, hrow, Bool.and_self, hm]
theorem slice_to27 {A : AW} {b n i : Nat} {cs : List Value} {f b0 : Nat} {ro : Bool} (hr : A.get b = some (.row cs 24 f b0 ro)) (hi : i ≤ n) : sliceA Tryz.prog A 27 (.slice (some ⟨b, 0, none⟩) n (capU + n)) none (some (.int .i64 (i : Int))) none = some (.slice (some ⟨b, 0, none⟩) i (capU + n)) := by
  show sliceA Tryz.prog A 27 _ none (some (.int .i64 (.ofNat i))) none = _
  have hrow : rowIs A (some ⟨b, 0, none⟩) 24 = true := by unfold rowIs; simp only [hr]; exact beq_true.2 rfl
  have hm : moved (some ⟨b, 0, none⟩) (0 * 3) = some ⟨b, 0, none⟩ := rfl
  unfold sliceA
  simp only [us27, sz24, ble_true.2 (show capU ≤ capU + n by omega), cond_true, bounds, okMax, boundA, Nat.add_sub_cancel_left, ble_true.2 hi, Nat.sub_zero, Option.isSome_some, Option.isSome_none, Bool.not_false, Bool.or_true, hrow, Bool.and_self, hm]
theorem ia27 {b o n c i : Nat} (hi : i < n) : indexAddrA Tryz.prog 27 (.slice (some ⟨b, o, none⟩) n c) (.int .i64 (i : Int)) = some (.pointer (some ⟨b, o + i * 3, none⟩)) := by
  show indexAddrA Tryz.prog 27 _ (.int .i64 (.ofNat i)) = _
  rw [ia_27, blt_true.2 hi, cond_true]
  unfold addA
  cases hb : Nat.beq (i * 3) 0 with
  | true => rw [cond_true, Nat.eq_of_beq_eq_true hb, Nat.add_zero]
  | false => rfl
theorem OwnN.load {A : AW} {b n c : Nat} {l : List Nm} {F : List Nat} {i : Nat} {p : Nm} (h : OwnN A (.slice (some ⟨b, 0, none⟩) n c) l F) (hi : l[i]? = some p) : loadP Tryz.prog A 24 (.pointer (some ⟨b, i * 3, none⟩)) = some (.agg ⟨p.cells⟩) := by
  rcases h with ⟨h1, _⟩ | ⟨b', f, h1, h2, rfl⟩
  · cases h1
  · simp only [Value.slice.injEq, Option.some.injEq, Addr.mk.injEq, and_true] at h1
    obtain ⟨rfl, _⟩ := h1
    obtain ⟨rest, hr⟩ := flat_drop nm_len l i p hi
    rw [ld_24, cells_row h2.row, hr]
    simp [Nm.cells, takeCells, isTuple]
set_option maxRecDepth 100000 in
theorem neq24 (f f' : Int) (g g' b b' : ByteArray) (xo yo : Operand) : binA Tryz.prog .neq 24 xo yo (.agg ⟨[.int .u32 f, .string g, .string b]⟩) (.agg ⟨[.int .u32 f', .string g', .string b']⟩) = some (.bool !(sameX f f' g g' b b')) := by
  have hg : eqGuardA Tryz.prog 24 xo yo (.agg ⟨[.int .u32 f, .string g, .string b]⟩) (.agg ⟨[.int .u32 f', .string g', .string b']⟩) = true := by
    show (!Tryz.prog.eqGuardType Tryz.prog.depth 24) = true
    kernel_rfl
  show (bif eqGuardA Tryz.prog 24 xo yo (.agg ⟨[.int .u32 f, .string g, .string b]⟩) (.agg ⟨[.int .u32 f', .string g', .string b']⟩) then (match eqA Tryz.prog 24 (.agg ⟨[.int .u32 f, .string g, .string b]⟩) (.agg ⟨[.int .u32 f', .string g', .string b']⟩) with | some b => some (Value.bool !b) | none => none) else none) = _
  rw [hg, cond_true]
  have he : eqA Tryz.prog 24 (.agg ⟨[.int .u32 f, .string g, .string b]⟩) (.agg ⟨[.int .u32 f', .string g', .string b']⟩) = some (sameX f f' g g' b b') := by
    unfold eqA
    have hc : (closedV 4 (.agg ⟨[.int .u32 f, .string g, .string b]⟩) && closedV 4 (.agg ⟨[.int .u32 f', .string g', .string b']⟩)) = true := rfl
    rw [hc, cond_true]
    exact quiet24 f f' g g' b b'
  rw [he]
theorem neqN (p q : Nm) (xo yo : Operand) : binA Tryz.prog .neq 24 xo yo (.agg ⟨p.cells⟩) (.agg ⟨q.cells⟩) = some (.bool !(sameX (p.f : Int) (q.f : Int) p.g q.g p.b q.b)) := neq24 _ _ _ _ _ _ _ _
theorem eqN (p q : Nm) (xo yo : Operand) : binA Tryz.prog .eql 24 xo yo (.agg ⟨p.cells⟩) (.agg ⟨q.cells⟩) = some (.bool (sameX (p.f : Int) (q.f : Int) p.g q.g p.b q.b)) := eq24 _ _ _ _ _ _ _ _
theorem sameX_iff {p q : Nm} : sameX (p.f : Int) (q.f : Int) p.g q.g p.b q.b = true ↔ p = q := by
  unfold sameX
  simp only [Bool.and_eq_true, beq_iff_eq]
  constructor
  · rintro ⟨h1, h2, h3⟩
    have k1 : p.f = q.f := by omega
    have k2 := ba_eq h2
    have k3 := ba_eq h3
    clear h1 h2 h3
    obtain ⟨f, g, b⟩ := p
    obtain ⟨f', g', b'⟩ := q
    simp only at k1 k2 k3
    subst k1; subst k2; subst k3; rfl
  · rintro rfl; exact ⟨rfl, rfl, rfl⟩
theorem sameX_not {p q : Nm} : sameX (p.f : Int) (q.f : Int) p.g q.g p.b q.b = false ↔ p ≠ q := by
  rw [← Bool.not_eq_true, sameX_iff]

section
variable {W0 : World} {m0 : Inj Tryz.prog}
noncomputable def eqL (a b : List Nm) : Bool := @decide (a = b) (Classical.propDecidable _)
theorem eqL_true {a b : List Nm} (h : a = b) : eqL a b = true := by unfold eqL; simp [h]
theorem eqL_false {a b : List Nm} (h : a ≠ b) : eqL a b = false := by unfold eqL; simp [h]
theorem wc37 {v1 v2 : Value} {l1 l2 : List Nm} {F1 F2 : List Nat} {A : AW} {K : Value → AW → Prop} (h1 : RdN A v1 l1 F1) (h2 : RdN A v2 l2 F2) (hl : l1.length < 1000000) (hk : K (.bool (eqL l1 l2)) A) : Wc Tryz.prog theX W0 m0 37 [v1, v2] A K := by
  let I : Nat → Nat → List Value → AW → Prop := fun g id vals A' => id = 0 ∧ A' = A ∧ ∃ i : Nat, vals = [v1, v2, .int .i64 (l1.length : Int), .int .i64 (i : Int)] ∧ g = l1.length - i ∧ i ≤ l1.length ∧ l1.length = l2.length ∧ ∀ j, j < i → l1[j]? = l2[j]?
  refine w37 _ _ _ (c37 (I := I) ?_) ?_
  · rintro g id vals A' d ⟨rfl, rfl, i, rfl, rfl, hi, hlen, hs⟩ hd
    rw [l37_0]
    simp only [L37, List.map_cons, List.map_nil, List.cons.injEq, and_true] at hd
    obtain ⟨h0, h1', h12, h13⟩ := hd
    simp only [h0, h1', h12, h13, bin_lss, pureW_some, forkW_dec]
    refine ⟨fun hlt => ?_, fun hge => ?_⟩
    · have hlt : i < l1.length := by omega
      have hp := List.getElem?_eq_getElem hlt
      have hq := List.getElem?_eq_getElem (show i < l2.length by omega)
      obtain ⟨r, o, a1, a2⟩ := h1.at hp
      obtain ⟨r', o', b1, b2⟩ := h2.at hq
      simp only [a1, b1, ld_24, a2, b2, pureW_some, neqN, bin_add]
      rw [wrap_i64 (by omega) (by omega)]
      refine forkW_bool.2 ⟨fun h => ?_, fun h => ?_⟩
      · have hne : l1[i] ≠ l2[i]'(by omega) := sameX_not.1 (by simpa using h)
        rw [eqL_false (fun e => hne (by simp [e]))] at hk
        exact hk
      · have he : l1[i] = l2[i]'(by omega) := sameX_iff.1 (by simpa using h)
        refine cutW_self.2 ⟨l1.length - (i + 1), by omega, rfl, rfl, i + 1, rfl, rfl, by omega, hlen, fun j hj => ?_⟩
        by_cases hji : j = i
        · subst hji; rw [hp, hq, he]
        · exact hs j (by omega)
    · have : l1 = l2 := List.ext_getElem? fun j => by
        by_cases hj : j < i
        · exact hs j hj
        · rw [List.getElem?_eq_none (by omega), List.getElem?_eq_none (by omega)]
      rw [eqL_true this] at hk
      exact hk
  · rw [e37]
    simp only [h1.len, h2.len, bin_neq, pureW_some, forkW_bne]
    refine ⟨fun hne => ?_, fun he => ?_⟩
    · rw [eqL_false (fun e => hne (by rw [e]))] at hk
      exact hk
    · exact cutW_self.2 ⟨l1.length, rfl, rfl, 0, rfl, rfl, by omega, by omega, fun j hj => by omega⟩
end
end Go.Proofs.YtjiglbmjhecobaaGreatDoor


namespace Go.Proofs.YtjiglbmjhecobaaGreatDoor
open Go.Abs

def NoAdj (l : List Nm) : Prop := ∀ i p q, l[i]? = some p → l[i + 1]? = some q → p ≠ q
section
variable {W0 : World} {m0 : Inj Tryz.prog}
set_option maxRecDepth 100000 in
theorem wc132 {v : Value} {l : List Nm} {F : List Nat} {A : AW} {K : Value → AW → Prop} (h : OwnN A v l F) (hf : Fine A) (hA : A.next ≤ maxId) (hl : l.length < 1000000) (hF : ∀ x ∈ F, x < A.next)
    (hk : ∀ A' v' l' F', RdN A' v' l' F' → (∀ x ∈ F', x ∈ F) → Keeps A A' F → A'.next = A.next → Fine A' → (NoAdj l → l' = l) → (¬ NoAdj l → l'.length < l.length) → K v' A') : Wc Tryz.prog theX W0 m0 132 [v] A K := by
  let I : Nat → Nat → List Value → AW → Prop := fun g id vals A' =>
    (id = 0 ∧ A' = A ∧ ∃ i : Nat, vals = [v, .int .i64 (i : Int)] ∧ g = 3000000 - i ∧ 1 ≤ i ∧ i ≤ l.length ∧ ∀ j p q, j + 1 < i → l[j]? = some p → l[j + 1]? = some q → p ≠ q) ∨
    (id = 2 ∧ ¬ NoAdj l ∧ ∃ (b k0 k k2 : Nat) (m : List Nm), vals = [v, .int .i64 (k : Int), .slice (some ⟨b, k0 * 3, none⟩) (l.length - k0) (capU + (l.length - k0)), .int .i64 (k2 : Int)] ∧ v = .slice (some ⟨b, 0, none⟩) l.length (capU + l.length) ∧ m.length = l.length ∧
      OwnN A' v m F ∧ Keeps A A' F ∧ A'.next = A.next ∧ Fine A' ∧ g = 1000000 - k2 ∧ 1 ≤ k2 ∧ 1 ≤ k0 ∧ k0 + k2 ≤ l.length ∧ k < k0 + k2)
  refine w132 _ _ (c132 (I := I) ?_) ?_
  · rintro g id vals A' d (⟨rfl, rfl, i, rfl, rfl, h1, hi, hs⟩ | ⟨rfl, hadj, b, k0, k, k2, m, rfl, rfl, hm, ho, hk1, hn1, hf1, rfl, q1, q2, q3, q4⟩) hd
    · rw [l132_0]
      simp only [L132, List.map_cons, List.map_nil, List.cons.injEq, and_true] at hd
      obtain ⟨h0, h3⟩ := hd
      simp only [h0, h3, h.rd.len, bin_lss, pureW_some, forkW_dec]
      refine ⟨fun hlt => ?_, fun hge => ?_⟩
      · have hlt : i < l.length := by omega
        obtain ⟨b, hv⟩ : ∃ b, v = .slice (some ⟨b, 0, none⟩) l.length (capU + l.length) := by
          rcases h with ⟨_, h2, _⟩ | ⟨b, f, hv, _⟩
          · omega
          · exact ⟨b, hv⟩
        subst hv
        have hp := List.getElem?_eq_getElem hlt
        have hq := List.getElem?_eq_getElem (show i - 1 < l.length by omega)
        rw [ia27 hlt]
        simp only [Nat.zero_add, h.load hp, pureW_some, bin_sub]
        rw [wrap_i64 (by omega) (by omega), show (i : Int) - 1 = ((i - 1 : Nat) : Int) by omega, ia27 (show i - 1 < l.length by omega)]
        simp only [Nat.zero_add, h.load hq, pureW_some, eqN]
        refine forkW_bool.2 ⟨fun he => ?_, fun hne => ?_⟩
        · have he : l[i] = l[i - 1]'(by omega) := sameX_iff.1 he
          have hadj : ¬ NoAdj l := fun hno => hno (i - 1) _ _ hq (by rw [show i - 1 + 1 = i by omega]; exact hp) he.symm
          have hrow : ∃ f, A'.get b = some (.row (flat Nm.cells l) 24 f 0 false) := by
            rcases h with ⟨h1, _⟩ | ⟨b', f, h1, h2, _⟩
            · cases h1
            · simp only [Value.slice.injEq, Option.some.injEq, Addr.mk.injEq, and_true] at h1
              subst h1
              exact ⟨f, h2.row⟩
          obtain ⟨f, hrow⟩ := hrow
          rw [slice_from27 hrow (by omega)]
          simp only [pureW_some]
          exact cutW_self.2 ⟨1000000 - 1, by omega, .inr ⟨rfl, hadj, b, i, i, 1, l, rfl, rfl, rfl, h, .refl _ _, rfl, hf, rfl, by omega, by omega, by omega, by omega⟩⟩
        · have hne : l[i] ≠ l[i - 1]'(by omega) := sameX_not.1 hne
          simp only [bin_add, pureW_some]
          rw [wrap_i64 (by omega) (by omega)]
          refine cutW_self.2 ⟨3000000 - (i + 1), by omega, .inl ⟨rfl, rfl, i + 1, rfl, rfl, by omega, by omega, fun j p q hj hp' hq' => ?_⟩⟩
          by_cases hji : j + 1 = i
          · have e1 : j = i - 1 := by omega
            subst e1
            rw [hq] at hp'
            rw [hji, hp] at hq'
            cases hp'; cases hq'
            exact fun e => hne e.symm
          · exact hs j p q (by omega) hp' hq'
      · have hno : NoAdj l := fun j p q hp hq => hs j p q (by have := (List.getElem?_eq_some_iff.1 hq).1; omega) hp hq
        exact hk A' v l F h.rd (fun x hx => hx) (.refl _ _) rfl hf (fun _ => rfl) (fun hn => absurd hno hn)
    · rw [l132_2]
      simp only [L132, List.map_cons, List.map_nil, List.cons.injEq, and_true] at hd
      obtain ⟨h0, h3, h4, h5⟩ := hd
      have hm' : OwnN A' (.slice (some ⟨b, 0, none⟩) m.length (capU + m.length)) m F := by rw [hm]; exact ho
      simp only [h0, h3, h4, h5, ln_27, bin_lss, pureW_some, forkW_dec]
      refine ⟨fun hlt => ?_, fun hge => ?_⟩
      · have hlt : k2 < l.length - k0 := by omega
        have hp := List.getElem?_eq_getElem (show k0 + k2 < m.length by omega)
        have hq := List.getElem?_eq_getElem (show k0 + (k2 - 1) < m.length by omega)
        have e1 : k0 * 3 + k2 * 3 = (k0 + k2) * 3 := by omega
        have e2 : k0 * 3 + (k2 - 1) * 3 = (k0 + (k2 - 1)) * 3 := by omega
        rw [ia27 hlt, e1]
        simp only [ho.load hp, pureW_some, bin_sub]
        rw [wrap_i64 (by omega) (by omega), show (k2 : Int) - 1 = ((k2 - 1 : Nat) : Int) by omega, ia27 (show k2 - 1 < l.length - k0 by omega), e2]
        simp only [ho.load hq, pureW_some, neqN]
        refine forkW_bool.2 ⟨fun _ => ?_, fun _ => ?_⟩
        · simp only [bin_add, pureW_some]
          rw [ia27 (show k < l.length by omega)]
          simp only [Nat.zero_add, pureW_some]
          rw [← hm]
          refine hm'.store (by omega) hf1 (by omega) fun A2 o2 k2' n2 f2 => ?_
          rw [wrap_i64 (by omega) (by omega), wrap_i64 (by omega) (by omega)]
          have o2' : OwnN A2 (.slice (some ⟨b, 0, none⟩) l.length (capU + l.length)) (m.set k m[k0 + k2]) F := by simpa only [hm] using o2
          refine cutW_self.2 ⟨1000000 - (k2 + 1), by omega, .inr ⟨rfl, hadj, b, k0, k + 1, k2 + 1, _, by rw [hm]; rfl, rfl, by rw [List.length_set, hm], o2', hk1.trans k2' (fun x hx => .inl hx), by omega, f2, rfl, by omega, q2, by omega, by omega⟩⟩
        · simp only [bin_add, pureW_some]
          rw [wrap_i64 (by omega) (by omega)]
          exact cutW_self.2 ⟨1000000 - (k2 + 1), by omega, .inr ⟨rfl, hadj, b, k0, k, k2 + 1, m, rfl, rfl, hm, ho, hk1, hn1, hf1, rfl, by omega, q2, by omega, by omega⟩⟩
      · have hrow : ∃ f, A'.get b = some (.row (flat Nm.cells m) 24 f 0 false) := by
          rcases hm' with ⟨h1, _⟩ | ⟨b', f, h1, h2, _⟩
          · cases h1
          · simp only [Value.slice.injEq, Option.some.injEq, Addr.mk.injEq, and_true] at h1
            obtain ⟨rfl, _⟩ := h1
            exact ⟨f, h2.row⟩
        obtain ⟨f, hrow⟩ := hrow
        have hkl : k < l.length := by omega
        rw [slice_from27 hrow (by omega)]
        simp only [pureW_some]
        have hz : zerosA [Value.int .u32 0, .string .empty, .string .empty] (l.length - k) = flat Nm.cells (List.replicate (l.length - k) ⟨0, .empty, .empty⟩) := by
          generalize l.length - k = n
          induction n with
          | zero => rfl
          | succ n ih => rw [zerosA, ih, List.replicate_succ]; simp [flat, Nm.cells]
        have hcl : clearA Tryz.prog A' 27 (.slice (some ⟨b, k * 3, none⟩) (l.length - k) (capU + (l.length - k))) = A'.setCells ⟨b, k * 3, none⟩ (flat Nm.cells (List.replicate (l.length - k) ⟨0, .empty, .empty⟩)) := by
          obtain ⟨n, hn⟩ : ∃ n, l.length - k = n + 1 := ⟨l.length - k - 1, by omega⟩
          rw [hn] at hz ⊢
          unfold clearA
          simp only [us27, zero24]
          show A'.setCells _ (zerosA [Value.int .u32 0, .string .empty, .string .empty] (n + 1)) = _
          rw [hz]
        have hone : ∀ (a : List Nm), (flat Nm.cells a).all oneCell = true := fun a => by
          rw [List.all_eq_true]
          intro u hu
          obtain ⟨c, _, hc⟩ := List.mem_flatMap.1 hu
          simp only [Nm.cells, List.mem_cons, List.not_mem_nil, or_false] at hc
          rcases hc with rfl | rfl | rfl <;> rfl
        have hsp : flat Nm.cells m = flat Nm.cells (m.take k) ++ (flat Nm.cells (m.drop k) ++ []) := by rw [List.append_nil, ← flat_app, List.take_append_drop]
        have hset : setL (flat Nm.cells m) (k * 3) (flat Nm.cells (List.replicate (l.length - k) ⟨0, .empty, .empty⟩)) = flat Nm.cells (m.take k ++ List.replicate (l.length - k) ⟨0, .empty, .empty⟩) := by
          rw [hsp, show k * 3 = (flat Nm.cells (m.take k)).length by rw [flat3, List.length_take]; omega, setL_mid _ _ _ _ (by rw [flat3, flat3, List.length_drop, List.length_replicate]; omega), List.append_nil, flat_app]
        rcases hm' with ⟨h1, _⟩ | ⟨b', f', h1, h2, hFf⟩
        · cases h1
        simp only [Value.slice.injEq, Option.some.injEq, Addr.mk.injEq, and_true] at h1
        obtain ⟨rfl, _⟩ := h1
        have hbl := hf1.lt h2.row
        have hml : ∀ i ∈ A'.members f', i < maxId := fun i hi => by have := (h2.mem i hi).2.1; omega
        obtain ⟨A2, g1, g2, g3, g4, g5, g6⟩ := setCells_fam (new := flat Nm.cells (List.replicate (l.length - k) (⟨0, .empty, .empty⟩ : Nm))) (off := k * 3) h2.row hml (by rw [flat3, flat3, List.length_replicate]; omega) (hone _) (by omega)
        rw [hset] at g2
        have hmem : ∀ g, A2.members g = A'.members g := mem_of_fams g6
        have hml2 : (m.take k ++ List.replicate (l.length - k) (⟨0, .empty, .empty⟩ : Nm)).length = m.length := by rw [List.length_append, List.length_take, List.length_replicate]; omega
        rw [hcl, g1]
        refine effW_some.2 ?_
        rw [slice_to27 g2 (by omega)]
        simp only [pureW_some]
        have kk : Keeps A' A2 F := by
          subst hFf
          refine ⟨by rw [g5]; exact Nat.le_refl _, fun i o hi _ hn => ?_, fun g _ _ => hmem g⟩
          rw [g3 i (fun e => ?_) (fun hm => ?_)]
          · exact hi
          · subst e
            rw [h2.row] at hi
            cases hi
            exact hn (List.mem_singleton.2 rfl)
          · obtain ⟨_, _, cs', e', b', ro', h3⟩ := h2.mem i hm
            rw [hi] at h3
            cases h3
            exact hn (List.mem_singleton.2 rfl)
        have hfine : Fine A2 := ⟨fun i hi => by rw [g6]; exact hf1.fams i (by rw [g5] at hi; exact hi), fun i hi => by
          rw [g5] at hi
          rw [g3 i (fun e => by omega) (fun hm => by have := (h2.mem i hm).2.1; omega)]
          exact hf1.get i hi⟩
        have htl : (m.take k).length = k := by rw [List.length_take]; omega
        refine hk A2 _ (m.take k) [f'] (.inr ⟨b, 0, _, _, _, f', 0, false, by rw [htl], g2, by rw [g5]; exact h2.ltf, rfl, fun i p hi => ?_⟩) (fun x hx => by rw [hFf]; exact hx) (hk1.trans kk fun x hx => .inl hx) (by omega) hfine (fun hn => absurd hn hadj) (fun _ => by rw [htl]; omega)
        rw [Nat.zero_add]
        refine flat_drop nm_len _ i p ?_
        rw [List.getElem?_append_left (List.getElem?_eq_some_iff.1 hi).1]
        exact hi
  · rw [e132]
    simp only [h.rd.len, bin_lss, pureW_some, forkW_dec]
    refine ⟨fun hlt => ?_, fun hge => ?_⟩
    · have hno : NoAdj l := fun j p q _ hq => by have := (List.getElem?_eq_some_iff.1 hq).1; omega
      exact hk A v l F h.rd (fun x hx => hx) (.refl _ _) rfl hf (fun _ => rfl) (fun hn => absurd hno hn)
    · exact cutW_self.2 ⟨3000000 - 1, .inl ⟨rfl, rfl, 1, rfl, rfl, by omega, by omega, fun j p q hj => by omega⟩⟩
end
end Go.Proofs.YtjiglbmjhecobaaGreatDoor
