/-
  What the operations are at the program's types; deeds, names and scores as they lie in memory. Conditions: none.
-/
import Derived.Test.YtdpdajpiadohjaaGreatDoorText
import Derived.Test.YtdpdajpiadohjaaGreatDoorAbsI
import Derived.DeepKeys2
import Derived.Lib.Bytealg

namespace Go.Proofs.YtdpdajpiadohjaaGreatDoor
open Go.Abs
theorem fa_46_0 (b o : Nat) : fieldAddrA Tryz.prog 46 (.pointer (some ⟨b, o, none⟩)) 0 = some (.pointer (some ⟨b, o, none⟩)) := by kernel_rfl
theorem fa_46_1 (b o : Nat) : fieldAddrA Tryz.prog 46 (.pointer (some ⟨b, o, none⟩)) 1 = some (.pointer (some ⟨b, o + 1, none⟩)) := by kernel_rfl
theorem fa_46_2 (b o : Nat) : fieldAddrA Tryz.prog 46 (.pointer (some ⟨b, o, none⟩)) 2 = some (.pointer (some ⟨b, o + 2, none⟩)) := by kernel_rfl
theorem fa_48_0 (b o : Nat) : fieldAddrA Tryz.prog 48 (.pointer (some ⟨b, o, none⟩)) 0 = some (.pointer (some ⟨b, o, none⟩)) := by kernel_rfl
theorem fa_48_1 (b o : Nat) : fieldAddrA Tryz.prog 48 (.pointer (some ⟨b, o, none⟩)) 1 = some (.pointer (some ⟨b, o + 3, none⟩)) := by kernel_rfl
theorem fa_48_2 (b o : Nat) : fieldAddrA Tryz.prog 48 (.pointer (some ⟨b, o, none⟩)) 2 = some (.pointer (some ⟨b, o + 4, none⟩)) := by kernel_rfl
theorem fa_48_4 (b o : Nat) : fieldAddrA Tryz.prog 48 (.pointer (some ⟨b, o, none⟩)) 4 = some (.pointer (some ⟨b, o + 6, none⟩)) := by kernel_rfl
theorem fa_48_5 (b o : Nat) : fieldAddrA Tryz.prog 48 (.pointer (some ⟨b, o, none⟩)) 5 = some (.pointer (some ⟨b, o + 7, none⟩)) := by kernel_rfl
theorem fa_56_1 (b o : Nat) : fieldAddrA Tryz.prog 56 (.pointer (some ⟨b, o, none⟩)) 1 = some (.pointer (some ⟨b, o + 1, none⟩)) := by kernel_rfl
theorem fa_56_2 (b o : Nat) : fieldAddrA Tryz.prog 56 (.pointer (some ⟨b, o, none⟩)) 2 = some (.pointer (some ⟨b, o + 4, none⟩)) := by kernel_rfl
theorem fa_58_0 (b o : Nat) : fieldAddrA Tryz.prog 58 (.pointer (some ⟨b, o, none⟩)) 0 = some (.pointer (some ⟨b, o, none⟩)) := by kernel_rfl
theorem fa_58_1 (b o : Nat) : fieldAddrA Tryz.prog 58 (.pointer (some ⟨b, o, none⟩)) 1 = some (.pointer (some ⟨b, o + 3, none⟩)) := by kernel_rfl
theorem fa_58_2 (b o : Nat) : fieldAddrA Tryz.prog 58 (.pointer (some ⟨b, o, none⟩)) 2 = some (.pointer (some ⟨b, o + 4, none⟩)) := by kernel_rfl
theorem fa_58_3 (b o : Nat) : fieldAddrA Tryz.prog 58 (.pointer (some ⟨b, o, none⟩)) 3 = some (.pointer (some ⟨b, o + 5, none⟩)) := by kernel_rfl
theorem fa_58_4 (b o : Nat) : fieldAddrA Tryz.prog 58 (.pointer (some ⟨b, o, none⟩)) 4 = some (.pointer (some ⟨b, o + 6, none⟩)) := by kernel_rfl
theorem fa_58_5 (b o : Nat) : fieldAddrA Tryz.prog 58 (.pointer (some ⟨b, o, none⟩)) 5 = some (.pointer (some ⟨b, o + 7, none⟩)) := by kernel_rfl
theorem ld_3 (A : AW) (a : Addr) : loadP Tryz.prog A 3 (.pointer (some a)) = A.cell? a := by kernel_rfl
theorem ld_5 (A : AW) (a : Addr) : loadP Tryz.prog A 5 (.pointer (some a)) = A.cell? a := by kernel_rfl
theorem ld_9 (A : AW) (a : Addr) : loadP Tryz.prog A 9 (.pointer (some a)) = A.cell? a := by kernel_rfl
theorem ld_28 (A : AW) (a : Addr) : loadP Tryz.prog A 28 (.pointer (some a)) = A.cell? a := by kernel_rfl
theorem ld_44 (A : AW) (a : Addr) : loadP Tryz.prog A 44 (.pointer (some a)) = A.cell? a := by kernel_rfl
theorem ld_46 (A : AW) (a : Addr) : loadP Tryz.prog A 46 (.pointer (some a)) = (match A.cells? a 3 with | some l => some (.agg ⟨l⟩) | none => none) := by kernel_rfl
theorem ld_48 (A : AW) (a : Addr) : loadP Tryz.prog A 48 (.pointer (some a)) = (match A.cells? a 8 with | some l => some (.agg ⟨l⟩) | none => none) := by kernel_rfl
theorem ld_56 (A : AW) (a : Addr) : loadP Tryz.prog A 56 (.pointer (some a)) = (match A.cells? a 5 with | some l => some (.agg ⟨l⟩) | none => none) := by kernel_rfl
theorem ld_57 (A : AW) (a : Addr) : loadP Tryz.prog A 57 (.pointer (some a)) = A.cell? a := by kernel_rfl
theorem ld_58 (A : AW) (a : Addr) : loadP Tryz.prog A 58 (.pointer (some a)) = (match A.cells? a 8 with | some l => some (.agg ⟨l⟩) | none => none) := by kernel_rfl
theorem ld_61 (A : AW) (a : Addr) : loadP Tryz.prog A 61 (.pointer (some a)) = (match A.cells? a 6 with | some l => some (.agg ⟨l⟩) | none => none) := by kernel_rfl
theorem st_3 (A : AW) (a : Addr) (v : Value) : storeP Tryz.prog A 3 (.pointer (some a)) v = (bif Nat.beq v.cells.toList.length 1 then A.setCells a v.cells.toList else none) := by kernel_rfl
theorem st_9 (A : AW) (a : Addr) (v : Value) : storeP Tryz.prog A 9 (.pointer (some a)) v = (bif Nat.beq v.cells.toList.length 1 then A.setCells a v.cells.toList else none) := by kernel_rfl
theorem st_28 (A : AW) (a : Addr) (v : Value) : storeP Tryz.prog A 28 (.pointer (some a)) v = (bif Nat.beq v.cells.toList.length 1 then A.setCells a v.cells.toList else none) := by kernel_rfl
theorem st_46 (A : AW) (a : Addr) (v : Value) : storeP Tryz.prog A 46 (.pointer (some a)) v = (bif Nat.beq v.cells.toList.length 3 then A.setCells a v.cells.toList else none) := by kernel_rfl
theorem st_48 (A : AW) (a : Addr) (v : Value) : storeP Tryz.prog A 48 (.pointer (some a)) v = (bif Nat.beq v.cells.toList.length 8 then A.setCells a v.cells.toList else none) := by kernel_rfl
theorem st_56 (A : AW) (a : Addr) (v : Value) : storeP Tryz.prog A 56 (.pointer (some a)) v = (bif Nat.beq v.cells.toList.length 5 then A.setCells a v.cells.toList else none) := by kernel_rfl
theorem st_58 (A : AW) (a : Addr) (v : Value) : storeP Tryz.prog A 58 (.pointer (some a)) v = (bif Nat.beq v.cells.toList.length 8 then A.setCells a v.cells.toList else none) := by kernel_rfl
theorem st_61 (A : AW) (a : Addr) (v : Value) : storeP Tryz.prog A 61 (.pointer (some a)) v = (bif Nat.beq v.cells.toList.length 6 then A.setCells a v.cells.toList else none) := by kernel_rfl
theorem ia_22 (b o n c i : Nat) (k : IntKind) : indexAddrA Tryz.prog 22 (.slice (some ⟨b, o, none⟩) n c) (.int k (.ofNat i)) = (bif Nat.blt i n then some (.pointer (some (addA ⟨b, o, none⟩ (i * 5)))) else none) := by kernel_rfl
theorem ia_25 (b o n c i : Nat) (k : IntKind) : indexAddrA Tryz.prog 25 (.slice (some ⟨b, o, none⟩) n c) (.int k (.ofNat i)) = (bif Nat.blt i n then some (.pointer (some (addA ⟨b, o, none⟩ (i * 8)))) else none) := by kernel_rfl
theorem ia_28 (b o n c i : Nat) (k : IntKind) : indexAddrA Tryz.prog 28 (.slice (some ⟨b, o, none⟩) n c) (.int k (.ofNat i)) = (bif Nat.blt i n then some (.pointer (some (addA ⟨b, o, none⟩ (i * 3)))) else none) := by kernel_rfl
theorem ia_143 (b o n c i : Nat) (k : IntKind) : indexAddrA Tryz.prog 143 (.slice (some ⟨b, o, none⟩) n c) (.int k (.ofNat i)) = (bif Nat.blt i n then some (.pointer (some (addA ⟨b, o, none⟩ (i * 1)))) else none) := by kernel_rfl
theorem ln_9 (A : AW) (s : ByteArray) : lenA Tryz.prog A 9 (.string s) = some (.int .i64 s.data.toList.length) := by kernel_rfl
theorem ln_22 (A : AW) (a : Option Addr) (n c : Nat) : lenA Tryz.prog A 22 (.slice a n c) = some (.int .i64 n) := by kernel_rfl
theorem ln_25 (A : AW) (a : Option Addr) (n c : Nat) : lenA Tryz.prog A 25 (.slice a n c) = some (.int .i64 n) := by kernel_rfl
theorem ln_28 (A : AW) (a : Option Addr) (n c : Nat) : lenA Tryz.prog A 28 (.slice a n c) = some (.int .i64 n) := by kernel_rfl
theorem ln_143 (A : AW) (a : Option Addr) (n c : Nat) : lenA Tryz.prog A 143 (.slice a n c) = some (.int .i64 n) := by kernel_rfl

theorem ust9 : Tryz.prog.underlying 9 = some .string := by kernel_rfl
theorem zero46 : zeroT Tryz.prog 46 = some (.agg #[.int .u32 0, .string .empty, .string .empty]) := by kernel_rfl
theorem zero56 : zeroT Tryz.prog 56 = some (.agg #[.int .u8 0, .int .u32 0, .string .empty, .string .empty, .int .u8 0]) := by kernel_rfl
theorem zero48 : zeroT Tryz.prog 48 = some (.agg #[.int .u32 0, .string .empty, .string .empty, .int .i64 0, .int .i64 0, .int .i64 0, .int .i64 0, .int .i64 0]) := by kernel_rfl
theorem zero58 : zeroT Tryz.prog 58 = some (.agg #[.int .u32 0, .string .empty, .string .empty, .int .i64 0, .int .i64 0, .int .i64 0, .int .i64 0, .int .i64 0]) := by kernel_rfl
theorem zero61 : zeroT Tryz.prog 61 = some (.agg #[.nilFunc, .nilFunc, .nilFunc, .nilFunc, .nilFunc, .nilFunc]) := by kernel_rfl
theorem bs143 (A : AW) (a b c : Int) : buildSliceA Tryz.prog A 143 3 [(0, .int .i64 a), (1, .int .i64 b), (2, .int .i64 c)] = (match A.newRow [.int .i64 a, .int .i64 b, .int .i64 c] 3 with | some (a, w') => .ok (.slice (some a) 3 3) w' | none => .fail "buildSlice new") := by kernel_rfl
theorem bs28 (A : AW) (f : Int) (g b : ByteArray) : buildSliceA Tryz.prog A 28 1 [(0, .agg ⟨[.int .u32 f, .string g, .string b]⟩)] = (match A.newRow [.int .u32 f, .string g, .string b] 46 with | some (a, w') => .ok (.slice (some a) 1 1) w' | none => .fail "buildSlice new") := by kernel_rfl
theorem bs25 (A : AW) (f : Int) (g b : ByteArray) (c1 c2 c3 c4 c5 : Int) : buildSliceA Tryz.prog A 25 1 [(0, .agg ⟨[.int .u32 f, .string g, .string b, .int .i64 c1, .int .i64 c2, .int .i64 c3, .int .i64 c4, .int .i64 c5]⟩)] = (match A.newRow [.int .u32 f, .string g, .string b, .int .i64 c1, .int .i64 c2, .int .i64 c3, .int .i64 c4, .int .i64 c5] 48 with | some (a, w') => .ok (.slice (some a) 1 1) w' | none => .fail "buildSlice new") := by kernel_rfl
theorem fresh143 (a b c : Int) : freshOf Tryz.prog (evalT (Tm.fill ⟨3, .nil⟩ 0 [.int .i64 a, .int .i64 b, .int .i64 c])) (.buildSlice 143 3 #[(0, .tmp 0), (1, .tmp 1), (2, .tmp 2)]) = some (.slice [.int .i64 a, .int .i64 b, .int .i64 c] 3 3) := by kernel_rfl
theorem ba46_2 (f : Int) (g : ByteArray) : buildA Tryz.prog 46 [(0, .int .u32 f), (1, .string g)] = some (.agg ⟨[.int .u32 f, .string g, .string ⟨⟨[]⟩⟩]⟩) := by kernel_rfl

/-! names: are they the same? -/
theorem ft46 : quiet Tryz.prog (underlying 46) = some (.struct (Tryz.prog.fieldsOf 46)) := by kernel_rfl
noncomputable def F46 (i : Nat) : Field := (Tryz.prog.fieldsOf 46).toList.getD i default
theorem fs46 : (Tryz.prog.fieldsOf 46).toList = [F46 0, F46 1, F46 2] := by kernel_rfl
theorem pt46_0 (f : Int) (g b : ByteArray) : quiet Tryz.prog (part (F46 0).type ⟨[.int .u32 f, .string g, .string b]⟩ (F46 0).offset) = some (.int .u32 f) := by kernel_rfl
theorem pt46_1 (f : Int) (g b : ByteArray) : quiet Tryz.prog (part (F46 1).type ⟨[.int .u32 f, .string g, .string b]⟩ (F46 1).offset) = some (.string g) := by kernel_rfl
theorem pt46_2 (f : Int) (g b : ByteArray) : quiet Tryz.prog (part (F46 2).type ⟨[.int .u32 f, .string g, .string b]⟩ (F46 2).offset) = some (.string b) := by kernel_rfl
theorem ty46_0 : (F46 0).type = 44 := by kernel_rfl
theorem ty46_1 : (F46 1).type = 9 := by kernel_rfl
theorem ty46_2 : (F46 2).type = 9 := by kernel_rfl
theorem ut9 : quiet Tryz.prog (underlying 9) = some .string := by kernel_rfl
theorem ut44 : quiet Tryz.prog (underlying 44) = some (.int .u32) := by kernel_rfl
theorem ut3 : quiet Tryz.prog (underlying 3) = some (.int .i64) := by kernel_rfl
/-- are names the same? -/
def sameX (f f' : Int) (g g' b b' : ByteArray) : Bool := f == f' && (g.data.toList == g'.data.toList && b.data.toList == b'.data.toList)
theorem quiet46 (n : Nat) (f f' : Int) (g g' b b' : ByteArray) : quiet Tryz.prog (Op.equalIn (n + 1 + 1) 46 (.agg ⟨[.int .u32 f, .string g, .string b]⟩) (.agg ⟨[.int .u32 f', .string g', .string b']⟩)) = some (sameX f f' g g' b b') := by
  rw [quiet_struct (n + 1) 46 _ _ ft46 (by kernel_rfl), fs46]
  rw [quiet_fieldR (by kernel_rfl) (pt46_0 f g b) (pt46_0 f' g' b') (by rw [ty46_0]; exact quiet_eq_int n 44 _ _ _ _ ut44)]
  rw [quiet_fieldR (by kernel_rfl) (pt46_1 f g b) (pt46_1 f' g' b') (by rw [ty46_1]; exact quiet_eqs ut9)]
  rw [quiet_fieldR (by kernel_rfl) (pt46_2 f g b) (pt46_2 f' g' b') (by rw [ty46_2]; exact quiet_eqs ut9)]
  unfold sameX
  cases f == f' <;> cases g.data.toList == g'.data.toList <;> cases b.data.toList == b'.data.toList <;> rfl
theorem sameX_iff {p q : Nm} : sameX (p.f : Int) (q.f : Int) p.g q.g p.b q.b = true ↔ p = q := by
  unfold sameX
  simp only [Bool.and_eq_true, beq_iff_eq]
  constructor
  · rintro ⟨h1, h2, h3⟩
    have h2 := ba_eq h2
    have h3 := ba_eq h3
    obtain ⟨f, g, b⟩ := p
    obtain ⟨f', g', b'⟩ := q
    simp only at h1 h2 h3
    have : f = f' := by omega
    rw [this, h2, h3]
  · rintro rfl
    exact ⟨rfl, rfl, rfl⟩
theorem sameX_kq (p q : Nm) : sameX (p.f : Int) (q.f : Int) p.g q.g p.b q.b = keqN p q := by
  rw [Bool.eq_iff_iff, sameX_iff, keqN_iff]
def kN (p : Nm) : Value := .agg ⟨p.cells⟩
theorem eqAN (p q : Nm) : eqA Tryz.prog 46 (kN p) (kN q) = some (keqN p q) := by
  unfold eqA
  have hc : (closedV 4 (kN p) && closedV 4 (kN q)) = true := rfl
  rw [hc, cond_true, ← sameX_kq]
  exact quiet46 9998 _ _ _ _ _ _
set_option maxRecDepth 100000 in
theorem eqN (p q : Nm) (xo yo : Operand) : binA Tryz.prog .eql 46 xo yo (.agg ⟨p.cells⟩) (.agg ⟨q.cells⟩) = some (.bool (keqN p q)) := by
  have hg : eqGuardA Tryz.prog 46 xo yo (kN p) (kN q) = true := by
    show (!Tryz.prog.eqGuardType Tryz.prog.depth 46) = true
    kernel_rfl
  show (bif eqGuardA Tryz.prog 46 xo yo (kN p) (kN q) then (match eqA Tryz.prog 46 (kN p) (kN q) with | some b => some (Value.bool b) | none => none) else none) = _
  rw [hg, cond_true, eqAN]
set_option maxRecDepth 100000 in
theorem neqN (p q : Nm) (xo yo : Operand) : binA Tryz.prog .neq 46 xo yo (.agg ⟨p.cells⟩) (.agg ⟨q.cells⟩) = some (.bool !(keqN p q)) := by
  have hg : eqGuardA Tryz.prog 46 xo yo (kN p) (kN q) = true := by
    show (!Tryz.prog.eqGuardType Tryz.prog.depth 46) = true
    kernel_rfl
  show (bif eqGuardA Tryz.prog 46 xo yo (kN p) (kN q) then (match eqA Tryz.prog 46 (kN p) (kN q) with | some b => some (Value.bool !b) | none => none) else none) = _
  rw [hg, cond_true, eqAN]
theorem keyN (e : Bool) (p : Nm) : keyQ Tryz.prog e 46 (kN p) = true := by
  cases e <;> kernel_rfl
theorem sameBN (p : Nm) : (closedV 4 (kN p) && Instr.sameBits 10000 (kN p) (kN p)) = true := by
  have hs : Instr.sameBits 10000 (kN p) (kN p) = true := by
    show Instr.sameBits (9999 + 1) (.agg ⟨p.cells⟩) (.agg ⟨p.cells⟩) = true
    simp only [Nm.cells, Instr.sameBits, beq_self_eq_true, Bool.true_and]
    simp [Instr.sameBits, beq_toListBytes]
  rw [hs]; rfl
/-- the map of the sums -/
theorem mtN : MT Tryz.prog 57 46 58 kN keqN := ⟨by kernel_rfl, eqAN, keqN_iff, keyN, sameBN⟩
def vS (s : Sc) : Value := .agg ⟨s.cells⟩

/-! lists of names, deeds, scores -/
theorem etN : ET Tryz.prog 28 46 2 Nm.cells := ⟨by kernel_rfl, by kernel_rfl, by kernel_rfl, ⟨40, by kernel_rfl, by decide⟩, by kernel_rfl, fun _ => rfl, fun _ => rfl, fun _ => rfl⟩
theorem etD : ET Tryz.prog 22 56 4 Dd.cells := ⟨by kernel_rfl, by kernel_rfl, by kernel_rfl, ⟨56, by kernel_rfl, by decide⟩, by kernel_rfl, fun _ => rfl, fun _ => rfl, fun _ => rfl⟩
theorem etS : ET Tryz.prog 25 48 7 Sc.cells := ⟨by kernel_rfl, by kernel_rfl, by kernel_rfl, ⟨80, by kernel_rfl, by decide⟩, by kernel_rfl, fun _ => rfl, fun _ => rfl, fun _ => rfl⟩
end Go.Proofs.YtdpdajpiadohjaaGreatDoor


namespace Go.Proofs.YtdpdajpiadohjaaGreatDoor
open Go.Abs

/-- all that was stays, and at most n objects are made -/
structure Grow (A A' : AW) (n : Nat) : Prop where
  keeps : Keeps A A' []
  fine : Fine A'
  next : A'.next ≤ A.next + n
theorem Grow.le {A A' : AW} {n : Nat} (h : Grow A A' n) : A.next ≤ A'.next := h.keeps.next
theorem Grow.refl {A : AW} (hf : Fine A) : Grow A A 0 := ⟨.refl _ _, hf, Nat.le_refl _⟩
theorem Grow.trans {A B C : AW} {n m : Nat} (h : Grow A B n) (k : Grow B C m) : Grow A C (n + m) := ⟨h.keeps.trans k.keeps (by simp), k.fine, by have := h.next; have := k.next; omega⟩
theorem Grow.more {A B : AW} {n m : Nat} (h : Grow A B n) (hm : n ≤ m) : Grow A B m := ⟨h.keeps, h.fine, by have := h.next; omega⟩
theorem Grow.made {A A' : AW} {cs : List Value} {e : TypeId} (m : Made A A' cs e) (hf : Fine A) : Grow A A' 1 := ⟨m.keeps hf, m.fine, by rw [m.next]; omega⟩
/-- behind a call that writes into what a call of this one made -/
theorem Grow.own {A B C : AW} {n m : Nat} {F : List Nat} (h : Grow A B n) (k : Keeps B C F) (hF : ∀ x ∈ F, A.next ≤ x) (hc : C.next ≤ B.next + m) (hf : Fine C) : Grow A C (n + m) :=
  ⟨h.keeps.trans k (fun x hx => .inr (hF x hx)), hf, by have := h.next; omega⟩

theorem ext117 (a b : ByteArray) : quiet Tryz.prog (callFunc 117 ⟨[.string a, .string b]⟩) = some (.value (.int .i64 (Go.Extern.BytealgCompare.cmp a b))) := by kernel_rfl
section
variable {W0 : World} {m0 : Inj Tryz.prog}
theorem wc84 {a b : ByteArray} {A : AW} {K : Value → AW → Prop} (hk : K (.int .i64 (cmpS a b)) A) : Wc Tryz.prog theX W0 m0 84 [.string a, .string b] A K := by
  refine w84 _ _ _ (cuts_none (S := fun _ _ _ => False) fun _ _ _ h => h) ?_
  rw [e84]
  have hb : hasBody Tryz.prog 117 = false := by kernel_rfl
  have hcf : callFuncA Tryz.prog theX A 117 [.string a, .string b] = .ok (.value (.int .i64 (cmpS a b))) A := by
    unfold callFuncA
    have hc : ([Value.string a, .string b].all (closedV 4)) = true := rfl
    simp only [hb, cond_false, theX, memN, hc, cond_true, ext117, Go.Lib.cmp_eq]
    rfl
  exact .inl ⟨_, _, hcf, hk⟩
theorem wc58 {a b : ByteArray} {A : AW} {K : Value → AW → Prop} (hk : K (.int .i64 (cmpS a b)) A) : Wc Tryz.prog theX W0 m0 58 [.string a, .string b] A K := by
  refine w58 _ _ _ (cuts_none (S := fun _ _ _ => False) fun _ _ _ h => h) ?_
  rw [e58]
  exact wc84 hk
theorem wc83 {n : Int} {A : AW} {K : Value → AW → Prop} (hk : K (.bool false) A) : Wc Tryz.prog theX W0 m0 83 [.int .u32 n] A K := by
  refine w83 _ _ (cuts_none (S := fun _ _ _ => False) fun _ _ _ h => h) ?_
  rw [e83]
  have : (n != n) = false := by simp
  simp only [bin_neq, pureW_some, this]
  exact hk
theorem wc57 {n m : Int} {A : AW} {K : Value → AW → Prop} (hk : K (.int .i64 (cmpI n m)) A) : Wc Tryz.prog theX W0 m0 57 [.int .u32 n, .int .u32 m] A K := by
  refine w57 _ _ _ (cuts_none (S := fun _ _ _ => False) fun _ _ _ h => h) ?_
  rw [e57]
  refine wc83 (wc83 ?_)
  refine forkW_bool.2 ⟨fun h => by simp at h, fun _ => forkW_bool.2 ⟨fun h => by simp at h, fun _ => ?_⟩⟩
  simp only [bin_lss, bin_gtr, pureW_some, forkW_dec]
  unfold cmpI at hk
  refine ⟨fun h => ?_, fun h => ⟨fun h2 => ?_, fun h2 => ?_⟩⟩
  · rw [if_pos h] at hk; exact hk
  · rw [if_neg h, if_pos h2] at hk; exact hk
  · rw [if_neg h, if_neg h2] at hk; exact hk
theorem ia143 {q n i : Nat} (hi : i < n) : indexAddrA Tryz.prog 143 (.slice (some ⟨q, 0, none⟩) n n) (.int .i64 (i : Int)) = some (.pointer (some ⟨q, i, none⟩)) := by
  show indexAddrA Tryz.prog 143 _ (.int .i64 (.ofNat i)) = _
  rw [ia_143, blt_true.2 hi, cond_true]
  unfold addA
  cases hb : Nat.beq (i * 1) 0 with
  | true => rw [cond_true]; have := Nat.eq_of_beq_eq_true hb; rw [Nat.mul_one] at this; rw [this]
  | false => rw [cond_false, Nat.mul_one, Nat.zero_add]
/-- the first that is not 0 -/
theorem wc56 {q : Nat} {a b c : Int} {A : AW} {K : Value → AW → Prop} (hr : Go.Abs.Row1 A q [.int .i64 a, .int .i64 b, .int .i64 c] 3) (hk : K (.int .i64 (orL [a, b, c])) A) : Wc Tryz.prog theX W0 m0 56 [.slice (some ⟨q, 0, none⟩) 3 3] A K := by
  let I : Nat → Nat → List Value → AW → Prop := fun g id vals A' => id = 0 ∧ A' = A ∧ ∃ i : Nat, vals = [.int .i64 0, .slice (some ⟨q, 0, none⟩) 3 3, .int .i64 3, .int .i64 (i : Int)] ∧ g = 3 - i ∧ i ≤ 3 ∧ orL [a, b, c] = orL ([a, b, c].drop i)
  refine w56 _ _ (c56 (I := I) ?_) ?_
  · rintro g id vals A' d ⟨rfl, rfl, i, rfl, rfl, hi, ho⟩ hd
    rw [l56_0]
    simp only [L56, List.map_cons, List.map_nil, List.cons.injEq, and_true] at hd
    obtain ⟨h3, h6, h7, h8⟩ := hd
    simp only [h3, h6, h7, h8, bin_lss, pureW_some, forkW_dec]
    have hcase : i = 0 ∨ i = 1 ∨ i = 2 ∨ i = 3 := by omega
    have fin : ∀ {x : Int} {r : List Int}, [a, b, c].drop i = x :: r → loadP Tryz.prog A' 3 (.pointer (some ⟨q, i, none⟩)) = some (.int .i64 x) → i < 3 →
        pureW (loadP Tryz.prog A' 3 (.pointer (some ⟨q, i, none⟩))) fun t2 => pureW (binA Tryz.prog .neq 3 (.tmp 12) (.tmp 13) t2 (.int .i64 0)) fun t3 => forkW t3 (K t2 A') (pureW (binA Tryz.prog .add 3 (.tmp 8) (.const (.int .i64 1)) (.int .i64 (i : Int)) (.int .i64 1)) fun t4 => cutW (T56 0) (T56 0) (∃ g', g' < 3 - i ∧ I g' 0 [.int .i64 0, .slice (some ⟨q, 0, none⟩) 3 3, .int .i64 3, t4] A')) := by
      intro x r hdr hld hlt
      rw [hld]
      simp only [pureW_some, bin_neq, forkW_bne, bin_add]
      rw [hdr] at ho
      refine ⟨fun hx => ?_, fun hx => ?_⟩
      · rw [ho] at hk
        simp only [orL] at hk
        rw [if_pos hx] at hk
        exact hk
      · rw [wrap_i64 (by omega) (by omega)]
        refine cutW_self.2 ⟨3 - (i + 1), by omega, rfl, rfl, i + 1, rfl, rfl, by omega, ?_⟩
        have : [a, b, c].drop (i + 1) = r := by rw [← List.drop_drop, hdr]; rfl
        rw [this, ho]
        simp only [orL]
        rw [if_neg (by simp [hx])]
    rcases hcase with rfl | rfl | rfl | rfl
    · refine ⟨fun _ => ?_, fun h => absurd (by decide) h⟩
      rw [ia143 (by decide)]
      simp only [pureW_some]
      exact fin rfl (by rw [ld_3, cell_row hr.row]; rfl) (by decide)
    · refine ⟨fun _ => ?_, fun h => absurd (by decide) h⟩
      rw [ia143 (by decide)]
      simp only [pureW_some]
      exact fin rfl (by rw [ld_3, cell_row hr.row]; rfl) (by decide)
    · refine ⟨fun _ => ?_, fun h => absurd (by decide) h⟩
      rw [ia143 (by decide)]
      simp only [pureW_some]
      exact fin rfl (by rw [ld_3, cell_row hr.row]; rfl) (by decide)
    · refine ⟨fun h => absurd h (by decide), fun _ => ?_⟩
      rw [ho] at hk
      exact hk
  · rw [e56]
    simp only [ln_143, pureW_some]
    exact cutW_self.2 ⟨3, rfl, rfl, 0, rfl, rfl, by decide, rfl⟩
theorem newSlice3 {A : AW} {a b c : Int} {K : Value → AW → Prop} (hf : Fine A) (h : A.next < maxId) (hk : ∀ A', Made A A' [.int .i64 a, .int .i64 b, .int .i64 c] 3 → K (.slice (some ⟨A.next, 0, none⟩) 3 3) A') : bothW (buildSliceA Tryz.prog A 143 3 [(0, .int .i64 a), (1, .int .i64 b), (2, .int .i64 c)]) K := by
  rw [bs143]
  unfold AW.newRow AW.new
  have hc : ([Value.int .i64 a, .int .i64 b, .int .i64 c].all oneCell) = true := rfl
  simp only [hc, cond_true, blt_true.2 h]
  exact bothW_ok.2 (hk (A.push (.row [.int .i64 a, .int .i64 b, .int .i64 c] 3 A.next 0 false)) ⟨AW.push_ext _ h, rfl, by rw [AW.push_get _ h, if_pos rfl], hf.alone (Nat.le_refl _), hf.push _ h⟩)
theorem freshW_143 {a b c : Int} {A : AW} {q : Nat} {p : Prop} (h : A.get q = some (.row [.int .i64 a, .int .i64 b, .int .i64 c] 3 q 0 false)) (hp : p) : freshW (freshOf Tryz.prog (evalT (Tm.fill ⟨3, .nil⟩ 0 [.int .i64 a, .int .i64 b, .int .i64 c])) (.buildSlice 143 3 #[(0, .tmp 0), (1, .tmp 1), (2, .tmp 2)])) A (.slice (some ⟨q, 0, none⟩) 3 3) p := by
  refine ⟨⟨_, fresh143 a b c, ?_⟩, hp⟩
  simp only [stillFresh, rowHas, h, sameL, same_int, Bool.and_self, Option.isNone_none, Bool.true_and, Nat.beq_refl]
theorem wc27 {p q : Nm} {A : AW} {K : Value → AW → Prop} (hf : Fine A) (hA : A.next + 5 < maxId) (hk : ∀ A', Grow A A' 3 → K (.int .i64 (xcmp p q)) A') : Wc Tryz.prog theX W0 m0 27 [.agg ⟨p.cells⟩, .agg ⟨q.cells⟩] A K := by
  refine w27 _ _ _ (cuts_none (S := fun _ _ _ => False) fun _ _ _ h => h) ?_
  rw [e27]
  refine newP_made (cs := p.cells) hf (by omega) rfl fun A1 m1 => ?_
  have n1 := m1.next
  refine newP_made (cs := q.cells) m1.fine (by omega) rfl fun A2 m2 => ?_
  have n2 := m2.next
  have g2 := (Grow.made m1 hf).trans (.made m2 m1.fine)
  have r1 : Go.Abs.Row1 A2 A.next [.int .u32 (p.f : Int), .string p.g, .string p.b] 46 := (m1.row1).keeps (m2.keeps m1.fine) (by simp)
  have r2 : Go.Abs.Row1 A2 A1.next [.int .u32 (q.f : Int), .string q.g, .string q.b] 46 := m2.row1
  simp only [fa_46_0, fa_46_1, fa_46_2, ld_44, ld_9, cell_row r1.row, cell_row r2.row, cellOf, isTuple, cond_false, pureW_some, Nat.zero_add]
  refine wc57 ?_
  simp only [cell_row r1.row, cell_row r2.row, cellOf, isTuple, cond_false, pureW_some, eqW_self]
  refine wc58 ?_
  simp only [cell_row r1.row, cell_row r2.row, cellOf, isTuple, cond_false, pureW_some, eqW_self]
  refine wc58 ?_
  refine newSlice3 m2.fine (by omega) fun A3 m3 => ?_
  have n3 := m3.next
  have q1 := r1.keeps (m3.keeps m2.fine) (by simp)
  have q2 := r2.keeps (m3.keeps m2.fine) (by simp)
  refine freshW_143 m3.row ?_
  simp only [cell_row q1.row, cell_row q2.row, cellOf, isTuple, cond_false, pureW_some, eqW_self]
  exact wc56 m3.row1 (hk A3 (g2.trans (.made m3 m2.fine)))
end
end Go.Proofs.YtdpdajpiadohjaaGreatDoor


namespace Go.Proofs.YtdpdajpiadohjaaGreatDoor
open Go.Abs Go.Sort
def sortR : Go.Shelf.Ren := ⟨fun | 6 => 54 | 15 => 82 | 14 => 81 | 28 => 115 | 29 => 116 | 20 => 107 | 21 => 108 | 22 => 109 | 23 => 110 | 24 => 111 | 25 => 112 | 26 => 113 | 27 => 114 | 46 => 129 | 47 => 130 | 48 => 131 | 49 => 132 | 50 => 133 | 57 => 149 | n => n, fun | 22 => 28 | 24 => 46 | 25 => 68 | 3 => 3 | 39 => 142 | 0 => 0 | 53 => 44 | 55 => 32 | 4 => 4 | 46 => 169 | 45 => 168 | 50 => 123 | 5 => 5 | 9 => 9 | 66 => 187 | 70 => 191 | 76 => 207 | 77 => 208 | n => n, fun n => n⟩
theorem sortX : Go.Proofs.SlLaysF0.n6 Tryz.prog sortR where
  mixed := by kernel_rfl
  f6 := ⟨Tryz.f54.name, by decide, Tryz.func54.trans (congrArg some (by kernel_rfl))⟩
  f14 := ⟨Tryz.f81.name, by decide, Tryz.func81.trans (congrArg some (by kernel_rfl))⟩
  f15 := Tryz.func82.trans (congrArg some (by kernel_rfl))
  f20 := ⟨Tryz.f107.name, by decide, Tryz.func107.trans (congrArg some (by kernel_rfl))⟩
  f21 := ⟨Tryz.f108.name, by decide, Tryz.func108.trans (congrArg some (by kernel_rfl))⟩
  f22 := ⟨Tryz.f109.name, by decide, Tryz.func109.trans (congrArg some (by kernel_rfl))⟩
  f23 := ⟨Tryz.f110.name, by decide, Tryz.func110.trans (congrArg some (by kernel_rfl))⟩
  f24 := ⟨Tryz.f111.name, by decide, Tryz.func111.trans (congrArg some (by kernel_rfl))⟩
  f25 := ⟨Tryz.f112.name, by decide, Tryz.func112.trans (congrArg some (by kernel_rfl))⟩
  f26 := ⟨Tryz.f113.name, by decide, Tryz.func113.trans (congrArg some (by kernel_rfl))⟩
  f27 := ⟨Tryz.f114.name, by decide, Tryz.func114.trans (congrArg some (by kernel_rfl))⟩
  f28 := Tryz.func115.trans (congrArg some (by kernel_rfl))
  f29 := Tryz.func116.trans (congrArg some (by kernel_rfl))
  f46 := ⟨Tryz.f129.name, by decide, Tryz.func129.trans (congrArg some (by kernel_rfl))⟩
  f47 := Tryz.func130.trans (congrArg some (by kernel_rfl))
  f48 := Tryz.func131.trans (congrArg some (by kernel_rfl))
  f49 := ⟨Tryz.f132.name, by decide, Tryz.func132.trans (congrArg some (by kernel_rfl))⟩
  f50 := ⟨Tryz.f133.name, by decide, Tryz.func133.trans (congrArg some (by kernel_rfl))⟩
  f57 := ⟨Tryz.f149.name, by decide, Tryz.func149.trans (congrArg some (by kernel_rfl))⟩
  t0 := Tryz.underlying0
  a0 := Tryz.isAgg0
  z0 := Tryz.sizeOf0
  v0 := Tryz.zeroValue0
  t3 := Tryz.underlying3
  a3 := Tryz.isAgg3
  z3 := Tryz.sizeOf3
  v3 := Tryz.zeroValue3
  t4 := Tryz.underlying4
  a4 := Tryz.isAgg4
  z4 := Tryz.sizeOf4
  v4 := Tryz.zeroValue4
  t5 := Tryz.underlying5
  a5 := Tryz.isAgg5
  z5 := Tryz.sizeOf5
  v5 := Tryz.zeroValue5
  t9 := Tryz.underlying9
  a9 := Tryz.isAgg9
  z9 := Tryz.sizeOf9
  v9 := Tryz.zeroValue9
  t22 := Tryz.underlying28
  a22 := Tryz.isAgg28
  z22 := Tryz.sizeOf28
  v22 := Tryz.zeroValue28
  t25 := Tryz.underlying68
  a25 := Tryz.isAgg68
  z25 := Tryz.sizeOf68
  v25 := Tryz.zeroValue68
  t39 := Tryz.underlying142
  a39 := Tryz.isAgg142
  z39 := Tryz.sizeOf142
  v39 := Tryz.zeroValue142
  t45 := Tryz.underlying168
  a45 := Tryz.isAgg168
  z45 := Tryz.sizeOf168
  v45 := Tryz.zeroValue168
  t46 := Tryz.underlying169
  a46 := Tryz.isAgg169
  z46 := Tryz.sizeOf169
  v46 := Tryz.zeroValue169
  t50 := Tryz.underlying123
  a50 := Tryz.isAgg123
  z50 := Tryz.sizeOf123
  v50 := Tryz.zeroValue123
  t53 := Tryz.underlying44
  a53 := Tryz.isAgg44
  z53 := Tryz.sizeOf44
  v53 := Tryz.zeroValue44
  t55 := Tryz.underlying32
  a55 := Tryz.isAgg32
  z55 := Tryz.sizeOf32
  v55 := Tryz.zeroValue32
  t66 := Tryz.underlying187
  a66 := Tryz.isAgg187
  z66 := Tryz.sizeOf187
  v66 := Tryz.zeroValue187
  t70 := Tryz.underlying191
  a70 := Tryz.isAgg191
  z70 := Tryz.sizeOf191
  v70 := Tryz.zeroValue191
  t76 := Tryz.underlying207
  a76 := Tryz.isAgg207
  z76 := Tryz.sizeOf207
  v76 := Tryz.zeroValue207
  t77 := Tryz.underlying208
  a77 := Tryz.isAgg208
  z77 := Tryz.sizeOf208
  v77 := Tryz.zeroValue208

section
variable {W0 : World} {m0 : Inj Tryz.prog}
theorem nm_closed (x : Nm) : x.cells.all (closedV 3) = true := rfl
theorem nm_one (x : Nm) : x.cells.all oneCell = true := rfl
theorem cmp27 (W : World) (x y : Nm) : Wc Tryz.prog theX W (mG Tryz.prog) 27 [.agg ⟨x.cells⟩, .agg ⟨y.cells⟩] (wG Tryz.prog.globals.size []) fun v _ => v = .int .i64 (xcmp x y) :=
  wc27 ⟨fun _ _ => rfl, fun _ _ => rfl⟩ (of_decide_eq_true (by kernel_rfl)) fun _ _ => rfl
/-- the library's sort, of names of the call's own -/
theorem sort_names {v : Value} {l : List Nm} {F : List Nat} {A : AW} {K : Value → AW → Prop} (h : OwnE 46 2 Nm.cells A v l F) (hf : Fine A) (hl : l.length < 1000000)
    (hk : ∀ A', OwnE 46 2 Nm.cells A' v (l.mergeSort fun x y => !(Go.Proofs.ltOf xcmp y x)) F → Keeps A A' F → A'.next = A.next → Fine A' → K (.tuple #[]) A') : knW Tryz.prog W0 m0 54 [v, .func (.func 27) #[] #[]] A K := by
  refine .inr (lib_sort (P := Tryz.prog) (ρ := sortR) sortX (k := 3) (by decide) Tryz.isAgg46 Tryz.sizeOf46 (enc := Nm.cells) (fun _ => rfl) (fun x u hu => ?_) nm_one nm_closed xcmp_swo xcmp_total (g := 27) ?_ (cmp_lays gP ?_ nm_closed cmp27) h hf (by omega) fun A' h1 k1 n1 f1 => hk A' ?_ k1 n1 f1)
  · simp only [Nm.cells, List.mem_cons, List.not_mem_nil, or_false] at hu
    rcases hu with rfl | rfl | rfl <;> rfl
  · exact enters_of Tryz.func27 (by kernel_rfl) rfl
  · exact of_decide_eq_true (by kernel_rfl)
  · unfold OwnE
    rw [List.length_mergeSort]
    exact h1
end
end Go.Proofs.YtdpdajpiadohjaaGreatDoor


namespace Go.Proofs.YtdpdajpiadohjaaGreatDoor
open Go.Abs

def slen (s : ByteArray) : Nat := s.data.toList.length
/-! a text's order, byte by byte -/
theorem cb_at : ∀ (i : Nat) (a b : List UInt8), a.take i = b.take i → i ≤ a.length → i ≤ b.length → Go.Lib.compareBytes a b = Go.Lib.compareBytes (a.drop i) (b.drop i)
  | 0, a, b, _, _, _ => rfl
  | i + 1, [], b, _, h, _ => by simp at h
  | i + 1, _ :: _, [], _, _, h => by simp at h
  | i + 1, a :: xs, b :: ys, h, h1, h2 => by
    simp only [List.take_succ_cons, List.cons.injEq] at h
    obtain ⟨rfl, h⟩ := h
    simp only [Go.Lib.compareBytes, UInt8.lt_irrefl, if_false, List.drop_succ_cons]
    exact cb_at i xs ys h (by simpa using h1) (by simpa using h2)
theorem cb_neq {a b : UInt8} {xs ys : List UInt8} (h : (a.toNat : Int) ≠ (b.toNat : Int)) : (a.toNat : Int) < (b.toNat : Int) ↔ Go.Lib.compareBytes (a :: xs) (b :: ys) < 0 := by
  simp only [Go.Lib.compareBytes]
  by_cases h1 : a < b
  · have := UInt8.lt_iff_toNat_lt.1 h1
    rw [if_pos h1]
    omega
  · have hn : ¬ a.toNat < b.toNat := fun h => h1 (UInt8.lt_iff_toNat_lt.2 h)
    have h2 : b < a := UInt8.lt_iff_toNat_lt.2 (by omega)
    rw [if_neg h1, if_pos h2]
    omega
theorem cb_nil {a b : List UInt8} (h : a = [] ∨ b = []) : Go.Lib.compareBytes a b < 0 ↔ a.length < b.length := by
  cases a with
  | nil => cases b <;> simp [Go.Lib.compareBytes]
  | cons x a =>
    cases b with
    | nil => simp [Go.Lib.compareBytes]
    | cons y b => simp at h
theorem idx9 {s : ByteArray} {i : Nat} {c : UInt8} (h : s.data.toList[i]? = some c) : indexA Tryz.prog 9 (.string s) (.int .i64 (i : Int)) = some (.int .u8 (c.toNat : Int)) := by
  show indexA Tryz.prog 9 (.string s) (.int .i64 (.ofNat i)) = some (.int .u8 (c.toNat : Int))
  unfold indexA
  simp only [ust9]
  rw [h]
theorem keqN_not {p q : Nm} : keqN p q = false ↔ p ≠ q := by
  rw [← Bool.not_eq_true, keqN_iff]
theorem load46 {A : AW} {b : Nat} {p : Nm} {e : TypeId} (h : Go.Abs.Row1 A b p.cells e) : loadP Tryz.prog A 46 (.pointer (some ⟨b, 0, none⟩)) = some (.agg ⟨p.cells⟩) := by
  rw [ld_46, cells_row h.row]; rfl
section
variable {W0 : World} {m0 : Inj Tryz.prog}
/-- the document's order of texts -/
theorem wc85 {A : AW} {a b : ByteArray} {K : Value → AW → Prop} (ha : slen a < 9223372036854775808) (hk : K (.bool (decide (cmpS a b < 0))) A) : Wc Tryz.prog theX W0 m0 85 [.string a, .string b] A K := by
  let I : Nat → Nat → List Value → AW → Prop := fun g id vals A' => id = 0 ∧ A' = A ∧ ∃ i : Nat, vals = [.string a, .string b, .int .i64 (i : Int)] ∧ i ≤ slen a ∧ i ≤ slen b ∧ a.data.toList.take i = b.data.toList.take i ∧ g = slen a - i
  have hsa : a.data.toList.length = slen a := rfl
  have hsb : b.data.toList.length = slen b := rfl
  refine w85 _ _ _ (c85 (I := I) ?_) ?_
  · rintro g id vals A' d ⟨rfl, rfl, i, rfl, hi, hi2, ht, rfl⟩ hd
    rw [l85_0]
    simp only [L85, List.map_cons, List.map_nil, List.cons.injEq, and_true] at hd
    obtain ⟨h0, h1, h5⟩ := hd
    have hat := cb_at i a.data.toList b.data.toList ht (by omega) (by omega)
    simp only [h0, h1, h5, ln_9, hsa, hsb, bin_lss, pureW_some, forkW_dec]
    have hend : (i = slen a ∨ i = slen b) → K (.bool (decide ((slen a : Int) < (slen b : Int)))) A' := fun h => by
      have e : decide (cmpS a b < 0) = decide ((slen a : Int) < (slen b : Int)) := by
        apply decide_eq_decide.2
        unfold cmpS
        rw [hat, cb_nil]
        · rw [List.length_drop, List.length_drop, hsa, hsb]
          omega
        · rcases h with h | h
          · exact .inl (List.drop_eq_nil_of_le (by omega))
          · exact .inr (List.drop_eq_nil_of_le (by omega))
      rw [e] at hk
      exact hk
    refine ⟨fun hlt => ⟨fun hlt2 => ?_, fun h => hend (.inr (by omega))⟩, fun h => hend (.inl (by omega))⟩
    have g1 : i < a.data.toList.length := by omega
    have g2 : i < b.data.toList.length := by omega
    have e1 := idx9 (List.getElem?_eq_getElem g1)
    have e2 := idx9 (List.getElem?_eq_getElem g2)
    simp only [e1, e2, bin_neq, bin_lss, bin_add, pureW_some, forkW_bne]
    refine ⟨fun hne => ?_, fun heq => ?_⟩
    · have e : decide (cmpS a b < 0) = decide ((a.data.toList[i].toNat : Int) < (b.data.toList[i].toNat : Int)) := by
        apply decide_eq_decide.2
        unfold cmpS
        rw [cb_neq (xs := a.data.toList.drop (i + 1)) (ys := b.data.toList.drop (i + 1)) hne, ← List.drop_eq_getElem_cons, ← List.drop_eq_getElem_cons, ← hat]
      rw [e] at hk
      exact hk
    · rw [wrap_i64 (by omega) (by omega)]
      refine cutW_self.2 ⟨slen a - (i + 1), by omega, rfl, rfl, i + 1, rfl, by omega, by omega, ?_, rfl⟩
      have hc : a.data.toList[i] = b.data.toList[i] := by
        apply UInt8.toNat_inj.1
        omega
      rw [List.take_add_one, List.take_add_one, ht, List.getElem?_eq_getElem g1, List.getElem?_eq_getElem g2, hc]
  · rw [e85]
    exact cutW_self.2 ⟨_, rfl, rfl, 0, rfl, by omega, by omega, by simp, rfl⟩
/-- the document's order of names -/
theorem wc59 {A : AW} {p q : Nm} {K : Value → AW → Prop} (hf : Fine A) (hA : A.next + 4 < maxId) (h1 : slen p.g < 9223372036854775808) (h2 : slen p.b < 9223372036854775808) (hk : ∀ A' r, Grow A A' 2 → (r < 0 ↔ xcmp p q < 0) → K (.int .i64 r) A') : Wc Tryz.prog theX W0 m0 59 [.agg ⟨p.cells⟩, .agg ⟨q.cells⟩] A K := by
  refine w59 _ _ _ (cuts_none (S := fun _ _ _ => False) fun _ _ _ h => h) ?_
  rw [e59]
  refine newP_made (cs := p.cells) hf (by omega) rfl fun A1 m1 => ?_
  have n1 := m1.next
  refine newP_made (cs := q.cells) m1.fine (by omega) rfl fun A2 m2 => ?_
  have gr := (Grow.made m1 hf).trans (.made m2 m1.fine)
  have r1 : Go.Abs.Row1 A2 A.next p.cells 46 := m1.row1.keeps (m2.keeps m1.fine) (by simp)
  have r2 : Go.Abs.Row1 A2 A1.next q.cells 46 := m2.row1
  have t1 := load46 r1
  have t2 := load46 r2
  have r1 : Go.Abs.Row1 A2 A.next [.int .u32 (p.f : Int), .string p.g, .string p.b] 46 := r1
  have r2 : Go.Abs.Row1 A2 A1.next [.int .u32 (q.f : Int), .string q.g, .string q.b] 46 := r2
  simp only [t1, t2, eqN, pureW_some]
  have hlt {r : Int} (hr : r < 0 ↔ xcmp p q < 0) : K (.int .i64 r) A2 := hk A2 r gr hr
  have hcs : ∀ x y : ByteArray, (!(x.data.toList == y.data.toList)) = true ↔ x ≠ y := fun x y => by
    rw [Bool.not_eq_true', beq_eq_false_iff_ne]
    exact ⟨fun h e => h (by rw [e]), fun h e => h (ba_eq e)⟩
  have hcs0 : ∀ x y : ByteArray, (!(x.data.toList == y.data.toList)) = false ↔ x = y := fun x y => by
    rw [Bool.not_eq_false', beq_iff_eq]
    exact ⟨fun h => ba_eq h, fun h => by rw [h]⟩
  refine forkW_bool.2 ⟨fun h => ?_, fun h => ?_⟩
  · have := keqN_iff.1 h
    subst this
    exact hlt (by rw [xcmp_zero.2 rfl])
  have hne := keqN_not.1 h
  have hcz : ∀ {x y : ByteArray}, x ≠ y → cmpS x y ≠ 0 := fun h e => h (cmpS_zero.1 e)
  simp only [fa_46_0, fa_46_1, fa_46_2, ld_9, cell_row r1.row, cell_row r2.row, cellOf, isT_int, isT_string, cond_false, pureW_some, Nat.zero_add]
  refine wc85 h2 ?_
  simp only [fa_46_0, fa_46_1, fa_46_2, ld_9, ld_44, cell_row r1.row, cell_row r2.row, cellOf, isT_int, isT_string, cond_false, bin_strneq, bin_neq, bin_lss, pureW_some, forkW_bne, forkW_dec, Nat.zero_add]
  refine forkW_bool.2 ⟨fun hg => ?_, fun hg => ⟨fun hff => ⟨fun h3 => hlt ?_, fun h3 => hlt ?_⟩, fun hff => ⟨fun h3 => hlt ?_, fun h3 => hlt ?_⟩⟩⟩
  · have hg := (hcs _ _).1 hg
    refine wc85 h1 ?_
    simp only [fa_46_0, ld_44, cell_row r1.row, cell_row r2.row, cellOf, isT_int, isT_string, cond_false, bin_neq, bin_lss, pureW_some, forkW_bne, forkW_dec, Nat.zero_add]
    refine ⟨fun hff => ⟨fun h3 => hlt ?_, fun h3 => hlt ?_⟩, fun hff => ⟨fun h3 => hlt ?_, fun h3 => hlt ?_⟩⟩ <;> rw [xcmp_neg]
    · exact ⟨fun _ => .inl (by omega), fun _ => by decide⟩
    · refine ⟨fun h => absurd h (by decide), fun h => ?_⟩
      rcases h with h | ⟨h, _⟩ <;> omega
    · exact ⟨fun _ => .inr ⟨by omega, .inl h3⟩, fun _ => by decide⟩
    · refine ⟨fun h => absurd h (by decide), fun h => ?_⟩
      rcases h with h | ⟨h, h4 | ⟨h4, _⟩⟩
      · omega
      · exact absurd h4 h3
      · exact absurd h4 hg
  all_goals have hg := (hcs0 _ _).1 hg
  all_goals rw [xcmp_neg]
  · exact ⟨fun _ => .inl (by omega), fun _ => by decide⟩
  · refine ⟨fun h => absurd h (by decide), fun h => ?_⟩
    rcases h with h | ⟨h, _⟩ <;> omega
  · exact ⟨fun _ => .inr ⟨by omega, .inr ⟨hg, h3⟩⟩, fun _ => by decide⟩
  · refine ⟨fun h => absurd h (by decide), fun h => ?_⟩
    rcases h with h | ⟨h, h4 | ⟨_, h4⟩⟩
    · omega
    · exact absurd h4 (by rw [hg, cmpS_zero.2 rfl]; decide)
    · exact absurd h4 h3
end
end Go.Proofs.YtdpdajpiadohjaaGreatDoor


namespace Go.Proofs.YtdpdajpiadohjaaGreatDoor
open Go.Abs

theorem dyn55 (A : AW) (l : Nat) (a : Addr) : dynA Tryz.prog theX A (.func (.func 55) ⟨[]⟩ ⟨[.pointer (some a)]⟩) [.func (.yield l) #[] #[]] = .ok (.enter 55 [.func (.yield l) #[] #[], .pointer (some a)]) A := by kernel_rfl
theorem ex_pair0 (a b : Value) : extractP (.tuple #[a, b]) 0 = some a := rfl
theorem ex_tri0 (a b c : Value) : extractP (.tuple #[a, b, c]) 0 = some a := rfl
theorem ex_one0 (a : Value) : extractP (.tuple #[a]) 0 = some a := rfl
theorem nodup_len {γ : Type} : ∀ {a b : List γ}, a.Nodup → (∀ x ∈ a, x ∈ b) → a.length ≤ b.length
  | [], _, _, _ => Nat.zero_le _
  | x :: a, b, hn, hs => by
    obtain ⟨s, t, rfl⟩ := List.append_of_mem (hs x List.mem_cons_self)
    rw [List.nodup_cons] at hn
    have := nodup_len (a := a) (b := s ++ t) hn.2 fun y hy => by
      have hne : y ≠ x := fun e => hn.1 (e ▸ hy)
      rcases List.mem_append.1 (hs y (List.mem_cons_of_mem _ hy)) with h | h
      · exact List.mem_append_left _ h
      · rcases List.mem_cons.1 h with h | h
        · exact absurd h hne
        · exact List.mem_append_right _ h
    simp only [List.length_append, List.length_cons] at *
    omega
theorem newNm1 {A : AW} {p : Nm} {K : Value → AW → Prop} (hf : Fine A) (h : A.next < maxId) (hk : ∀ A', Made A A' p.cells 46 → K (.slice (some ⟨A.next, 0, none⟩) 1 1) A') : bothW (buildSliceA Tryz.prog A 28 1 [(0, .agg ⟨p.cells⟩)]) K := by
  show bothW (buildSliceA Tryz.prog A 28 1 [(0, .agg ⟨[.int .u32 (p.f : Int), .string p.g, .string p.b]⟩)]) K
  rw [bs28]
  unfold AW.newRow AW.new
  have hc : ([Value.int .u32 (p.f : Int), .string p.g, .string p.b].all oneCell) = true := rfl
  simp only [hc, cond_true, blt_true.2 h]
  exact bothW_ok.2 (hk (A.push (.row p.cells 46 A.next 0 false)) ⟨AW.push_ext _ h, rfl, by rw [AW.push_get _ h, if_pos rfl], hf.alone (Nat.le_refl _), hf.push _ h⟩)
/-- a name put into a fresh place -/
theorem putNm {A : AW} {p : Nm} {q : Nat} {cs : List Value} {e : TypeId} {K : AW → Prop} (h : Go.Abs.Row1 A q cs e) (hl : cs.length = 3) (hf : Fine A) (hb : A.next ≤ maxId) (hk : ∀ A', Go.Abs.Row1 A' q p.cells e → Keeps A A' [q] → A'.next = A.next → Fine A' → K A') :
    effW (storeP Tryz.prog A 46 (.pointer (some ⟨q, 0, none⟩)) (.agg ⟨p.cells⟩)) K := by
  refine h.store hf hb (st_46 _ _ _) rfl (by omega) rfl fun A' h1 k1 n1 f1 => hk A' ?_ k1 n1 f1
  match cs, hl with
  | [_, _, _], _ => exact h1

theorem tm80 (q b : Nat) (v : Value) : (setAll (setsT ⟨13, .nil⟩ [(0, .slice none 0 0), (1, .func (.func 55) ⟨[]⟩ ⟨[.pointer (some ⟨q, 0, none⟩)]⟩), (2, .pointer (some ⟨b, 0, none⟩)), (4, .slice none 0 0), (6, .func (.func 55) ⟨[]⟩ ⟨[.pointer (some ⟨q, 0, none⟩)]⟩)]) [(7, v)]).sz = 13 ∧
    (setAll (setsT ⟨13, .nil⟩ [(0, .slice none 0 0), (1, .func (.func 55) ⟨[]⟩ ⟨[.pointer (some ⟨q, 0, none⟩)]⟩), (2, .pointer (some ⟨b, 0, none⟩)), (4, .slice none 0 0), (6, .func (.func 55) ⟨[]⟩ ⟨[.pointer (some ⟨q, 0, none⟩)]⟩)]) [(7, v)]).get 2 = .pointer (some ⟨b, 0, none⟩) ∧
    (setAll (setsT ⟨13, .nil⟩ [(0, .slice none 0 0), (1, .func (.func 55) ⟨[]⟩ ⟨[.pointer (some ⟨q, 0, none⟩)]⟩), (2, .pointer (some ⟨b, 0, none⟩)), (4, .slice none 0 0), (6, .func (.func 55) ⟨[]⟩ ⟨[.pointer (some ⟨q, 0, none⟩)]⟩)]) [(7, v)]).get 7 = v := ⟨by kernel_rfl, by kernel_rfl, by kernel_rfl⟩
section
variable {W0 : World} {m0 : Inj Tryz.prog} {β : Type} {ve : β → Value}
/-- the loop's record -/
abbrev loopC (tm : Tm) (D : Nat) (ac bd : Code) : ALoop := { state := .ready, pending := none, fn := 80, tm := tm, params := [7], assign := ac, body := bd, defers := D }
set_option maxHeartbeats 1000000 in
theorem wc55 {A : AW} {q r b l c D : Nat} {es : List (En Nm β)} {tm : Tm} {ac bd : Code} {K : Value → AW → Prop} (has : ac = cd 80 [1, 0, 1, 0, 0]) (hbd : bd = cd 80 [1, 0, 1, 0, 1]) (hq : Go.Abs.Row1 A q [.map (some r)] 57) (hm : OwnM kN ve A r es c) (hb : Go.Abs.Row1 A b [.slice none 0 0] 28) (hl : LoopR A l (loopC tm D ac bd)) (hbl : b ≠ l) (hqb : q ≠ b) (hql : q ≠ l) (hrb : r ≠ b) (hrl : r ≠ l)
    (ht : ∀ v, (setAll tm [(7, v)]).sz = 13 ∧ (setAll tm [(7, v)]).get 2 = .pointer (some ⟨b, 0, none⟩) ∧ (setAll tm [(7, v)]).get 7 = v) (hf : Fine A) (hes : es.length < 100000) (hA : A.next + 20 + 6 * es.length < maxId)
    (hk : ∀ A' sv F (vs : List (En Nm β)), Go.Abs.Row1 A' b [sv] 28 → LoopR A' l (loopC tm D ac bd) → OwnE 46 2 Nm.cells A' sv (vs.map En.k) F → vs.Perm es → (∀ x ∈ F, A.next < x) → Keeps A A' [b, l] → A'.next ≤ A.next + 1 + 6 * es.length → Fine A' → K (.tuple ⟨[]⟩) A') :
    Wc Tryz.prog theX W0 m0 55 [.func (.yield l) #[] #[], .pointer (some ⟨q, 0, none⟩)] A K := by
  have hblt := hb.lt
  have hllt := hl.lt
  have hqlt := hq.lt
  have hrlt := hm.ltA
  let I : Nat → Nat → List Value → AW → Prop := fun g id vals A' => id = 0 ∧ ∃ (sv : Value) (F : List Nat) (vs : List (En Nm β)), vals = [.func (.yield l) #[] #[], .pointer (some ⟨A.next, 0, none⟩)] ∧ Iter A' A.next r c vs ∧ OwnM kN ve A' r es c ∧ Go.Abs.Row1 A' b [sv] 28 ∧ LoopR A' l (loopC tm D ac bd) ∧
    OwnE 46 2 Nm.cells A' sv (vs.map En.k) F ∧ (∀ e ∈ vs, e ∈ es) ∧ (vs.map En.b).Nodup ∧ (∀ x ∈ F, A.next < x) ∧ Keeps A A' [b, l] ∧ Fine A' ∧ A'.next ≤ A.next + 1 + 6 * vs.length ∧ g = es.length - vs.length
  refine w55 _ _ _ (c55 (I := I) ?_) ?_
  · rintro g id vals A' d ⟨rfl, sv, F, vs, rfl, hit, hm', hb', hl', ho, hvs, hnd, hF, k, f, nx, rfl⟩ hd
    rw [l55_0]
    simp only [L55, List.map_cons, List.map_nil, List.cons.injEq, and_true] at hd
    obtain ⟨d0, d5⟩ := hd
    rw [d0, d5]
    have hlen := nodup_len (nodup_of _ hnd) hvs
    refine hm'.next hit hvs f (by omega) (fun e A2 he hnv it2 k2 n2 f2 => ?_) fun hall => ?_
    · have hm2 := hm'.keeps k2 (by simp; omega)
      have hb2 := hb'.keeps k2 (by simp; omega)
      have hl2 := hl'.keeps k2 (by simp; omega)
      have ho2 := ho.keeps k2 (fun x hx => by have := hF x hx; simp; omega)
      have K2 : Keeps A A2 [b, l] := k.trans k2 (by simp)
      have hvs2 : ∀ x ∈ vs ++ [e], x ∈ es := fun x hx => by
        rcases List.mem_append.1 hx with h | h
        · exact hvs x h
        · rw [List.mem_singleton.1 h]; exact he
      have hnd2 : ((vs ++ [e]).map En.b).Nodup := by
        rw [List.map_append, List.nodup_append]
        refine ⟨hnd, by simp, fun x hx y hy hxy => hnv ?_⟩
        obtain ⟨z, hz, rfl⟩ := List.mem_map.1 hx
        obtain rfl : y = e.b := by simpa using hy
        rw [← inj_b hm.nb (hvs z hz) he hxy]
        exact hz
      have hlen2 := nodup_len (nodup_of _ hnd2) hvs2
      have hl1 : (vs ++ [e]).length = vs.length + 1 := by simp
      have hle := K2.next
      simp only [ex_tri0, pureW_some]
      refine forkW_bool.2 ⟨fun _ => ?_, fun h => by cases h⟩
      refine hm2.entry it2 he ?_
      simp only [ex_pair0, pureW_some]
      refine allocP_made zero46 f2 (by omega) rfl fun A3 m3 => ?_
      have n3 := m3.next
      have k3 := m3.keeps f2
      refine putNm (p := e.k) m3.row1 rfl m3.fine (by omega) fun A4 h4 k4 n4 f4 => ?_
      have K24 : Keeps A2 A4 [] := k3.trans k4 (by simp)
      simp only [load46 h4, pureW_some]
      have hb4 := hb2.keeps K24 (by simp)
      have hl4 := hl2.keeps K24 (by simp)
      have hm4 := hm2.keeps K24 (by simp)
      have it4 := it2.keeps K24 (by simp)
      have ho4 := ho2.keeps K24 (by simp)
      obtain ⟨t1, t2, t3⟩ := ht (kN e.k)
      refine yield_round hl4 rfl (round_of (T := T80) (L := L80) (N := 4000) gX gP gPlain (by decide) t1 ?_)
      rw [has, hbd, r80_0]
      have t2 : (setAll tm (List.zip [7] [kN e.k])).get 2 = .pointer (some ⟨b, 0, none⟩) := t2
      have t3 : (setAll tm (List.zip [7] [kN e.k])).get 7 = .agg ⟨e.k.cells⟩ := t3
      refine allocP_made zero46 f4 (by omega) rfl fun A5 m5 => ?_
      have n5 := m5.next
      have k5 := m5.keeps f4
      have t3' : (setAll tm (List.zip [7] [Value.agg ⟨e.k.cells⟩])).get 7 = .agg ⟨e.k.cells⟩ := t3
      have t2' : (setAll tm (List.zip [7] [Value.agg ⟨e.k.cells⟩])).get 2 = .pointer (some ⟨b, 0, none⟩) := t2
      simp only [t3']
      refine putNm (p := e.k) m5.row1 rfl m5.fine (by omega) fun A6 h6 k6 n6 f6 => ?_
      have K46 : Keeps A4 A6 [] := k5.trans k6 (by simp)
      refine beginW_made (hl4.keeps K46 (by simp)) rfl f6 (by omega) fun A7 hl7 k7 n7 f7 => ?_
      have hb7 := (hb4.keeps K46 (by simp)).keeps k7 (by simp; omega)
      have ho7 := (ho4.keeps K46 (by simp)).keeps k7 (fun x hx => by have := hF x hx; simp; omega)
      have h7 := h6.keeps k7 (by simp; omega)
      have one7 := ho7.one
      simp only [t2', ld_28, cell_row hb7.row, cellOf, one7.2, cond_false, load46 h7, pureW_some]
      refine newNm1 f7 (by omega) fun A8 m8 => ?_
      have n8 := m8.next
      have k8 := m8.keeps f7
      refine OwnE.append etN (ho7.keeps k8 (by simp)) m8.row1 m8.fine (by omega) (by rw [List.length_map]; omega) fun sv5 A9 F5 ho9 k9 hF9 n9 f9 => ?_
      have hb9 := (hb7.keeps k8 (by simp)).keeps k9 (fun hm => by have := hF _ hm; omega)
      have hl9 := (hl7.keeps k8 (by simp)).keeps k9 (fun hm => by have := hF _ hm; omega)
      have hm9 := (((hm4.keeps K46 (by simp)).keeps k7 (by simp; omega)).keeps k8 (by simp)).keeps k9 (fun hm => by have := hF _ hm; omega)
      have hit9 := (((it4.keeps K46 (by simp)).keeps k7 (by simp; omega)).keeps k8 (by simp)).keeps k9 (fun hm => by have := hF _ hm; omega)
      have hF9' : ∀ x ∈ F5, A.next < x := fun x hx => by
        rcases hF9 x hx with h | h
        · exact hF x h
        · omega
      obtain ⟨o5, hx5⟩ : ∃ o n c, sv5 = .slice o n c := by
        rcases ho9 with ⟨rfl, _⟩ | ⟨_, _, rfl, _⟩
        · exact ⟨_, _, _, rfl⟩
        · exact ⟨_, _, _, rfl⟩
      refine hb9.store f9 (by omega) (st_28 _ _ _) (by obtain ⟨n, c, rfl⟩ := hx5; rfl) (by simp) (by obtain ⟨n, c, rfl⟩ := hx5; rfl) fun A10 hb10 k10 n10 f10 => ?_
      have hb10 : Go.Abs.Row1 A10 b [sv5] 28 := by obtain ⟨n, c, rfl⟩ := hx5; exact hb10
      refine leaveW_made (hl9.keeps k10 (by simp; omega)) f10 (by omega) fun A11 hl11 k11 n11 f11 => ?_
      have hl11 : LoopR A11 l (loopC tm D ac bd) := hl11
      simp only [un_not, pureW_some]
      refine forkW_bool.2 ⟨fun h => (by cases h), fun _ => ?_⟩
      refine cutW_self.2 ⟨es.length - (vs.length + 1), by omega, rfl, sv5, F5, vs ++ [e], rfl, (hit9.keeps k10 (by simp; omega)).keeps k11 (by simp; omega), (hm9.keeps k10 (by simp; omega)).keeps k11 (by simp; omega), hb10.keeps k11 (by simp; omega), hl11, ?_, hvs2, hnd2, hF9', ?_, f11, by omega, by omega⟩
      · rw [List.map_append]
        exact (ho9.keeps k10 (fun x hx => by have := hF9' x hx; simp; omega)).keeps k11 (fun x hx => by have := hF9' x hx; simp; omega)
      · exact ((((((K2.trans K24 (by simp)).trans K46 (by simp)).trans k7 (by simp)).trans k8 (by simp)).trans k9 (fun x hx => .inr (by have := hF x hx; omega))).trans k10 (by simp)).trans k11 (by simp)
    · simp only [ex_one0, pureW_some]
      refine forkW_bool.2 ⟨fun h => (by cases h), fun _ => ?_⟩
      exact hk A' sv F vs hb' hl' ho (told_all hm.nb hnd hvs hall) hF k (by omega) f
  · rw [e55]
    simp only [ld_57, cell_row hq.row, cellOf, isT_map, cond_false, pureW_some]
    refine hm.range mtN hf (by omega) fun A1 hit k1 n1 f1 => ?_
    exact cutW_self.2 ⟨es.length, rfl, .slice none 0 0, [], [], rfl, hit, hm.keeps k1 (by simp), hb.keeps k1 (by simp), hl.keeps k1 (by simp), .nil _, by simp, by simp, by simp, k1.more (by simp), f1, by simp; omega, rfl⟩
theorem wc80 {A : AW} {q r c : Nat} {es : List (En Nm β)} {K : Value → AW → Prop} (hq : Go.Abs.Row1 A q [.map (some r)] 57) (hm : OwnM kN ve A r es c) (hf : Fine A) (hes : es.length < 100000) (hA : A.next + 40 + 6 * es.length < maxId)
    (hk : ∀ A' sv F (vs : List (En Nm β)), OwnE 46 2 Nm.cells A' sv (vs.map En.k) F → vs.Perm es → (∀ x ∈ F, A.next ≤ x) → Keeps A A' [] → A'.next ≤ A.next + 20 + 6 * es.length → Fine A' → K sv A') :
    Wc Tryz.prog theX W0 m0 80 [.slice none 0 0, .func (.func 55) ⟨[]⟩ ⟨[.pointer (some ⟨q, 0, none⟩)]⟩] A K := by
  have hqlt := hq.lt
  have hrlt := hm.ltA
  refine w80 _ _ _ (cuts_none (S := fun _ _ _ => False) fun _ _ _ h => h) ?_
  rw [e80]
  refine newP_made (cs := [.slice none 0 0]) hf (by omega) rfl fun A1 m1 => ?_
  have n1 := m1.next
  have k1 := m1.keeps hf
  refine loopW_made m1.fine (by omega) fun A2 hD hl k2 n2 f2 => ?_
  have K2 : Keeps A A2 [] := k1.trans k2 (by simp)
  refine ⟨55, _, A2, dyn55 A2 _ ⟨q, 0, none⟩, wc55 rfl rfl (hq.keeps K2 (by simp)) (hm.keeps K2 (by simp)) (m1.row1.keeps k2 (by simp)) hl (by omega) (by omega) (by omega) (by omega) (by omega) (fun v => tm80 q _ v) f2 hes (by omega) fun A3 sv F vs hb3 hl3 ho3 hp hF k3 n3 f3 => ?_⟩
  refine endLoopW_made hl3 (show LoopState.ready ≠ LoopState.busy from fun h => by cases h) rfl f3 (by omega) fun A4 k4 n4 f4 => ?_
  have hb4 := hb3.keeps k4 (by simp; omega)
  have ho4 := ho3.keeps k4 (fun x hx => by have := hF x hx; simp; omega)
  have one4 := ho4.one
  simp only [ld_28, cell_row hb4.row, cellOf, one4.2, cond_false, pureW_some]
  refine takeDs_one ((hD.keeps k3 (by simp; omega)).keeps k4 (by simp)) f4 (by omega) fun A5 k5 n5 f5 => ?_
  refine hk A5 sv F vs (ho4.keeps k5 (fun x hx => by have := hF x hx; simp; omega)) hp (fun x hx => by have := hF x hx; omega) ?_ (by omega) f5
  exact ((K2.trans k3 (by simp; omega)).trans k4 (by simp; omega)).trans k5 (by simp; omega)
/-- the names of a map, sorted -/
theorem wc25 {A : AW} {q r c : Nat} {es : List (En Nm β)} {K : Value → AW → Prop} (hq : Go.Abs.Row1 A q [.map (some r)] 57) (hm : OwnM kN ve A r es c) (hf : Fine A) (hes : es.length < 100000) (hA : A.next + 40 + 6 * es.length < maxId)
    (hk : ∀ A' sv F (vs : List (En Nm β)), OwnE 46 2 Nm.cells A' sv (srt (vs.map En.k)) F → vs.Perm es → (∀ x ∈ F, A.next ≤ x) → Keeps A A' [] → A'.next ≤ A.next + 20 + 6 * es.length → Fine A' → K sv A') :
    Wc Tryz.prog theX W0 m0 25 [.func (.func 55) ⟨[]⟩ ⟨[.pointer (some ⟨q, 0, none⟩)]⟩, .func (.func 27) #[] #[]] A K := by
  refine w25 _ _ _ (cuts_none (S := fun _ _ _ => False) fun _ _ _ h => h) ?_
  rw [e25]
  refine w53 _ _ (cuts_none (S := fun _ _ _ => False) fun _ _ _ h => h) ?_
  rw [e53]
  refine wc80 hq hm hf hes hA fun A1 sv F vs ho hp hF k1 n1 f1 => ?_
  have hlen := hp.length_eq
  refine sort_names ho f1 (by rw [List.length_map]; omega) fun A2 ho2 k2 n2 f2 => ?_
  exact hk A2 sv F vs ho2 hp hF (k1.trans k2 fun x hx => .inr (hF x hx)) (by omega) f2
end
end Go.Proofs.YtdpdajpiadohjaaGreatDoor
