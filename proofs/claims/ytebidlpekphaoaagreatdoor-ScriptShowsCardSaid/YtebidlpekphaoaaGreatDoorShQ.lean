/-
  What the operations are at the program's types; bytes, texts, and builders of texts as they lie in memory. Conditions: those of each theorem.
-/
import Derived.Test.YtebidlpekphaoaaGreatDoorShT
import Derived.Test.YtebidlpekphaoaaGreatDoorAbsI

namespace Go.Proofs.YtebidlpekphaoaaGreatDoor
open Go.Abs
theorem fa_70_0 (b o : Nat) : fieldAddrA Tryz.prog 70 (.pointer (some ⟨b, o, none⟩)) 0 = some (.pointer (some ⟨b, o, none⟩)) := by kernel_rfl
theorem fa_70_1 (b o : Nat) : fieldAddrA Tryz.prog 70 (.pointer (some ⟨b, o, none⟩)) 1 = some (.pointer (some ⟨b, o + 1, none⟩)) := by kernel_rfl
theorem ld_3 (A : AW) (a : Addr) : loadP Tryz.prog A 3 (.pointer (some a)) = A.cell? a := by kernel_rfl
theorem ld_5 (A : AW) (a : Addr) : loadP Tryz.prog A 5 (.pointer (some a)) = A.cell? a := by kernel_rfl
theorem ld_9 (A : AW) (a : Addr) : loadP Tryz.prog A 9 (.pointer (some a)) = A.cell? a := by kernel_rfl
theorem ld_33 (A : AW) (a : Addr) : loadP Tryz.prog A 33 (.pointer (some a)) = A.cell? a := by kernel_rfl
theorem ld_68 (A : AW) (a : Addr) : loadP Tryz.prog A 68 (.pointer (some a)) = A.cell? a := by kernel_rfl
theorem st_3 (A : AW) (a : Addr) (v : Value) : storeP Tryz.prog A 3 (.pointer (some a)) v = (bif Nat.beq v.cells.toList.length 1 then A.setCells a v.cells.toList else none) := by kernel_rfl
theorem st_33 (A : AW) (a : Addr) (v : Value) : storeP Tryz.prog A 33 (.pointer (some a)) v = (bif Nat.beq v.cells.toList.length 1 then A.setCells a v.cells.toList else none) := by kernel_rfl
theorem st_68 (A : AW) (a : Addr) (v : Value) : storeP Tryz.prog A 68 (.pointer (some a)) v = (bif Nat.beq v.cells.toList.length 1 then A.setCells a v.cells.toList else none) := by kernel_rfl
theorem ia_33 (b o n c i : Nat) (k : IntKind) : indexAddrA Tryz.prog 33 (.slice (some ⟨b, o, none⟩) n c) (.int k (.ofNat i)) = (bif Nat.blt i n then some (.pointer (some (addA ⟨b, o, none⟩ (i * 1)))) else none) := by kernel_rfl
theorem ln_9 (A : AW) (s : ByteArray) : lenA Tryz.prog A 9 (.string s) = some (.int .i64 s.data.toList.length) := by kernel_rfl
theorem ln_33 (A : AW) (a : Option Addr) (n c : Nat) : lenA Tryz.prog A 33 (.slice a n c) = some (.int .i64 n) := by kernel_rfl

theorem cv_3_5 (A : AW) (n : Int) (k : IntKind) : convertA Tryz.prog A 3 5 (.int k n) = .ok (.int .u8 (IntKind.u8.wrap n)) A := by kernel_rfl
theorem cv_5_3 (A : AW) (n : Int) (k : IntKind) : convertA Tryz.prog A 5 3 (.int k n) = .ok (.int .i64 (IntKind.i64.wrap n)) A := by kernel_rfl
theorem cv_21_30 (A : AW) (n : Int) (k : IntKind) : convertA Tryz.prog A 21 30 (.int k n) = .ok (.int .u32 (IntKind.u32.wrap n)) A := by kernel_rfl
theorem cv_21_5 (A : AW) (n : Int) (k : IntKind) : convertA Tryz.prog A 21 5 (.int k n) = .ok (.int .u8 (IntKind.u8.wrap n)) A := by kernel_rfl
theorem cv_9_33 (A : AW) (s : ByteArray) : convertA Tryz.prog A 9 33 (.string s) = (match A.new (.row (bytesV s.data.toList) 5 A.next 0 false) with
      | some (b, w') => .ok (.slice (some ⟨b, 0, none⟩) s.data.toList.length (capU + s.data.toList.length)) w'
      | none => .fail "convert new") := by kernel_rfl
theorem cv_68_132 (A : AW) (q : Nat) : convertA Tryz.prog A 68 132 (.pointer (some ⟨q, 0, none⟩)) = (match A.get q with
      | some (.row cs _ _ _ _) => bif Nat.blt 0 cs.length then .ok (.pointer (some ⟨q, 0, none⟩)) A else .fail "convert away"
      | _ => .fail "convert away") := by kernel_rfl
theorem cv_132_68 (A : AW) (q : Nat) : convertA Tryz.prog A 132 68 (.pointer (some ⟨q, 0, none⟩)) = (match A.get q with
      | some (.row cs e fam _ _) => bif Nat.beq fam q && liesAt Tryz.prog Tryz.prog.depth e (cs.length / Tryz.prog.cellsOf e) 0 70 1 then .ok (.pointer (some ⟨q, 0, none⟩)) A else .fail "convert back"
      | _ => .fail "convert back") := by kernel_rfl
theorem lies70 : liesAt Tryz.prog Tryz.prog.depth 70 (2 / Tryz.prog.cellsOf 70) 0 70 1 = true := by kernel_rfl
theorem ix_9 (s : ByteArray) (k : IntKind) (i : Nat) : indexA Tryz.prog 9 (.string s) (.int k (.ofNat i)) = (match s.data.toList[i]? with | some b => some (.int .u8 b.toNat) | none => none) := by kernel_rfl
theorem ix9 {s : ByteArray} {k : IntKind} {i : Nat} {b : UInt8} (h : s.data.toList[i]? = some b) : indexA Tryz.prog 9 (.string s) (.int k (i : Int)) = some (.int .u8 (b.toNat : Int)) := by
  show indexA Tryz.prog 9 (.string s) (.int k (.ofNat i)) = _
  rw [ix_9, h]
theorem ust9 : Tryz.prog.underlying 9 = some .string := by kernel_rfl
theorem sl9 {A : AW} {s : ByteArray} {l h : Nat} {k1 k2 : IntKind} (h1 : l ≤ h) (h2 : h ≤ s.data.toList.length) : sliceA Tryz.prog A 9 (.string s) (some (.int k1 (l : Int))) (some (.int k2 (h : Int))) none = some (.string ⟨⟨(s.data.toList.take h).drop l⟩⟩) := by
  show sliceA Tryz.prog A 9 (.string s) (some (.int k1 (.ofNat l))) (some (.int k2 (.ofNat h))) none = _
  unfold sliceA
  simp only [ust9, bounds, okMax, boundA, Option.isSome_some, Bool.true_or, cond_true, ble_true.2 h2, ble_true.2 h1]
theorem add9 {a b : ByteArray} {xo yo : Operand} (h : a.data.toList.length + b.data.toList.length < 1099511627776) : binA Tryz.prog .add 9 xo yo (.string a) (.string b) = some (.string ⟨⟨a.data.toList ++ b.data.toList⟩⟩) := by
  show (bif Nat.blt (a.data.toList ++ b.data.toList).length 1099511627776 then some (Value.string ⟨⟨a.data.toList ++ b.data.toList⟩⟩) else none) = _
  rw [List.length_append, blt_true.2 h, cond_true]
theorem bt33 : BT Tryz.prog 5 33 9 := ⟨by kernel_rfl, by kernel_rfl, by kernel_rfl, by kernel_rfl, by kernel_rfl, by kernel_rfl, by kernel_rfl, by kernel_rfl, ln_33, ia_33, ld_5, fun _ _ _ => by kernel_rfl⟩
theorem bs33_1 (A : AW) (n : Int) : buildSliceA Tryz.prog A 33 1 [(0, .int .u8 n)] = (match A.newRow [.int .u8 n] 5 with | some (a, w') => .ok (.slice (some a) 1 1) w' | none => .fail "buildSlice new") := by kernel_rfl
theorem bs33_2 (A : AW) (n m : Int) : buildSliceA Tryz.prog A 33 2 [(0, .int .u8 n), (1, .int .u8 m)] = (match A.newRow [.int .u8 n, .int .u8 m] 5 with | some (a, w') => .ok (.slice (some a) 2 2) w' | none => .fail "buildSlice new") := by kernel_rfl
theorem fresh33_1 (n : Int) : freshOf Tryz.prog (evalT (Tm.fill ⟨1, .nil⟩ 0 [.int .u8 n])) (.buildSlice 33 1 #[(0, .tmp 0)]) = some (.slice [.int .u8 n] 5 1) := by kernel_rfl
theorem fresh33_2 (n m : Int) : freshOf Tryz.prog (evalT (Tm.fill ⟨2, .nil⟩ 0 [.int .u8 n, .int .u8 m])) (.buildSlice 33 2 #[(0, .tmp 0), (1, .tmp 1)]) = some (.slice [.int .u8 n, .int .u8 m] 5 2) := by kernel_rfl
/-- one byte in a slice of its own -/
theorem new1 {A : AW} {n : UInt8} {K : Value → AW → Prop} (hf : Fine A) (h : A.next < maxId) (hk : ∀ A', Made A A' (bytesV [n]) 5 → K (.slice (some ⟨A.next, 0, none⟩) 1 1) A') : bothW (buildSliceA Tryz.prog A 33 1 [(0, .int .u8 (n.toNat : Int))]) K := by
  rw [bs33_1]
  unfold AW.newRow AW.new
  have hc : ([Value.int .u8 (n.toNat : Int)].all oneCell) = true := rfl
  simp only [hc, cond_true, blt_true.2 h]
  exact bothW_ok.2 (hk (A.push (.row (bytesV [n]) 5 A.next 0 false)) ⟨AW.push_ext _ h, rfl, by rw [AW.push_get _ h, if_pos rfl], hf.alone (Nat.le_refl _), hf.push _ h⟩)
theorem new2 {A : AW} {n m : UInt8} {K : Value → AW → Prop} (hf : Fine A) (h : A.next < maxId) (hk : ∀ A', Made A A' (bytesV [n, m]) 5 → K (.slice (some ⟨A.next, 0, none⟩) 2 2) A') : bothW (buildSliceA Tryz.prog A 33 2 [(0, .int .u8 (n.toNat : Int)), (1, .int .u8 (m.toNat : Int))]) K := by
  rw [bs33_2]
  unfold AW.newRow AW.new
  have hc : ([Value.int .u8 (n.toNat : Int), .int .u8 (m.toNat : Int)].all oneCell) = true := rfl
  simp only [hc, cond_true, blt_true.2 h]
  exact bothW_ok.2 (hk (A.push (.row (bytesV [n, m]) 5 A.next 0 false)) ⟨AW.push_ext _ h, rfl, by rw [AW.push_get _ h, if_pos rfl], hf.alone (Nat.le_refl _), hf.push _ h⟩)
theorem Made.rdB {A A' : AW} {l : List UInt8} {c : Nat} (m : Made A A' (bytesV l) 5) : RdB A' (.slice (some ⟨A.next, 0, none⟩) l.length c) l [A.next] :=
  .inr ⟨A.next, 0, c, bytesV l, 5, A.next, 0, false, [], rfl, m.row, by rw [m.next]; omega, rfl, by simp⟩
theorem freshW_33 {A : AW} {q : Nat} {n : UInt8} {p : Prop} (h : A.get q = some (.row (bytesV [n]) 5 q 0 false)) (hp : p) : freshW (freshOf Tryz.prog (evalT (Tm.fill ⟨1, .nil⟩ 0 [.int .u8 (n.toNat : Int)])) (.buildSlice 33 1 #[(0, .tmp 0)])) A (.slice (some ⟨q, 0, none⟩) 1 1) p := by
  refine ⟨⟨_, fresh33_1 _, ?_⟩, hp⟩
  have h : A.get q = some (.row [.int .u8 (n.toNat : Int)] 5 q 0 false) := h
  simp only [stillFresh, rowHas, h, sameL, same_int, Bool.and_self, Option.isNone_none, Bool.true_and, Nat.beq_refl]
theorem freshW_332 {A : AW} {q : Nat} {n m : UInt8} {p : Prop} (h : A.get q = some (.row (bytesV [n, m]) 5 q 0 false)) (hp : p) : freshW (freshOf Tryz.prog (evalT (Tm.fill ⟨2, .nil⟩ 0 [.int .u8 (n.toNat : Int), .int .u8 (m.toNat : Int)])) (.buildSlice 33 2 #[(0, .tmp 0), (1, .tmp 1)])) A (.slice (some ⟨q, 0, none⟩) 2 2) p := by
  refine ⟨⟨_, fresh33_2 _ _, ?_⟩, hp⟩
  have h : A.get q = some (.row [.int .u8 (n.toNat : Int), .int .u8 (m.toNat : Int)] 5 q 0 false) := h
  simp only [stillFresh, rowHas, h, sameL, same_int, Bool.and_self, Option.isNone_none, Bool.true_and, Nat.beq_refl]
/-- a text's bytes in a slice of their own -/
theorem textRow {A : AW} {s : ByteArray} {K : Value → AW → Prop} (hf : Fine A) (h : A.next < maxId) (hk : ∀ A', Made A A' (bytesV s.data.toList) 5 → K (.slice (some ⟨A.next, 0, none⟩) s.data.toList.length (capU + s.data.toList.length)) A') : bothW (convertA Tryz.prog A 9 33 (.string s)) K := by
  rw [cv_9_33]
  unfold AW.new
  simp only [blt_true.2 h, cond_true]
  exact bothW_ok.2 (hk (A.push (.row (bytesV s.data.toList) 5 A.next 0 false)) ⟨AW.push_ext _ h, rfl, by rw [AW.push_get _ h, if_pos rfl], hf.alone (Nat.le_refl _), hf.push _ h⟩)
end Go.Proofs.YtebidlpekphaoaaGreatDoor


namespace Go.Proofs.YtebidlpekphaoaaGreatDoor
open Go.Abs

/-- all that was stays, and at most n objects are made -/
structure Grow (A A' : AW) (n : Nat) : Prop where
  keeps : Keeps A A' []
  fine : Fine A'
  next : A'.next ≤ A.next + n
theorem Grow.le {A A' : AW} {n : Nat} (h : Grow A A' n) : A.next ≤ A'.next := h.keeps.next
theorem Grow.refl {A : AW} (hf : Fine A) : Grow A A 0 := ⟨.refl _ _, hf, Nat.le_refl _⟩
theorem Grow.trans {A B C : AW} {n m : Nat} (h : Grow A B n) (k : Grow B C m) : Grow A C (n + m) := ⟨h.keeps.trans k.keeps (by simp), k.fine, by have := h.next; have := k.next; omega⟩
theorem Grow.more {A B : AW} {n m : Nat} (h : Grow A B n) (hm : n ≤ m) : Grow A B m := ⟨h.keeps, h.fine, by have := h.next; omega⟩
theorem Grow.made {A A' : AW} {cs : List Value} {e : TypeId} (m : Made A A' cs e) (hf : Fine A) : Grow A A' 1 := ⟨m.keeps hf, m.fine, by rw [m.next]; omega⟩
theorem Grow.own {A B C : AW} {n m : Nat} {F : List Nat} (h : Grow A B n) (k : Keeps B C F) (hF : ∀ x ∈ F, A.next ≤ x) (hc : C.next ≤ B.next + m) (hf : Fine C) : Grow A C (n + m) :=
  ⟨h.keeps.trans k (fun x hx => .inr (hF x hx)), hf, by have := h.next; omega⟩

theorem eqp_nn (xo yo : Operand) : binA Tryz.prog .eql 68 xo yo (.pointer none) (.pointer none) = some (.bool true) := by kernel_rfl
theorem eqp_sn (xo yo : Operand) (q : Nat) : binA Tryz.prog .eql 68 xo yo (.pointer (some ⟨q, 0, none⟩)) (.pointer none) = some (.bool false) := by kernel_rfl
theorem nep_0 (xo yo : Operand) (q : Nat) : binA Tryz.prog .neq 68 xo yo (.pointer (some ⟨q, 0, none⟩)) (.pointer (some ⟨q, 0, none⟩)) = (match (bif Nat.beq q q then some (Nat.beq 0 0) else none) with | some b => some (.bool !b) | none => none) := by kernel_rfl
theorem nep (xo yo : Operand) (q : Nat) : binA Tryz.prog .neq 68 xo yo (.pointer (some ⟨q, 0, none⟩)) (.pointer (some ⟨q, 0, none⟩)) = some (.bool false) := by
  rw [nep_0, Nat.beq_refl]; rfl
/-- a builder at q that has these bytes -/
def BB (A : AW) (q : Nat) (l : List UInt8) (F : List Nat) : Prop :=
  ∃ p v, Go.Abs.Row1 A q [p, v] 70 ∧ (p = .pointer none ∨ p = .pointer (some ⟨q, 0, none⟩)) ∧ Buf 5 A v l F ∧ q ∉ F
theorem BB.keeps {A A' : AW} {q : Nat} {l : List UInt8} {F S : List Nat} (h : BB A q l F) (k : Keeps A A' S) (hq : q ∉ S) (hd : ∀ x ∈ F, x ∉ S) : BB A' q l F := by
  obtain ⟨p, v, h1, h2, h3, h4⟩ := h
  exact ⟨p, v, h1.keeps k hq, h2, h3.keeps k hd, h4⟩
theorem BB.lt {A : AW} {q : Nat} {l : List UInt8} {F : List Nat} (h : BB A q l F) : q < A.next ∧ ∀ x ∈ F, x < A.next := by
  obtain ⟨p, v, h1, h2, h3, h4⟩ := h
  exact ⟨h1.lt, h3.lt⟩
section
variable {W0 : World} {m0 : Inj Tryz.prog}
set_option maxRecDepth 100000 in
theorem wc50 {q : Nat} {p v : Value} {A : AW} {K : Value → AW → Prop} (hr : Go.Abs.Row1 A q [p, v] 70) (hp : p = .pointer none ∨ p = .pointer (some ⟨q, 0, none⟩)) (hf : Fine A) (hb : A.next ≤ maxId)
    (hk : ∀ A', Go.Abs.Row1 A' q [.pointer (some ⟨q, 0, none⟩), v] 70 → Keeps A A' [q] → A'.next = A.next → Fine A' → K (.tuple ⟨[]⟩) A') : Wc Tryz.prog theX W0 m0 50 [.pointer (some ⟨q, 0, none⟩)] A K := by
  refine w50 _ _ (cuts_none (S := fun _ _ _ => False) fun _ _ _ h => h) ?_
  rw [e50]
  have hn : nilP (.pointer (some ⟨q, 0, none⟩)) = some (.pointer (some ⟨q, 0, none⟩)) := rfl
  have hne : callFuncA Tryz.prog theX A 80 [.pointer (some ⟨q, 0, none⟩)] = .ok (.value (.pointer (some ⟨q, 0, none⟩))) A := by kernel_rfl
  rcases hp with rfl | rfl
  · simp only [hn, fa_70_0, ld_68, cell_row hr.row, cellOf, isTuple, cond_false, pureW_some, eqp_nn, cv_68_132, hr.row]
    refine forkW_bool.2 ⟨fun _ => ?_, fun h => by cases h⟩
    refine bothW_ok.2 ?_
    refine .inl ⟨_, _, hne, ?_⟩
    simp only [cv_132_68, hr.row, Nat.beq_refl, List.length_cons, List.length_nil, lies70, Bool.and_self, cond_true]
    refine bothW_ok.2 ?_
    refine hr.store hf hb (st_68 _ _ _) rfl (by simp) rfl fun A' h1 k1 n1 f1 => hk A' h1 k1 n1 f1
  · simp only [hn, fa_70_0, ld_68, cell_row hr.row, cellOf, isTuple, cond_false, pureW_some, eqp_sn, nep]
    refine forkW_bool.2 ⟨fun h => (by cases h), fun _ => forkW_bool.2 ⟨fun h => (by cases h), fun _ => ?_⟩⟩
    exact hk A hr (.refl _ _) rfl hf
/-- a byte written -/
theorem wc21 {q : Nat} {l : List UInt8} {F : List Nat} {b : UInt8} {A : AW} {K : Value → AW → Prop} (h : BB A q l F) (hl : l.length < 1000000) (hf : Fine A) (hb : A.next + 5 < maxId)
    (hk : ∀ A' F', BB A' q (l ++ [b]) F' → (∀ x ∈ F', x ∈ F ∨ A.next ≤ x) → Keeps A A' (q :: F) → A'.next ≤ A.next + 2 → Fine A' → K .nilIface A') : Wc Tryz.prog theX W0 m0 21 [.pointer (some ⟨q, 0, none⟩), .int .u8 (b.toNat : Int)] A K := by
  obtain ⟨p, v, hr, hp, hv, hq⟩ := h
  have hn : nilP (.pointer (some ⟨q, 0, none⟩)) = some (.pointer (some ⟨q, 0, none⟩)) := rfl
  have hroom : room = 68719476736 := rfl
  refine w21 _ _ _ (cuts_none (S := fun _ _ _ => False) fun _ _ _ h => h) ?_
  rw [e21]
  refine wc50 hr hp hf (by omega) fun A1 r1 k1 n1 f1 => ?_
  have v1 := hv.keeps k1 (by simp; exact fun x hx e => hq (e ▸ hx))
  simp only [hn, fa_70_1, Nat.zero_add, ld_33, cell_row r1.row, cellOf, v1.rd.one.2, cond_false, pureW_some]
  refine new1 f1 (by omega) fun A2 m2 => ?_
  have n2 := m2.next
  have k2 := m2.keeps f1
  have rd2 := Made.rdB (c := 1) m2
  refine appendBuf bt33 (v1.keeps k2 (by simp)) (src_slice bt33 rd2) m2.fine (by omega) (by simp; omega) fun v' A3 F' v3 k3 hF3 n3 f3 => ?_
  have hqF : q ∉ F' := fun hx => by
    rcases hF3 q hx with h | h
    · exact hq h
    · have := hr.lt; omega
  have r3 := (r1.keeps k2 (by simp)).keeps k3 hq
  obtain ⟨sa, sc, rfl⟩ := v3.rd.slice
  refine r3.store f3 (by omega) (st_33 _ _ _) rfl (by simp [Value.cells]) rfl fun A4 r4 k4 n4 f4 => ?_
  have K1 : Keeps A A1 (q :: F) := k1.more fun x hx => .inl (by rw [List.mem_singleton.1 hx]; exact List.mem_cons_self)
  have K4 : Keeps A A4 (q :: F) := ((K1.trans k2 (by simp)).trans k3 (fun x hx => .inl (List.mem_cons_of_mem _ hx))).trans k4 (fun x hx => .inl (by rw [List.mem_singleton.1 hx]; exact List.mem_cons_self))
  refine hk A4 F' ⟨_, _, r4, .inr rfl, v3.keeps k4 (by simp; exact fun x hx e => hqF (e ▸ hx)), hqF⟩ (fun x hx => ?_) K4 (by omega) f4
  rcases hF3 x hx with h | h
  · exact .inl h
  · exact .inr (by omega)
end
end Go.Proofs.YtebidlpekphaoaaGreatDoor


namespace Go.Proofs.YtebidlpekphaoaaGreatDoor
open Go.Abs

theorem freezeAll_get : ∀ (l : List Nat) (A : AW), (∀ i ∈ l, i < maxId) → (∀ i, i ∉ l → (freezeAll l A).get i = A.get i) ∧ (freezeAll l A).next = A.next ∧ (freezeAll l A).fams = A.fams
  | [], A, _ => ⟨fun _ _ => rfl, rfl, rfl⟩
  | x :: r, A, hl => by
    unfold freezeAll
    split
    · rename_i cs e fam base ro hx
      obtain ⟨h1, h2, h3⟩ := freezeAll_get r (A.put x (.row cs e fam base true)) fun i hi => hl i (by simp [hi])
      refine ⟨fun i hi => ?_, h2, h3⟩
      simp only [List.mem_cons, not_or] at hi
      rw [h1 i hi.2, AW.get_put A x i _ (hl x (by simp)), if_neg hi.1]
    · obtain ⟨h1, h2, h3⟩ := freezeAll_get r A fun i hi => hl i (by simp [hi])
      exact ⟨fun i hi => h1 i (fun h => hi (by simp [h])), h2, h3⟩
/-- a family that is frozen: all else stays -/
theorem frozen {A : AW} {f : Nat} (hf : Fine A) (hm : ∀ i ∈ A.members f, i < A.next ∧ ∃ cs e b ro, A.get i = some (.row cs e f b ro)) (hb : A.next ≤ maxId) :
    Keeps A (freezeAll (A.members f) A) [f] ∧ (freezeAll (A.members f) A).next = A.next ∧ Fine (freezeAll (A.members f) A) := by
  obtain ⟨h1, h2, h3⟩ := freezeAll_get (A.members f) A fun i hi => Nat.lt_of_lt_of_le (hm i hi).1 hb
  refine ⟨⟨by rw [h2]; exact Nat.le_refl _, fun i o hi hlt hn => ?_, fun g _ _ => ?_⟩, h2, ⟨fun i hi => ?_, fun i hi => ?_⟩⟩
  · rw [h1 i (fun hmem => ?_)]
    · exact hi
    · obtain ⟨_, cs, e, b, ro, hg⟩ := hm i hmem
      rw [hg] at hi
      cases hi
      exact hn (by simp [famOf])
  · have : ∀ B C : AW, B.fams = C.fams → B.members g = C.members g := fun B C h => by unfold AW.members; rw [h]
    exact this _ _ h3
  · rw [h3]; rw [h2] at hi; exact hf.fams i hi
  · rw [h2] at hi
    rw [h1 i (fun hmem => by have := (hm i hmem).1; omega)]
    exact hf.get i hi
theorem usd_0 (A : AW) (b n : Nat) : builtinA Tryz.prog A .unsafeSliceData [33] 107 [.slice (some ⟨b, 0, none⟩) (n + 1) (capU + (n + 1))] = .ok (.value (.pointer (some ⟨b, 0, none⟩))) A := rfl
theorem usd_1 (A : AW) (b n c : Nat) : builtinA Tryz.prog A .unsafeSliceData [33] 107 [.slice (some ⟨b, 0, none⟩) (n + 1) c] = .ok (.value (.pointer (some ⟨b, 0, none⟩))) A := rfl
theorem ust107 : Tryz.prog.underlying 107 = some (.pointer 5) := by kernel_rfl
theorem lay5 : (Nat.beq (Tryz.prog.cellsOf 5) 1 && sameLayout Tryz.prog Tryz.prog.depth 5 5) = true := by kernel_rfl
theorem ustr {A : AW} {b n f : Nat} {cs : List Value} {l : List UInt8} {b0 : Nat} (h1 : A.cells? ⟨b, 0, none⟩ (n + 1) = some (bytesV l)) (h2 : A.get b = some (.row cs 5 f b0 false)) (hn : n + 1 < room) :
    builtinA Tryz.prog A .unsafeString [107, 3] 9 [.pointer (some ⟨b, 0, none⟩), .int .i64 (((n + 1 : Nat)) : Int)] = .ok (.value (.string ⟨⟨l⟩⟩)) (freezeAll (A.members f) A) := by
  show (match A.cells? ⟨b, 0, none⟩ (n + 1), A.get b, Tryz.prog.underlying 107 with
    | some cs, some (.row _ e fam _ false), some (.pointer u) =>
      bif Nat.blt (n + 1) room && (Nat.beq (Tryz.prog.cellsOf e) 1 && sameLayout Tryz.prog Tryz.prog.depth e u) then
        (match bytesOfCells cs with
        | some l => (R.ok (AN.value (Value.string ⟨⟨l⟩⟩)) (freezeAll (A.members fam) A) : R AN)
        | none => .fail "text")
      else .fail "text layout"
    | _, _, _ => .fail "text") = _
  rw [h1, h2, ust107]
  simp only [blt_true.2 hn, lay5, Bool.and_self, cond_true, bytesOf_bytesV]
section
variable {W0 : World} {m0 : Inj Tryz.prog}
/-- a character of one byte put behind bytes -/
theorem wc51 {v : Value} {l : List UInt8} {F : List Nat} {b : UInt8} {A : AW} {K : Value → AW → Prop} (h : Buf 5 A v l F) (hb : b.toNat < 128) (hl : l.length < 1000000) (hf : Fine A) (hA : A.next + 5 < maxId)
    (hk : ∀ v' A' F', Buf 5 A' v' (l ++ [b]) F' → Keeps A A' F → (∀ x ∈ F', x ∈ F ∨ A.next ≤ x) → A'.next ≤ A.next + 2 → Fine A' → K v' A') : Wc Tryz.prog theX W0 m0 51 [v, .int .i32 (b.toNat : Int)] A K := by
  have hroom : room = 68719476736 := rfl
  refine w51 _ _ _ (cuts_none (S := fun _ _ _ => False) fun _ _ _ h => h) ?_
  rw [e51]
  have w1 : IntKind.u32.wrap (b.toNat : Int) = (b.toNat : Int) := by
    simp [IntKind.wrap, IntKind.bits, IntKind.signed]; omega
  have w2 : IntKind.u8.wrap (b.toNat : Int) = (b.toNat : Int) := by
    simp [IntKind.wrap, IntKind.bits, IntKind.signed]; omega
  rw [cv_21_30, w1]
  refine bothW_ok.2 ?_
  simp only [bin_leq, pureW_some, forkW_dec]
  refine ⟨fun _ => ?_, fun hn => absurd (by omega) hn⟩
  rw [cv_21_5, w2]
  refine bothW_ok.2 ?_
  refine new1 hf (by omega) fun A2 m2 => ?_
  have n2 := m2.next
  have k2 := m2.keeps hf
  refine appendBuf bt33 (h.keeps k2 (by simp)) (src_slice bt33 (Made.rdB (c := 1) m2)) m2.fine (by omega) (by simp; omega) fun v' A3 F' v3 k3 hF3 n3 f3 => ?_
  refine hk v' A3 F' v3 ((k2.more (T := F) (by simp)).trans k3 (fun x hx => .inl hx)) (fun x hx => ?_) (by omega) f3
  rcases hF3 x hx with h | h
  · exact .inl h
  · exact .inr (by omega)
theorem wc22 {q : Nat} {l : List UInt8} {F : List Nat} {b : UInt8} {A : AW} {K : Value → AW → Prop} (h : BB A q l F) (hb : b.toNat < 128) (hl : l.length < 1000000) (hf : Fine A) (hA : A.next + 5 < maxId)
    (hk : ∀ v A' F', BB A' q (l ++ [b]) F' → (∀ x ∈ F', x ∈ F ∨ A.next ≤ x) → Keeps A A' (q :: F) → A'.next ≤ A.next + 2 → Fine A' → K v A') : Wc Tryz.prog theX W0 m0 22 [.pointer (some ⟨q, 0, none⟩), .int .i32 (b.toNat : Int)] A K := by
  obtain ⟨p, v, hr, hp, hv, hq⟩ := h
  have hn : nilP (.pointer (some ⟨q, 0, none⟩)) = some (.pointer (some ⟨q, 0, none⟩)) := rfl
  refine w22 _ _ _ (cuts_none (S := fun _ _ _ => False) fun _ _ _ h => h) ?_
  rw [e22]
  refine wc50 hr hp hf (by omega) fun A1 r1 k1 n1 f1 => ?_
  have v1 := hv.keeps k1 (by simp; exact fun x hx e => hq (e ▸ hx))
  simp only [hn, fa_70_1, Nat.zero_add, ld_33, cell_row r1.row, cellOf, v1.rd.one.2, cond_false, pureW_some, v1.rd.len bt33]
  refine wc51 v1 hb hl f1 (by omega) fun v' A3 F' v3 k3 hF3 n3 f3 => ?_
  have hqF : q ∉ F' := fun hx => by
    rcases hF3 q hx with h | h
    · exact hq h
    · have := hr.lt; omega
  have r3 := r1.keeps k3 hq
  obtain ⟨sa, sc, rfl⟩ := v3.rd.slice
  refine r3.store f3 (by omega) (st_33 _ _ _) rfl (by simp [Value.cells]) rfl fun A4 r4 k4 n4 f4 => ?_
  have r4' : Go.Abs.Row1 A4 q [.pointer (some ⟨q, 0, none⟩), .slice sa (l ++ [b]).length sc] 70 := r4
  simp only [ld_33, cell_row r4'.row, cellOf, isTuple, cond_false, pureW_some, ln_33, bin_sub]
  have K1 : Keeps A A1 (q :: F) := k1.more fun x hx => .inl (by rw [List.mem_singleton.1 hx]; exact List.mem_cons_self)
  have K4 : Keeps A A4 (q :: F) := (K1.trans k3 (fun x hx => .inl (List.mem_cons_of_mem _ hx))).trans k4 (fun x hx => .inl (by rw [List.mem_singleton.1 hx]; exact List.mem_cons_self))
  refine hk _ A4 F' ⟨_, _, r4, .inr rfl, v3.keeps k4 (by simp; exact fun x hx e => hqF (e ▸ hx)), hqF⟩ (fun x hx => ?_) K4 (by omega) f4
  rcases hF3 x hx with h | h
  · exact .inl h
  · exact .inr (by omega)
/-- what a builder has, as a text -/
theorem wc23 {q : Nat} {l : List UInt8} {F : List Nat} {A : AW} {K : Value → AW → Prop} (h : BB A q l F) (h0 : l ≠ []) (hl : l.length < 1000000) (hf : Fine A) (hA : A.next ≤ maxId)
    (hk : ∀ A', Keeps A A' F → A'.next = A.next → Fine A' → K (.string ⟨⟨l⟩⟩) A') : Wc Tryz.prog theX W0 m0 23 [.pointer (some ⟨q, 0, none⟩)] A K := by
  obtain ⟨p, v, hr, hp, hv, hq⟩ := h
  have hroom : room = 68719476736 := rfl
  have hn : nilP (.pointer (some ⟨q, 0, none⟩)) = some (.pointer (some ⟨q, 0, none⟩)) := rfl
  obtain ⟨n, hln⟩ : ∃ n, l.length = n + 1 := ⟨l.length - 1, by have := List.length_pos_iff.2 h0; omega⟩
  refine w23 _ _ (cuts_none (S := fun _ _ _ => False) fun _ _ _ h => h) ?_
  rw [e23]
  simp only [hn, fa_70_1, Nat.zero_add, ld_33, cell_row hr.row, cellOf, hv.rd.one.2, cond_false, pureW_some, hv.rd.len bt33]
  rcases hv with ⟨_, e, _⟩ | ⟨b, f, rfl, ho, rfl⟩ | ⟨b, c, pad, rfl, hc, h3, h4, h5, rfl⟩
  · exact absurd e h0
  · rw [hln]
    refine .inl ⟨_, _, usd_0 A b n, ?_⟩
    simp only [cell_row hr.row, cellOf, isTuple, cond_false, ln_33, pureW_some]
    rw [hln]
    have hc : A.cells? ⟨b, 0, none⟩ (n + 1) = some (bytesV l) := by
      rw [cells_row ho.row, List.drop_zero]
      have := takeCells_pre (bytesV l) [] (bytesV_noT l)
      rw [List.append_nil, bytesV_length, hln] at this
      exact this
    refine .inl ⟨_, _, ustr hc ho.row (by omega), ?_⟩
    obtain ⟨a1, a2, a3⟩ := frozen (f := f) hf (fun i hi => by
      obtain ⟨_, x1, cs', e', b', ro', x2⟩ := ho.mem i hi
      exact ⟨x1, cs', e', b', ro', x2⟩) hA
    exact hk _ a1 a2 a3
  · rw [hln]
    refine .inl ⟨_, _, usd_1 A b n c, ?_⟩
    simp only [cell_row hr.row, cellOf, isTuple, cond_false, ln_33, pureW_some]
    rw [hln]
    have hc : A.cells? ⟨b, 0, none⟩ (n + 1) = some (bytesV l) := by
      rw [cells_row h3.row, List.drop_zero]
      have := takeCells_pre (bytesV l) pad (bytesV_noT l)
      rw [bytesV_length, hln] at this
      exact this
    refine .inl ⟨_, _, ustr hc h3.row (by omega), ?_⟩
    obtain ⟨a1, a2, a3⟩ := frozen (f := b) hf (fun i hi => by
      rw [h3.mem] at hi
      obtain rfl : i = b := by simpa using hi
      exact ⟨h3.lt, _, _, _, _, h3.row⟩) hA
    exact hk _ a1 a2 a3
end
end Go.Proofs.YtebidlpekphaoaaGreatDoor


namespace Go.Proofs.YtebidlpekphaoaaGreatDoor
open Go.Abs

/-- the digits, in order -/
def digS : ByteArray := ⟨⟨[48, 49, 50, 51, 52, 53, 54, 55, 56, 57, 97, 98, 99, 100, 101, 102]⟩⟩
noncomputable def chkIx (n : Nat) : Bool := match quiet Tryz.prog (callFunc 82 ⟨[.string digS, .int .u8 (n : Int)]⟩) with
  | some (.value (.int .i64 k)) => decide (k = digI n)
  | _ => false
theorem chkIx_all : ((List.range 256).all chkIx) = true := by kernel_rfl
theorem ext82 (b : UInt8) : quiet Tryz.prog (callFunc 82 ⟨[.string digS, .int .u8 (b.toNat : Int)]⟩) = some (.value (.int .i64 (digI b.toNat))) := by
  have h := List.all_eq_true.1 chkIx_all b.toNat (List.mem_range.2 b.toNat_lt)
  unfold chkIx at h
  split at h
  · rename_i k hk
    rw [hk, of_decide_eq_true h]
  · cases h
theorem digit_of (n : Nat) (h : n < 16) : digS.data.toList[n]? = some (hexd n) := by
  have : ∀ n, n < 16 → digS.data.toList[n]? = some (hexd n) := by decide
  exact this n h
section
variable {W0 : World} {m0 : Inj Tryz.prog}
theorem wc52 {b : UInt8} {A : AW} {K : Value → AW → Prop} (hk : K (.int .i64 (digI b.toNat)) A) : Wc Tryz.prog theX W0 m0 52 [.string digS, .int .u8 (b.toNat : Int)] A K := by
  refine w52 _ _ _ (cuts_none (S := fun _ _ _ => False) fun _ _ _ h => h) ?_
  rw [e52]
  have hb : hasBody Tryz.prog 82 = false := by kernel_rfl
  have hcf : callFuncA Tryz.prog theX A 82 [.string digS, .int .u8 (b.toNat : Int)] = .ok (.value (.int .i64 (digI b.toNat))) A := by
    unfold callFuncA
    have hc : ([Value.string digS, .int .u8 (b.toNat : Int)].all (closedV 4)) = true := rfl
    simp only [hb, cond_false, theX, memN, hc, cond_true, ext82]
    rfl
  exact .inl ⟨_, _, hcf, hk⟩
theorem wc24 {b : UInt8} {A : AW} {K : Value → AW → Prop} (hk : K (.int .i64 (digI b.toNat)) A) : Wc Tryz.prog theX W0 m0 24 [.string digS, .int .u8 (b.toNat : Int)] A K := by
  refine w24 _ _ _ (cuts_none (S := fun _ _ _ => False) fun _ _ _ h => h) ?_
  rw [e24]
  exact wc52 hk
theorem wc25 {b : UInt8} {A : AW} {K : Value → AW → Prop} (hk : K (.int .i64 (digI b.toNat)) A) : Wc Tryz.prog theX W0 m0 25 [.int .u8 (b.toNat : Int)] A K := by
  have hlt := b.toNat_lt
  refine w25 _ _ (cuts_none (S := fun _ _ _ => False) fun _ _ _ h => h) ?_
  rw [e25]
  unfold digI at hk
  have i64 : ∀ n : Int, 0 ≤ n → n < 256 → IntKind.i64.wrap n = n := fun n h1 h2 => wrap_i64 (by omega) (by omega)
  have u8 : ∀ n : Int, 0 ≤ n → n < 256 → IntKind.u8.wrap n = n := fun n h1 h2 => by
    simp [IntKind.wrap, IntKind.bits, IntKind.signed]; omega
  simp only [bin_geq, bin_leq, bin_sub, bin_add, cv_5_3, pureW_some, forkW_dec, bothW_ok]
  have c3 : 97 ≤ (b.toNat : Int) → ((b.toNat : Int) ≤ 102 → K (.int .i64 (IntKind.i64.wrap (IntKind.i64.wrap (IntKind.u8.wrap ((b.toNat : Int) - 97)) + 10))) A) := fun h1 h2 => by
    rw [u8 _ (by omega) (by omega), i64 ((b.toNat : Int) - 97) (by omega) (by omega), i64 _ (by omega) (by omega)]
    rw [if_neg (by omega), if_pos (by omega)] at hk
    rw [show (b.toNat : Int) - 97 + 10 = (b.toNat : Int) - 87 by omega]
    exact hk
  have c4 : ¬ (48 ≤ b.toNat ∧ b.toNat ≤ 57) → ¬ (97 ≤ b.toNat ∧ b.toNat ≤ 102) → K (.int .i64 (-1)) A := fun h1 h2 => by
    rw [if_neg h1, if_neg h2] at hk; exact hk
  refine ⟨fun h1 => ⟨fun h2 => ?_, fun h2 => ⟨fun h3 => ⟨fun h4 => c3 h3 h4, fun h4 => c4 (by omega) (by omega)⟩, fun h3 => c4 (by omega) (by omega)⟩⟩, fun h1 => ⟨fun h3 => ⟨fun h4 => c3 h3 h4, fun h4 => c4 (by omega) (by omega)⟩, fun h3 => c4 (by omega) (by omega)⟩⟩
  rw [u8 _ (by omega) (by omega), i64 _ (by omega) (by omega)]
  rw [if_pos (by omega)] at hk
  exact hk
end
end Go.Proofs.YtebidlpekphaoaaGreatDoor


namespace Go.Proofs.YtebidlpekphaoaaGreatDoor
open Go.Abs
theorem bin_rem {P : Program} {t : TypeId} {xo yo : Operand} {k : IntKind} {a b : Int} (hb : b ≠ 0) : binA P .rem t xo yo (.int k a) (.int k b) = some (.int k (a.tmod b)) := by simp [binA, binOp, Op.intDiv, hb, quiet, closedO, closedV, pure]
theorem bin_quo {P : Program} {t : TypeId} {xo yo : Operand} {k : IntKind} {a b : Int} (hb : b ≠ 0) : binA P .quo t xo yo (.int k a) (.int k b) = some (.int k (k.wrap (a.tdiv b))) := by simp [binA, binOp, Op.intDiv, hb, quiet, closedO, closedV, pure]
theorem bin_mul {P : Program} {t : TypeId} {xo yo : Operand} {k : IntKind} {a b : Int} : binA P .mul t xo yo (.int k a) (.int k b) = some (.int k (k.wrap (a * b))) := by simp [binA, binOp, Op.intArith, quiet, closedO, closedV, pure]
theorem bin_shr {P : Program} {t : TypeId} {xo yo : Operand} {k k2 : IntKind} {a b : Int} (hb : ¬ b < 0) : binA P .shr t xo yo (.int k a) (.int k2 b) = some (.int k (a.fdiv (2 ^ (min b.toNat k.bits)))) := by simp [binA, binOp, Op.shift, hb, quiet, closedO, closedV, pure]
theorem wrap_u8 {n : Int} : IntKind.u8.wrap n = n % 256 := by
  simp [IntKind.wrap, IntKind.bits, IntKind.signed]
/-- a byte as a number that is divided -/
theorem quo16 (b : UInt8) (xo yo : Operand) : binA Tryz.prog .quo 5 xo yo (.int .u8 (b.toNat : Int)) (.int .u8 16) = some (.int .u8 ((b.toNat / 16 : Nat) : Int)) := by
  have := b.toNat_lt
  rw [bin_quo (by decide), wrap_u8, Int.tdiv_eq_ediv_of_nonneg (by omega)]
  congr 2; omega
theorem rem16 (b : UInt8) (xo yo : Operand) : binA Tryz.prog .rem 5 xo yo (.int .u8 (b.toNat : Int)) (.int .u8 16) = some (.int .u8 ((b.toNat % 16 : Nat) : Int)) := by
  rw [bin_rem (by decide), Int.tmod_eq_emod_of_nonneg (by omega)]
  congr 2
theorem ixd {n : Nat} {k : IntKind} (h : n < 16) : indexA Tryz.prog 9 (.string digS) (.int k (n : Int)) = some (.int .u8 ((hexd n).toNat : Int)) := ix9 (digit_of n h)
theorem plainB_iff (b : UInt8) : plainB b = true ↔ 33 ≤ (b.toNat : Int) ∧ (b.toNat : Int) ≤ 126 ∧ (b.toNat : Int) ≠ 37 ∧ (b.toNat : Int) ≠ 58 := by
  unfold plainB
  simp only [Bool.and_eq_true, decide_eq_true_eq, bne_iff_ne]
  omega
theorem take_snoc {α : Type} {l : List α} {i : Nat} {x : α} (h : l[i]? = some x) : l.take (i + 1) = l.take i ++ [x] := by
  rw [List.take_add_one, h]; rfl
theorem escL_len (l : List UInt8) : (escL l).length ≤ 3 * l.length := by
  induction l with
  | nil => simp [escL]
  | cons b l ih =>
    rw [show escL (b :: l) = escB b ++ escL l from by simp [escL], List.length_append, List.length_cons]
    have : (escB b).length ≤ 3 := by unfold escB; split <;> simp
    omega
section
variable {W0 : World} {m0 : Inj Tryz.prog}
theorem wc26 {b : UInt8} {A : AW} {K : Value → AW → Prop} (hf : Fine A) (hA : A.next < maxId) (hk : ∀ A', Grow A A' 1 → K (.string ⟨⟨[hexd (b.toNat / 16), hexd (b.toNat % 16)]⟩⟩) A') : Wc Tryz.prog theX W0 m0 26 [.int .u8 (b.toNat : Int)] A K := by
  have hb := b.toNat_lt
  refine w26 _ _ (cuts_none (S := fun _ _ _ => False) fun _ _ _ h => h) ?_
  rw [e26]
  have hd : (Value.string ⟨⟨[48, 49, 50, 51, 52, 53, 54, 55, 56, 57, 97, 98, 99, 100, 101, 102]⟩⟩) = .string digS := rfl
  simp only [hd, quo16, rem16, ixd (k := .u8) (show b.toNat / 16 < 16 by omega), ixd (k := .u8) (show b.toNat % 16 < 16 by omega), pureW_some]
  refine new2 hf hA fun A1 m1 => ?_
  refine freshW_332 m1.row ?_
  simp only [eqW_self]
  have hs : convertA Tryz.prog A1 33 9 (.slice (some ⟨A.next, 0, none⟩) 2 2) = .ok (.string ⟨⟨[hexd (b.toNat / 16), hexd (b.toNat % 16)]⟩⟩) A1 := (Made.rdB (l := [hexd (b.toNat / 16), hexd (b.toNat % 16)]) (c := 2) m1).str bt33
  rw [hs]
  exact bothW_ok.2 (hk A1 (.made m1 hf))
set_option maxRecDepth 100000 in
/-- a text quoted, by the document -/
theorem wc11 {s : ByteArray} {A : AW} {K : Value → AW → Prop} (hl : s.data.toList.length < 100000) (hf : Fine A) (hA : A.next + s.data.toList.length < maxId) (hk : ∀ A', Grow A A' s.data.toList.length → K (.string ⟨⟨quoteB s.data.toList⟩⟩) A') : Wc Tryz.prog theX W0 m0 11 [.string s] A K := by
  let I : Nat → Nat → List Value → AW → Prop := fun g id vals A' => id = 0 ∧ s.data.toList ≠ [] ∧ ∃ i : Nat, vals = [.string s, .string ⟨⟨escL (s.data.toList.take i)⟩⟩, .int .i64 (i : Int)] ∧ i ≤ s.data.toList.length ∧ Grow A A' i ∧ g = s.data.toList.length - i
  refine w11 _ _ (c11 (I := I) ?_) ?_
  · rintro g id vals A' d ⟨rfl, hne, i, rfl, hi, gr, rfl⟩ hd
    rw [l11_0]
    simp only [L11, List.map_cons, List.map_nil, List.cons.injEq, and_true] at hd
    obtain ⟨d0, d3, d4⟩ := hd
    have hE := escL_len (s.data.toList.take i)
    rw [List.length_take] at hE
    have nx := gr.next
    simp only [d0, d3, d4, ln_9, bin_lss, pureW_some, forkW_dec]
    refine ⟨fun hlt => ?_, fun hge => ?_⟩
    · have hlt : i < s.data.toList.length := by omega
      have hp := List.getElem?_eq_getElem hlt
      generalize hbb : s.data.toList[i] = b at hp
      have hx := ix9 (k := .i64) hp
      have hi1 : IntKind.i64.wrap ((i : Int) + 1) = ((i + 1 : Nat) : Int) := wrap_i64 (by omega) (by omega)
      have hsl : sliceA Tryz.prog A' 9 (.string s) (some (.int .i64 (i : Int))) (some (.int .i64 ((i + 1 : Nat) : Int))) none = some (.string ⟨⟨[b]⟩⟩) := by
        rw [sl9 (by omega) (by omega), take_snoc hp]
        have hd : (s.data.toList.take i ++ [b]).drop i = [b] := by
          rw [List.drop_append, List.drop_eq_nil_of_le (by rw [List.length_take]; omega), List.length_take, Nat.min_eq_left (by omega)]
          simp
        rw [hd]
      have hsn : escL (s.data.toList.take (i + 1)) = escL (s.data.toList.take i) ++ escB b := by rw [take_snoc hp, escL_app, escL_one]
      simp only [hx, bin_geq, bin_leq, bin_neq, bin_add, hi1, hsl, pureW_some, forkW_dec, forkW_bne]
      have esc : plainB b = false → (pureW (binA Tryz.prog .add 9 (.tmp 42) (.const (.string ⟨⟨[37]⟩⟩)) (.string ⟨⟨escL (s.data.toList.take i)⟩⟩) (.string ⟨⟨[37]⟩⟩)) fun t14 => Wc Tryz.prog theX W0 m0 26 [.int .u8 (b.toNat : Int)] A' fun t16 At16 => pureW (binA Tryz.prog .add 9 (.tmp 43) (.tmp 47) t14 t16) fun t17 =>
          cutW (T11 0) (T11 0) (∃ g', g' < s.data.toList.length - i ∧ I g' 0 [.string s, t17, .int .i64 ((i + 1 : Nat) : Int)] At16)) := fun hb => by
        rw [add9 (by show (escL _).length + 1 < _; omega)]
        simp only [pureW_some]
        refine wc26 gr.fine (by omega) fun A2 g2 => ?_
        rw [add9 (by show (escL _ ++ [37]).length + 2 < _; rw [List.length_append]; show (escL _).length + 1 + 2 < _; omega)]
        simp only [pureW_some]
        refine cutW_self.2 ⟨s.data.toList.length - (i + 1), by omega, rfl, hne, i + 1, ?_, by omega, gr.trans g2, rfl⟩
        rw [hsn]
        unfold escB
        rw [hb, if_neg (by decide)]
        simp
      have hfull : ∀ p : Prop, p ↔ p := fun _ => Iff.rfl
      refine ⟨fun h1 => ⟨fun h2 => ⟨fun h3 => ⟨fun h4 => ?_, fun h4 => esc ?_⟩, fun h3 => esc ?_⟩, fun h2 => esc ?_⟩, fun h1 => esc ?_⟩
      · have hb : plainB b = true := (plainB_iff b).2 ⟨h1, h2, h3, h4⟩
        rw [add9 (by show (escL _).length + 1 < _; omega)]
        simp only [pureW_some]
        refine cutW_self.2 ⟨s.data.toList.length - (i + 1), by omega, rfl, hne, i + 1, ?_, by omega, gr.more (by omega), rfl⟩
        rw [hsn]
        unfold escB
        rw [hb, if_pos rfl]
      all_goals
        cases hb : plainB b with
        | false => rfl
        | true => have := (plainB_iff b).1 hb; omega
    · have hil : i = s.data.toList.length := by omega
      subst hil
      rw [List.take_length]
      have := hk A' gr
      rw [quoteB_cons hne] at this
      exact this
  · rw [e11, bin_streq]
    simp only [pureW_some]
    refine forkW_bool.2 ⟨fun h => ?_, fun h => ?_⟩
    · have h0 : s.data.toList = [] := by simpa using h
      have := hk A ((Grow.refl hf).more (by omega))
      rw [h0] at this
      exact this
    · have h0 : s.data.toList ≠ [] := by simpa using h
      exact cutW_self.2 ⟨s.data.toList.length, rfl, h0, 0, by simp [escL], by omega, Grow.refl hf, rfl⟩
end
end Go.Proofs.YtebidlpekphaoaaGreatDoor


namespace Go.Proofs.YtebidlpekphaoaaGreatDoor
open Go.Abs

/-- bytes, each as its digits -/
def pctL (l : List UInt8) : List UInt8 := l.flatMap fun b => [37, hexd (b.toNat / 16), hexd (b.toNat % 16)]
theorem pctL_app (a b : List UInt8) : pctL (a ++ b) = pctL a ++ pctL b := List.flatMap_append
theorem pctL_len (l : List UInt8) : (pctL l).length = 3 * l.length := by
  induction l with
  | nil => rfl
  | cons b l ih =>
    rw [show pctL (b :: l) = [37, hexd (b.toNat / 16), hexd (b.toNat % 16)] ++ pctL l from by simp [pctL], List.length_append, ih]
    simp only [List.length_cons, List.length_nil]
    omega
theorem pctL_esc : ∀ {l : List UInt8}, (∀ b ∈ l, plainB b = false) → pctL l = escL l
  | [], _ => rfl
  | b :: l, h => by
    rw [show pctL (b :: l) = [37, hexd (b.toNat / 16), hexd (b.toNat % 16)] ++ pctL l from by simp [pctL], show escL (b :: l) = escB b ++ escL l from by simp [escL], pctL_esc (fun c hc => h c (List.mem_cons_of_mem _ hc))]
    unfold escB
    rw [h b List.mem_cons_self, if_neg (by decide)]
noncomputable def chkShr (n : Nat) : Bool := match binA Tryz.prog .shr 5 (.tmp 0) (.tmp 0) (.int .u8 (n : Int)) (.int .u64 4) with
  | some (.int .u8 k) => decide (k = ((n / 16 : Nat) : Int))
  | _ => false
theorem chkShr_all : ((List.range 256).all chkShr) = true := by kernel_rfl
theorem shr4 (b : UInt8) (xo yo : Operand) : binA Tryz.prog .shr 5 xo yo (.int .u8 (b.toNat : Int)) (.int .u64 4) = some (.int .u8 ((b.toNat / 16 : Nat) : Int)) := by
  have h := List.all_eq_true.1 chkShr_all b.toNat (List.mem_range.2 b.toNat_lt)
  unfold chkShr at h
  show binA Tryz.prog .shr 5 (.tmp 0) (.tmp 0) (.int .u8 (b.toNat : Int)) (.int .u64 4) = _
  split at h
  · rename_i k hk
    rw [hk, of_decide_eq_true h]
  · cases h
noncomputable def chkAnd (n : Nat) : Bool := match binA Tryz.prog .and 5 (.tmp 0) (.tmp 0) (.int .u8 (n : Int)) (.int .u8 15) with
  | some (.int .u8 k) => decide (k = ((n % 16 : Nat) : Int))
  | _ => false
theorem chkAnd_all : ((List.range 256).all chkAnd) = true := by kernel_rfl
theorem and15 (b : UInt8) (xo yo : Operand) : binA Tryz.prog .and 5 xo yo (.int .u8 (b.toNat : Int)) (.int .u8 15) = some (.int .u8 ((b.toNat % 16 : Nat) : Int)) := by
  have h := List.all_eq_true.1 chkAnd_all b.toNat (List.mem_range.2 b.toNat_lt)
  unfold chkAnd at h
  show binA Tryz.prog .and 5 (.tmp 0) (.tmp 0) (.int .u8 (b.toNat : Int)) (.int .u8 15) = _
  split at h
  · rename_i k hk
    rw [hk, of_decide_eq_true h]
  · cases h
section
variable {W0 : World} {m0 : Inj Tryz.prog}
set_option maxRecDepth 100000 in
theorem wc20 {s : ByteArray} {ps pf q fr to : Nat} {l : List UInt8} {F : List Nat} {A : AW} {K : Value → AW → Prop} (hs : Go.Abs.Row1 A ps [.string s] 9) (hfm : Go.Abs.Row1 A pf [.int .i64 (fr : Int)] 3) (h : BB A q l F) (hd1 : pf ≠ q) (hd2 : pf ∉ F) (h1 : fr ≤ to) (h2 : to ≤ s.data.toList.length) (hlen : s.data.toList.length < 100000)
    (hl : l.length + 3 * (to - fr) < 1000000) (hf : Fine A) (hA : A.next + 10 + 6 * (to - fr) < maxId)
    (hk : ∀ A' F', Go.Abs.Row1 A' pf [.int .i64 (to : Int)] 3 → BB A' q (l ++ pctL ((s.data.toList.take to).drop fr)) F' → (∀ x ∈ F', x ∈ F ∨ A.next ≤ x) → Keeps A A' (pf :: q :: F) → A'.next ≤ A.next + 1 + 6 * (to - fr) → Fine A' → K (.tuple ⟨[]⟩) A') :
    Wc Tryz.prog theX W0 m0 20 [.int .i64 (to : Int), .pointer (some ⟨ps, 0, none⟩), .pointer (some ⟨pf, 0, none⟩), .pointer (some ⟨q, 0, none⟩)] A K := by
  obtain ⟨sg, hsg⟩ : ∃ sg, (s.data.toList.take to).drop fr = sg := ⟨_, rfl⟩
  have hsl : sg.length = to - fr := by rw [← hsg, List.length_drop, List.length_take, Nat.min_eq_left h2]
  rw [hsg] at hk
  have hpl := hfm.lt
  have hql := h.lt
  let I : Nat → Nat → List Value → AW → Prop := fun g id vals A' => id = 0 ∧ ∃ (i : Nat) (sv : Value) (F' : List Nat) (A1 : AW), vals = [.int .i64 (to : Int), .pointer (some ⟨pf, 0, none⟩), .pointer (some ⟨q, 0, none⟩), sv, .int .i64 (sg.length : Int), .int .i64 (i : Int)] ∧ i ≤ sg.length ∧
    RdB A' sv sg [A.next] ∧ Keeps A A1 [] ∧ A1.next = A.next + 1 ∧ BB A' q (l ++ pctL (sg.take i)) F' ∧ (∀ x ∈ F', x ∈ F ∨ A1.next ≤ x) ∧ Keeps A1 A' (q :: F) ∧ A'.next ≤ A1.next + 6 * i ∧ Fine A' ∧ g = sg.length - i
  refine w20 _ _ _ _ _ (c20 (I := I) ?_) ?_
  · rintro g id vals A' d ⟨rfl, i, sv, F', A1, rfl, hi, rd, k1, n1, hB, hF', k, nx, f, rfl⟩ hd
    rw [l20_0]
    simp only [L20, List.map_cons, List.map_nil, List.cons.injEq, and_true] at hd
    obtain ⟨d0, d2, d3, d11, d12, d13⟩ := hd
    have hle := k.next
    simp only [d0, d2, d3, d11, d12, d13, bin_lss, pureW_some, forkW_dec]
    refine ⟨fun hlt => ?_, fun hge => ?_⟩
    · have hlt : i < sg.length := by omega
      have hp := List.getElem?_eq_getElem hlt
      generalize hbb : sg[i] = b at hp
      have hb := b.toNat_lt
      obtain ⟨a, a1, a2⟩ := rd.at bt33 hp
      simp only [a1, a2, pureW_some]
      have hpl' : (l ++ pctL (sg.take i)).length < 900000 + 100000 := by
        rw [List.length_append, pctL_len, List.length_take]; omega
      have h37 : (37 : Int) = ((37 : UInt8).toNat : Int) := rfl
      have hdig : (Value.string ⟨⟨[48, 49, 50, 51, 52, 53, 54, 55, 56, 57, 97, 98, 99, 100, 101, 102]⟩⟩) = .string digS := rfl
      have hl1 : (l ++ pctL (sg.take i)).length + 3 < 1000000 := by
        rw [List.length_append, pctL_len, List.length_take]; omega
      rw [hdig, h37]
      refine wc21 (b := 37) hB (by omega) f (by omega) fun A2 F2 hB2 hF2 k2 n2 f2 => ?_
      have l2 := k2.next
      simp only [shr4, ixd (k := .u8) (show b.toNat / 16 < 16 by omega), pureW_some]
      refine wc21 hB2 (by rw [List.length_append]; show _ + 1 < _; omega) f2 (by omega) fun A3 F3 hB3 hF3 k3 n3 f3 => ?_
      have l3 := k3.next
      simp only [and15, ixd (k := .u8) (show b.toNat % 16 < 16 by omega), pureW_some]
      refine wc21 hB3 (by rw [List.length_append, List.length_append]; show _ + 1 + 1 < _; omega) f3 (by omega) fun A4 F4 hB4 hF4 k4 n4 f4 => ?_
      simp only [bin_add, pureW_some]
      have hi1 : IntKind.i64.wrap ((i : Int) + 1) = ((i + 1 : Nat) : Int) := wrap_i64 (by omega) (by omega)
      rw [hi1]
      have fr2 : ∀ x ∈ F2, x ∈ F ∨ A1.next ≤ x := fun x hx => by
        rcases hF2 x hx with h | h
        · exact hF' x h
        · exact .inr (by omega)
      have fr3 : ∀ x ∈ F3, x ∈ F ∨ A1.next ≤ x := fun x hx => by
        rcases hF3 x hx with h | h
        · exact fr2 x h
        · exact .inr (by omega)
      have fr4 : ∀ x ∈ F4, x ∈ F ∨ A1.next ≤ x := fun x hx => by
        rcases hF4 x hx with h | h
        · exact fr3 x h
        · exact .inr (by omega)
      have up : ∀ {G : List Nat}, (∀ x ∈ G, x ∈ F ∨ A1.next ≤ x) → ∀ x ∈ q :: G, x ∈ q :: F ∨ A1.next ≤ x := fun hG x hx => by
        rcases List.mem_cons.1 hx with h | h
        · exact .inl (by rw [h]; exact List.mem_cons_self)
        · rcases hG x h with h | h
          · exact .inl (List.mem_cons_of_mem _ h)
          · exact .inr h
      have K2 : Keeps A1 A2 (q :: F) := k.trans k2 (up hF')
      have K3 : Keeps A1 A3 (q :: F) := K2.trans k3 (up fr2)
      have K4 : Keeps A1 A4 (q :: F) := K3.trans k4 (up fr3)
      have hnot : ∀ {G : List Nat}, (∀ x ∈ G, x ∈ F ∨ A1.next ≤ x) → ∀ x ∈ [A.next], x ∉ q :: G := fun hG x hx hm => by
        have hx : x = A.next := by simpa using hx
        subst hx
        rcases List.mem_cons.1 hm with h | h
        · omega
        · rcases hG _ h with h | h
          · have := hql.2 _ h; omega
          · omega
      refine cutW_self.2 ⟨sg.length - (i + 1), by omega, rfl, i + 1, sv, F4, A1, rfl, by omega, ((rd.keeps k2 (hnot hF')).keeps k3 (hnot fr2)).keeps k4 (hnot fr3), k1, n1, ?_, fr4, K4, by omega, f4, rfl⟩
      have e : pctL (sg.take (i + 1)) = pctL (sg.take i) ++ [37, hexd (b.toNat / 16), hexd (b.toNat % 16)] := by
        rw [take_snoc hp, pctL_app]; simp [pctL]
      rw [e]
      simpa using hB4
    · have hil : i = sg.length := by omega
      subst hil
      rw [List.take_length] at hB
      have hfm1 := (hfm.keeps k1 (by simp)).keeps k (by
        intro hm
        rcases List.mem_cons.1 hm with h | h
        · exact hd1 h
        · exact hd2 h)
      refine hfm1.store f (by omega) (st_3 _ _ _) rfl (by simp) rfl fun A3 r3 k3 n3 f3 => ?_
      have hpF : pf ∉ F' := fun hm => by
        rcases hF' _ hm with h | h
        · exact hd2 h
        · omega
      refine hk A3 F' r3 (hB.keeps k3 (by simp; exact fun e => hd1 e.symm) (fun x hx => by simp; exact fun e => hpF (e ▸ hx))) (fun x hx => ?_) ?_ (by omega) f3
      · rcases hF' x hx with h | h
        · exact .inl h
        · exact .inr (by omega)
      · exact (((k1.more (T := q :: F) (by simp)).trans k (fun x hx => .inl hx)).more (T := pf :: q :: F) fun x hx => .inl (List.mem_cons_of_mem _ hx)).trans k3 fun x hx => .inl (by rw [List.mem_singleton.1 hx]; exact List.mem_cons_self)
  · rw [e20]
    simp only [ld_9, ld_3, cell_row hs.row, cell_row hfm.row, cellOf, isTuple, cond_false, pureW_some, sl9 h1 h2, hsg]
    refine textRow hf (by omega) fun A1 m1 => ?_
    have n1 := m1.next
    have k1 := m1.keeps hf
    have rd := Made.rdB (l := sg) (c := capU + sg.length) m1
    show pureW (lenA Tryz.prog A1 33 (.slice (some ⟨A.next, 0, none⟩) sg.length (capU + sg.length))) _
    rw [ln_33]
    simp only [pureW_some]
    refine cutW_self.2 ⟨sg.length, rfl, 0, _, F, A1, rfl, by omega, rd, k1, n1, ?_, fun x hx => .inl hx, .refl _ _, by omega, m1.fine, rfl⟩
    rw [List.take_zero, show pctL [] = [] from rfl, List.append_nil]
    exact h.keeps k1 (by simp) (by simp)
end
end Go.Proofs.YtebidlpekphaoaaGreatDoor


namespace Go.Proofs.YtebidlpekphaoaaGreatDoor
open Go.Abs

theorem zero70 : zeroT Tryz.prog 70 = some (.agg #[.pointer none, .slice none 0 0]) := by kernel_rfl
theorem zero3 : zeroT Tryz.prog 3 = some (.int .i64 0) := by kernel_rfl
theorem ex3_0 (a b c : Value) : extractP (.tuple #[a, b, c]) 0 = some a := rfl
theorem ex3_1 (a b c : Value) : extractP (.tuple #[a, b, c]) 1 = some b := rfl
theorem ex3_2 (a b c : Value) : extractP (.tuple #[a, b, c]) 2 = some c := rfl
theorem ex1_0 (a : Value) : extractP (.tuple #[a]) 0 = some a := rfl
theorem ex2_0 (a b : Value) : extractP (.tuple ⟨[a, b]⟩) 0 = some a := rfl
theorem ex2_1 (a b : Value) : extractP (.tuple ⟨[a, b]⟩) 1 = some b := rfl
/-- what stands plainly ahead, and what is still to be written as digits -/
theorem esc_seg {l : List UInt8} {fr to : Nat} (h1 : fr ≤ to) (h : ∀ j (hj : j < l.length), fr ≤ j → j < to → plainB l[j] = false) : escL (l.take fr) ++ pctL ((l.take to).drop fr) = escL (l.take to) := by
  rw [pctL_esc, ← escL_app]
  · congr 1
    have : l.take fr = (l.take to).take fr := by rw [List.take_take, Nat.min_eq_left h1]
    rw [this, List.take_append_drop]
  · intro b hb
    obtain ⟨j, hj, e⟩ := List.getElem_of_mem hb
    rw [List.length_drop, List.length_take] at hj
    rw [List.getElem_drop, List.getElem_take] at e
    rw [← e]
    exact h (fr + j) (by omega) (by omega) (by omega)
section
variable {W0 : World} {m0 : Inj Tryz.prog}
/-- the closure, called -/
theorem restW {s : ByteArray} {ps pf q fr to : Nat} {l : List UInt8} {F : List Nat} {A : AW} {K : Value → AW → Prop} (hs : Go.Abs.Row1 A ps [.string s] 9) (hfm : Go.Abs.Row1 A pf [.int .i64 (fr : Int)] 3) (h : BB A q l F) (hd1 : pf ≠ q) (hd2 : pf ∉ F) (h1 : fr ≤ to) (h2 : to ≤ s.data.toList.length) (hlen : s.data.toList.length < 100000)
    (hl : l.length + 3 * (to - fr) < 1000000) (hf : Fine A) (hA : A.next + 10 + 6 * (to - fr) < maxId)
    (hk : ∀ A' F', Go.Abs.Row1 A' pf [.int .i64 (to : Int)] 3 → BB A' q (l ++ pctL ((s.data.toList.take to).drop fr)) F' → (∀ x ∈ F', x ∈ F ∨ A.next ≤ x) → Keeps A A' (pf :: q :: F) → A'.next ≤ A.next + 1 + 6 * (to - fr) → Fine A' → K (.tuple ⟨[]⟩) A') :
    anW Tryz.prog theX W0 m0 (dynA Tryz.prog theX A (.func (.func 20) ⟨[]⟩ ⟨[.pointer (some ⟨ps, 0, none⟩), .pointer (some ⟨pf, 0, none⟩), .pointer (some ⟨q, 0, none⟩)]⟩) [.int .i64 (to : Int)]) K := by
  have hd : dynA Tryz.prog theX A (.func (.func 20) ⟨[]⟩ ⟨[.pointer (some ⟨ps, 0, none⟩), .pointer (some ⟨pf, 0, none⟩), .pointer (some ⟨q, 0, none⟩)]⟩) [.int .i64 (to : Int)] =
      .ok (.enter 20 [.int .i64 (to : Int), .pointer (some ⟨ps, 0, none⟩), .pointer (some ⟨pf, 0, none⟩), .pointer (some ⟨q, 0, none⟩)]) A := by kernel_rfl
  rw [hd]
  exact .inr (.inl ⟨_, _, _, rfl, show Wc Tryz.prog theX W0 m0 20 _ A K from wc20 hs hfm h hd1 hd2 h1 h2 hlen hl hf hA hk⟩)
set_option maxRecDepth 100000 in
set_option maxHeartbeats 1000000 in
theorem wc8 {s : ByteArray} {A : AW} {K : Value → AW → Prop} (hl : s.data.toList.length < 100000) (hf : Fine A) (hA : A.next + 100 + 10 * s.data.toList.length < maxId) (hk : ∀ A', Grow A A' (20 + 10 * s.data.toList.length) → K (.string ⟨⟨quoteB s.data.toList⟩⟩) A') : Wc Tryz.prog theX W0 m0 8 [.string s] A K := by
  let N := s.data.toList.length
  have hN : N = s.data.toList.length := rfl
  let I : Nat → Nat → List Value → AW → Prop := fun g id vals A' => id = 0 ∧ s.data.toList ≠ [] ∧ ∃ (pos fr : Nat) (F : List Nat), vals = [.pointer (some ⟨A.next, 0, none⟩), .pointer (some ⟨A.next + 1, 0, none⟩), .pointer (some ⟨A.next + 2, 0, none⟩),
      .func (.func 20) ⟨[]⟩ ⟨[.pointer (some ⟨A.next, 0, none⟩), .pointer (some ⟨A.next + 2, 0, none⟩), .pointer (some ⟨A.next + 1, 0, none⟩)]⟩, .pointer (some ⟨A.next + 3, 0, none⟩)] ∧
      fr ≤ pos ∧ pos ≤ N ∧ (∀ j (hj : j < s.data.toList.length), fr ≤ j → j < pos → plainB s.data.toList[j] = false) ∧ Go.Abs.Row1 A' A.next [.string s] 9 ∧ Go.Abs.Row1 A' (A.next + 2) [.int .i64 (fr : Int)] 3 ∧ BB A' (A.next + 1) (escL (s.data.toList.take fr)) F ∧ (∀ x ∈ F, A.next + 4 ≤ x) ∧
      SIt A' (A.next + 3) s pos ∧ Keeps A A' [] ∧ A'.next ≤ A.next + 4 + 3 * pos + 6 * fr ∧ Fine A' ∧ g = N - pos
  refine w8 _ _ (c8 (I := I) ?_) ?_
  · rintro g id vals A' d ⟨rfl, hne, pos, fr, F, rfl, hfp, hpn, hnp, hs, hfm, hB, hF, hit, k, nx, f, rfl⟩ hd
    rw [l8_0]
    simp only [L8, List.map_cons, List.map_nil, List.cons.injEq, and_true] at hd
    obtain ⟨d1, d3, d4, d5, d12⟩ := hd
    have hle := k.next
    have hE := escL_len (s.data.toList.take fr)
    rw [List.length_take] at hE
    have hlts := hs.lt
    simp only [d1, d3, d4, d5, d12]
    refine hit.next f (by omega) (fun hp A1 hit1 k1 n1 f1 => ?_) fun hge => ?_
    · have hs1 := hs.keeps k1 (by simp)
      have hfm1 := hfm.keeps k1 (by simp)
      have hB1 := hB.keeps k1 (by simp) (fun x hx => by have := hF x hx; simp; omega)
      simp only [ex3_0, ex3_1, ex3_2, pureW_some]
      refine forkW_bool.2 ⟨fun _ => ?_, fun h => by cases h⟩
      refine restW hs1 hfm1 hB1 (by omega) (fun hm => by have := hF _ hm; omega) hfp (by omega) hl (by omega) f1 (by omega) fun A2 F2 hfm2 hB2 hF2 k2 n2 f2 => ?_
      rw [esc_seg hfp hnp] at hB2
      have hF2' : ∀ x ∈ F2, A.next + 4 ≤ x := fun x hx => by
        rcases hF2 x hx with h | h
        · exact hF x h
        · have := hit.lt; omega
      have not2 : ∀ y, y < A.next + 4 → y ≠ A.next + 2 → y ≠ A.next + 1 → y ∉ (A.next + 2) :: (A.next + 1) :: F := fun y h1 h2 h3 hm => by
        rcases List.mem_cons.1 hm with h | h
        · exact h2 h
        · rcases List.mem_cons.1 h with h | h
          · exact h3 h
          · have := hF y h; omega
      have hs2 := hs1.keeps k2 (not2 _ (by omega) (by omega) (by omega))
      have hit2 := hit1.keeps k2 (not2 _ (by omega) (by omega) (by omega))
      have K2 : Keeps A A2 [] := (k.trans k1 (fun x hx => .inr (by rw [List.mem_singleton.1 hx]; omega))).trans k2 (fun x hx => .inr (by
        rcases List.mem_cons.1 hx with h | h
        · omega
        · rcases List.mem_cons.1 h with h | h
          · omega
          · have := hF x h; omega))
      have hE2 := escL_len (s.data.toList.take pos)
      rw [List.length_take] at hE2
      have hget : s.data.toList[pos]? = some s.data.toList[pos] := List.getElem?_eq_getElem hp
      generalize hbb : s.data.toList[pos] = b at hget
      simp only [bin_gtr, bin_lss, bin_neq, pureW_some, forkW_dec, forkW_bne]
      -- on without a character written
      have go : plainB b = false → 1 ≤ (Utf8.decode s pos).2 → pos + (Utf8.decode s pos).2 ≤ N → (∀ j (hj : pos + j < s.data.toList.length), j < (Utf8.decode s pos).2 → plainB (s.data.toList[pos + j]'hj) = false) →
          cutW (T8 0) (T8 0) (∃ g', g' < N - pos ∧ I g' 0 [.pointer (some ⟨A.next, 0, none⟩), .pointer (some ⟨A.next + 1, 0, none⟩), .pointer (some ⟨A.next + 2, 0, none⟩), .func (.func 20) ⟨[]⟩ ⟨[.pointer (some ⟨A.next, 0, none⟩), .pointer (some ⟨A.next + 2, 0, none⟩), .pointer (some ⟨A.next + 1, 0, none⟩)]⟩, .pointer (some ⟨A.next + 3, 0, none⟩)] A2) := fun _ hw1 hw2 hw3 =>
        cutW_self.2 ⟨N - (pos + (Utf8.decode s pos).2), by omega, rfl, hne, pos + (Utf8.decode s pos).2, pos, F2, rfl, by omega, hw2, fun j hj h1 h2 => by
          have := hw3 (j - pos) (by omega) (by omega)
          rwa [show s.data.toList[pos + (j - pos)]'(by omega) = s.data.toList[j] from by congr 1; omega] at this, hs2, hfm2, hB2, hF2', hit2, K2, by omega, f2, rfl⟩
      rcases char_at s pos hp with ⟨hlo, hdec⟩ | ⟨hhi, hw1, hw2, hw3⟩
      · rw [hbb] at hlo hdec
        have go' : plainB b = false → _ := fun h => go h (by rw [hdec]; exact Nat.le_refl 1) (by rw [hdec]; show pos + 1 ≤ _; omega) (fun j hj h1 => by
          rw [hdec] at h1
          have h1 : j < 1 := h1
          have : j = 0 := by omega
          subst this
          rw [show s.data.toList[pos + 0]'hj = b from hbb]; exact h)
        rw [hdec] at hit2 ⊢
        refine ⟨fun h1 => ⟨fun h2 => ⟨fun h3 => ⟨fun h4 => ?_, fun h4 => go' ?_⟩, fun h3 => go' ?_⟩, fun h2 => go' ?_⟩, fun h1 => go' ?_⟩
        · have h1 : (32 : Int) < (b.toNat : Int) := h1
          have h2 : (b.toNat : Int) < 127 := h2
          have hb : plainB b = true := (plainB_iff b).2 ⟨by omega, by omega, h3, h4⟩
          refine wc22 hB2 hlo (by omega) f2 (by omega) fun v A3 F3 hB3 hF3 k3 n3 f3 => ?_
          have not3 : ∀ y, y < A.next + 4 → y ≠ A.next + 1 → y ∉ (A.next + 1) :: F2 := fun y h1 h2 hm => by
            rcases List.mem_cons.1 hm with h | h
            · exact h2 h
            · have := hF2' y h; omega
          have hi1 : IntKind.i64.wrap ((pos : Int) + 1) = ((pos + 1 : Nat) : Int) := wrap_i64 (by omega) (by omega)
          simp only [bin_add, pureW_some, hi1]
          have hfm3 := hfm2.keeps k3 (not3 _ (by omega) (by omega))
          have hF3' : ∀ x ∈ F3, A.next + 4 ≤ x := fun x hx => by
            rcases hF3 x hx with h | h
            · exact hF2' x h
            · have := hit2.lt; omega
          refine hfm3.store f3 (by omega) (st_3 _ _ _) rfl (by simp) rfl fun A4 r4 k4 n4 f4 => ?_
          refine cutW_self.2 ⟨N - (pos + 1), by omega, rfl, hne, pos + 1, pos + 1, F3, rfl, by omega, by omega, fun j hj h1 h2 => by omega, (hs2.keeps k3 (not3 _ (by omega) (by omega))).keeps k4 (by simp), r4, ?_, hF3', (hit2.keeps k3 (not3 _ (by omega) (by omega))).keeps k4 (by simp), ?_, by omega, f4, rfl⟩
          · rw [take_snoc hget, escL_app, escL_one]
            unfold escB
            rw [hb, if_pos rfl]
            exact hB3.keeps k4 (by simp) (fun x hx => by have := hF3' x hx; simp; omega)
          · refine (K2.trans k3 (fun x hx => .inr ?_)).trans k4 (fun x hx => .inr (by rw [List.mem_singleton.1 hx]; omega))
            rcases List.mem_cons.1 hx with h | h
            · omega
            · have := hF2' x h; omega
        all_goals
          cases hb : plainB b with
          | false => rfl
          | true =>
            have := (plainB_iff b).1 hb
            have hc : ((b.toNat, 1).1 : Int) = (b.toNat : Int) := rfl
            omega
      · have hpl : plainB b = false := by
          have := hw3 0 (by omega) (by omega)
          rwa [show s.data.toList[pos + 0]'(by omega) = b from hbb] at this
        refine ⟨fun h1 => ⟨fun h2 => absurd h2 (by omega), fun h2 => go hpl hw1 hw2 hw3⟩, fun h1 => absurd (by omega) h1⟩
    · have hpl : pos = N := by omega
      subst hpl
      simp only [ex1_0, pureW_some]
      refine forkW_bool.2 ⟨fun h => (by cases h), fun _ => ?_⟩
      simp only [ld_9, cell_row hs.row, cellOf, isTuple, cond_false, pureW_some, ln_9]
      refine restW hs hfm hB (by omega) (fun hm => by have := hF _ hm; omega) hfp (by omega) hl (by omega) f (by omega) fun A2 F2 hfm2 hB2 hF2 k2 n2 f2 => ?_
      rw [esc_seg hfp hnp, List.take_length] at hB2
      have hE2 := escL_len s.data.toList
      have hne2 : escL s.data.toList ≠ [] := fun e => by
        have h1 := decP_esc s.data.toList
        rw [e, decP] at h1
        exact hne (Option.some.inj h1).symm
      refine wc23 hB2 hne2 (by omega) f2 (by omega) fun A3 k3 n3 f3 => ?_
      rw [← quoteB_cons hne]
      refine hk A3 ⟨(k.trans k2 (fun x hx => .inr ?_)).trans k3 (fun x hx => .inr ?_), f3, by omega⟩
      · rcases List.mem_cons.1 hx with h | h
        · omega
        · rcases List.mem_cons.1 h with h | h
          · omega
          · have := hF x h; omega
      · rcases hF2 x hx with h | h
        · have := hF x h; omega
        · omega
  · rw [e8]
    refine newP_made (cs := [.string s]) hf (by omega) rfl fun A1 m1 => ?_
    have n1 := m1.next
    have k1 := m1.keeps hf
    simp only [ld_9, cell_row m1.row1.row, cellOf, isTuple, cond_false, pureW_some, bin_streq]
    refine forkW_bool.2 ⟨fun h => ?_, fun h => ?_⟩
    · have h0 : s.data.toList = [] := by simpa using h
      have := hk A1 ((Grow.made m1 hf).more (by omega))
      rw [h0] at this
      exact this
    · have h0 : s.data.toList ≠ [] := by simpa using h
      refine allocP_made zero70 m1.fine (by omega) rfl fun A2 m2 => ?_
      have n2 := m2.next
      have k2 := m2.keeps m1.fine
      refine allocP_made zero3 m2.fine (by omega) rfl fun A3 m3 => ?_
      have n3 := m3.next
      have k3 := m3.keeps m2.fine
      refine m3.row1.store m3.fine (by omega) (st_3 _ _ _) rfl (by simp [Value.cells]) rfl fun A4 r4 k4 n4 f4 => ?_
      have hs4 := ((m1.row1.keeps k2 (by simp)).keeps k3 (by simp)).keeps k4 (by simp; omega)
      have hb4 := (m2.row1.keeps k3 (by simp)).keeps k4 (by simp; omega)
      simp only [ld_9, cell_row hs4.row, cellOf, isTuple, cond_false, pureW_some]
      refine strRange ust9 f4 (by omega) fun A5 hit k5 n5 f5 => ?_
      have e1 : A1.next = A.next + 1 := n1
      have e2 : A2.next = A.next + 2 := by omega
      have e4 : A4.next = A.next + 3 := by omega
      have r5 := r4.keeps k5 (by simp)
      have hb5 := hb4.keeps k5 (by simp)
      have hs5 := hs4.keeps k5 (by simp)
      rw [e1] at hb5
      rw [e2] at r5
      rw [e4] at hit
      have K5 : Keeps A A5 [] := (((k1.trans k2 (by simp)).trans k3 (by simp)).trans k4 (fun x hx => .inr (by rw [List.mem_singleton.1 hx]; omega))).trans k5 (by simp)
      refine cutW_self.2 ⟨N, rfl, h0, 0, 0, [], by rw [e1, e2, e4], by omega, by omega, fun j hj h1 h2 => by omega, hs5, r5, ⟨.pointer none, .slice none 0 0, hb5, .inl rfl, .nil _ _, by simp⟩, by simp, hit, K5, by omega, f5, by omega⟩
end
end Go.Proofs.YtebidlpekphaoaaGreatDoor
