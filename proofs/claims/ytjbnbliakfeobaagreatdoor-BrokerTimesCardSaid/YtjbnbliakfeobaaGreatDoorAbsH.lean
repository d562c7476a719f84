/-
  Operations with open values: what they give, and which of the abstract heap they keep. Conditions: none beside those of each theorem.
-/
import Derived.Test.YtjbnbliakfeobaaGreatDoorAbsG
import Derived.Laws.StructEq
set_option linter.all false
namespace Go.Abs

/-! how the operations of the abstract machine read where their operands are known in part -/
section
variable {P : Program}

theorem pureW_some {v : Value} {K : Value → Prop} : pureW (some v) K ↔ K v := ⟨fun ⟨_, h, hk⟩ => by cases h; exact hk, fun h => ⟨v, rfl, h⟩⟩
theorem effW_some {A : AW} {K : AW → Prop} : effW (some A) K ↔ K A := ⟨fun ⟨_, h, hk⟩ => by cases h; exact hk, fun h => ⟨A, rfl, h⟩⟩
theorem bothW_ok {v : Value} {A : AW} {K : Value → AW → Prop} : bothW (.ok v A) K ↔ K v A := ⟨fun ⟨_, _, h, hk⟩ => by cases h; exact hk, fun h => ⟨v, A, rfl, h⟩⟩
theorem pureW_of {r : Option Value} {v : Value} {K : Value → Prop} (h : r = some v) (hk : K v) : pureW r K := ⟨v, h, hk⟩
theorem effW_of {r : Option AW} {A : AW} {K : AW → Prop} (h : r = some A) (hk : K A) : effW r K := ⟨A, h, hk⟩
theorem forkW_bool {b : Bool} {p q : Prop} : forkW (.bool b) p q ↔ (b = true → p) ∧ (b = false → q) :=
  ⟨fun h => ⟨fun e => h.2.1 (by rw [e]), fun e => h.2.2 (by rw [e])⟩, fun h => ⟨⟨b, rfl⟩, fun e => h.1 (by cases e; rfl), fun e => h.2 (by cases e; rfl)⟩⟩
theorem forkW_dec {c : Prop} [Decidable c] {p q : Prop} : forkW (.bool (decide c)) p q ↔ (c → p) ∧ (¬ c → q) := by
  rw [forkW_bool]; simp
theorem forkW_beq {a b : Int} {p q : Prop} : forkW (.bool (a == b)) p q ↔ (a = b → p) ∧ (a ≠ b → q) := by
  rw [forkW_bool]; simp
theorem forkW_bne {a b : Int} {p q : Prop} : forkW (.bool (a != b)) p q ↔ (a ≠ b → p) ∧ (a = b → q) := by
  rw [forkW_bool]; simp
theorem pickW_bool {t : Bool} {a b : Value} {K : Value → Prop} : pickW (.bool t) a b K ↔ K (bif t then a else b) := ⟨fun ⟨_, h, hk⟩ => by cases h; exact hk, fun h => ⟨t, rfl, h⟩⟩
theorem cutW_self {a : List Item} {p : Prop} : cutW a a p ↔ p := ⟨fun h => h.2, fun h => ⟨rfl, h⟩⟩
theorem eqW_self {a : Value} {p : Prop} : eqW a a p ↔ p := ⟨fun h => h.2, fun h => ⟨rfl, h⟩⟩

/-! numbers -/
section
variable {t : TypeId} {xo yo : Operand} {k : IntKind} {a b : Int}
theorem bin_lss : binA P .lss t xo yo (.int k a) (.int k b) = some (.bool (decide (a < b))) := by simp [binA, binOp, Op.intCmp, quiet, closedO, closedV, pure]
theorem bin_leq : binA P .leq t xo yo (.int k a) (.int k b) = some (.bool (decide (a ≤ b))) := by simp [binA, binOp, Op.intCmp, quiet, closedO, closedV, pure]
theorem bin_gtr : binA P .gtr t xo yo (.int k a) (.int k b) = some (.bool (decide (b < a))) := by simp [binA, binOp, Op.intCmp, quiet, closedO, closedV, pure]
theorem bin_geq : binA P .geq t xo yo (.int k a) (.int k b) = some (.bool (decide (b ≤ a))) := by simp [binA, binOp, Op.intCmp, quiet, closedO, closedV, pure]
theorem bin_eql : binA P .eql t xo yo (.int k a) (.int k b) = some (.bool (a == b)) := by simp [binA, binOp, Op.intCmp, quiet, closedO, closedV, pure]
theorem bin_neq : binA P .neq t xo yo (.int k a) (.int k b) = some (.bool (a != b)) := by simp [binA, binOp, Op.intCmp, quiet, closedO, closedV, pure]
theorem bin_add : binA P .add t xo yo (.int k a) (.int k b) = some (.int k (k.wrap (a + b))) := by simp [binA, binOp, Op.intArith, quiet, closedO, closedV, pure]
theorem bin_sub : binA P .sub t xo yo (.int k a) (.int k b) = some (.int k (k.wrap (a - b))) := by simp [binA, binOp, Op.intArith, quiet, closedO, closedV, pure]
theorem un_not {x : Bool} : unA P .not (.bool x) = some (.bool (!x)) := by simp [unA, closedV, Op.unary, quiet, closedO, pure]
theorem bin_streq {x y : ByteArray} : binA P .eql t xo yo (.string x) (.string y) = some (.bool (x.data.toList == y.data.toList)) := rfl
theorem bin_strneq {x y : ByteArray} : binA P .neq t xo yo (.string x) (.string y) = some (.bool !(x.data.toList == y.data.toList)) := rfl
end

theorem wrap_i64 {n : Int} (h1 : -9223372036854775808 ≤ n) (h2 : n < 9223372036854775808) : IntKind.i64.wrap n = n := by
  unfold IntKind.wrap
  have e : (2 ^ IntKind.i64.bits : Int) = 18446744073709551616 := by decide
  have e2 : (2 ^ (IntKind.i64.bits - 1) : Int) = 9223372036854775808 := by decide
  have e3 : IntKind.i64.signed = true := rfl
  simp only [e, e2, e3, Bool.true_and, decide_eq_true_eq]
  split <;> omega

theorem sameBytes_refl : ∀ l : List UInt8, sameBytes l l = true
  | [] => rfl
  | a :: r => by simp [sameBytes, sameBytes_refl r]
theorem sameInt_refl : ∀ a : Int, sameInt a a = true
  | .ofNat a => Nat.beq_refl a
  | .negSucc a => Nat.beq_refl a
theorem same_bool {n : Nat} {b : Bool} : sameV (n + 1) (.bool b) (.bool b) = true := by simp [sameV]
theorem same_int {n : Nat} {k : IntKind} {a : Int} : sameV (n + 1) (.int k a) (.int k a) = true := by simp [sameV, sameInt_refl]
theorem same_string {n : Nat} {s : ByteArray} : sameV (n + 1) (.string s) (.string s) = true := by simp only [sameV, sameBytes_refl]

/-! the heap -/
/-- all that was there is there, as it was -/
structure Ext (A A' : AW) : Prop where
  next : A.next ≤ A'.next
  get : ∀ i, i < A.next → A'.get i = A.get i
  mem : ∀ i, i < A.next → A'.members i = A.members i
theorem Ext.refl (A : AW) : Ext A A := ⟨Nat.le_refl _, fun _ _ => rfl, fun _ _ => rfl⟩
theorem Ext.trans {A B C : AW} (h : Ext A B) (k : Ext B C) : Ext A C := ⟨Nat.le_trans h.next k.next, fun i hi => by rw [k.get i (Nat.lt_of_lt_of_le hi h.next), h.get i hi], fun i hi => by rw [k.mem i (Nat.lt_of_lt_of_le hi h.next), h.mem i hi]⟩

/-- one object more -/
def AW.push (A : AW) (o : AO) : AW := { (A.put A.next o) with next := A.next + 1 }
theorem AW.push_get {A : AW} (o : AO) {j : Nat} (h : A.next < maxId) : (A.push o).get j = if j = A.next then some o else A.get j := AW.get_put A A.next j o h
theorem AW.push_next (A : AW) (o : AO) : (A.push o).next = A.next + 1 := rfl
theorem AW.push_ext {A : AW} (o : AO) (h : A.next < maxId) : Ext A (A.push o) :=
  ⟨Nat.le_succ _, fun i hi => by rw [AW.push_get o h, if_neg (by omega)], fun i _ => rfl⟩

theorem newP_eq {A : AW} {cs : List Value} {e : TypeId} (h : A.next < maxId) (hc : cs.all oneCell = true) : newP A cs e = .ok (.pointer (some ⟨A.next, 0, none⟩)) (A.push (.row cs e A.next 0 false)) := by
  unfold newP AW.newRow AW.new
  simp only [hc, cond_true, blt_true.2 h]
  rfl
theorem bothW_new {A : AW} {cs : List Value} {e : TypeId} {K : Value → AW → Prop} (h : A.next < maxId) (hc : cs.all oneCell = true)
    (hk : ∀ A', Ext A A' → A'.next = A.next + 1 → A'.get A.next = some (.row cs e A.next 0 false) → K (.pointer (some ⟨A.next, 0, none⟩)) A') : bothW (newP A cs e) K := by
  rw [newP_eq h hc]
  exact bothW_ok.2 (hk _ (AW.push_ext _ h) rfl (by rw [AW.push_get _ h, if_pos rfl]))
theorem bothW_alloc {A : AW} {z : Value} {e : TypeId} {K : Value → AW → Prop} (hz : zeroT P e = some z) (h : A.next < maxId) (hc : z.cells.toList.all oneCell = true)
    (hk : ∀ A', Ext A A' → A'.next = A.next + 1 → A'.get A.next = some (.row z.cells.toList e A.next 0 false) → K (.pointer (some ⟨A.next, 0, none⟩)) A') : bothW (allocP P A e) K := by
  unfold allocP
  rw [hz]
  exact bothW_new h hc hk

theorem isT_int {k : IntKind} {n : Int} : isTuple (.int k n) = false := rfl
theorem isT_bool {b : Bool} : isTuple (.bool b) = false := rfl
theorem isT_string {b : ByteArray} : isTuple (.string b) = false := rfl
theorem isT_slice {a : Option Addr} {n c : Nat} : isTuple (.slice a n c) = false := rfl
theorem isT_ptr {a : Option Addr} : isTuple (.pointer a) = false := rfl
theorem isT_map {a : Option Nat} : isTuple (.map a) = false := rfl
theorem one_int {k : IntKind} {n : Int} : oneCell (.int k n) = true := rfl
theorem one_bool {b : Bool} : oneCell (.bool b) = true := rfl
theorem one_string {b : ByteArray} : oneCell (.string b) = true := rfl
theorem one_slice {a : Option Addr} {n c : Nat} : oneCell (.slice a n c) = true := rfl
theorem one_ptr {a : Option Addr} : oneCell (.pointer a) = true := rfl
theorem one_map {a : Option Nat} : oneCell (.map a) = true := rfl

/-! reading rows -/
theorem cell_row {A : AW} {b off : Nat} {cs : List Value} {e f b0 : Nat} {ro : Bool} (h : A.get b = some (.row cs e f b0 ro)) : A.cell? ⟨b, off, none⟩ = cellOf cs off := by
  unfold AW.cell?
  simp only [h]
theorem cells_row {A : AW} {b off n : Nat} {cs : List Value} {e f b0 : Nat} {ro : Bool} (h : A.get b = some (.row cs e f b0 ro)) : A.cells? ⟨b, off, none⟩ n = takeCells (cs.drop off) n := by
  unfold AW.cells?
  cases n with
  | zero => simp [takeCells]
  | succ n => simp only [h]

theorem cellOf_get : ∀ {cs : List Value} {i : Nat} {v : Value}, cs[i]? = some v → isTuple v = false → cellOf cs i = some v
  | [], i, v, h, _ => by simp at h
  | x :: r, 0, v, h, ht => by
    simp only [List.getElem?_cons_zero, Option.some.injEq] at h
    subst h
    simp [cellOf, ht]
  | x :: r, i + 1, v, h, ht => by
    simp only [List.getElem?_cons_succ] at h
    simp only [cellOf]
    exact cellOf_get h ht

end
end Go.Abs

namespace Go.Abs

section
variable {P : Program}

/-- nothing is there that is still to be made -/
structure Fine (A : AW) : Prop where
  fams : ∀ i, A.next ≤ i → A.fams.get? i = none
  get : ∀ i, A.next ≤ i → A.get i = none
theorem Fine.lt {A : AW} (h : Fine A) {i : Nat} {o : AO} (hi : A.get i = some o) : i < A.next := by
  rcases Nat.lt_or_ge i A.next with h1 | h1
  · exact h1
  · rw [h.get i h1] at hi; cases hi
theorem Fine.alone {A : AW} (h : Fine A) {i : Nat} (hi : A.next ≤ i) : A.members i = [i] := by
  unfold AW.members
  rw [h.fams i hi]
theorem Fine.push {A : AW} (h : Fine A) (o : AO) (hn : A.next < maxId) : Fine (A.push o) :=
  ⟨fun i hi => h.fams i (by rw [AW.push_next] at hi; omega), fun i hi => by rw [AW.push_next] at hi; rw [AW.push_get o hn, if_neg (by omega)]; exact h.get i (by omega)⟩

/-- a new row, all that is known of it -/
structure Made (A A' : AW) (cs : List Value) (e : TypeId) : Prop where
  ext : Ext A A'
  next : A'.next = A.next + 1
  row : A'.get A.next = some (.row cs e A.next 0 false)
  mem : A'.members A.next = [A.next]
  fine : Fine A'
theorem newP_made {A : AW} {cs : List Value} {e : TypeId} {K : Value → AW → Prop} (hf : Fine A) (h : A.next < maxId) (hc : cs.all oneCell = true) (hk : ∀ A', Made A A' cs e → K (.pointer (some ⟨A.next, 0, none⟩)) A') : bothW (newP A cs e) K := by
  rw [newP_eq h hc]
  exact bothW_ok.2 (hk _ ⟨AW.push_ext _ h, rfl, by rw [AW.push_get _ h, if_pos rfl], hf.alone (Nat.le_refl _), hf.push _ h⟩)
theorem allocP_made {A : AW} {z : Value} {e : TypeId} {K : Value → AW → Prop} (hz : zeroT P e = some z) (hf : Fine A) (h : A.next < maxId) (hc : z.cells.toList.all oneCell = true)
    (hk : ∀ A', Made A A' z.cells.toList e → K (.pointer (some ⟨A.next, 0, none⟩)) A') : bothW (allocP P A e) K := by
  unfold allocP
  rw [hz]
  exact newP_made hf h hc hk

theorem drop_of_get {l : List Value} {o : Nat} {v : Value} (h : l[o]? = some v) : l.drop o = v :: l.drop (o + 1) := by
  obtain ⟨h1, rfl⟩ := List.getElem?_eq_some_iff.1 h
  exact List.drop_eq_getElem_cons h1
theorem takeCells_cons {v : Value} {l : List Value} {n : Nat} (h : isTuple v = false) : takeCells (v :: l) (n + 1) = (match takeCells l n with | some r => some (v :: r) | none => none) := by
  simp only [takeCells, h, cond_false]
  rfl
theorem takeCells_two {l : List Value} {o : Nat} {v w : Value} (h1 : l[o]? = some v) (h2 : l[o + 1]? = some w) (t1 : isTuple v = false) (t2 : isTuple w = false) : takeCells (l.drop o) 2 = some [v, w] := by
  rw [drop_of_get h1, takeCells_cons t1, drop_of_get h2, takeCells_cons t2]
  simp [takeCells]

def setL : List Value → Nat → List Value → List Value
  | cs, _, [] => cs
  | cs, o, v :: r => setL (cs.set o v) (o + 1) r
theorem setL_length : ∀ (new cs : List Value) (o : Nat), (setL cs o new).length = cs.length
  | [], cs, o => rfl
  | v :: r, cs, o => by rw [setL, setL_length r]; simp

/-- one row, other cells -/
structure Wrote (A A' : AW) (b : Nat) (o : AO) : Prop where
  row : A'.get b = some o
  get : ∀ i, i ≠ b → A'.get i = A.get i
  next : A'.next = A.next
  fams : A'.fams = A.fams
theorem Wrote.fine {A A' : AW} {b : Nat} {o o' : AO} (h : Wrote A A' b o) (hf : Fine A) (hb : A.get b = some o') : Fine A' :=
  ⟨fun i hi => by rw [h.fams]; exact hf.fams i (by rw [h.next] at hi; exact hi), fun i hi => by
    rw [h.next] at hi
    have hb := hf.lt hb
    rw [h.get i (by omega)]
    exact hf.get i hi⟩
theorem Wrote.mem {A A' : AW} {b : Nat} {o : AO} (h : Wrote A A' b o) (f : Nat) : A'.members f = A.members f := by unfold AW.members; rw [h.fams]
/-- what lies below is as it was, where the row lies above -/
theorem Wrote.ext {A0 A A' : AW} {b : Nat} {o : AO} (h : Wrote A A' b o) (hx : Ext A0 A) (hb : A0.next ≤ b) : Ext A0 A' :=
  ⟨by rw [h.next]; exact hx.next, fun i hi => by rw [h.get i (by omega)]; exact hx.get i hi, fun i hi => by rw [h.mem]; exact hx.mem i hi⟩

theorem setCells_own : ∀ {new : List Value} {A : AW} {b off : Nat} {cs : List Value} {e f b0 : Nat}, A.get b = some (.row cs e f b0 false) → A.members f = [b] → off + new.length ≤ cs.length → new.all oneCell = true → b < maxId →
    ∃ A', A.setCells ⟨b, off, none⟩ new = some A' ∧ Wrote A A' b (.row (setL cs off new) e f b0 false)
  | [], A, b, off, cs, e, f, b0, hg, hm, hl, ho, hb => ⟨A, rfl, hg, fun _ _ => rfl, rfl, rfl⟩
  | v :: r, A, b, off, cs, e, f, b0, hg, hm, hl, ho, hb => by
    simp only [List.all_cons, Bool.and_eq_true] at ho
    simp only [List.length_cons] at hl
    have hble : Nat.ble cs.length off = false := ble_false.2 (by omega)
    have h1 : A.setCell ⟨b, off, none⟩ v = some (A.put b (.row (cs.set off v) e f b0 false)) := by
      unfold AW.setCell
      simp only [hg, ho.1, Bool.not_true, Bool.false_or, hble, cond_false, hm, poisonAt, Nat.beq_refl, cond_true]
    have hg' : (A.put b (.row (cs.set off v) e f b0 false)).get b = some (.row (cs.set off v) e f b0 false) := by rw [AW.get_put A b b _ hb, if_pos rfl]
    obtain ⟨A', h2, h3⟩ := setCells_own (new := r) (A := A.put b (.row (cs.set off v) e f b0 false)) (off := off + 1) hg' hm (by simp; omega) ho.2 hb
    refine ⟨A', ?_, h3.row, fun i hi => ?_, h3.next, h3.fams⟩
    · simp only [AW.setCells, h1]
      exact h2
    · rw [h3.get i hi, AW.get_put A b i _ hb, if_neg hi]

/-- a store into a row of the call's own -/
theorem effW_store {A : AW} {b off n : Nat} {v : Value} {cs : List Value} {e f b0 : Nat} {r : Option AW} {K : AW → Prop} (hr : r = (bif Nat.beq v.cells.toList.length n then A.setCells ⟨b, off, none⟩ v.cells.toList else none))
    (hv : v.cells.toList.length = n) (hg : A.get b = some (.row cs e f b0 false)) (hm : A.members f = [b]) (hl : off + n ≤ cs.length) (ho : v.cells.toList.all oneCell = true) (hb : b < maxId)
    (hk : ∀ A', Wrote A A' b (.row (setL cs off v.cells.toList) e f b0 false) → K A') : effW r K := by
  obtain ⟨A', h1, h2⟩ := setCells_own (new := v.cells.toList) (off := off) hg hm (by omega) ho hb
  rw [hr, hv, Nat.beq_refl, cond_true, h1]
  exact effW_some.2 (hk A' h2)

end
end Go.Abs

namespace Go.Abs

section
variable {P : Program}

/-- v is a slice of the call's own, n elements of type e: these cells -/
structure OwnAt (lo : Nat) (A : AW) (e : TypeId) (size : Nat) (n : Nat) (cs : List Value) (b f : Nat) : Prop where
  pos : 0 < n
  row : A.get b = some (.row cs e f 0 false)
  len : cs.length = n * size
  lob : lo ≤ b
  lof : lo ≤ f
  ltf : f < A.next
  mem : ∀ i ∈ A.members f, lo ≤ i ∧ i < A.next ∧ ∃ cs' e' b' ro', A.get i = some (.row cs' e' f b' ro')
def OwnS (lo : Nat) (A : AW) (e : TypeId) (size : Nat) (v : Value) (n : Nat) (cs : List Value) : Prop :=
  (v = .slice none 0 0 ∧ n = 0 ∧ cs = []) ∨ ∃ b f, v = .slice (some ⟨b, 0, none⟩) n (capU + n) ∧ OwnAt lo A e size n cs b f

theorem OwnS.one {lo : Nat} {A : AW} {e : TypeId} {size : Nat} {v : Value} {n : Nat} {cs : List Value} (h : OwnS lo A e size v n cs) : oneCell v = true ∧ isTuple v = false := by
  rcases h with ⟨rfl, _⟩ | ⟨b, f, rfl, _⟩ <;> exact ⟨rfl, rfl⟩

theorem OwnS.low {lo lo' : Nat} {A : AW} {e : TypeId} {size : Nat} {v : Value} {n : Nat} {cs : List Value} (h : OwnS lo A e size v n cs) (hl : lo' ≤ lo) : OwnS lo' A e size v n cs := by
  rcases h with h | ⟨b, f, rfl, h⟩
  · exact .inl h
  · exact .inr ⟨b, f, rfl, h.pos, h.row, h.len, Nat.le_trans hl h.lob, Nat.le_trans hl h.lof, h.ltf, fun i hi => by
      obtain ⟨h1, h2⟩ := h.mem i hi
      exact ⟨Nat.le_trans hl h1, h2⟩⟩

theorem OwnS.made {lo : Nat} {A A' : AW} {e : TypeId} {size : Nat} {v : Value} {n : Nat} {cs ds : List Value} {e2 : TypeId} (h : OwnS lo A e size v n cs) (hf : Fine A) (m : Made A A' ds e2) : OwnS lo A' e size v n cs := by
  rcases h with h | ⟨b, f, rfl, h⟩
  · exact .inl h
  · have hn := m.next
    refine .inr ⟨b, f, rfl, h.pos, by rw [m.ext.get b (hf.lt h.row)]; exact h.row, h.len, h.lob, h.lof, by have := h.ltf; omega, fun i hi => ?_⟩
    rw [m.ext.mem f h.ltf] at hi
    obtain ⟨h1, h2, cs', e', b', ro', h3⟩ := h.mem i hi
    exact ⟨h1, by omega, cs', e', b', ro', by rw [m.ext.get i h2]; exact h3⟩

/-- another row was written -/
theorem OwnS.wrote {lo : Nat} {A A' : AW} {e : TypeId} {size : Nat} {v : Value} {n : Nat} {cs : List Value} {x : Nat} {o : AO} {ds : List Value} {e2 b2 : Nat} {ro : Bool} (h : OwnS lo A e size v n cs) (w : Wrote A A' x o)
    (hx : A.get x = some (.row ds e2 x b2 ro)) (hne : ∀ b f, v = .slice (some ⟨b, 0, none⟩) n (capU + n) → OwnAt lo A e size n cs b f → f ≠ x) : OwnS lo A' e size v n cs := by
  rcases h with h | ⟨b, f, rfl, h⟩
  · exact .inl h
  · have hfx := hne b f rfl h
    have key : ∀ i cs' e' b' ro', A.get i = some (.row cs' e' f b' ro') → A'.get i = some (.row cs' e' f b' ro') := by
      intro i cs' e' b' ro' hi
      rw [w.get i (fun e => by subst e; rw [hx] at hi; cases hi; exact hfx rfl)]
      exact hi
    refine .inr ⟨b, f, rfl, h.pos, key _ _ _ _ _ h.row, h.len, h.lob, h.lof, by rw [w.next]; exact h.ltf, fun i hi => ?_⟩
    rw [w.mem] at hi
    obtain ⟨h1, h2, cs', e', b', ro', h3⟩ := h.mem i hi
    exact ⟨h1, by rw [w.next]; exact h2, cs', e', b', ro', key _ _ _ _ _ h3⟩

theorem poisonFrom_get (coord : Nat) : ∀ (l : List Nat) (A : AW), (∀ i ∈ l, i < maxId) → (∀ i, i ∉ l → (poisonFrom coord l A).get i = A.get i) ∧ (poisonFrom coord l A).next = A.next ∧ (poisonFrom coord l A).fams = A.fams
  | [], A, _ => ⟨fun _ _ => rfl, rfl, rfl⟩
  | x :: r, A, hl => by
    unfold poisonFrom
    split
    · rename_i cs e fam base ro hx
      obtain ⟨h1, h2, h3⟩ := poisonFrom_get coord r (A.put x (.row (poisonFromL cs (coord - base)) e fam base ro)) fun i hi => hl i (by simp [hi])
      refine ⟨fun i hi => ?_, h2, h3⟩
      simp only [List.mem_cons, not_or] at hi
      rw [h1 i hi.2, AW.get_put A x i _ (hl x (by simp)), if_neg hi.1]
    · obtain ⟨h1, h2, h3⟩ := poisonFrom_get coord r A fun i hi => hl i (by simp [hi])
      exact ⟨fun i hi => h1 i (fun h => hi (by simp [h])), h2, h3⟩

theorem takeAny_all : ∀ (l : List Value), takeAny l l.length = some l
  | [] => rfl
  | v :: r => by simp [takeAny, takeAny_all r]
theorem takeCells_all : ∀ (l : List Value), l.all (fun v => !isTuple v) = true → takeCells l l.length = some l
  | [], _ => rfl
  | v :: r, h => by
    simp only [List.all_cons, Bool.and_eq_true, Bool.not_eq_true'] at h
    simp [takeCells, h.1, takeCells_all r h.2]

/-- what an append leaves -/
structure Appended (lo : Nat) (A A' : AW) (e : TypeId) (size : Nat) (v v' : Value) (n m : Nat) (cs new : List Value) : Prop where
  own : OwnS lo A' e size v' (n + m) (cs ++ new)
  next : A'.next = A.next + 1
  fine : Fine A'
  get : ∀ i, i < A.next → (∀ b f, v = .slice (some ⟨b, 0, none⟩) n (capU + n) → OwnAt lo A e size n cs b f → i ∉ A.members f) → A'.get i = A.get i
  mem : ∀ g, g < A.next → (∀ b f, v = .slice (some ⟨b, 0, none⟩) n (capU + n) → OwnAt lo A e size n cs b f → g ≠ f) → A'.members g = A.members g
  fam : ∀ b' f', v' = .slice (some ⟨b', 0, none⟩) (n + m) (capU + (n + m)) → OwnAt lo A' e size (n + m) (cs ++ new) b' f' → f' = A.next ∨ ∃ b, v = .slice (some ⟨b, 0, none⟩) n (capU + n) ∧ OwnAt lo A e size n cs b f'

theorem appendA_nil {A : AW} {t t2 e : TypeId} {size bytes : Nat} {x : Value} {m : Nat} {new : List Value} (ht : sliceElemT P t = some e) (hs : szT P e = some (size + 1)) (hb : bytesT P e = some bytes)
    (hx : sourceZ P A e t2 (size + 1) x = some (m + 1, new)) (hroom : (Nat.blt (0 + (m + 1)) room && Nat.blt ((0 + (m + 1)) * bytes) room && hasZero P e (size + 1)) = true) (hmax : A.next < maxId) :
    appendA P A t t2 (.slice none 0 0) x = .ok (.slice (some ⟨A.next, 0, none⟩) (0 + (m + 1)) (capU + (0 + (m + 1)))) (A.push (.row new e A.next 0 false)) := by
  unfold appendA
  simp only [ht, hs, hb, hx]
  rw [hroom]
  simp only [Bool.not_true, cond_false]
  have h1 : Nat.ble capU 0 = false := rfl
  have h2 : Nat.ble (0 + (m + 1)) 0 = false := ble_false.2 (by omega)
  simp only [h1, cond_false, h2, List.nil_append]
  unfold AW.new
  simp only [blt_true.2 hmax, cond_true]
  rfl

theorem appendA_grow {A B : AW} {t t2 e : TypeId} {size bytes : Nat} {x : Value} {n m c b f : Nat} {cs new : List Value} {a' : Addr} (ht : sliceElemT P t = some e) (hs : szT P e = some (size + 1)) (hb : bytesT P e = some bytes)
    (hx : sourceZ P A e t2 (size + 1) x = some (m + 1, new)) (hroom : (Nat.blt (n + (m + 1)) room && Nat.blt ((n + (m + 1)) * bytes) room && hasZero P e (size + 1)) = true) (h1 : Nat.ble capU c = true) (h2 : Nat.ble (n + (m + 1)) (c - capU) = false)
    (hrow : A.get b = some (.row cs e f 0 false)) (hone : new.all oneCell = true) (hold : A.cellsAny ⟨b, 0, none⟩ (n * (size + 1)) = some cs)
    (hni : (poisonFrom (n * (size + 1)) (A.members f) A).newIn (cs ++ new) e f 0 = some (a', B)) :
    appendA P A t t2 (.slice (some ⟨b, 0, none⟩) n c) x = .ok (.slice (some a') (n + (m + 1)) (capU + (n + (m + 1)))) B := by
  unfold appendA
  simp only [ht, hs, hb, hx]
  rw [hroom]
  simp only [Bool.not_true, cond_false]
  generalize hlb : (bif Nat.ble capU c then c - capU else c) = lb
  have hz : Nat.ble (n + (m + 1)) lb = false := by
    rw [h1, cond_true] at hlb
    rw [← hlb]
    exact h2
  clear hlb h2
  have hbe : Nat.beq e e = true := Nat.beq_refl e
  simp only [hz, h1, cond_false, cond_true, hrow, hbe, hone, Bool.and_self, Bool.not_true]
  rw [hold]
  have hc : (0 + 0 + n * (size + 1)) = n * (size + 1) := by omega
  simp only [hc, Nat.add_zero, hni]

theorem append_own {lo : Nat} {A : AW} {t t2 e : TypeId} {size bytes : Nat} {v x : Value} {n m : Nat} {cs new : List Value} (ht : sliceElemT P t = some e) (hs : szT P e = some (size + 1)) (hb : bytesT P e = some bytes)
    (hz : hasZero P e (size + 1) = true) (hx : sourceZ P A e t2 (size + 1) x = some (m + 1, new)) (hnew : new.length = (m + 1) * (size + 1)) (hone : new.all oneCell = true) (h : OwnS lo A e (size + 1) v n cs) (hf : Fine A) (hlo : lo ≤ A.next)
    (hmax : A.next < maxId) (hr1 : n + (m + 1) < room) (hr2 : (n + (m + 1)) * bytes < room) : ∃ v' A', appendA P A t t2 v x = .ok v' A' ∧ Appended lo A A' e (size + 1) v v' n (m + 1) cs new := by
  have hroom : (Nat.blt (n + (m + 1)) room && Nat.blt ((n + (m + 1)) * bytes) room && hasZero P e (size + 1)) = true := by rw [blt_true.2 hr1, blt_true.2 hr2, hz]; rfl
  rcases h with ⟨rfl, rfl, rfl⟩ | ⟨b, f, rfl, h⟩
  · refine ⟨.slice (some ⟨A.next, 0, none⟩) (0 + (m + 1)) (capU + (0 + (m + 1))), A.push (.row new e A.next 0 false), ?_, ?_⟩
    · exact appendA_nil ht hs hb hx hroom hmax
    · have hfp := hf.push (.row new e A.next 0 false) hmax
      have hrow : (A.push (.row new e A.next 0 false)).get A.next = some (.row new e A.next 0 false) := by rw [AW.push_get _ hmax, if_pos rfl]
      refine ⟨.inr ⟨A.next, A.next, rfl, by omega, by rw [hrow]; rfl, by simp only [List.nil_append, hnew, Nat.zero_add], hlo, hlo, by rw [AW.push_next]; omega, fun i hi => ?_⟩, rfl, hfp, fun i hi _ => by rw [AW.push_get _ hmax, if_neg (by omega)], fun g hg _ => rfl, fun b' f' hv ho => ?_⟩
      · have : (A.push (.row new e A.next 0 false)).members A.next = [A.next] := hf.alone (Nat.le_refl _)
        rw [this] at hi
        obtain rfl : i = A.next := by simpa using hi
        exact ⟨hlo, by rw [AW.push_next]; omega, _, _, _, _, hrow⟩
      · simp only [Value.slice.injEq, Option.some.injEq, Addr.mk.injEq] at hv
        obtain ⟨⟨rfl, _⟩, _⟩ := hv
        have := ho.row
        rw [hrow] at this
        simp only [Option.some.injEq, AO.row.injEq] at this
        exact .inl this.2.2.1.symm
  · have hmemlt : ∀ i ∈ A.members f, i < maxId := fun i hi => by have := (h.mem i hi).2.1; omega
    obtain ⟨p1, p2, p3⟩ := poisonFrom_get (n * (size + 1)) (A.members f) A hmemlt
    let A1 := poisonFrom (n * (size + 1)) (A.members f) A
    have hA1 : A1.next = A.next := p2
    let A2 : AW := { (A1.push (.row (cs ++ new) e f 0 false)) with fams := (A1.push (.row (cs ++ new) e f 0 false)).fams.put depth f (some (A1.next :: A1.members f)) }
    have hm1 : ∀ g, A1.members g = A.members g := fun g => by unfold AW.members; rw [show A1.fams = A.fams from p3]
    have hget2 : ∀ i, A2.get i = if i = A.next then some (.row (cs ++ new) e f 0 false) else A1.get i := by
      intro i
      show (A1.push _).get i = _
      rw [AW.push_get _ (by rw [hA1]; exact hmax), hA1]
    have hltf := h.ltf
    have hmem2 : ∀ g, g < maxId → A2.members g = if g = f then A.next :: A.members f else A.members g := by
      intro g hg
      show (match ((A1.push (.row (cs ++ new) e f 0 false)).fams.put depth f (some (A1.next :: A1.members f))).get? g with | some l => l | none => [g]) = _
      rw [Trie.get?_put depth _ f g _ (by unfold depth maxId at *; omega)]
      by_cases hgf : g = f
      · rw [if_pos hgf, if_pos hgf, hm1, hA1]
      · rw [if_neg hgf, if_neg hgf, ← hm1 g]; rfl
    have hnext2 : A2.next = A.next + 1 := by show A1.next + 1 = _; rw [hA1]
    refine ⟨.slice (some ⟨A.next, 0, none⟩) (n + (m + 1)) (capU + (n + (m + 1))), A2, ?_, ?_⟩
    · have hold : A.cellsAny ⟨b, 0, none⟩ (n * (size + 1)) = some cs := by
        unfold AW.cellsAny
        obtain ⟨k, hk⟩ : ∃ k, n * (size + 1) = k + 1 := ⟨n * (size + 1) - 1, by have : 0 < n * (size + 1) := Nat.mul_pos h.pos (by omega); omega⟩
        rw [hk]
        simp only [h.row, List.drop_zero]
        rw [← hk, ← h.len]
        exact takeAny_all cs
      have hni : (poisonFrom (n * (size + 1)) (A.members f) A).newIn (cs ++ new) e f 0 = some (⟨A1.next, 0, none⟩, A2) := by
        unfold AW.newIn AW.new
        have : Nat.blt (poisonFrom (n * (size + 1)) (A.members f) A).next maxId = true := blt_true.2 (by rw [p2]; exact hmax)
        simp only [this, cond_true]
        rfl
      rw [hA1] at hni
      exact appendA_grow ht hs hb hx hroom (ble_true.2 (Nat.le_add_right _ _)) (ble_false.2 (by rw [Nat.add_sub_cancel_left]; omega)) h.row hone hold hni
    · have hnot : A.next ∉ A.members f := fun hi => by have := (h.mem _ hi).2.1; omega
      have hrow : A2.get A.next = some (.row (cs ++ new) e f 0 false) := by rw [hget2, if_pos rfl]
      -- rows of the family are still rows of it
      have hfam : ∀ i ∈ A.members f, ∃ cs' e' b' ro', A1.get i = some (.row cs' e' f b' ro') := by
        have key : ∀ (l : List Nat) (B : AW), (∀ i ∈ l, i < maxId) → ∀ i, (∃ cs' e' b' ro', B.get i = some (.row cs' e' f b' ro')) → ∃ cs' e' b' ro', (poisonFrom (n * (size + 1)) l B).get i = some (.row cs' e' f b' ro') := by
          intro l
          induction l with
          | nil => intro B _ i hi; exact hi
          | cons x r ih =>
            intro B hl i hi
            unfold poisonFrom
            refine ih _ (fun j hj => hl j (by simp [hj])) i ?_
            split
            · rename_i cs2 e2 f2 b2 ro2 hx2
              rw [AW.get_put B x i _ (hl x (by simp))]
              by_cases hix : i = x
              · subst hix
                obtain ⟨cs', e', b', ro', hi⟩ := hi
                rw [hx2] at hi
                simp only [Option.some.injEq, AO.row.injEq] at hi
                rw [if_pos rfl]
                exact ⟨_, _, _, _, by rw [hi.2.2.1]⟩
              · rw [if_neg hix]; exact hi
            · exact hi
        intro i hi
        obtain ⟨_, _, h3⟩ := h.mem i hi
        exact key _ _ hmemlt i h3
      refine ⟨.inr ⟨A.next, f, rfl, by omega, hrow, by rw [List.length_append, h.len, hnew, ← Nat.add_mul], hlo, h.lof, by rw [hnext2]; omega, fun i hi => ?_⟩, hnext2, ⟨fun i hi => ?_, fun i hi => ?_⟩, fun i hi hnf => ?_, fun g hg hgf => ?_, fun b' f' hv ho => ?_⟩
      · rw [hmem2 f (by omega), if_pos rfl, List.mem_cons] at hi
        rcases hi with rfl | hi
        · exact ⟨hlo, by rw [hnext2]; omega, _, _, _, _, hrow⟩
        · obtain ⟨g1, g2, _⟩ := h.mem i hi
          obtain ⟨cs', e', b', ro', g3⟩ := hfam i hi
          exact ⟨g1, by rw [hnext2]; omega, cs', e', b', ro', by rw [hget2, if_neg (by omega)]; exact g3⟩
      · rw [hnext2] at hi
        show ((A1.push (.row (cs ++ new) e f 0 false)).fams.put depth f (some (A1.next :: A1.members f))).get? i = none
        rw [Trie.get?_put depth _ f i _ (by unfold depth maxId at *; omega), if_neg (by omega)]
        show A1.fams.get? i = none
        rw [show A1.fams = A.fams from p3]
        exact hf.fams i (by omega)
      · rw [hnext2] at hi
        rw [hget2, if_neg (by omega)]
        show (poisonFrom _ _ A).get i = none
        rw [p1 i (fun hm => by have := (h.mem i hm).2.1; omega)]
        exact hf.get i (by omega)
      · rw [hget2, if_neg (by omega)]
        exact p1 i (hnf b f rfl h)
      · rw [hmem2 g (by omega), if_neg (hgf b f rfl h)]
      · simp only [Value.slice.injEq, Option.some.injEq, Addr.mk.injEq] at hv
        obtain ⟨⟨rfl, _⟩, _⟩ := hv
        have := ho.row
        rw [hrow] at this
        simp only [Option.some.injEq, AO.row.injEq] at this
        obtain ⟨_, _, rfl, _⟩ := this
        exact .inr ⟨b, rfl, h⟩

end
end Go.Abs

namespace Go.Abs
section
variable {P : Program}

theorem quiet_bind {α β : Type} (k : α → Sem β) : ∀ s : Sem α, quiet P (s.bind k) = (quiet P s).bind fun a => quiet P (k a)
  | .pure a => rfl
  | .program f => quiet_bind k (f P)
  | .mark _ f => by
    show quiet P (f.bind k) = _
    exact quiet_bind k f
  | .load .. => rfl
  | .store .. => rfl
  | .new .. => rfl
  | .shape .. => rfl
  | .freeze .. => rfl
  | .frozen .. => rfl
  | .getObj .. => rfl
  | .setObj .. => rfl
  | .choose .. => rfl
  | .sys .. => rfl
  | .halt _ => rfl

theorem quiet_bindM {α β : Type} (s : Sem α) (k : α → Sem β) : quiet P (s >>= k) = (quiet P s).bind fun a => quiet P (k a) := quiet_bind k s
theorem quiet_ite {α : Type} {c : Prop} [Decidable c] (a b : Sem α) : quiet P (if c then a else b) = if c then quiet P a else quiet P b := by split <;> rfl

/-- two structs, field by field -/
theorem quiet_struct (d : Nat) (t : TypeId) (xs ys : Array Value) (ht : quiet P (underlying t) = some (.struct (P.fieldsOf t))) (hp : P.stoodInHeld t = false) :
    quiet P (Op.equalIn (d + 1) t (.agg xs) (.agg ys)) = quiet P (Op.eqFields d xs ys (P.fieldsOf t).toList) := by
  simp only [Op.equalIn]
  show quiet P (Sem.bind _ _) = _
  rw [quiet_bind, ht]
  simp only [Option.bind_some]
  show quiet P (Sem.bind _ _) = _
  rw [quiet_bind]
  show (some P).bind _ = _
  simp only [Option.bind_some, hp, Bool.false_eq_true, if_false]
  rw [← Array.forIn_toList]
  generalize (P.fieldsOf t).toList = fs
  clear ht
  induction fs with
  | nil => simp [Op.eqFields]
  | cons f fs ih =>
    simp only [List.forIn_cons, Op.eqFields]
    split
    · simp only [quiet_bindM, Option.bind_assoc] at ih ⊢
      congr 1
      funext a
      congr 1
      funext b
      congr 1
      funext r
      cases r
      · rfl
      · exact ih
    · exact ih

theorem quiet_eq_int (d : Nat) (t : TypeId) (k k' : IntKind) (a b : Int) (h : quiet P (underlying t) = some (.int k')) : quiet P (Op.equalIn (d + 1) t (.int k a) (.int k b)) = some (a == b) := by
  simp only [Op.equalIn]
  show quiet P (Sem.bind _ _) = _
  rw [quiet_bind, h]
  simp only [Option.bind_some, if_true]
  rfl
theorem quiet_eq_bool (d : Nat) (t : TypeId) (a b : Bool) (h : quiet P (underlying t) = some .bool) : quiet P (Op.equalIn (d + 1) t (.bool a) (.bool b)) = some (a == b) := by
  simp only [Op.equalIn]
  show quiet P (Sem.bind _ _) = _
  rw [quiet_bind, h]
  rfl
theorem quiet_eq_string (d : Nat) (t : TypeId) (a b : ByteArray) (h : quiet P (underlying t) = some .string) : quiet P (Op.equalIn (d + 1) t (.string a) (.string b)) = some (a == b) := by
  simp only [Op.equalIn]
  show quiet P (Sem.bind _ _) = _
  rw [quiet_bind, h]
  rfl
/-- a field that is the same -/
theorem quiet_field {d : Nat} {xs ys : Array Value} {f : Field} {fs : List Field} {a b : Value} (h1 : quiet P (part f.type xs f.offset) = some a) (h2 : quiet P (part f.type ys f.offset) = some b) (h3 : quiet P (Op.equalIn d f.type a b) = some true) :
    quiet P (Op.eqFields d xs ys (f :: fs)) = quiet P (Op.eqFields d xs ys fs) := by
  simp only [Op.eqFields]
  split
  · show quiet P (Sem.bind _ _) = _
    rw [quiet_bind, h1]
    simp only [Option.bind_some]
    show quiet P (Sem.bind _ _) = _
    rw [quiet_bind, h2]
    simp only [Option.bind_some]
    show quiet P (Sem.bind _ _) = _
    rw [quiet_bind, h3]
    rfl
  · rfl
end
end Go.Abs
