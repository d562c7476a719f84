/-
  A gatherer's Feed, Open and New, in the abstract machine: what they answer and leave. Conditions: those of each theorem.
-/
import Derived.Test.YteiiledpfhopdaaFeedsA
import Derived.Test.YteiiledpfhopdaaRows
import Derived.Lib.SmallJoins
import Derived.Carry
import Derived.Test.YteiiledpfhopdaaAbsI
namespace Go.Proofs.Yteiiledpfhopdaa
open Go.Abs Go.ChangeShapes Go.WideShapes Go.ChangeAt Go.RowKit Go.Joins Go.Deep

/-! the law's own examples, by a run -/
def headX : XNames := { clone := [], noEscape := [], noZero := [] }
theorem headXok : XOk Try.prog headX := ⟨fun f h => by simp [headX, memN] at h, fun f h => by simp [headX, memN] at h, fun f h => by simp [headX, memN] at h⟩
theorem head_run : runOk Try.prog headX [] (fun _ => []) isT 20000 ⟨frOf Try.prog 8 [], [], wG 0 []⟩ = some (true, []) := by kernel_rfl
theorem nG : Try.prog.globals.size = 0 := by kernel_rfl
theorem head_calls (W : World) (hW : Holds W []) : Calls Try.prog 8 #[] W fun e W' => e = .returned (.bool true) ∧ Below W.heap.size W W' := by
  refine calls_true (X := headX) (l := []) (args := []) gP (by kernel_rfl) rfl (by kernel_rfl) W hW ?_
  rw [nG]
  exact answers_of_run headXok gP head_run fun k hk => by cases hk
theorem head_kc (W : World) (m : Inj Try.prog) : KC.Holds Try.prog W m ⟨8, [], [.bool true]⟩ := kc_true (rows := []) (by decide) head_calls (fun x hx => by cases hx) m

/-! a slice of segments that came in -/
/-- the segments of a slice in memory -/
def ArgSegs (W : World) (s : Value) (l : List Seg) : Prop :=
  (l = [] ∧ IsSlice s ∧ ∃ o c, s = .slice o 0 c) ∨ ∃ (a : Addr) (c : Nat) (cs : Array Value) (e : TypeId) (fr : Nat × Nat), s = .slice (some a) l.length c ∧ l.length ≤ c ∧ c < capU ∧ a.spot = none ∧ 0 < l.length ∧ W.heap[a.block]? = some (.cells cs e fr) ∧
    ∀ i s, l[i]? = some s → cs[a.off + i * 2]? = some (.int .u8 s.ty) ∧ cs[a.off + i * 2 + 1]? = some (.string s.pay)

/-- a heap with one row that came in -/
def aRow (cs : List Value) (e : TypeId) : AW := ⟨.node (some (.row cs e 1 0 true)) .nil .nil, 2, .node none (.node (some [0]) .nil .nil) .nil⟩
theorem aRow_get (cs : List Value) (e : TypeId) (i : Nat) : (aRow cs e).get i = if i = 0 then some (.row cs e 1 0 true) else none := by
  by_cases h : i = 0
  · subst h; rfl
  · rw [if_neg h]
    unfold aRow AW.get Trie.get?
    have : Nat.beq i 0 = false := beq_false.2 h
    simp only [this, cond_false]
    cases Nat.beq (i % 2) 1 <;> simp [Trie.get?]
theorem aRow_fams (cs : List Value) (e : TypeId) (i : Nat) (h : 2 ≤ i) : (aRow cs e).fams.get? i = none := by
  unfold aRow
  simp only [Trie.get?]
  have h0 : Nat.beq i 0 = false := beq_false.2 (by omega)
  simp only [h0, cond_false]
  cases h1 : Nat.beq (i % 2) 1 with
  | false => simp [Trie.get?]
  | true =>
    have h2 : Nat.beq (i / 2) 0 = false := beq_false.2 (by omega)
    simp only [cond_true, Trie.get?, h2, cond_false]
    cases Nat.beq (i / 2 % 2) 1 <;> rfl
theorem aRow_fine (cs : List Value) (e : TypeId) : Fine (aRow cs e) :=
  ⟨fun i hi => aRow_fams cs e i hi, fun i hi => by rw [aRow_get, if_neg (by have : 2 ≤ i := hi; omega)]⟩

/-- where it lies: at an address -/
def mRow (P : Program) (a : Addr) : Inj P := ⟨fun i => if i = 0 then some (a.block, a.off) else none, fun _ => 0, fun _ => 0, fun _ => 0, fun _ h => absurd rfl h⟩
theorem relRow {P : Program} {W : World} {a : Addr} {cs : List Value} {cs' : Array Value} {e : TypeId} {fr : Nat × Nat} (hc : W.heap[a.block]? = some (.cells cs' e fr)) (ha : a.off ≤ cs'.size)
    (h : ∀ i v, cs[i]? = some v → cs'[a.off + i]? = some v ∧ closedV 4 v = true) : Rel (mRow P a) (aRow cs e) W := by
  have hm : ∀ i c d, mRow P a i = some (c, d) → i = 0 ∧ c = a.block ∧ d = a.off := by
    intro i c d hi
    have hi : (if i = 0 then some (a.block, a.off) else none) = some (c, d) := hi
    split at hi
    · rename_i h0
      simp only [Option.some.injEq, Prod.mk.injEq] at hi
      exact ⟨h0, hi.1.symm, hi.2.symm⟩
    · cases hi
  have hg : ∀ i o, (aRow cs e).get i = some o → i = 0 ∧ o = .row cs e 1 0 true := by
    intro i o hi
    rw [aRow_get] at hi
    split at hi
    · rename_i h0; cases hi; exact ⟨h0, rfl⟩
    · cases hi
  refine ⟨?_, ?_, ?_, ?_, ?_, by show 2 ≤ maxId; decide, ?_⟩
  · intro i o c d hi hmi
    obtain ⟨rfl, rfl⟩ := hg i o hi
    obtain ⟨_, rfl, rfl⟩ := hm _ _ _ hmi
    exact ⟨_, hc, cs', fr, rfl, fun i v hv => ⟨v, (h i v hv).1, fun _ => closedV_rel 4 v (h i v hv).2, fun h => by cases h⟩⟩
  · intro i cs2 e2 b ro hi c d hmi
    obtain ⟨rfl, h2⟩ := hg i _ hi
    cases h2
  · intro i j oi oj c di dj hij hi hj _ _
    obtain ⟨rfl, _⟩ := hg i oi hi
    obtain ⟨rfl, _⟩ := hg j oj hj
    exact absurd rfl hij
  · intro i o f b hi hf
    obtain ⟨rfl, rfl⟩ := hg i o hi
    simp only [AO.fam, Option.some.injEq, Prod.mk.injEq] at hf
    obtain ⟨rfl, rfl⟩ := hf
    exact ⟨by show 0 ∈ [0]; simp, by show 1 < 2; decide⟩
  · intro i hi
    have hi : 2 ≤ i := hi
    refine ⟨(aRow_fine cs e).get i hi, ?_, aRow_fams cs e i hi⟩
    show (if i = 0 then some (a.block, a.off) else none) = none
    rw [if_neg (by omega)]
  · intro i cs2 e2 f b ro c d hi hmi
    obtain ⟨rfl, h2⟩ := hg i _ hi
    cases h2
    obtain ⟨_, rfl, rfl⟩ := hm _ _ _ hmi
    exact ⟨fun h => absurd rfl h, cs', e, fr, hc, ha, fun h => by cases h⟩
theorem ownRow {P : Program} {a : Addr} {cs : List Value} {e : TypeId} (c : Nat) : ¬ Own (mRow P a) (aRow cs e) c := by
  rintro ⟨i, o, d, hi, hro, _⟩
  rw [aRow_get] at hi
  split at hi
  · cases hi; cases hro
  · cases hi
end Go.Proofs.Yteiiledpfhopdaa


namespace Go.Proofs.Yteiiledpfhopdaa
open Go Go.Abs
def keyVal (k : Int × Int) : Value := .agg ⟨[.int .i64 k.1, .int .i64 k.2]⟩
theorem quiet_pure {P : Program} {α : Type} (x : α) : quiet P (pure x : Sem α) = some x := rfl
theorem quiet_eq_arr2 {P : Program} (d : Nat) (t : TypeId) (k : IntKind) (elem : TypeId) (a b c e : Int) (ht : quiet P (underlying t) = some (.array 2 elem)) (hu : quiet P (underlying elem) = some (.int k)) (hs : quiet P (sizeOf elem) = some 1)
    (p0 : ∀ x y : Int, quiet P (part elem ⟨[.int k x, .int k y]⟩ 0) = some (.int k x)) (p1 : ∀ x y : Int, quiet P (part elem ⟨[.int k x, .int k y]⟩ 1) = some (.int k y)) :
    quiet P (Op.equalIn (d + 2) t (.agg ⟨[.int k a, .int k b]⟩) (.agg ⟨[.int k c, .int k e]⟩)) = some ((a == c) && (b == e)) := by
  have h1 := quiet_eq_int (P := P) d elem k k a c hu
  have h2 := quiet_eq_int (P := P) d elem k k b e hu
  show quiet P (Op.equalIn ((d + 1) + 1) t _ _) = _
  generalize d + 1 = D at h1 h2
  simp only [Op.equalIn]
  show quiet P (Sem.bind _ _) = _
  rw [quiet_bind, ht]
  simp only [Option.bind_some]
  rw [quiet_bindM, hs]
  simp only [Option.bind_some]
  rw [quiet_bindM]
  cases hac : a == c
  · rw [hac] at h1
    simp [List.range', List.forIn_cons, quiet_bindM, p0, h1, quiet_ite]
    rfl
  · rw [hac] at h1
    cases hbe : b == e
    · rw [hbe] at h2
      simp [List.range', List.forIn_cons, quiet_bindM, quiet_pure, p0, p1, h1, h2, quiet_ite]
    · rw [hbe] at h2
      simp [List.range', List.forIn_cons, quiet_bindM, quiet_pure, p0, p1, h1, h2, quiet_ite]
theorem eq62 (a b c d : Int) : eqA Try.prog 62 (keyVal (a, b)) (keyVal (c, d)) = some ((a == c) && (b == d)) := by
  have : eqA Try.prog 62 (keyVal (a, b)) (keyVal (c, d)) = quiet Try.prog (Op.equal 62 (keyVal (a, b)) (keyVal (c, d))) := by
    unfold eqA
    rfl
  rw [this]
  exact quiet_eq_arr2 (P := Try.prog) _ 62 .i64 3 a b c d (by kernel_rfl) (by kernel_rfl) (by kernel_rfl) (fun _ _ => by kernel_rfl) (fun _ _ => by kernel_rfl)
theorem kq62 (b : Bool) (k : Int × Int) : keyQ Try.prog b 62 (keyVal k) = true := by cases b <;> kernel_rfl
theorem mt56 : mapTypes Try.prog 56 = some (62, 64) := by kernel_rfl
theorem zt64 : zeroT Try.prog 64 = some (.agg ⟨[.slice none 0 0, .int .i64 0, .bool false, .bool false, .bool false, .bool false, .int .u8 0, .int .u8 0, .int .u16 0, .string ByteArray.empty, .bool false]⟩) := by kernel_rfl
theorem zt25 : zeroT Try.prog 25 = some (.agg ⟨[.int .u16 0, .int .u8 0, .slice none 0 0]⟩) := by kernel_rfl
theorem zt62 : zeroT Try.prog 62 = some (.agg ⟨[.int .i64 0, .int .i64 0]⟩) := by kernel_rfl
theorem bd25 : buildA Try.prog 25 [] = some (.agg ⟨[.int .u16 0, .int .u8 0, .slice none 0 0]⟩) := by kernel_rfl
theorem bd25b (a b : Int) (x : Option Addr) (n c : Nat) : buildA Try.prog 25 [(0, .int .u16 a), (1, .int .u8 b), (2, .slice x n c)] = some (.agg ⟨[.int .u16 a, .int .u8 b, .slice x n c]⟩) := by kernel_rfl
theorem bd25c (a b : Int) : buildA Try.prog 25 [(0, .int .u16 a), (1, .int .u8 b)] = some (.agg ⟨[.int .u16 a, .int .u8 b, .slice none 0 0]⟩) := by kernel_rfl
theorem bd28 (a : Int) : buildA Try.prog 28 [(0, .int .u8 a)] = some (.agg ⟨[.int .u8 a, .string ByteArray.empty]⟩) := by kernel_rfl
theorem bd62 (a b : Int) : buildA Try.prog 62 [(0, .int .i64 a), (1, .int .i64 b)] = some (.agg ⟨[.int .i64 a, .int .i64 b]⟩) := by kernel_rfl
theorem bd58 (r : Option Nat) : buildA Try.prog 58 [(0, .map r)] = some (.agg ⟨[.map r, .bool false]⟩) := by kernel_rfl
theorem bd43 : buildA Try.prog 43 [] = some (.agg ⟨[.slice none 0 0, .bool false]⟩) := by kernel_rfl
theorem st_3' (A : AW) (a : Addr) (v : Value) : storeP Try.prog A 3 (.pointer (some a)) v = (bif Nat.beq v.cells.toList.length 1 then A.setCells a v.cells.toList else none) := by kernel_rfl
theorem cv_22_3 (A : AW) (a : Int) : convertA Try.prog A 22 3 (.int .u16 a) = .ok (.int .i64 (IntKind.i64.wrap a)) A := by kernel_rfl
theorem cv_5_3 (A : AW) (a : Int) : convertA Try.prog A 5 3 (.int .u8 a) = .ok (.int .i64 (IntKind.i64.wrap a)) A := by kernel_rfl
theorem bs23 (A : AW) (ty : Int) (s : ByteArray) : buildSliceA Try.prog A 23 1 [(0, .agg ⟨[.int .u8 ty, .string s]⟩)] = match A.newRow [.int .u8 ty, .string s] 28 with | some (a, A') => .ok (.slice (some a) 1 1) A' | none => .fail "buildSlice new" := by kernel_rfl
theorem fz64 : freshOf Try.prog (fun _ => undef) (.alloc 64) = some (.row [.slice none 0 0, .int .i64 0, .bool false, .bool false, .bool false, .bool false, .int .u8 0, .int .u8 0, .int .u16 0, .string ByteArray.empty, .bool false] 64) := by kernel_rfl

/-- what is open on a track of a channel -/
structure Part where
  segs : List Seg
  size : Int
  fr : Fr
  goes : Bool
def fr0 : Fr := ⟨false, false, false, false, 0, 0, 0, ByteArray.empty⟩
def part0 : Part := ⟨[], 0, fr0, false⟩
def partCells (v : Value) (p : Part) : List Value := v :: .int .i64 p.size :: (p.fr.cells ++ [.bool p.goes])
def segCells : List Seg → List Value
  | [] => []
  | s :: r => .int .u8 s.ty :: .string s.pay :: segCells r
theorem segCells_append : ∀ (a b : List Seg), segCells (a ++ b) = segCells a ++ segCells b
  | [], b => rfl
  | s :: r, b => by simp [segCells, segCells_append r b]
theorem segCells_length : ∀ (a : List Seg), (segCells a).length = a.length * 2
  | [] => rfl
  | s :: r => by simp [segCells, segCells_length r]; omega
theorem segCells_get : ∀ {l : List Seg} {i : Nat} {s : Seg}, l[i]? = some s → (segCells l)[i * 2]? = some (.int .u8 s.ty) ∧ (segCells l)[i * 2 + 1]? = some (.string s.pay)
  | [], i, s, h => by simp at h
  | x :: r, 0, s, h => by
    simp only [List.getElem?_cons_zero, Option.some.injEq] at h
    subst h
    exact ⟨rfl, rfl⟩
  | x :: r, i + 1, s, h => by
    simp only [List.getElem?_cons_succ] at h
    have := segCells_get h
    rw [show (i + 1) * 2 = i * 2 + 1 + 1 by omega]
    exact this
theorem OwnG.isSegs {A : AW} {v : Value} {l : List Seg} {F : List Nat} (h : OwnG A 28 2 v l.length (segCells l) F) (hf : Fine A) : IsSegs A v l := by
  rcases h with ⟨rfl, h2, _, _⟩ | ⟨b, f, rfl, h, _⟩
  · exact .inl ⟨List.eq_nil_of_length_eq_zero h2, none, 0, rfl⟩
  · exact .inr ⟨b, 0, _, _, _, _, _, _, rfl, h.row, hf.lt h.row, fun i s hi => by
      obtain ⟨h1, h2⟩ := segCells_get hi
      rw [Nat.zero_add]
      exact ⟨h1, h2⟩⟩

abbrev Key := Int × Int
def findP : List (Key × Part) → Key → Option Part
  | [], _ => none
  | (k', p) :: m, k => if k' = k then some p else findP m k
def putP : List (Key × Part) → Key → Part → List (Key × Part)
  | [], k, p => [(k, p)]
  | (k', p') :: m, k, p => if k' = k then (k, p) :: m else (k', p') :: putP m k p
def delP : List (Key × Part) → Key → List (Key × Part)
  | [], _ => []
  | (k', p') :: m, k => if k' = k then m else (k', p') :: delP m k
theorem findP_none : ∀ {m : List (Key × Part)} {k : Key}, findP m k = none → (∀ p, putP m k p = m ++ [(k, p)]) ∧ delP m k = m
  | [], k, _ => ⟨fun _ => rfl, rfl⟩
  | (k', p') :: m, k, h => by
    unfold findP at h
    split at h
    · cases h
    · rename_i hk
      obtain ⟨h1, h2⟩ := findP_none h
      exact ⟨fun p => by simp [putP, hk, h1 p], by simp [delP, hk, h2]⟩
theorem findP_some : ∀ {m : List (Key × Part)} {k : Key} {p : Part}, findP m k = some p → ∃ m1 m2, m = m1 ++ (k, p) :: m2 ∧ findP m1 k = none ∧ (∀ q, putP m k q = m1 ++ (k, q) :: m2) ∧ delP m k = m1 ++ m2
  | [], k, p, h => by cases h
  | (k', p') :: m, k, p, h => by
    unfold findP at h
    split at h
    · rename_i hk
      cases h
      subst hk
      exact ⟨[], m, rfl, rfl, fun q => by simp [putP], by simp [delP]⟩
    · rename_i hk
      obtain ⟨m1, m2, h1, h2, h3, h4⟩ := findP_some h
      exact ⟨(k', p') :: m1, m2, by rw [h1]; rfl, by simp [findP, hk, h2], fun q => by simp [putP, hk, h3], by simp [delP, hk, h4]⟩

/-- map entries that are these parts; the families that their slices lie in -/
def PartsIs (A : AW) : List MapEntry → List (Key × Part) → List Nat → Prop
  | [], [], fs => fs = []
  | e :: es, (k, p) :: m, fs => ∃ v F fs', fs = F ++ fs' ∧ e.key = keyVal k ∧ e.val = .agg ⟨partCells v p⟩ ∧ OwnG A 28 2 v p.segs.length (segCells p.segs) F ∧ PartsIs A es m fs'
  | _, _, _ => False
theorem PartsIs.keeps {A A' : AW} {S : List Nat} (k : Keeps A A' S) : ∀ {es : List MapEntry} {m : List (Key × Part)} {fs : List Nat}, PartsIs A es m fs → (∀ x ∈ fs, x ∉ S) → PartsIs A' es m fs
  | [], [], _, h, _ => h
  | e :: es, (kk, p) :: m, fs, ⟨v, F, fs', h1, h2, h3, h4, h5⟩, hd => by
    subst h1
    exact ⟨v, F, fs', rfl, h2, h3, h4.keeps k (fun x hx => hd x (by simp [hx])), PartsIs.keeps k h5 (fun x hx => hd x (by simp [hx]))⟩
  | [], _ :: _, _, h, _ => h.elim
  | _ :: _, [], _, h, _ => h.elim
theorem PartsIs.lt {A : AW} : ∀ {es : List MapEntry} {m : List (Key × Part)} {fs : List Nat}, PartsIs A es m fs → ∀ x ∈ fs, x < A.next
  | [], [], _, h => by
    unfold PartsIs at h
    subst h
    intro x hx; simp at hx
  | e :: es, (kk, p) :: m, fs, ⟨v, F, fs', h1, h2, h3, h4, h5⟩ => by
    subst h1
    intro x hx
    rcases List.mem_append.1 hx with hx | hx
    · exact h4.lt x hx
    · exact PartsIs.lt h5 x hx
  | [], _ :: _, _, h => h.elim
  | _ :: _, [], _, h => h.elim
theorem PartsIs.length {A : AW} : ∀ {es : List MapEntry} {m : List (Key × Part)} {fs : List Nat}, PartsIs A es m fs → es.length = m.length
  | [], [], _, _ => rfl
  | e :: es, (kk, p) :: m, fs, ⟨v, F, fs', h1, h2, h3, h4, h5⟩ => by simp [PartsIs.length h5]
  | [], _ :: _, _, h => h.elim
  | _ :: _, [], _, h => h.elim
theorem PartsIs.append {A : AW} : ∀ {es es2 : List MapEntry} {m m2 : List (Key × Part)} {fs fs2 : List Nat}, PartsIs A es m fs → PartsIs A es2 m2 fs2 → PartsIs A (es ++ es2) (m ++ m2) (fs ++ fs2)
  | [], es2, [], m2, fs, fs2, h, h2 => by
    unfold PartsIs at h
    subst h
    exact h2
  | e :: es, es2, (kk, p) :: m, m2, fs, fs2, ⟨v, F, fs', h1, h2, h3, h4, h5⟩, g => ⟨v, F, fs' ++ fs2, by rw [h1, List.append_assoc], h2, h3, h4, PartsIs.append h5 g⟩
  | [], _, _ :: _, _, _, _, h, _ => h.elim
  | _ :: _, _, [], _, _, _, h, _ => h.elim
theorem PartsIs.one {A : AW} {e : MapEntry} {k : Key} {p : Part} {v : Value} {F : List Nat} (h1 : e.key = keyVal k) (h2 : e.val = .agg ⟨partCells v p⟩) (h3 : OwnG A 28 2 v p.segs.length (segCells p.segs) F) : PartsIs A [e] [(k, p)] F :=
  ⟨v, F, [], by simp, h1, h2, h3, rfl⟩

theorem find_none {A : AW} {k : Key} : ∀ {es : List MapEntry} {m : List (Key × Part)} {fs : List Nat} {i : Nat}, PartsIs A es m fs → findP m k = none → findA Try.prog 62 (keyVal k) es i = some none
  | [], [], _, _, _, _ => rfl
  | e :: es, (kk, p) :: m, fs, i, ⟨v, F, fs', h1, h2, h3, h4, h5⟩, hn => by
    unfold findP at hn
    split at hn
    · cases hn
    · rename_i hk
      unfold findA
      have : eqA Try.prog 62 (keyVal k) e.key = some false := by
        rw [h2, show k = (k.1, k.2) from rfl, show kk = (kk.1, kk.2) from rfl, eq62]
        cases ha : k.1 == kk.1
        · rfl
        · cases hb : k.2 == kk.2
          · rfl
          · exact absurd (Prod.ext (beq_iff_eq.1 ha).symm (beq_iff_eq.1 hb).symm) hk
      rw [this]
      exact find_none h5 hn
  | [], _ :: _, _, _, h, _ => h.elim
  | _ :: _, [], _, _, h, _ => h.elim
theorem find_some {A : AW} {k : Key} : ∀ {es : List MapEntry} {m : List (Key × Part)} {fs : List Nat} {i : Nat} {p : Part}, PartsIs A es m fs → findP m k = some p → ∃ es1 e es2 m1 m2 fs1 F fs2 v, es = es1 ++ e :: es2 ∧ m = m1 ++ (k, p) :: m2 ∧ fs = fs1 ++ (F ++ fs2) ∧
    findA Try.prog 62 (keyVal k) es i = some (some (i + es1.length)) ∧ e.key = keyVal k ∧ e.val = .agg ⟨partCells v p⟩ ∧ OwnG A 28 2 v p.segs.length (segCells p.segs) F ∧ PartsIs A es1 m1 fs1 ∧ PartsIs A es2 m2 fs2 ∧ (∀ q, putP m k q = m1 ++ (k, q) :: m2) ∧ delP m k = m1 ++ m2
  | [], [], _, _, _, _, h => by cases h
  | e :: es, (kk, p') :: m, fs, i, p, ⟨v, F, fs', h1, h2, h3, h4, h5⟩, hn => by
    unfold findP at hn
    split at hn
    · rename_i hk
      cases hn
      subst hk
      refine ⟨[], e, es, [], m, [], F, fs', v, rfl, rfl, h1, ?_, h2, h3, h4, rfl, h5, fun q => by simp [putP], by simp [delP]⟩
      unfold findA
      have : eqA Try.prog 62 (keyVal kk) e.key = some true := by
        rw [h2, show kk = (kk.1, kk.2) from rfl, eq62]
        simp
      rw [this]
      rfl
    · rename_i hk
      have : eqA Try.prog 62 (keyVal k) e.key = some false := by
        rw [h2, show k = (k.1, k.2) from rfl, show kk = (kk.1, kk.2) from rfl, eq62]
        cases ha : k.1 == kk.1
        · rfl
        · cases hb : k.2 == kk.2
          · rfl
          · exact absurd (Prod.ext (beq_iff_eq.1 ha).symm (beq_iff_eq.1 hb).symm) hk
      obtain ⟨es1, e', es2, m1, m2, fs1, F', fs2, v', g1, g2, g3, g4, g5, g6, g7, g8, g9, g10, g11⟩ := find_some (i := i + 1) h5 hn
      refine ⟨e :: es1, e', es2, (kk, p') :: m1, m2, F ++ fs1, F', fs2, v', by rw [g1]; rfl, by rw [g2]; rfl, by rw [h1, g3, List.append_assoc], ?_, g5, g6, g7, ⟨v, F, fs1, rfl, h2, h3, h4, g8⟩, g9, fun q => by simp [putP, hk, g10], by simp [delP, hk, g11]⟩
      unfold findA
      rw [this, g4]
      simp
      omega
  | [], _ :: _, _, _, _, h, _ => h.elim
  | _ :: _, [], _, _, _, h, _ => h.elim

theorem setVal_mid (k v : Value) : ∀ (es1 : List MapEntry) (e : MapEntry) (es2 : List MapEntry), setVal (es1 ++ e :: es2) es1.length k v = es1 ++ { e with key := k, val := v } :: es2
  | [], e, es2 => rfl
  | x :: r, e, es2 => by simp [setVal, setVal_mid k v r]
theorem eraseIdx_mid : ∀ (es1 : List MapEntry) (e : MapEntry) (es2 : List MapEntry), (es1 ++ e :: es2).eraseIdx es1.length = es1 ++ es2
  | [], e, es2 => rfl
  | x :: r, e, es2 => by simp [eraseIdx_mid r]
end Go.Proofs.Yteiiledpfhopdaa

namespace Go.Proofs.Yteiiledpfhopdaa
open Go Go.Abs

theorem pn39 (a : Addr) : binA Try.prog .eql 39 (.tmp 11) (.const (.pointer none)) (.pointer (some a)) (.pointer none) = some (.bool false) := by kernel_rfl
theorem pn39b (a : Addr) : binA Try.prog .eql 39 (.tmp 3) (.const (.pointer none)) (.pointer (some a)) (.pointer none) = some (.bool false) := by kernel_rfl
theorem mn56 (r : Nat) : binA Try.prog .eql 56 (.tmp 17) (.const (.map none)) (.map (some r)) (.map none) = some (.bool false) := by kernel_rfl
theorem nilP_ptr (a : Addr) : nilP (.pointer (some a)) = some (.pointer (some a)) := rfl
theorem ln_56 (A : AW) (r : Nat) : lenA Try.prog A 56 (.map (some r)) = (match A.get r with | some (.map es _ _) => some (.int .i64 (.ofNat es.length)) | _ => none) := by kernel_rfl

structure GI where
  m : List (Key × Part)
  dead : Bool
/-- a gatherer in memory; the families that it lies in -/
def IsG (A : AW) (g : Nat) (G : GI) (FP : List Nat) : Prop :=
  ∃ mo es c fs, FP = g :: mo :: fs ∧ FP.Nodup ∧ Row1 A g [.map (some mo), .bool G.dead] 58 ∧ Map1 A mo es c ∧ PartsIs A es G.m fs
theorem IsG.keeps {A A' : AW} {g : Nat} {G : GI} {FP S : List Nat} (h : IsG A g G FP) (k : Keeps A A' S) (hd : ∀ x ∈ FP, x ∉ S) : IsG A' g G FP := by
  obtain ⟨mo, es, c, fs, rfl, hn, h1, h2, h3⟩ := h
  exact ⟨mo, es, c, fs, rfl, hn, h1.keeps k (hd g (by simp)), h2.keeps k (hd mo (by simp)), h3.keeps k (fun x hx => hd x (by simp [hx]))⟩
theorem IsG.lt {A : AW} {g : Nat} {G : GI} {FP : List Nat} (h : IsG A g G FP) : ∀ x ∈ FP, x < A.next := by
  obtain ⟨mo, es, c, fs, rfl, hn, h1, h2, h3⟩ := h
  intro x hx
  rcases List.mem_cons.1 hx with rfl | hx
  · exact h1.lt
  · rcases List.mem_cons.1 hx with rfl | hx
    · exact h2.lt
    · exact h3.lt x hx

section
variable {W0 : World} {m0 : Inj Try.prog}
/-- New -/
theorem wc14 {A : AW} {K : Value → AW → Prop} (hf : Fine A) (hA : A.next + 2 ≤ maxId) (hk : ∀ A', IsG A' (A.next + 1) ⟨[], false⟩ [A.next + 1, A.next] → Keeps A A' [] → A'.next = A.next + 2 → Fine A' → K (.pointer (some ⟨A.next + 1, 0, none⟩)) A') : Wc Try.prog theX W0 m0 14 [] A K := by
  refine w14 _ (cuts_none (S := fun _ _ _ => False) fun _ _ _ h => h) ?_
  rw [e14]
  refine newMap hf (by omega) fun A1 g1 g2 g3 g4 => ?_
  simp only [bd58, pureW_some]
  refine newP_made g4 (by omega) rfl fun A2 m2 => ?_
  have k2 := m2.keeps g4
  have h1 := m2.row1
  rw [g3] at h1
  rw [g3]
  refine hk A2 ⟨A.next, [], 0, [], rfl, by simp, h1, g1.keeps k2 (by simp), rfl⟩ (g2.trans k2 (by simp)) (by rw [m2.next, g3]) m2.fine

/-- Open -/
theorem wc18 {A : AW} {K : Value → AW → Prop} {g : Nat} {G : GI} {FP : List Nat} (h : IsG A g G FP) (hk : K (.int .i64 (G.m.length : Nat)) A) : Wc Try.prog theX W0 m0 18 [.pointer (some ⟨g, 0, none⟩)] A K := by
  obtain ⟨mo, es, c, fs, rfl, hn, h1, h2, h3⟩ := h
  refine w18 _ _ (cuts_none (S := fun _ _ _ => False) fun _ _ _ h => h) ?_
  rw [e18]
  simp only [pn39b, pureW_some, forkW_bool, nilP_ptr, fa_58_0, ld_56, cell_row h1.row, cellOf, isT_map, cond_false, ln_56, h2.row, Bool.false_eq_true, false_implies, true_and, h3.length]
  exact fun _ => hk

/-- kill -/
theorem wc21 {A : AW} {K : Value → AW → Prop} {g : Nat} {G : GI} {FP : List Nat} {e : Value} (h : IsG A g G FP) (hf : Fine A) (hA : A.next + 1 ≤ maxId)
    (hk : ∀ A' FP', IsG A' g ⟨[], true⟩ FP' → (∀ x ∈ FP', x ∈ FP) → Keeps A A' FP → A'.next = A.next + 1 → Fine A' → K (.tuple ⟨[asmVal 0 0 (.slice none 0 0), .bool false, e]⟩) A') : Wc Try.prog theX W0 m0 21 [.pointer (some ⟨g, 0, none⟩), e] A K := by
  obtain ⟨mo, es, c, fs, rfl, hn, h1, h2, h3⟩ := h
  have hgm : g ≠ mo := by intro e; subst e; simp at hn
  have glt := h1.lt
  have mlt := h2.lt
  refine w21 _ _ _ (cuts_none (S := fun _ _ _ => False) fun _ _ _ h => h) ?_
  rw [e21]
  refine allocP_made zt25 hf (by omega) rfl fun A1 m1 => ?_
  have k1 := m1.keeps hf
  have r1 := m1.row1
  have n1 := m1.next
  have g1 := h1.keeps k1 (by simp)
  have o1 := h2.keeps k1 (by simp)
  simp only [nilP_ptr, pureW_some, fa_58_1, fa_58_0, Nat.zero_add]
  refine g1.store m1.fine (by omega) (st_4 _ _ _) rfl (by simp) rfl fun A2 g2 k2 n2 f2 => ?_
  have g2 : Row1 A2 g [.map (some mo), .bool true] 58 := g2
  have o2 := o1.keeps k2 (by simpa using fun e => hgm e.symm)
  have r2 := r1.keeps k2 (by simp; omega)
  simp only [ld_56, cell_row g2.row, cellOf, isT_map, cond_false, pureW_some]
  have hc : clearA Try.prog A2 56 (.map (some mo)) = (match A2.get mo with | some (.map _ clock false) => some (A2.put mo (.map [] clock false)) | _ => none) := by kernel_rfl
  simp only [hc, o2.row, effW_some, bd25, pureW_some]
  obtain ⟨o3, k3, n3, f3⟩ := o2.put (es' := []) (c' := c) f2 (by omega)
  have r3 := r2.keeps k3 (by simp; omega)
  have g3 := g2.keeps k3 (by simp [hgm])
  refine r3.store f3 (by omega) (st_25 _ _ _) rfl (by simp [Value.cells]) rfl fun A4 r4 k4 n4 f4 => ?_
  have g4 := g3.keeps k4 (by simp; omega)
  have o4 := o3.keeps k4 (by simp; omega)
  have r4 : Row1 A4 A.next (asmCells 0 0 (.slice none 0 0)) 25 := r4
  simp only [ld_25, cells_row r4.row, asmCells, List.drop_zero, takeCells, isT_int, isT_slice, cond_false, pureW_some]
  refine hk A4 [g, mo] ⟨mo, [], c, [], rfl, by simp [hgm], g4, o4, rfl⟩ (by simp) ?_ (by omega) f4
  refine (((k1.more (T := g :: mo :: fs) (by simp)).trans k2 (by simp)).trans k3 (by simp)).trans k4 ?_
  intro x hx
  right
  simp at hx; omega
end
end Go.Proofs.Yteiiledpfhopdaa

namespace Go.Proofs.Yteiiledpfhopdaa
open Go Go.Abs

def fitsI (p : Part) (is : Bool) (f : Fr) : Bool :=
  if 1 < f.tr then false else
  if is then
    (if p.goes then !f.beg && (f.ty == p.fr.ty && (f.first == p.fr.first && f.last == p.fr.last)) else f.beg && (!f.first && decide (p.fr.ty < f.ty)))
  else f.first && (f.beg && (f.ty == f.tr && (f.last || f.tr == 1)))

theorem bin_booleq (n m : Nat) (a b : Bool) : binA Try.prog .eql 4 (.tmp n) (.tmp m) (.bool a) (.bool b) = some (.bool (a == b)) := by cases a <;> cases b <;> kernel_rfl

section
variable {W0 : World} {m0 : Inj Try.prog}
/-- fits -/
theorem wc22 {A : AW} {K : Value → AW → Prop} {v : Value} {p : Part} {is : Bool} {f : Fr} (hf : Fine A) (hA : A.next + 2 ≤ maxId) (hv : oneCell v = true)
    (hk : ∀ A', Keeps A A' [] → A'.next = A.next + 2 → Fine A' → K (.bool (fitsI p is f)) A') : Wc Try.prog theX W0 m0 22 [.agg ⟨partCells v p⟩, .bool is, f.val] A K := by
  refine w22 _ _ _ _ (cuts_none (S := fun _ _ _ => False) fun _ _ _ h => h) ?_
  rw [e22]
  refine newP_made hf (by omega) (by simp only [Value.cells, partCells, Fr.cells, List.all_cons, hv]; rfl) fun A1 m1 => ?_
  have r1 : Row1 A1 A.next (partCells v p) 64 := m1.row1
  refine newP_made m1.fine (by have := m1.next; omega) rfl fun A2 m2 => ?_
  have r2 : Row1 A2 A1.next f.cells 45 := m2.row1
  have k2 := m2.keeps m1.fine
  have r1 := r1.keeps k2 (by simp)
  have hk : ∀ b, b = fitsI p is f → K (.bool b) A2 := fun b h => by
    rw [h]
    exact hk A2 ((m1.keeps hf).trans k2 (by simp)) (by rw [m2.next, m1.next]) m2.fine
  simp only [fa_45_0, fa_45_1, fa_45_2, fa_45_4, fa_45_5, fa_64_2, fa_64_3, ld_4, ld_5, cell_row r1.row, cell_row r2.row, partCells, Fr.cells, List.cons_append, List.nil_append, cellOf, isTuple, cond_false, pureW_some, bin_gtr, bin_eql, bin_booleq, un_not, forkW_dec, forkW_bool, forkW_beq, Nat.zero_add, Nat.add_zero]
  repeat' (first | apply And.intro | intro _)
  all_goals exact hk _ (by simp_all [fitsI])
end
end Go.Proofs.Yteiiledpfhopdaa

namespace Go.Proofs.Yteiiledpfhopdaa
open Go Go.Abs

/-- what Feed does behind the segment's begin -/
def restW (W0 : World) (m0 : Inj Try.prog) (Q : Value → AW → Prop) (a0 t0 t1 t35 t37 : Value) (At49 : AW) : Prop := (pureW (fieldAddrA Try.prog 64 t37 0) fun t148 => pureW (loadP Try.prog At49 23 t148) fun t149 => pureW (fieldAddrA Try.prog 64 t37 0) fun t150 => pureW (loadP Try.prog At49 23 t150) fun t151 => pureW (lenA Try.prog At49 23 t151) fun t152 => pureW (binA Try.prog .sub 3 (.tmp 90) (.const (.int .i64 1)) t152 (.int .i64 1)) fun t153 => pureW (indexAddrA Try.prog 23 t149 t153) fun t154 => pureW (fieldAddrA Try.prog 28 t154 1) fun t155 => pureW (loadP Try.prog At49 9 t155) fun t156 => pureW (fieldAddrA Try.prog 45 t0 7) fun t157 => pureW (loadP Try.prog At49 9 t157) fun t158 => pureW (binA Try.prog .add 9 (.tmp 94) (.tmp 96) t156 t158) fun t159 => pureW (indexAddrA Try.prog 23 t149 t153) fun t160 => pureW (fieldAddrA Try.prog 28 t160 1) fun t161 => effW (storeP Try.prog At49 9 t161 t159) fun At162 => pureW (fieldAddrA Try.prog 64 t37 1) fun t163 => pureW (loadP Try.prog At162 3 t163) fun t164 => pureW (fieldAddrA Try.prog 45 t0 7) fun t165 => pureW (loadP Try.prog At162 9 t165) fun t166 => pureW (lenA Try.prog At162 9 t166) fun t167 => pureW (binA Try.prog .add 3 (.tmp 101) (.tmp 104) t164 t167) fun t168 => pureW (fieldAddrA Try.prog 64 t37 1) fun t169 => effW (storeP Try.prog At162 3 t169 t168) fun At170 => pureW (fieldAddrA Try.prog 45 t0 3) fun t171 => pureW (loadP Try.prog At170 4 t171) fun t172 => pureW (unA Try.prog .not t172) fun t173 => pureW (fieldAddrA Try.prog 64 t37 3) fun t174 => effW (storeP Try.prog At170 4 t174 t173) fun At175 => pureW (fieldAddrA Try.prog 45 t0 3) fun t176 => pureW (loadP Try.prog At175 4 t176) fun t177 => forkW t177 (pureW (fieldAddrA Try.prog 45 t0 1) fun t178 => pureW (loadP Try.prog At175 4 t178) fun t179 => forkW t179 (pureW (nilP a0) fun t180 => pureW (fieldAddrA Try.prog 58 t180 0) fun t181 => pureW (loadP Try.prog At175 56 t181) fun t182 => pureW (loadP Try.prog At175 62 t35) fun t183 => effW (deleteA Try.prog At175 56 t182 t183) fun At184 => pureW (fieldAddrA Try.prog 45 t0 6) fun t185 => pureW (loadP Try.prog At184 22 t185) fun t186 => pureW (fieldAddrA Try.prog 45 t0 5) fun t187 => pureW (loadP Try.prog At184 5 t187) fun t188 => pureW (fieldAddrA Try.prog 64 t37 0) fun t189 => pureW (loadP Try.prog At184 23 t189) fun t190 => pureW (buildA Try.prog 25 [(0, t186), (1, t188), (2, t190)]) fun t191 => effW (storeP Try.prog At184 25 t1 t191) fun At192 => pureW (loadP Try.prog At192 25 t1) fun t193 => Q (.tuple ⟨[t193, (.bool true), (.int .i64 0)]⟩) At192) (pureW (nilP a0) fun t194 => pureW (fieldAddrA Try.prog 58 t194 0) fun t195 => pureW (loadP Try.prog At175 56 t195) fun t196 => pureW (loadP Try.prog At175 62 t35) fun t197 => pureW (loadP Try.prog At175 64 t37) fun t198 => effW (mapUpdateA Try.prog At175 56 t196 t197 t198) fun At199 => pureW (buildA Try.prog 25 []) fun t200 => effW (storeP Try.prog At199 25 t1 t200) fun At201 => pureW (loadP Try.prog At201 25 t1) fun t202 => Q (.tuple ⟨[t202, (.bool false), (.int .i64 0)]⟩) At201)) (pureW (nilP a0) fun t203 => pureW (fieldAddrA Try.prog 58 t203 0) fun t204 => pureW (loadP Try.prog At175 56 t204) fun t205 => pureW (loadP Try.prog At175 62 t35) fun t206 => pureW (loadP Try.prog At175 64 t37) fun t207 => effW (mapUpdateA Try.prog At175 56 t205 t206 t207) fun At208 => pureW (buildA Try.prog 25 []) fun t209 => effW (storeP Try.prog At208 25 t1 t209) fun At210 => pureW (loadP Try.prog At210 25 t1) fun t211 => Q (.tuple ⟨[t211, (.bool false), (.int .i64 0)]⟩) At210))

def catB (x y : ByteArray) : ByteArray := ⟨⟨x.data.toList ++ y.data.toList⟩⟩
theorem slen_cat (x y : ByteArray) : slen (catB x y) = slen x + slen y := by simp [slen, catB]
theorem bin_cat {P : Program} {t : TypeId} {xo yo : Operand} {x y : ByteArray} (h : slen x + slen y < 1099511627776) : binA P .add t xo yo (.string x) (.string y) = some (.string (catB x y)) := by
  show (bif Nat.blt (x.data.toList ++ y.data.toList).length 1099511627776 then some (.string ⟨⟨x.data.toList ++ y.data.toList⟩⟩) else none : Option Value) = _
  rw [blt_true.2 (by rw [List.length_append]; exact h)]
  rfl
theorem addA_eq (b o k : Nat) : addA ⟨b, o, none⟩ k = ⟨b, o + k, none⟩ := by
  unfold addA
  cases hb : Nat.beq k 0 with
  | true => rw [cond_true, Nat.eq_of_beq_eq_true hb, Nat.add_zero]
  | false => rfl
theorem setL_length_append : ∀ (new a b : List Value) (o : Nat), setL (a ++ b) (a.length + o) new = a ++ setL b o new
  | [], a, b, o => rfl
  | v :: r, a, b, o => by
    rw [setL, setL, List.set_append_right _ _ (by omega), Nat.add_sub_cancel_left, Nat.add_assoc, setL_length_append r a _ (o + 1)]
theorem segCells_set (l : List Seg) (x : Seg) (s : ByteArray) : setL (segCells (l ++ [x])) (l.length * 2 + 1) [.string s] = segCells (l ++ [⟨x.ty, s⟩]) := by
  rw [segCells_append, segCells_append, ← segCells_length, setL_length_append]
  rfl

def keyOf (f : Fr) : Key := (f.ch, f.tr)
/-- the entries, but for one key's -/
def Hole (A : AW) (es : List MapEntry) (m : List (Key × Part)) (k : Key) (fs : List Nat) : Prop :=
  (findA Try.prog 62 (keyVal k) es 0 = some none ∧ (∀ q, putP m k q = m ++ [(k, q)]) ∧ delP m k = m ∧ PartsIs A es m fs) ∨
  ∃ es1 e es2 m1 m2 fs1 fs2, es = es1 ++ e :: es2 ∧ fs = fs1 ++ fs2 ∧ findA Try.prog 62 (keyVal k) es 0 = some (some es1.length) ∧ e.key = keyVal k ∧ PartsIs A es1 m1 fs1 ∧ PartsIs A es2 m2 fs2 ∧ (∀ q, putP m k q = m1 ++ (k, q) :: m2) ∧ delP m k = m1 ++ m2
theorem Hole.keeps {A A' : AW} {es : List MapEntry} {m : List (Key × Part)} {k : Key} {fs S : List Nat} (h : Hole A es m k fs) (kk : Keeps A A' S) (hd : ∀ x ∈ fs, x ∉ S) : Hole A' es m k fs := by
  rcases h with ⟨h1, h2, h3, h4⟩ | ⟨es1, e, es2, m1, m2, fs1, fs2, h1, h2, h3, h4, h5, h6, h7, h8⟩
  · exact .inl ⟨h1, h2, h3, h4.keeps kk hd⟩
  · subst h2
    exact .inr ⟨es1, e, es2, m1, m2, fs1, fs2, h1, rfl, h3, h4, h5.keeps kk (fun x hx => hd x (by simp [hx])), h6.keeps kk (fun x hx => hd x (by simp [hx])), h7, h8⟩
theorem sb62 (k : Key) : (closedV 4 (keyVal k) && Instr.sameBits 10000 (keyVal k) (keyVal k)) = true := by
  have h : (closedV 4 (keyVal k)) = true := by kernel_rfl
  rw [h, Bool.true_and]
  simp [Instr.sameBits, keyVal]
theorem Hole.delete {A : AW} {es : List MapEntry} {m : List (Key × Part)} {k : Key} {fs : List Nat} {mo c : Nat} (h : Hole A es m k fs) (hm : Map1 A mo es c) :
    ∃ es', deleteA Try.prog A 56 (.map (some mo)) (keyVal k) = some (A.put mo (.map es' c false)) ∧ PartsIs A es' (delP m k) fs := by
  unfold deleteA
  simp only [mt56, hm.row, kq62, cond_true]
  rcases h with ⟨h1, h2, h3, h4⟩ | ⟨es1, e, es2, m1, m2, fs1, fs2, h1, h2, h3, h4, h5, h6, h7, h8⟩
  · exact ⟨es, by rw [h1], by rw [h3]; exact h4⟩
  · subst h1
    refine ⟨es1 ++ es2, by rw [h3]; simp only [eraseIdx_mid], ?_⟩
    rw [h8, h2]
    exact h5.append h6
theorem Hole.update {A : AW} {es : List MapEntry} {m : List (Key × Part)} {k : Key} {fs F : List Nat} {mo c : Nat} {v : Value} {q : Part} (h : Hole A es m k fs) (hm : Map1 A mo es c) (hq : OwnG A 28 2 v q.segs.length (segCells q.segs) F) :
    ∃ es' c' fs', mapUpdateA Try.prog A 56 (.map (some mo)) (keyVal k) (.agg ⟨partCells v q⟩) = some (A.put mo (.map es' c' false)) ∧ PartsIs A es' (putP m k q) fs' ∧ fs'.Perm (F ++ fs) := by
  unfold mapUpdateA
  simp only [mt56, hm.row, kq62, cond_true]
  rcases h with ⟨h1, h2, h3, h4⟩ | ⟨es1, e, es2, m1, m2, fs1, fs2, h1, h2, h3, h4, h5, h6, h7, h8⟩
  · refine ⟨_, _, fs ++ F, by rw [h1], ?_, List.perm_append_comm⟩
    rw [h2]
    exact h4.append (PartsIs.one rfl rfl hq)
  · subst h1
    have hg : (es1 ++ e :: es2)[es1.length]? = some e := by simp
    refine ⟨es1 ++ { e with key := keyVal k, val := .agg ⟨partCells v q⟩ } :: es2, c, fs1 ++ (F ++ fs2), by simp only [h3, hg, h4, sb62, cond_true, setVal_mid], ?_, ?_⟩
    · rw [h7]
      refine h5.append (PartsIs.append (es := [_]) (m := [_]) (PartsIs.one rfl rfl hq) h6)
    · subst h2
      rw [← List.append_assoc, ← List.append_assoc]
      exact List.Perm.append_right fs2 List.perm_append_comm
end Go.Proofs.Yteiiledpfhopdaa

namespace Go.Proofs.Yteiiledpfhopdaa
open Go Go.Abs

section
variable {W0 : World} {m0 : Inj Try.prog}
theorem feed_rest {A : AW} {K : Value → AW → Prop} {g mo c n0 n1 n35 n37 : Nat} {es : List MapEntry} {m : List (Key × Part)} {f : Fr} {v : Value} {p : Part} {F fs : List Nat} {init : List Seg} {x : Seg}
    (hf : Fine A) (hmax : A.next ≤ maxId) (hg : Row1 A g [.map (some mo), .bool false] 58) (hm : Map1 A mo es c) (hh : Hole A es m (keyOf f) fs)
    (h0 : Row1 A n0 f.cells 45) (h1 : Row1 A n1 (asmCells 0 0 (.slice none 0 0)) 25) (h35 : Row1 A n35 [.int .i64 f.ch, .int .i64 f.tr] 62) (h37 : Row1 A n37 (partCells v p) 64)
    (hv : OwnG A 28 2 v p.segs.length (segCells p.segs) F) (hs : p.segs = init ++ [x])
    (hx : slen x.pay + slen f.pay < 1099511627776) (hn : init.length < 1000000) (hz0 : 0 ≤ p.size) (hz1 : p.size + slen f.pay < 1000000000000)
    (hnd : (g :: mo :: n0 :: n1 :: n35 :: n37 :: (F ++ fs)).Nodup) {q : Part} (hq : q = ⟨init ++ [⟨x.ty, catB x.pay f.pay⟩], p.size + slen f.pay, p.fr, !f.fin⟩)
    (hk1 : f.fin = true → f.last = true → ∀ A', Keeps A A' (mo :: n1 :: n37 :: F) → A'.next = A.next → Fine A' → IsG A' g ⟨delP m (keyOf f), false⟩ (g :: mo :: fs) → OwnG A' 28 2 v q.segs.length (segCells q.segs) F →
      K (.tuple ⟨[asmVal f.ch f.tr v, .bool true, .int .i64 0]⟩) A')
    (hk2 : ¬ (f.fin = true ∧ f.last = true) → ∀ A' FP, Keeps A A' (mo :: n1 :: n37 :: F) → A'.next = A.next → Fine A' → IsG A' g ⟨putP m (keyOf f) q, false⟩ FP → (∀ y ∈ FP, y ∈ g :: mo :: (F ++ fs)) →
      K (.tuple ⟨[asmVal 0 0 (.slice none 0 0), .bool false, .int .i64 0]⟩) A') :
    restW W0 m0 K (.pointer (some ⟨g, 0, none⟩)) (.pointer (some ⟨n0, 0, none⟩)) (.pointer (some ⟨n1, 0, none⟩)) (.pointer (some ⟨n35, 0, none⟩)) (.pointer (some ⟨n37, 0, none⟩)) A := by
  have hnd' := hnd
  simp only [List.nodup_cons, List.mem_cons, List.mem_append, not_or] at hnd'
  obtain ⟨⟨gmo, g0, g1, g35, g37, gF, gfs⟩, ⟨mo0, mo1, mo35, mo37, moF, mofs⟩, ⟨a01, a035, a037, a0F, a0fs⟩, ⟨a135, a137, a1F, a1fs⟩, ⟨a3537, a35F, a35fs⟩, ⟨a37F, a37fs⟩, hFfs⟩ := hnd'
  have hdis : ∀ y ∈ fs, y ∉ F := fun y hy hyF => (List.nodup_append.1 hFfs).2.2 y hyF y hy rfl
  have hl : p.segs.length = init.length + 1 := by rw [hs]; simp
  obtain ⟨b, rfl⟩ : ∃ b, v = .slice (some ⟨b, 0, none⟩) p.segs.length (capU + p.segs.length) := by
    rcases hv with ⟨_, h2, _⟩ | ⟨b, _, h2, _⟩
    · omega
    · exact ⟨b, h2⟩
  have hcl : (segCells p.segs).length = p.segs.length * 2 := segCells_length _
  have hgx : p.segs[init.length]? = some x := by rw [hs]; simp
  obtain ⟨_, c2⟩ := segCells_get hgx
  have hrow : ∃ ff, A.get b = some (.row (segCells p.segs) 28 ff 0 false) := by
    rcases hv with ⟨h2, _⟩ | ⟨b', ff, h2, h3, _⟩
    · cases h2
    · simp only [Value.slice.injEq, Option.some.injEq, Addr.mk.injEq, and_true] at h2
      subst h2
      exact ⟨ff, h3.row⟩
  obtain ⟨ff, hrow⟩ := hrow
  have hidx : indexAddrA Try.prog 23 (.slice (some ⟨b, 0, none⟩) p.segs.length (capU + p.segs.length)) (.int .i64 (init.length : Nat)) = some (.pointer (some ⟨b, init.length * 2, none⟩)) := by
    show indexAddrA Try.prog 23 _ (.int .i64 (.ofNat init.length)) = _
    rw [ia_23, blt_true.2 (by omega), cond_true, addA_eq, Nat.zero_add]
  have hw : IntKind.i64.wrap ((p.segs.length : Int) - 1) = (init.length : Nat) := by
    rw [wrap_i64 (by omega) (by omega)]; omega
  unfold restW
  simp only [fa_64_0, fa_28_1, fa_45_7, ld_23, ld_9, cell_row h37.row, cell_row h0.row, partCells, Fr.cells, List.cons_append, List.nil_append, cellOf, isTuple, cond_false, pureW_some, ln_23, bin_sub, hw, hidx, cell_row hrow, cellOf_get c2 isT_string, bin_cat hx, Nat.zero_add]
  refine storeG hv hf hmax (st_9 _ _ _) rfl (by rw [hcl]; omega) rfl fun A1 v1 k1 n1e f1 => ?_
  have v1 : OwnG A1 28 2 (.slice (some ⟨b, 0, none⟩) p.segs.length (capU + p.segs.length)) p.segs.length (segCells (init ++ [⟨x.ty, catB x.pay f.pay⟩])) F := by
    have := v1
    rw [hs] at this ⊢
    rw [← segCells_set]
    exact this
  have r0 := h0.keeps k1 a0F
  have r37 := h37.keeps k1 a37F
  have lf : ∀ y ∈ F, y < A.next := hv.lt
  have l0 := h0.lt
  have l1 := h1.lt
  have l37 := h37.lt
  have hsz : IntKind.i64.wrap (p.size + (slen f.pay : Nat)) = p.size + (slen f.pay : Nat) := wrap_i64 (by omega) (by omega)
  simp only [fa_64_1, fa_45_7, ld_3, ld_9, cell_row r37.row, cell_row r0.row, partCells, Fr.cells, List.cons_append, List.nil_append, cellOf, isTuple, cond_false, pureW_some, ln_9, bin_add, Nat.zero_add]
  refine r37.store f1 (by omega) (st_3 _ _ _) rfl (by simp [partCells, Fr.cells]) rfl fun A2 r37 k2 n2e f2 => ?_
  have r37 : Row1 A2 n37 (partCells (.slice (some ⟨b, 0, none⟩) p.segs.length (capU + p.segs.length)) ⟨p.segs, p.size + (slen f.pay : Nat), p.fr, p.goes⟩) 64 := by
    have := r37
    change Row1 A2 n37 (_ :: (.int .i64 (IntKind.i64.wrap (p.size + (slen f.pay : Nat)))) :: _) 64 at this
    rw [hsz] at this
    exact this
  have r0 := r0.keeps k2 (by simpa using a037)
  have v2 := v1.keeps k2 (fun y hy => by simp only [List.mem_singleton]; exact fun e => a37F (e ▸ hy))
  simp only [fa_45_3, fa_64_3, ld_4, cell_row r0.row, Fr.cells, cellOf, isTuple, cond_false, pureW_some, un_not, Nat.zero_add]
  refine r37.store f2 (by omega) (st_4 _ _ _) rfl (by simp [partCells, Fr.cells]) rfl fun A3 r37 k3 n3e f3 => ?_
  have r37 : Row1 A3 n37 (partCells (.slice (some ⟨b, 0, none⟩) p.segs.length (capU + p.segs.length)) q) 64 := by rw [hq]; exact r37
  have r0 := r0.keeps k3 (by simpa using a037)
  have v3 := v2.keeps k3 (fun y hy => by simp only [List.mem_singleton]; exact fun e => a37F (e ▸ hy))
  have hql : q.segs.length = p.segs.length := by rw [hq, hs]; simp
  have v3 : OwnG A3 28 2 (.slice (some ⟨b, 0, none⟩) p.segs.length (capU + p.segs.length)) q.segs.length (segCells q.segs) F := by rw [hql, hq]; exact v3
  have kk : Keeps A A3 (n37 :: F) := (((k1.more (T := n37 :: F) (fun y hy => .inl (by simp [hy]))).trans k2 (by simp)).trans k3 (by simp))
  have r1 := h1.keeps kk (by simp only [List.mem_cons, not_or]; exact ⟨a137, a1F⟩)
  have r35 := h35.keeps kk (by simp only [List.mem_cons, not_or]; exact ⟨a3537, a35F⟩)
  have rg := hg.keeps kk (by simp only [List.mem_cons, not_or]; exact ⟨g37, gF⟩)
  have rm := hm.keeps kk (by simp only [List.mem_cons, not_or]; exact ⟨mo37, moF⟩)
  have rh := hh.keeps kk (fun y hy => by
    simp only [List.mem_cons, not_or]
    exact ⟨fun e => a37fs (e ▸ hy), hdis y hy⟩)
  have hkey : loadP Try.prog A3 62 (.pointer (some ⟨n35, 0, none⟩)) = some (keyVal (keyOf f)) := by
    rw [ld_62, cells_row r35.row]; rfl
  -- the update
  have upd : ¬ (f.fin = true ∧ f.last = true) → effW (mapUpdateA Try.prog A3 56 (.map (some mo)) (keyVal (keyOf f)) (.agg ⟨partCells (.slice (some ⟨b, 0, none⟩) p.segs.length (capU + p.segs.length)) q⟩)) fun At135 => pureW (buildA Try.prog 25 []) fun t136 => effW (storeP Try.prog At135 25 (.pointer (some ⟨n1, 0, none⟩)) t136) fun At137 => pureW (loadP Try.prog At137 25 (.pointer (some ⟨n1, 0, none⟩))) fun t138 => K (.tuple ⟨[t138, (.bool false), (.int .i64 0)]⟩) At137 := by
    intro hnot
    obtain ⟨es', c', fs', e1, e2, e3⟩ := rh.update rm v3
    obtain ⟨m4, k4, n4e, f4⟩ := rm.put (es' := es') (c' := c') f3 (by omega)
    rw [e1, effW_some]
    simp only [bd25, pureW_some]
    have r1 := r1.keeps k4 (by simpa using fun e => mo1 e.symm)
    refine r1.store f4 (by omega) (st_25 _ _ _) rfl (by simp [Value.cells, asmCells]) rfl fun A5 r1 k5 n5e f5 => ?_
    have r1 : Row1 A5 n1 (asmCells 0 0 (.slice none 0 0)) 25 := r1
    simp only [ld_25, cells_row r1.row, asmCells, List.drop_zero, takeCells, isT_int, isT_slice, cond_false, pureW_some]
    have hp : ∀ y, y ∈ fs' ↔ y ∈ F ++ fs := fun y => e3.mem_iff
    have hk45 : Keeps A3 A5 [mo, n1] := (k4.more (T := [mo, n1]) (by simp)).trans k5 (by simp)
    refine hk2 hnot A5 (g :: mo :: fs') ?_ (by omega) f5 ⟨mo, es', c', fs', rfl, ?_, rg.keeps hk45 (by simp [gmo, g1]), m4.keeps k5 (by simpa using mo1), e2.keeps hk45 ?_⟩ ?_
    · exact ((kk.more (T := mo :: n1 :: n37 :: F) (fun y hy => .inl (by simp only [List.mem_cons] at hy ⊢; rcases hy with rfl | hy <;> simp_all))).trans hk45 (by simp))
    · simp only [List.nodup_cons, List.mem_cons, not_or, hp, List.mem_append]
      exact ⟨⟨gmo, gF, gfs⟩, ⟨moF, mofs⟩, e3.nodup_iff.2 hFfs⟩
    · intro y hy
      rw [hp, List.mem_append] at hy
      simp only [List.mem_cons, not_or, List.not_mem_nil, not_false_eq_true, and_true]
      rcases hy with hy | hy
      · exact ⟨fun e => moF (e ▸ hy), fun e => a1F (e ▸ hy)⟩
      · exact ⟨fun e => mofs (e ▸ hy), fun e => a1fs (e ▸ hy)⟩
    · intro y hy
      simp only [List.mem_cons, hp] at hy ⊢
      exact hy
  have hload : loadP Try.prog A3 64 (.pointer (some ⟨n37, 0, none⟩)) = some (.agg ⟨partCells (.slice (some ⟨b, 0, none⟩) p.segs.length (capU + p.segs.length)) q⟩) := by
    rw [ld_64, cells_row r37.row]; rfl
  have hmap : loadP Try.prog A3 56 (.pointer (some ⟨g, 0, none⟩)) = some (.map (some mo)) := by
    rw [ld_56, cell_row rg.row]; rfl
  simp only [fa_45_3, fa_45_1, fa_58_0, ld_4, cell_row r0.row, Fr.cells, cellOf, isTuple, cond_false, pureW_some, forkW_bool, nilP_ptr, hmap, hkey, hload, Nat.zero_add]
  refine ⟨fun hfin => ⟨fun hlast => ?_, fun hlast => upd (by simp [hlast])⟩, fun hfin => upd (by simp [hfin])⟩
  obtain ⟨es', e1, e2⟩ := rh.delete rm
  obtain ⟨m4, k4, n4e, f4⟩ := rm.put (es' := es') (c' := c) f3 (by omega)
  rw [e1, effW_some]
  have r0 := r0.keeps k4 (by simpa using fun e => mo0 e.symm)
  have r37 := r37.keeps k4 (by simpa using fun e => mo37 e.symm)
  have r1 := r1.keeps k4 (by simpa using fun e => mo1 e.symm)
  simp only [fa_45_6, fa_45_5, fa_64_0, ld_22, ld_5, ld_23, cell_row r0.row, cell_row r37.row, partCells, Fr.cells, cellOf, isTuple, cond_false, pureW_some, Nat.zero_add, bd25b]
  refine r1.store f4 (by omega) (st_25 _ _ _) rfl (by simp [Value.cells, asmCells]) rfl fun A5 r1 k5 n5e f5 => ?_
  have r1 : Row1 A5 n1 (asmCells f.ch f.tr (.slice (some ⟨b, 0, none⟩) p.segs.length (capU + p.segs.length))) 25 := r1
  simp only [ld_25, cells_row r1.row, asmCells, List.drop_zero, takeCells, isT_int, isT_slice, cond_false, pureW_some]
  have hk45 : Keeps A3 A5 [mo, n1] := (k4.more (T := [mo, n1]) (by simp)).trans k5 (by simp)
  refine hk1 hfin hlast A5 ?_ (by omega) f5 ⟨mo, es', c, fs, rfl, ?_, rg.keeps hk45 (by simp [gmo, g1]), m4.keeps k5 (by simpa using mo1), e2.keeps hk45 ?_⟩ (v3.keeps hk45 ?_)
  · exact ((kk.more (T := mo :: n1 :: n37 :: F) (fun y hy => .inl (by simp only [List.mem_cons] at hy ⊢; rcases hy with rfl | hy <;> simp_all))).trans hk45 (by simp))
  · simp only [List.nodup_cons, List.mem_cons, not_or]
    exact ⟨⟨gmo, gfs⟩, mofs, (List.nodup_append.1 hFfs).2.1⟩
  · intro y hy
    simp only [List.mem_cons, not_or, List.not_mem_nil, not_false_eq_true, and_true]
    exact ⟨fun e => mofs (e ▸ hy), fun e => a1fs (e ▸ hy)⟩
  · intro y hy
    simp only [List.mem_cons, not_or, List.not_mem_nil, not_false_eq_true, and_true]
    exact ⟨fun e => moF (e ▸ hy), fun e => a1F (e ▸ hy)⟩
end
end Go.Proofs.Yteiiledpfhopdaa

namespace Go.Proofs.Yteiiledpfhopdaa
open Go Go.Abs

structure Res where
  ch : Int
  tr : Int
  segs : List Seg
  is : Bool
  e : Int
def rNo (e : Int) : Res := ⟨0, 0, [], false, e⟩
def addLast : List Seg → ByteArray → List Seg
  | [], _ => []
  | [x], s => [⟨x.ty, catB x.pay s⟩]
  | x :: y :: r, s => x :: addLast (y :: r) s
theorem addLast_append : ∀ (l : List Seg) (x : Seg) (s : ByteArray), addLast (l ++ [x]) s = l ++ [⟨x.ty, catB x.pay s⟩]
  | [], x, s => rfl
  | [a], x, s => rfl
  | a :: b :: r, x, s => by
    show a :: addLast (b :: r ++ [x]) s = _
    rw [addLast_append (b :: r) x s]
    rfl
def begP (p : Part) (f : Fr) : Part := if f.beg then ⟨p.segs ++ [⟨f.ty, ByteArray.empty⟩], p.size, f, p.goes⟩ else p
def stepP (p : Part) (f : Fr) : Part := ⟨addLast (begP p f).segs f.pay, (begP p f).size + (slen f.pay : Nat), (begP p f).fr, !f.fin⟩
/-- what Feed answers, and leaves -/
def feedI (G : GI) (f : Fr) : GI × Res :=
  if G.dead then (G, rNo 9) else
  if !f.ok then (⟨[], true⟩, rNo 60) else
  if !fitsI ((findP G.m (keyOf f)).getD part0) (findP G.m (keyOf f)).isSome f then (⟨[], true⟩, rNo 70) else
  if 16384 - ((findP G.m (keyOf f)).getD part0).size < (slen f.pay : Nat) then (⟨[], true⟩, rNo 3) else
  if f.fin && f.last then (⟨delP G.m (keyOf f), false⟩, ⟨f.ch, f.tr, (stepP ((findP G.m (keyOf f)).getD part0) f).segs, true, 0⟩) else
  (⟨putP G.m (keyOf f) (stepP ((findP G.m (keyOf f)).getD part0) f), false⟩, rNo 0)
/-- what holds of all that is open -/
def Part.good (N : Nat) (p : Part) : Prop := 0 < p.segs.length ∧ p.segs.length ≤ N ∧ p.size = (total p.segs : Nat) ∧ p.size ≤ 16384
def GI.good (N : Nat) (G : GI) : Prop := ∀ k p, findP G.m k = some p → p.good N
/-- a frame's numbers are what its types allow -/
def Fr.wf (f : Fr) : Prop := 0 ≤ f.ty ∧ f.ty < 256 ∧ 0 ≤ f.tr ∧ f.tr < 256 ∧ 0 ≤ f.ch ∧ f.ch < 65536

/-- what a Feed told, in memory -/
def ResIs (A : AW) (v : Value) (r : Res) (F : List Nat) : Prop := ∃ sv, v = .tuple ⟨[asmVal r.ch r.tr sv, .bool r.is, .int .i64 r.e]⟩ ∧ OwnG A 28 2 sv r.segs.length (segCells r.segs) F

section
variable {W0 : World} {m0 : Inj Try.prog}
theorem src23 (A : AW) (b : Nat) : sourceZ Try.prog A 28 23 (1 + 1) (.slice (some ⟨b, 0, none⟩) 1 1) = (match A.cells? ⟨b, 0, none⟩ 2 with | some l => some (0 + 1, l) | none => none) := by kernel_rfl
theorem sl23 : sliceElemT Try.prog 23 = some 28 := by kernel_rfl
theorem sz28 : szT Try.prog 28 = some (1 + 1) := by kernel_rfl
theorem by28 : bytesT Try.prog 28 = some 24 := by kernel_rfl
theorem hz28 : hasZero Try.prog 28 (1 + 1) = true := by kernel_rfl
theorem bslice23 {A : AW} {ty : Int} {s : ByteArray} {K : Value → AW → Prop} (hf : Fine A) (h : A.next < maxId) (hk : ∀ A', Made A A' [.int .u8 ty, .string s] 28 → K (.slice (some ⟨A.next, 0, none⟩) 1 1) A') : bothW (buildSliceA Try.prog A 23 1 [(0, .agg ⟨[.int .u8 ty, .string s]⟩)]) K := by
  rw [bs23]
  unfold AW.newRow AW.new
  have hc : ([.int .u8 ty, .string s] : List Value).all oneCell = true := rfl
  simp only [hc, cond_true, blt_true.2 h]
  exact bothW_ok.2 (hk (A.push (.row [.int .u8 ty, .string s] 28 A.next 0 false)) ⟨AW.push_ext _ h, rfl, by rw [AW.push_get _ h, if_pos rfl], hf.alone (Nat.le_refl _), hf.push _ h⟩)

theorem IsG.lookup {A : AW} {g : Nat} {G : GI} {FP : List Nat} (h : IsG A g G FP) (k : Key) : ∃ mo es c fs F v, (∀ x ∈ FP, x ∈ g :: mo :: (F ++ fs)) ∧ (g :: mo :: (F ++ fs)).Nodup ∧ (∀ x ∈ g :: mo :: (F ++ fs), x ∈ FP) ∧ Row1 A g [.map (some mo), .bool G.dead] 58 ∧ Map1 A mo es c ∧ Hole A es G.m k fs ∧
    lookupA Try.prog A 56 (.map (some mo)) (keyVal k) true = some (.tuple ⟨[.agg ⟨partCells v ((findP G.m k).getD part0)⟩, .bool (findP G.m k).isSome]⟩) ∧ OwnG A 28 2 v ((findP G.m k).getD part0).segs.length (segCells ((findP G.m k).getD part0).segs) F := by
  obtain ⟨mo, es, c, fs, rfl, hn, h1, h2, h3⟩ := h
  have hlk : ∀ r, lookupA Try.prog A 56 (.map (some mo)) (keyVal k) true = r ↔ (match findA Try.prog 62 (keyVal k) es 0 with
        | none => none
        | some (some i) => (match es[i]? with
          | some e => some (Value.tuple #[e.val, .bool true])
          | none => none)
        | some none => some (Value.tuple #[.agg ⟨partCells (.slice none 0 0) part0⟩, .bool false])) = r := by
    intro r
    unfold lookupA
    simp only [mt56, mapRef, h2.row, kq62, cond_true, zt64]
    rfl
  cases hfp : findP G.m k with
  | none =>
    obtain ⟨q1, q2⟩ := findP_none hfp
    have hfa := find_none (i := 0) h3 hfp
    refine ⟨mo, es, c, fs, [], .slice none 0 0, by simp, hn, by simp, h1, h2, .inl ⟨hfa, q1, q2, h3⟩, ?_, OwnG.nil _ _ _⟩
    rw [hlk, hfa]
    rfl
  | some p =>
    obtain ⟨es1, e, es2, m1, m2, fs1, F, fs2, v, g1, g2, g3, g4, g5, g6, g7, g8, g9, g10, g11⟩ := find_some (i := 0) h3 hfp
    rw [Nat.zero_add] at g4
    have hperm : (F ++ (fs1 ++ fs2)).Perm fs := by
      rw [g3, ← List.append_assoc, ← List.append_assoc]
      exact List.Perm.append_right fs2 List.perm_append_comm
    refine ⟨mo, es, c, fs1 ++ fs2, F, v, fun x hx => ?_, ?_, fun x hx => ?_, h1, h2, .inr ⟨es1, e, es2, m1, m2, fs1, fs2, g1, rfl, g4, g5, g8, g9, g10, g11⟩, ?_, g7⟩
    · simp only [List.mem_cons] at hx ⊢
      rcases hx with h | h | h
      · exact .inl h
      · exact .inr (.inl h)
      · exact .inr (.inr (hperm.mem_iff.2 h))
    · exact (((hperm.cons mo).cons g).nodup_iff).2 hn
    · simp only [List.mem_cons] at hx ⊢
      rcases hx with h | h | h
      · exact .inl h
      · exact .inr (.inl h)
      · exact .inr (.inr (hperm.mem_iff.1 h))
    · rw [hlk, g4, g1]
      simp [g6]
end
end Go.Proofs.Yteiiledpfhopdaa

namespace Go.Proofs.Yteiiledpfhopdaa
open Go Go.Abs

set_option maxRecDepth 20000 in
theorem e15r (W0 : World) (m0 : Inj Try.prog) (S : Nat → List Value → AW → Prop) (Q : Value → AW → Prop) (a0 a1 : Value) (A : AW) : wpgo Try.prog theX W0 m0 15 T15 L15 S Q 4000 (Tm.fill ⟨136, .nil⟩ 0 [a0, a1]) [.code (cd 15 [])] false 0 0 0 A = (bothW (newP A (Value.cells a1).toList 45) fun t0 At0 => bothW (allocP Try.prog At0 25) fun t1 At1 => pureW (binA Try.prog .eql 39 (.tmp 11) (.const (.pointer none)) a0 (.pointer none)) fun t2 => forkW t2 (pureW (buildA Try.prog 25 []) fun t3 => effW (storeP Try.prog At1 25 t1 t3) fun At4 => pureW (loadP Try.prog At4 25 t1) fun t5 => Q (.tuple ⟨[t5, (.bool false), (.int .i64 1)]⟩) At4) (pureW (nilP a0) fun t6 => pureW (fieldAddrA Try.prog 58 t6 0) fun t7 => pureW (loadP Try.prog At1 56 t7) fun t8 => pureW (binA Try.prog .eql 56 (.tmp 17) (.const (.map none)) t8 (.map none)) fun t9 => forkW t9 (pureW (buildA Try.prog 25 []) fun t10 => effW (storeP Try.prog At1 25 t1 t10) fun At11 => pureW (loadP Try.prog At11 25 t1) fun t12 => Q (.tuple ⟨[t12, (.bool false), (.int .i64 1)]⟩) At11) (pureW (nilP a0) fun t13 => pureW (fieldAddrA Try.prog 58 t13 1) fun t14 => pureW (loadP Try.prog At1 4 t14) fun t15 => forkW t15 (pureW (buildA Try.prog 25 []) fun t16 => effW (storeP Try.prog At1 25 t1 t16) fun At17 => pureW (loadP Try.prog At17 25 t1) fun t18 => Q (.tuple ⟨[t18, (.bool false), (.int .i64 9)]⟩) At17) (pureW (loadP Try.prog At1 45 t0) fun t19 => Wc Try.prog theX W0 m0 20 [t19] At1 fun t20 At20 => pureW (binA Try.prog .neq 30 (.tmp 28) (.const (.int .i64 0)) t20 (.int .i64 0)) fun t21 => forkW t21 (Wc Try.prog theX W0 m0 21 [a0, t20] At20 fun t22 At22 => pureW (extractP t22 0) fun t23 => pureW (extractP t22 1) fun t24 => pureW (extractP t22 2) fun t25 => effW (storeP Try.prog At22 25 t1 t23) fun At26 => pureW (loadP Try.prog At26 25 t1) fun t27 => Q (.tuple ⟨[t27, t24, t25]⟩) At26) (pureW (fieldAddrA Try.prog 45 t0 6) fun t28 => pureW (loadP Try.prog At20 22 t28) fun t29 => bothW (convertA Try.prog At20 22 3 t29) fun t30 At30 => pureW (fieldAddrA Try.prog 45 t0 5) fun t31 => pureW (loadP Try.prog At30 5 t31) fun t32 => bothW (convertA Try.prog At30 5 3 t32) fun t33 At33 => pureW (buildA Try.prog 62 [(0, t30), (1, t33)]) fun t34 => bothW (allocP Try.prog At33 62) fun t35 At35 => effW (storeP Try.prog At35 62 t35 t34) fun At36 => bothW (allocP Try.prog At36 64) fun t37 At37 => freshW (freshOf Try.prog (fun _ => undef) (.alloc 64)) At37 t37 (pureW (nilP a0) fun t38 => pureW (fieldAddrA Try.prog 58 t38 0) fun t39 => pureW (loadP Try.prog At37 56 t39) fun t40 => pureW (loadP Try.prog At37 62 t35) fun t41 => pureW (lookupA Try.prog At37 56 t40 t41 true) fun t42 => pureW (extractP t42 0) fun t43 => pureW (extractP t42 1) fun t44 => effW (storeP Try.prog At37 64 t37 t43) fun At45 => pureW (extractP t42 1) fun t46 => eqW t46 t44 (pureW (loadP Try.prog At45 64 t37) fun t47 => pureW (loadP Try.prog At45 45 t0) fun t48 => Wc Try.prog theX W0 m0 22 [t47, t44, t48] At45 fun t49 At49 => pureW (unA Try.prog .not t49) fun t50 => forkW t50 (Wc Try.prog theX W0 m0 21 [a0, (.int .i64 70)] At49 fun t51 At51 => pureW (extractP t51 0) fun t52 => pureW (extractP t51 1) fun t53 => pureW (extractP t51 2) fun t54 => effW (storeP Try.prog At51 25 t1 t52) fun At55 => pureW (loadP Try.prog At55 25 t1) fun t56 => Q (.tuple ⟨[t56, t53, t54]⟩) At55) (pureW (fieldAddrA Try.prog 45 t0 7) fun t57 => pureW (loadP Try.prog At49 9 t57) fun t58 => pureW (lenA Try.prog At49 9 t58) fun t59 => pureW (fieldAddrA Try.prog 64 t37 1) fun t60 => pureW (loadP Try.prog At49 3 t60) fun t61 => pureW (binA Try.prog .sub 3 (.const (.int .i64 16384)) (.tmp 66) (.int .i64 16384) t61) fun t62 => pureW (binA Try.prog .gtr 3 (.tmp 64) (.tmp 67) t59 t62) fun t63 => forkW t63 (Wc Try.prog theX W0 m0 21 [a0, (.int .i64 3)] At49 fun t64 At64 => pureW (extractP t64 0) fun t65 => pureW (extractP t64 1) fun t66 => pureW (extractP t64 2) fun t67 => effW (storeP Try.prog At64 25 t1 t65) fun At68 => pureW (loadP Try.prog At68 25 t1) fun t69 => Q (.tuple ⟨[t69, t66, t67]⟩) At68) (pureW (fieldAddrA Try.prog 45 t0 2) fun t70 => pureW (loadP Try.prog At49 4 t70) fun t71 => forkW t71 (pureW (fieldAddrA Try.prog 64 t37 0) fun t72 => pureW (loadP Try.prog At49 23 t72) fun t73 => pureW (fieldAddrA Try.prog 45 t0 4) fun t74 => pureW (loadP Try.prog At49 5 t74) fun t75 => pureW (buildA Try.prog 28 [(0, t75)]) fun t76 => bothW (buildSliceA Try.prog At49 23 1 [(0, t76)]) fun t77 At77 => bothW (appendA Try.prog At77 23 23 t73 t77) fun t78 At78 => pureW (fieldAddrA Try.prog 64 t37 0) fun t79 => effW (storeP Try.prog At78 23 t79 t78) fun At80 => pureW (loadP Try.prog At80 45 t0) fun t81 => pureW (fieldAddrA Try.prog 64 t37 2) fun t82 => effW (storeP Try.prog At80 45 t82 t81) fun At83 => restW W0 m0 Q a0 t0 t1 t35 t37 At83) (restW W0 m0 Q a0 t0 t1 t35 t37 At49)))))))))) := e15 W0 m0 S Q a0 a1 A

section
variable {W0 : World} {m0 : Inj Try.prog}
theorem wc20m {f : Fr} {A : AW} {K : Value → AW → Prop} (hf : Fine A) (hA : A.next < maxId) (hk : ∀ A', Keeps A A' [] → A'.next = A.next + 1 → Fine A' → K (.int .i64 (if f.ok then 0 else 60)) A') : Wc Try.prog theX W0 m0 20 [f.val] A K := by
  refine w20 _ _ (cuts_none (S := fun _ _ _ => False) fun _ _ _ h => h) ?_
  rw [e20]
  refine newP_made hf hA rfl fun A' m => ?_
  have hg : A'.get A.next = some (.row f.cells 45 A.next 0 false) := m.row
  have hr := hk A' (m.keeps hf) m.next m.fine
  simp only [fa_45_4, fa_45_5, fa_45_7, ld_5, ld_9, ln_9, cell_row hg, Fr.cells, cellOf, isTuple, cond_false, pureW_some, bin_gtr, forkW_dec, Nat.zero_add]
  refine ⟨fun h => ?_, fun h => ⟨fun h2 => ?_, fun h2 => ⟨fun h3 => ?_, fun h3 => ?_⟩⟩⟩
  · rw [if_neg (by simp [Fr.ok, h])] at hr; exact hr
  · rw [if_neg (by simp [Fr.ok, h2])] at hr; exact hr
  · rw [if_neg (by simp only [Fr.ok, slen, h3, decide_true]; simp)] at hr; exact hr
  · rw [if_pos (by simp only [Fr.ok, slen, h, h2, h3, decide_false]; simp)] at hr; exact hr
theorem wc24m {f : Fr} {A : AW} {K : Value → AW → Prop} (hf : Fine A) (hA : A.next < maxId) (hk : ∀ A', Keeps A A' [] → A'.next = A.next + 1 → Fine A' → K (.int .i64 (if f.ok then 0 else 60)) A') : Wc Try.prog theX W0 m0 24 [f.val] A K := by
  refine w24 _ _ (cuts_none (S := fun _ _ _ => False) fun _ _ _ h => h) ?_
  rw [e24]
  refine newP_made hf hA rfl fun A' m => ?_
  have hg : A'.get A.next = some (.row f.cells 45 A.next 0 false) := m.row
  have hr := hk A' (m.keeps hf) m.next m.fine
  simp only [fa_45_4, fa_45_5, fa_45_7, ld_5, ld_9, ln_9, cell_row hg, Fr.cells, cellOf, isTuple, cond_false, pureW_some, bin_gtr, forkW_dec, Nat.zero_add]
  refine ⟨fun h => ?_, fun h => ⟨fun h2 => ?_, fun h2 => ⟨fun h3 => ?_, fun h3 => ?_⟩⟩⟩
  · rw [if_neg (by simp [Fr.ok, h])] at hr; exact hr
  · rw [if_neg (by simp [Fr.ok, h2])] at hr; exact hr
  · rw [if_neg (by simp only [Fr.ok, slen, h3, decide_true]; simp)] at hr; exact hr
  · rw [if_pos (by simp only [Fr.ok, slen, h, h2, h3, decide_false]; simp)] at hr; exact hr

theorem kill_rest {A : AW} {K : Value → AW → Prop} {g n1 : Nat} {G : GI} {FP : List Nat} {e : Int} (h : IsG A g G FP) (h1 : Row1 A n1 (asmCells 0 0 (.slice none 0 0)) 25) (hn : n1 ∉ FP) (hf : Fine A) (hA : A.next + 1 ≤ maxId)
    (hk : ∀ A' FP', IsG A' g ⟨[], true⟩ FP' → (∀ x ∈ FP', x ∈ FP) → Keeps A A' (n1 :: FP) → A'.next = A.next + 1 → Fine A' → K (.tuple ⟨[asmVal 0 0 (.slice none 0 0), .bool false, .int .i64 e]⟩) A') :
    Wc Try.prog theX W0 m0 21 [.pointer (some ⟨g, 0, none⟩), .int .i64 e] A fun t22 At22 => pureW (extractP t22 0) fun t23 => pureW (extractP t22 1) fun t24 => pureW (extractP t22 2) fun t25 => effW (storeP Try.prog At22 25 (.pointer (some ⟨n1, 0, none⟩)) t23) fun At26 => pureW (loadP Try.prog At26 25 (.pointer (some ⟨n1, 0, none⟩))) fun t27 => K (.tuple ⟨[t27, t24, t25]⟩) At26 := by
  have l1 := h1.lt
  refine wc21 h hf hA fun A1 FP1 i1 s1 k1 n1e f1 => ?_
  have r1 := h1.keeps k1 hn
  simp only [extractP, List.getElem?_cons_zero, List.getElem?_cons_succ, pureW_some]
  refine r1.store f1 (by omega) (st_25 _ _ _) rfl (by simp [asmCells, asmVal, Value.cells]) rfl fun A2 r2 k2 n2e f2 => ?_
  have r2 : Row1 A2 n1 (asmCells 0 0 (.slice none 0 0)) 25 := r2
  simp only [ld_25, cells_row r2.row, asmCells, List.drop_zero, takeCells, isT_int, isT_slice, cond_false, pureW_some]
  exact hk A2 FP1 (i1.keeps k2 (fun x hx => by simp only [List.mem_singleton]; exact fun e => hn (e ▸ s1 x hx))) s1 ((k1.more (T := n1 :: FP) (fun x hx => .inl (by simp [hx]))).trans k2 (by simp)) (by omega) f2

theorem sub_more {n1 lo : Nat} {FP : List Nat} (h : lo ≤ n1) : ∀ x ∈ n1 :: FP, x ∈ FP ∨ lo ≤ x := by
  intro x hx
  rcases List.mem_cons.1 hx with rfl | hx
  · exact .inr h
  · exact .inl hx
theorem cv_ch {f : Fr} (h : f.wf) : IntKind.i64.wrap f.ch = f.ch := by
  obtain ⟨_, _, _, _, h5, h6⟩ := h
  exact wrap_i64 (by omega) (by omega)
theorem cv_tr {f : Fr} (h : f.wf) : IntKind.i64.wrap f.tr = f.tr := by
  obtain ⟨_, _, h3, h4, _, _⟩ := h
  exact wrap_i64 (by omega) (by omega)
theorem freshW_64 {A : AW} {b : Nat} {p : Prop} (h : A.get b = some (.row (partCells (.slice none 0 0) part0) 64 b 0 false)) (hp : p) : freshW (freshOf Try.prog (fun _ => undef) (.alloc 64)) A (.pointer (some ⟨b, 0, none⟩)) p := by
  rw [fz64]
  refine ⟨⟨_, rfl, ?_⟩, hp⟩
  simp only [stillFresh, rowHas, h, Option.isNone_none, Bool.true_and, Nat.beq_refl]
  kernel_rfl

theorem OwnG.slice {A : AW} {e : TypeId} {size : Nat} {v : Value} {n : Nat} {cs : List Value} {F : List Nat} (h : OwnG A e size v n cs F) : ∃ a n' c, v = .slice a n' c := by
  rcases h with ⟨rfl, _⟩ | ⟨b, f, rfl, _⟩
  · exact ⟨_, _, _, rfl⟩
  · exact ⟨_, _, _, rfl⟩
theorem nd6 {g mo n0 n1 n35 n37 B : Nat} {F fs F' : List Nat} (h : (g :: mo :: (F ++ fs)).Nodup) (hlt : ∀ x ∈ g :: mo :: (F ++ fs), x < n0) (h01 : n0 < n1) (h13 : n1 < n35) (h37 : n35 < n37) (hB : n37 < B)
    (hF' : ∀ x ∈ F', x ∈ F ∨ x = B) (hn : F'.Nodup) : (g :: mo :: n0 :: n1 :: n35 :: n37 :: (F' ++ fs)).Nodup := by
  simp only [List.nodup_cons, List.mem_cons, List.mem_append, not_or, List.nodup_append] at h
  obtain ⟨⟨hgm, hgF, hgf⟩, ⟨hmF, hmf⟩, hFn, hfn, hFf⟩ := h
  have lg := hlt g (by simp)
  have lm := hlt mo (by simp)
  have lF : ∀ x ∈ F, x < n0 := fun x hx => hlt x (by simp [hx])
  have lf : ∀ x ∈ fs, x < n0 := fun x hx => hlt x (by simp [hx])
  have big : ∀ n, n0 ≤ n → n < B → n ∉ F' ∧ n ∉ fs := fun n h1 h2 => ⟨fun hm => by
    rcases hF' n hm with h3 | h3
    · have := lF n h3; omega
    · omega, fun hm => by have := lf n hm; omega⟩
  have small : ∀ n, n ∉ F → n < n0 → n ∉ F' := fun n h1 h2 hm => by
    rcases hF' n hm with h3 | h3
    · exact h1 h3
    · omega
  simp only [List.nodup_cons, List.mem_cons, List.mem_append, not_or, List.nodup_append]
  refine ⟨⟨hgm, by omega, by omega, by omega, by omega, small g hgF lg, hgf⟩, ⟨by omega, by omega, by omega, by omega, small mo hmF lm, hmf⟩, ⟨by omega, by omega, by omega, big n0 (by omega) (by omega)⟩, ⟨by omega, by omega, big n1 (by omega) (by omega)⟩, ⟨by omega, big n35 (by omega) (by omega)⟩, big n37 (by omega) (by omega), hn, hfn, fun a ha b hb e => ?_⟩
  subst e
  rcases hF' a ha with h3 | h3
  · exact hFf a h3 a hb rfl
  · have := lf a hb; omega
/-- Feed -/
theorem wc15 {A : AW} {K : Value → AW → Prop} {g N : Nat} {G : GI} {FP : List Nat} {f : Fr} (h : IsG A g G FP) (hf : Fine A) (hA : A.next + 20 ≤ maxId) (hgood : G.good N) (hN : N < 1000000) (hw : f.wf) (hp : slen f.pay < 1000000000)
    (hk : ∀ A' FP' Fv v, IsG A' g (feedI G f).1 FP' → ResIs A' v (feedI G f).2 Fv → (∀ x ∈ FP', x ∈ FP ∨ A.next ≤ x) → (∀ x ∈ Fv, x ∈ FP ∨ A.next ≤ x) → (∀ x ∈ Fv, x ∉ FP') → Keeps A A' FP → A'.next ≤ A.next + 20 → Fine A' → K v A') :
    Wc Try.prog theX W0 m0 15 [.pointer (some ⟨g, 0, none⟩), f.val] A K := by
  have hlt := h.lt
  refine w15 _ _ _ (cuts_none (S := fun _ _ _ => False) fun _ _ _ h => h) ?_
  rw [e15r]
  refine newP_made hf (by omega) rfl fun A1 m1 => ?_
  have n1e := m1.next
  refine allocP_made zt25 m1.fine (by omega) rfl fun A2 m2 => ?_
  have n2e := m2.next
  have k12 : Keeps A A2 [] := (m1.keeps hf).trans (m2.keeps m1.fine) (by simp)
  have r0 : Row1 A2 A.next f.cells 45 := m1.row1.keeps (m2.keeps m1.fine) (by simp)
  have r1 : Row1 A2 A1.next (asmCells 0 0 (.slice none 0 0)) 25 := m2.row1
  have i2 := h.keeps k12 (by simp)
  have hn1 : A1.next ∉ FP := fun hm => by have := hlt _ hm; omega
  obtain ⟨mo, es, c, fs, F, v, s1, hnd, s2, rg, rm, rh, hlk, hv⟩ := i2.lookup (keyOf f)
  simp only [pn39, pureW_some, forkW_bool, nilP_ptr, fa_58_0, fa_58_1, ld_56, ld_4, cell_row rg.row, cellOf, isT_map, isT_bool, cond_false, mn56, Bool.false_eq_true, false_implies, true_and, Nat.zero_add, bd25]
  refine fun _ => fun _ => ⟨fun hd => ?_, fun hd => ?_⟩
  · refine r1.store m2.fine (by omega) (st_25 _ _ _) rfl (by simp [asmCells, Value.cells]) rfl fun A3 r3 k3 n3e f3 => ?_
    have r3 : Row1 A3 A1.next (asmCells 0 0 (.slice none 0 0)) 25 := r3
    simp only [ld_25, cells_row r3.row, asmCells, List.drop_zero, takeCells, isT_int, isT_slice, cond_false, pureW_some]
    have e : feedI G f = (G, rNo 9) := by simp [feedI, hd]
    rw [e] at hk
    refine hk A3 FP [] _ (i2.keeps k3 (fun x hx => by simp only [List.mem_singleton]; exact fun e => hn1 (e ▸ hx))) ⟨.slice none 0 0, rfl, OwnG.nil _ _ _⟩ (fun x hx => .inl hx) (by simp) (by simp) ?_ (by omega) f3
    exact (k12.more (T := FP) (by simp)).trans k3 (by simp; omega)
  have hl0 : loadP Try.prog A2 45 (.pointer (some ⟨A.next, 0, none⟩)) = some f.val := by
    rw [ld_45, cells_row r0.row]; rfl
  rw [hl0, pureW_some]
  refine wc20m m2.fine (by omega) fun A3 k3 n3e f3 => ?_
  have k13 : Keeps A A3 [] := k12.trans k3 (by simp)
  have r0 := r0.keeps k3 (by simp)
  have r1 := r1.keeps k3 (by simp)
  have i3 := i2.keeps k3 (by simp)
  simp only [bin_neq, pureW_some, forkW_bne]
  refine ⟨fun hne => ?_, fun heq => ?_⟩
  · have hok : f.ok = false := by
      cases h2 : f.ok
      · rfl
      · simp [h2] at hne
    have e : feedI G f = (⟨[], true⟩, rNo 60) := by simp [feedI, hd, hok]
    rw [e] at hk
    simp only [hok]
    refine kill_rest i3 r1 hn1 f3 (by omega) fun A4 FP4 i4 s4 k4 n4e f4 => ?_
    exact hk A4 FP4 [] _ i4 ⟨.slice none 0 0, rfl, OwnG.nil _ _ _⟩ (fun x hx => .inl (s4 x hx)) (by simp) (by simp) ((k13.more (T := FP) (by simp)).trans k4 (sub_more (by omega))) (by omega) f4
  have hok : f.ok = true := by
    cases h2 : f.ok
    · simp [h2] at heq
    · rfl
  simp only [fa_45_6, fa_45_5, ld_22, ld_5, cell_row r0.row, Fr.cells, cellOf, isTuple, cond_false, pureW_some, cv_22_3, cv_5_3, bothW_ok, cv_ch hw, cv_tr hw, bd62, Nat.zero_add]
  refine allocP_made zt62 f3 (by omega) rfl fun A4 m4 => ?_
  have n4e := m4.next
  refine m4.row1.store m4.fine (by omega) (st_62 _ _ _) rfl (by simp [Value.cells]) rfl fun A5 r35 k5 n5e f5 => ?_
  have r35 : Row1 A5 A3.next [.int .i64 f.ch, .int .i64 f.tr] 62 := r35
  refine allocP_made zt64 f5 (by omega) rfl fun A6 m6 => ?_
  have n6e := m6.next
  have k6 := m6.keeps f5
  have r37 : Row1 A6 A5.next (partCells (.slice none 0 0) part0) 64 := m6.row1
  refine freshW_64 r37.row ?_
  have k36 : Keeps A3 A6 [] := ((m4.keeps f3).trans (k5.more (T := [A3.next]) (by simp)) (by simp)).trans k6 (by simp)
  have k16 : Keeps A A6 [] := k13.trans k36 (by simp)
  have k26 : Keeps A2 A6 [] := k3.trans k36 (by simp)
  have r0 := r0.keeps k36 (by simp)
  have r1 := r1.keeps k36 (by simp)
  have r35 := r35.keeps k6 (by simp)
  have i6 := i3.keeps k36 (by simp)
  clear rg rm rh hlk hv hnd s1 s2
  obtain ⟨mo, es, c, fs, F, v, s1, hnd, s2, rg, rm, rh, hlk, hv⟩ := i6.lookup (keyOf f)
  have hkey : loadP Try.prog A6 62 (.pointer (some ⟨A3.next, 0, none⟩)) = some (keyVal (keyOf f)) := by
    rw [ld_62, cells_row r35.row]; rfl
  simp only [nilP_ptr, pureW_some, fa_58_0, ld_56, cell_row rg.row, cellOf, isT_map, cond_false, hkey, hlk, extractP, List.getElem?_cons_zero, List.getElem?_cons_succ]
  generalize hpp : (findP G.m (keyOf f)).getD part0 = p at *
  refine r37.store m6.fine (by omega) (st_64 _ _ _) rfl (by simp [partCells, Fr.cells]) (by simp only [Value.cells, partCells, Fr.cells, hv.one.1, List.all_cons]; rfl) fun A7 r37 k7 n7e f7 => ?_
  have r37 : Row1 A7 A5.next (partCells v p) 64 := r37
  have k17 : Keeps A A7 [] := k16.trans k7 (by simp; omega)
  have k67 : ∀ y ∈ FP, y ∉ [A5.next] := fun y hy => by
    simp only [List.mem_singleton]
    have := hlt y hy
    omega
  have r0 := r0.keeps k7 (by simp; omega)
  have r1 := r1.keeps k7 (by simp; omega)
  have r35 := r35.keeps k7 (by simp; omega)
  have i7 := i6.keeps k7 k67
  have rg := rg.keeps k7 (k67 g (s2 g (by simp)))
  have rm := rm.keeps k7 (k67 mo (s2 mo (by simp)))
  have rh := rh.keeps k7 (fun y hy => k67 y (s2 y (by simp [hy])))
  have hv := hv.keeps k7 (fun y hy => k67 y (s2 y (by simp [hy])))
  have hl0 : loadP Try.prog A7 45 (.pointer (some ⟨A.next, 0, none⟩)) = some f.val := by
    rw [ld_45, cells_row r0.row]; rfl
  have hl37 : loadP Try.prog A7 64 (.pointer (some ⟨A5.next, 0, none⟩)) = some (.agg ⟨partCells v p⟩) := by
    rw [ld_64, cells_row r37.row]
    simp only [partCells, Fr.cells, List.cons_append, List.nil_append, List.drop_zero, takeCells, hv.one.2, isT_int, isT_bool, isT_string, cond_false]
  simp only [hl0, hl37, pureW_some, eqW_self]
  refine wc22 f7 (by omega) hv.one.1 fun A8 k8 n8e f8 => ?_
  have k18 : Keeps A A8 [] := k17.trans k8 (by simp)
  have r0 := r0.keeps k8 (by simp)
  have r1 := r1.keeps k8 (by simp)
  have r35 := r35.keeps k8 (by simp)
  have r37 := r37.keeps k8 (by simp)
  have i8 := i7.keeps k8 (by simp)
  have rg := rg.keeps k8 (by simp)
  have rm := rm.keeps k8 (by simp)
  have rh := rh.keeps k8 (by simp)
  have hv := hv.keeps k8 (by simp)
  simp only [un_not, pureW_some, forkW_bool]
  refine ⟨fun hnf => ?_, fun hfit => ?_⟩
  · have e : feedI G f = (⟨[], true⟩, rNo 70) := by
      simp only [feedI, hd, hok, hpp]
      simp only [Bool.not_eq_true'] at hnf
      simp [hnf]
    rw [e] at hk
    refine kill_rest i8 r1 hn1 f8 (by omega) fun A9 FP9 i9 s9 k9 n9e f9 => ?_
    exact hk A9 FP9 [] _ i9 ⟨.slice none 0 0, rfl, OwnG.nil _ _ _⟩ (fun x hx => .inl (s9 x hx)) (by simp) (by simp) ((k18.more (T := FP) (by simp)).trans k9 (sub_more (by omega))) (by omega) f9
  have hfit : fitsI p (findP G.m (keyOf f)).isSome f = true := by simpa using hfit
  have hpg : (findP G.m (keyOf f) = none ∧ p = part0) ∨ (findP G.m (keyOf f) = some p ∧ p.good N) := by
    cases hfp : findP G.m (keyOf f) with
    | none => rw [hfp] at hpp; exact .inl ⟨rfl, hpp.symm⟩
    | some p' =>
      rw [hfp] at hpp
      have : p' = p := hpp
      subst this
      exact .inr ⟨rfl, hgood _ _ hfp⟩
  have hz0 : 0 ≤ p.size ∧ p.size ≤ 16384 := by
    rcases hpg with ⟨_, rfl⟩ | ⟨_, _, _, h3, h4⟩
    · exact ⟨by decide, by decide⟩
    · omega
  have hw2 : IntKind.i64.wrap (16384 - p.size) = 16384 - p.size := wrap_i64 (by omega) (by omega)
  simp only [fa_45_7, ld_9, cell_row r0.row, Fr.cells, cellOf, isTuple, cond_false, pureW_some, ln_9, fa_64_1, ld_3, cell_row r37.row, partCells, bin_sub, hw2, bin_gtr, forkW_dec, Nat.zero_add]
  refine ⟨fun hgt => ?_, fun hle => ?_⟩
  · have e : feedI G f = (⟨[], true⟩, rNo 3) := by
      simp only [feedI, hd, hok, hpp, hfit]
      have hgt : 16384 - p.size < (slen f.pay : Nat) := hgt
      simp [hgt]
    rw [e] at hk
    refine kill_rest i8 r1 hn1 f8 (by omega) fun A9 FP9 i9 s9 k9 n9e f9 => ?_
    exact hk A9 FP9 [] _ i9 ⟨.slice none 0 0, rfl, OwnG.nil _ _ _⟩ (fun x hx => .inl (s9 x hx)) (by simp) (by simp) ((k18.more (T := FP) (by simp)).trans k9 (sub_more (by omega))) (by omega) f9
  have hle : ¬ (16384 - p.size < (slen f.pay : Nat)) := hle
  have hlt2 : ∀ x ∈ g :: mo :: (F ++ fs), x < A.next := fun x hx => hlt x (s2 x hx)
  have lF : ∀ x ∈ F, x < A.next := fun x hx => hlt2 x (by simp [hx])
  have hFfs := hnd
  simp only [List.nodup_cons, List.mem_cons, List.mem_append, not_or] at hFfs
  obtain ⟨⟨hgm, hgF, hgf⟩, ⟨hmF, hmf⟩, hFn⟩ := hFfs
  have hdis : ∀ y ∈ fs, y ∉ F := fun y hy hyF => (List.nodup_append.1 hFn).2.2 y hyF y hy rfl
  rw [hd] at rg
  -- the end, whatever the begin
  have fin : ∀ (B : AW) (v' : Value) (F' : List Nat) (top : Nat) (init : List Seg) (x : Seg), Keeps A B FP → B.next ≤ A.next + 20 → Fine B → A5.next < top → (∀ y ∈ F', y ∈ F ∨ y = top) → Row1 B g [.map (some mo), .bool false] 58 → Map1 B mo es c → Hole B es G.m (keyOf f) fs →
      Row1 B A.next f.cells 45 → Row1 B A1.next (asmCells 0 0 (.slice none 0 0)) 25 → Row1 B A3.next [.int .i64 f.ch, .int .i64 f.tr] 62 → Row1 B A5.next (partCells v' (begP p f)) 64 → OwnG B 28 2 v' (begP p f).segs.length (segCells (begP p f).segs) F' →
      (begP p f).segs = init ++ [x] → slen x.pay ≤ 16384 → init.length < 1000000 →
      restW W0 m0 K (.pointer (some ⟨g, 0, none⟩)) (.pointer (some ⟨A.next, 0, none⟩)) (.pointer (some ⟨A1.next, 0, none⟩)) (.pointer (some ⟨A3.next, 0, none⟩)) (.pointer (some ⟨A5.next, 0, none⟩)) B := by
    intro B v' F' top init x kB nB fB htop hF' b1 b2 b3 b4 b5 b6 b7 b8 hs hx hi
    have hnd6 := nd6 (n0 := A.next) (n1 := A1.next) (n35 := A3.next) (n37 := A5.next) (B := top) hnd hlt2 (by omega) (by omega) (by omega) htop hF' b8.nodup
    have hbs : (begP p f).size = p.size := by unfold begP; split <;> rfl
    have hsub : ∀ y ∈ mo :: A1.next :: A5.next :: F', y ∈ FP ∨ A.next ≤ y := by
      intro y hy
      simp only [List.mem_cons] at hy
      rcases hy with rfl | rfl | rfl | hy
      · exact .inl (s2 _ (by simp))
      · exact .inr (by omega)
      · exact .inr (by omega)
      · rcases hF' y hy with h3 | h3
        · exact .inl (s2 y (by simp [h3]))
        · exact .inr (by omega)
    have hFs : ∀ y ∈ F', y ∈ FP ∨ A.next ≤ y := fun y hy => hsub y (by simp [hy])
    refine feed_rest (q := stepP p f) fB (by omega) b1 b2 b3 b4 b5 b6 b7 b8 hs (by omega) hi (by rw [hbs]; omega) (by rw [hbs]; omega) hnd6 (by simp only [stepP, hs, addLast_append]) ?_ ?_
    · intro hfin hlast A' k n ff ii oo
      have e : feedI G f = (⟨delP G.m (keyOf f), false⟩, ⟨f.ch, f.tr, (stepP p f).segs, true, 0⟩) := by
        simp only [feedI, hd, hok, hpp, hfit, hfin, hlast]
        simp [hle]
      rw [e] at hk
      refine hk A' (g :: mo :: fs) F' _ ii ⟨v', rfl, oo⟩ (fun y hy => .inl (s2 y ?_)) hFs (fun y hy => ?_) (kB.trans k hsub) (by omega) ff
      · simp only [List.mem_cons, List.mem_append] at hy ⊢
        rcases hy with h | h | h
        · exact .inl h
        · exact .inr (.inl h)
        · exact .inr (.inr (.inr h))
      · simp only [List.nodup_cons, List.mem_cons, List.mem_append, not_or, List.nodup_append] at hnd6
        simp only [List.mem_cons, not_or]
        obtain ⟨⟨_, _, _, _, _, q1, _⟩, ⟨_, _, _, _, q2, _⟩, _, _, _, _, _, _, q3⟩ := hnd6
        exact ⟨fun e => q1 (e ▸ hy), fun e => q2 (e ▸ hy), fun h => q3 y hy y h rfl⟩
    · intro hnot A' FP' k n ff ii hs'
      have e : feedI G f = (⟨putP G.m (keyOf f) (stepP p f), false⟩, rNo 0) := by
        simp only [feedI, hd, hok, hpp, hfit]
        have : (f.fin && f.last) = false := by
          cases h1 : f.fin <;> cases h2 : f.last <;> simp_all
        simp [hle, this]
      rw [e] at hk
      refine hk A' FP' [] _ ii ⟨.slice none 0 0, rfl, OwnG.nil _ _ _⟩ (fun y hy => ?_) (by simp) (by simp) (kB.trans k hsub) (by omega) ff
      have := hs' y hy
      simp only [List.mem_cons, List.mem_append] at this
      rcases this with h | h | h | h
      · exact .inl (s2 y (by simp [h]))
      · exact .inl (s2 y (by simp [h]))
      · exact hFs y h
      · exact .inl (s2 y (by simp [h]))
  have hlen : p.segs.length ≤ N := by
    rcases hpg with ⟨_, rfl⟩ | ⟨_, h2⟩
    · exact Nat.zero_le _
    · exact h2.2.1
  simp only [fa_45_2, ld_4, cell_row r0.row, Fr.cells, cellOf, isT_bool, cond_false, pureW_some, forkW_bool, Nat.zero_add]
  refine ⟨fun hb => ?_, fun hb => ?_⟩
  · simp only [fa_64_0, fa_45_4, ld_23, ld_5, cell_row r37.row, cell_row r0.row, partCells, Fr.cells, cellOf, hv.one.2, isT_int, cond_false, pureW_some, bd28, Nat.zero_add]
    refine bslice23 f8 (by omega) fun A9 m9 => ?_
    have n9e := m9.next
    have k9 := m9.keeps f8
    have hv9 := hv.keeps k9 (by simp)
    refine appendG (P := Try.prog) sl23 sz28 by28 hz28 (new := [.int .u8 f.ty, .string ByteArray.empty]) (m := 0) (by rw [src23, cells_row m9.row]; rfl) rfl rfl hv9 m9.fine (by omega) (by unfold room; omega) (by unfold room; omega) fun v' A10 F' hv' k10 hF' n10e f10 => ?_
    obtain ⟨a', nn, cc, rfl⟩ := OwnG.slice hv'
    have k8a : Keeps A8 A10 F := (k9.more (T := F) (by simp)).trans k10 (fun y hy => .inl hy)
    have bigF : ∀ n, A.next ≤ n → n ∉ F := fun n h1 h2 => by have := lF n h2; omega
    have r0 := r0.keeps k8a (bigF _ (by omega))
    have r1 := r1.keeps k8a (bigF _ (by omega))
    have r35 := r35.keeps k8a (bigF _ (by omega))
    have r37 := r37.keeps k8a (bigF _ (by omega))
    have rg := rg.keeps k8a hgF
    have rm := rm.keeps k8a hmF
    have rh := rh.keeps k8a hdis
    refine r37.store f10 (by omega) (st_23 _ _ _) rfl (by simp [partCells, Fr.cells]) rfl fun A11 r37 k11 n11e f11 => ?_
    have r37 : Row1 A11 A5.next (partCells (.slice a' nn cc) p) 64 := r37
    have r0' := r0.keeps k11 (by simp; omega)
    have hl0 : loadP Try.prog A11 45 (.pointer (some ⟨A.next, 0, none⟩)) = some f.val := by
      rw [ld_45, cells_row r0'.row]; rfl
    simp only [hl0, fa_64_2, pureW_some, Nat.zero_add]
    refine r37.store f11 (by omega) (st_45 _ _ _) rfl (by simp [partCells, Fr.cells]) rfl fun A12 r37 k12' n12e f12 => ?_
    have hbp : begP p f = ⟨p.segs ++ [⟨f.ty, ByteArray.empty⟩], p.size, f, p.goes⟩ := by simp [begP, hb]
    have r37 : Row1 A12 A5.next (partCells (.slice a' nn cc) (begP p f)) 64 := by rw [hbp]; exact r37
    have kz : Keeps A10 A12 [A5.next] := k11.trans k12' (by simp)
    have nz : ∀ y, y < A.next → y ∉ [A5.next] := fun y h => by simp only [List.mem_singleton]; omega
    have kA : Keeps A A12 FP := ((k18.more (T := FP) (by simp)).trans k8a (fun y hy => .inl (s2 y (by simp [hy])))).trans kz (by simp; omega)
    have hvz : OwnG A12 28 2 (.slice a' nn cc) (begP p f).segs.length (segCells (begP p f).segs) F' := by
      have := hv'.keeps kz (fun y hy => by
        rcases hF' y hy with h3 | h3
        · exact nz y (lF y h3)
        · simp only [List.mem_singleton]; omega)
      rw [hbp]
      simp only [List.length_append, List.length_cons, List.length_nil, segCells_append]
      exact this
    exact fin A12 _ F' A9.next p.segs ⟨f.ty, ByteArray.empty⟩ kA (by omega) f12 (by omega) hF' (rg.keeps kz (nz g (hlt2 g (by simp)))) (rm.keeps kz (nz mo (hlt2 mo (by simp)))) (rh.keeps kz (fun y hy => nz y (hlt2 y (by simp [hy]))))
      (r0.keeps kz (by simp; omega)) (r1.keeps kz (by simp; omega)) (r35.keeps kz (by simp; omega)) r37 hvz (by rw [hbp]) (by simp [slen]) (by omega)
  · have hbp : begP p f = p := by simp [begP, hb]
    have hsome : 0 < p.segs.length ∧ p.size = (total p.segs : Nat) := by
      rcases hpg with ⟨h1, rfl⟩ | ⟨_, h2, _, h3, _⟩
      · rw [h1] at hfit
        simp [fitsI, hb] at hfit
      · exact ⟨h2, h3⟩
    have hne : p.segs ≠ [] := fun e => by rw [e] at hsome; simp at hsome
    have hsp := (List.dropLast_concat_getLast hne).symm
    have htot : slen (p.segs.getLast hne).pay ≤ total p.segs := by
      have h1 : total p.segs = total (p.segs.dropLast ++ [p.segs.getLast hne]) := congrArg total hsp
      rw [h1, total_append]
      have h2 : total [p.segs.getLast hne] = slen (p.segs.getLast hne).pay := by simp [total]
      omega
    refine fin A8 v F A8.next p.segs.dropLast (p.segs.getLast hne) (k18.more (by simp)) (by omega) f8 (by omega) (fun y hy => .inl hy) rg rm rh r0 r1 r35 (by rw [hbp]; exact r37) (by rw [hbp]; exact hv) (by rw [hbp]; exact hsp) (by omega) (by rw [List.length_dropLast]; omega)
end
end Go.Proofs.Yteiiledpfhopdaa
