/-
  The document's gatherer, in the abstract machine: what it answers and leaves. Conditions: those of each theorem.
-/
import Derived.Test.YteiiledpfhopdaaFeedsB

namespace Go.Proofs.Yteiiledpfhopdaa
open Go Go.Abs

/-- a frame stands here -/
structure FrAt (A : AW) (r o : Nat) (f : Fr) : Prop where
  c0 : A.cell? ⟨r, o, none⟩ = some (.bool f.first)
  c1 : A.cell? ⟨r, o + 1, none⟩ = some (.bool f.last)
  c2 : A.cell? ⟨r, o + 2, none⟩ = some (.bool f.beg)
  c3 : A.cell? ⟨r, o + 3, none⟩ = some (.bool f.fin)
  c4 : A.cell? ⟨r, o + 4, none⟩ = some (.int .u8 f.ty)
  c5 : A.cell? ⟨r, o + 5, none⟩ = some (.int .u8 f.tr)
  c6 : A.cell? ⟨r, o + 6, none⟩ = some (.int .u16 f.ch)
  c7 : A.cell? ⟨r, o + 7, none⟩ = some (.string f.pay)
  ld : loadP Try.prog A 45 (.pointer (some ⟨r, o, none⟩)) = some f.val
theorem FrAt.of {A : AW} {r o : Nat} {f : Fr} {cs rest : List Value} {e fm b : Nat} {ro : Bool} (h : A.get r = some (.row cs e fm b ro)) (hd : cs.drop o = f.cells ++ rest) : FrAt A r o f := by
  have key : ∀ k v, f.cells[k]? = some v → isTuple v = false → A.cell? ⟨r, o + k, none⟩ = some v := by
    intro k v hk ht
    rw [cell_row h]
    refine cellOf_get ?_ ht
    have : (cs.drop o)[k]? = some v := by
      rw [hd, List.getElem?_append_left (List.getElem?_eq_some_iff.1 hk).1]
      exact hk
    rw [List.getElem?_drop] at this
    exact this
  exact ⟨key 0 _ rfl rfl, key 1 _ rfl rfl, key 2 _ rfl rfl, key 3 _ rfl rfl, key 4 _ rfl rfl, key 5 _ rfl rfl, key 6 _ rfl rfl, key 7 _ rfl rfl, by rw [ld_45, cells_row h, hd, takeCells_frame]; rfl⟩

/-- v is a slice of these frames, in these families -/
def RdFr (A : AW) (v : Value) (l : List Fr) (F : List Nat) : Prop :=
  (l = [] ∧ F = [] ∧ ∃ o c, v = .slice o 0 c) ∨ ∃ r o c cs e f b ro, v = .slice (some ⟨r, o, none⟩) l.length c ∧ A.get r = some (.row cs e f b ro) ∧ f < A.next ∧ F = [f] ∧ ∀ i fr, l[i]? = some fr → ∃ rest, cs.drop (o + i * 8) = fr.cells ++ rest
theorem RdFr.keeps {A A' : AW} {v : Value} {l : List Fr} {F S : List Nat} (h : RdFr A v l F) (k : Keeps A A' S) (hd : ∀ x ∈ F, x ∉ S) : RdFr A' v l F := by
  rcases h with h | ⟨r, o, c, cs, e, f, b, ro, h1, h2, h3, rfl, h4⟩
  · exact .inl h
  · exact .inr ⟨r, o, c, cs, e, f, b, ro, h1, k.get r _ h2 h3 (hd f (by simp)), Nat.lt_of_lt_of_le h3 k.next, rfl, h4⟩
theorem OwnG.rdFr {A : AW} {v : Value} {l : List Fr} {F : List Nat} (h : OwnG A 45 8 v l.length (frCells l) F) : RdFr A v l F := by
  rcases h with ⟨rfl, h2, _, rfl⟩ | ⟨b, f, rfl, h, rfl⟩
  · exact .inl ⟨List.eq_nil_of_length_eq_zero h2, rfl, none, 0, rfl⟩
  · exact .inr ⟨b, 0, _, _, _, f, 0, false, rfl, h.row, h.ltf, rfl, fun i fr hi => by rw [Nat.zero_add]; exact frCells_drop l i fr hi⟩
theorem RdFr.len {A : AW} {v : Value} {l : List Fr} {F : List Nat} (h : RdFr A v l F) : lenA Try.prog A 29 v = some (.int .i64 l.length) := by
  rcases h with ⟨rfl, _, o, c, rfl⟩ | ⟨r, o, c, cs, e, f, b, ro, rfl, _⟩
  · exact ln_29 A o 0 c
  · exact ln_29 A _ _ _
theorem RdFr.at {A : AW} {v : Value} {l : List Fr} {F : List Nat} (h : RdFr A v l F) {i : Nat} {f : Fr} (hi : l[i]? = some f) : ∃ r o, indexAddrA Try.prog 29 v (.int .i64 (i : Int)) = some (.pointer (some ⟨r, o, none⟩)) ∧ FrAt A r o f := by
  rcases h with ⟨rfl, _⟩ | ⟨r, o, c, cs, e, fm, b, ro, rfl, h2, h3, _, h4⟩
  · simp at hi
  · have hlt : i < l.length := (List.getElem?_eq_some_iff.1 hi).1
    obtain ⟨rest, hr⟩ := h4 i f hi
    refine ⟨r, o + i * 8, ?_, FrAt.of h2 hr⟩
    show indexAddrA Try.prog 29 _ (.int .i64 (.ofNat i)) = _
    rw [ia_29, blt_true.2 hlt, cond_true, addA_eq]
theorem RdFr.one {A : AW} {v : Value} {l : List Fr} {F : List Nat} (h : RdFr A v l F) : oneCell v = true ∧ isTuple v = false := by
  rcases h with ⟨rfl, _, o, c, rfl⟩ | ⟨r, o, c, cs, e, f, b, ro, rfl, _⟩ <;> exact ⟨rfl, rfl⟩

def sameKey (f x : Fr) : Bool := x.ch == f.ch && x.tr == f.tr
def opens (L : List Fr) (f : Fr) : List Fr := L.filter (sameKey f)
theorem opens_take {L : List Fr} {i : Nat} {f x : Fr} (h : L[i]? = some x) : opens (L.take (i + 1)) f = opens (L.take i) f ++ (if sameKey f x then [x] else []) := by
  unfold opens
  rw [List.take_add_one, h]
  simp [List.filter_append, List.filter_cons]

section
variable {W0 : World} {m0 : Inj Try.prog}
/-- the document's open -/
theorem wc23 {A : AW} {K : Value → AW → Prop} {q : Nat} {v dv : Value} {L : List Fr} {F : List Nat} {f : Fr} (hq : Row1 A q [v, dv] 43) (hv : RdFr A v L F) (hf : Fine A) (hA : A.next + 2 + 2 * L.length ≤ maxId) (hL : L.length < 1000000)
    (hk : ∀ A' v' F', OwnG A' 45 8 v' (opens L f).length (frCells (opens L f)) F' → (∀ x ∈ F', A.next ≤ x) → Keeps A A' [] → A'.next ≤ A.next + 1 + 2 * L.length → Fine A' → K v' A') : Wc Try.prog theX W0 m0 23 [.pointer (some ⟨q, 0, none⟩), f.val] A K := by
  let I : Nat → Nat → List Value → AW → Prop := fun g id vals A' => id = 0 ∧ ∃ (i : Nat) (v' : Value) (F' : List Nat), vals = [.pointer (some ⟨q, 0, none⟩), .pointer (some ⟨A.next, 0, none⟩), v', .int .i64 i] ∧ i ≤ L.length ∧ OwnG A' 45 8 v' (opens (L.take i) f).length (frCells (opens (L.take i) f)) F' ∧
    (∀ x ∈ F', A.next + 1 ≤ x) ∧ Keeps A A' [] ∧ A'.next ≤ A.next + 1 + 2 * i ∧ A.next + 1 ≤ A'.next ∧ Fine A' ∧ Row1 A' A.next f.cells 45 ∧ g = L.length - i
  refine w23 _ _ _ (c23 (I := I) ?_) ?_
  · rintro g id vals A' d ⟨rfl, i, v', F', rfl, hi, hv', hF', kk, hn, hn2, hf', r0, rfl⟩ hd
    rw [l23_0]
    have e0 : d 0 = .pointer (some ⟨q, 0, none⟩) := by simp [L23] at hd; exact hd.1
    have e3 : d 3 = .pointer (some ⟨A.next, 0, none⟩) := by simp [L23] at hd; exact hd.2.1
    have e5 : d 5 = v' := by simp [L23] at hd; exact hd.2.2.1
    have e6 : d 6 = .int .i64 (i : Nat) := by simp [L23] at hd; exact hd.2.2.2
    have hq' := hq.keeps kk (by simp)
    have hvv := hv.keeps kk (by simp)
    simp only [e0, e3, e5, e6, nilP_ptr, fa_43_0, ld_29, cell_row hq'.row, cellOf, hv.one.2, cond_false, pureW_some, hvv.len, bin_lss, forkW_dec]
    refine ⟨fun hlt => ?_, fun hge => ?_⟩
    · have hlt : i < L.length := by omega
      obtain ⟨x, hx⟩ : ∃ x, L[i]? = some x := ⟨L[i], List.getElem?_eq_getElem hlt⟩
      obtain ⟨r, o, g1, g2⟩ := hvv.at hx
      have hot := opens_take (f := f) hx
      have hw : IntKind.i64.wrap ((i : Int) + 1) = ((i + 1 : Nat) : Int) := by rw [wrap_i64 (by omega) (by omega)]; omega
      have next : sameKey f x = false → cutW (T23 0) (T23 0) (∃ g', g' < L.length - i ∧ I g' 0 [.pointer (some ⟨q, 0, none⟩), .pointer (some ⟨A.next, 0, none⟩), v', .int .i64 ((i + 1 : Nat) : Int)] A') := by
        intro hsk
        rw [hsk] at hot
        simp only [Bool.false_eq_true, if_false, List.append_nil] at hot
        exact cutW_self.2 ⟨L.length - (i + 1), by omega, rfl, i + 1, v', F', rfl, by omega, by rw [hot]; exact hv', hF', kk, by omega, hn2, hf', r0, rfl⟩
      simp only [g1, fa_45_6, fa_45_5, ld_22, ld_5, g2.c6, g2.c5, g2.ld, cell_row r0.row, Fr.cells, cellOf, isT_int, cond_false, pureW_some, bin_eql, forkW_beq, Nat.zero_add, bin_add, hw]
      refine ⟨fun h1 => ⟨fun h2 => ?_, fun h2 => ?_⟩, fun h1 => ?_⟩
      · have hsk : sameKey f x = true := by simp [sameKey, h1, h2]
        rw [hsk] at hot
        simp only [if_true] at hot
        refine bslice_made hf' (by omega) fun A1 m1 => ?_
        have n1 := m1.next
        have k1 := m1.keeps hf'
        have hlen : (opens (L.take i) f).length ≤ i := by
          have := List.length_filter_le (sameKey f) (L.take i)
          unfold opens
          rw [List.length_take] at this
          omega
        refine appendG (P := Try.prog) sl29 sz45 by45 hz45 (new := x.cells) (m := 0) (by rw [src29, cells_row m1.row]; rfl) rfl rfl (hv'.keeps k1 (by simp)) m1.fine (by omega) (by unfold room; omega) (by unfold room; omega) fun v2 A2 F2 hv2 k2 hF2 n2 f2 => ?_
        have hb : ∀ y ∈ F', A.next + 1 ≤ y := hF'
        have k12 : Keeps A' A2 F' := (k1.more (T := F') (by simp)).trans k2 (fun y hy => .inl hy)
        refine cutW_self.2 ⟨L.length - (i + 1), by omega, rfl, i + 1, v2, F2, rfl, by omega, ?_, ?_, kk.trans k12 (fun y hy => .inr (by have := hb y hy; omega)), by omega, by omega, f2, r0.keeps k12 (fun hm => by have := hb _ hm; omega), rfl⟩
        · rw [hot, List.length_append, frCells_append]
          exact hv2
        · intro y hy
          rcases hF2 y hy with h | h
          · exact hb y h
          · omega
      · exact next (by simp [sameKey, h2])
      · exact next (by simp [sameKey, h1])
    · have hi : i = L.length := by omega
      subst hi
      rw [List.take_length] at hv'
      exact hk A' v' F' hv' (fun y hy => by have := hF' y hy; omega) kk (by omega) hf'
  · rw [e23]
    refine newP_made hf (by omega) rfl fun A1 m1 => ?_
    exact cutW_self.2 ⟨L.length, rfl, 0, .slice none 0 0, [], rfl, Nat.zero_le _, OwnG.nil _ _ _, by simp, m1.keeps hf, by rw [m1.next]; omega, by rw [m1.next]; omega, m1.fine, m1.row1, rfl⟩

def fitsR (ls : List Fr) (f : Fr) : Bool :=
  if 1 < f.tr then false else
  match ls.getLast? with
  | none => f.first && (f.beg && (f.ty == f.tr && (f.tr == 1 || f.last)))
  | some x => if !x.fin then !f.beg && (f.ty == x.ty && (f.first == x.first && f.last == x.last)) else f.beg && (!f.first && decide (x.ty < f.ty))
/-- the document's fits -/
theorem wc25 {A : AW} {K : Value → AW → Prop} {v : Value} {ls : List Fr} {F : List Nat} {f : Fr} (hv : RdFr A v ls F) (hf : Fine A) (hA : A.next + 2 ≤ maxId) (hL : ls.length < 1000000)
    (hk : ∀ A', Keeps A A' [] → A'.next ≤ A.next + 2 → A.next ≤ A'.next → Fine A' → K (.bool (fitsR ls f)) A') : Wc Try.prog theX W0 m0 25 [v, f.val] A K := by
  refine w25 _ _ _ (cuts_none (S := fun _ _ _ => False) fun _ _ _ h => h) ?_
  rw [e25]
  refine newP_made hf (by omega) rfl fun A1 m1 => ?_
  have n1 := m1.next
  have r0 : Row1 A1 A.next f.cells 45 := m1.row1
  have k1 := m1.keeps hf
  have hv1 := hv.keeps k1 (by simp)
  have hk1 : ∀ b, b = fitsR ls f → K (.bool b) A1 := fun b h => by
    rw [h]; exact hk A1 k1 (by omega) (by omega) m1.fine
  rcases List.eq_nil_or_concat ls with rfl | ⟨init, x, rfl⟩
  · simp only [fa_45_0, fa_45_1, fa_45_2, fa_45_4, fa_45_5, ld_4, ld_5, cell_row r0.row, Fr.cells, cellOf, isT_int, isT_bool, cond_false, pureW_some, bin_gtr, bin_eql, forkW_bool, hv1.len, List.length_nil, Nat.zero_add]
    repeat' (first | apply And.intro | intro _)
    all_goals first | (refine hk1 _ ?_; simp_all [fitsR]; done) | (refine hk1 _ ?_; grind [fitsR]) | (exfalso; simp_all; done)
  · have hl : (init.concat x).length = init.length + 1 := by simp
    have hx : (init.concat x)[init.length]? = some x := by simp
    obtain ⟨r, o, g1, g2⟩ := hv1.at hx
    have hw : IntKind.i64.wrap (((init.concat x).length : Int) - 1) = (init.length : Nat) := by rw [hl, wrap_i64 (by omega) (by omega)]; omega
    have hne : ((((init.concat x).length : Nat) : Int) == 0) = false := by rw [hl, beq_eq_false_iff_ne]; omega
    simp only [fa_45_5, ld_5, cell_row r0.row, Fr.cells, cellOf, isT_int, isT_bool, cond_false, pureW_some, bin_gtr, bin_eql, bin_sub, forkW_bool, hv1.len, hw, g1, g2.ld, hne, Bool.false_eq_true, false_implies, true_and, Nat.zero_add]
    refine ⟨fun h1 => hk1 _ (by simp_all [fitsR]), fun h1 => fun _ => ?_⟩
    refine allocP_made zero45 m1.fine (by omega) rfl fun A2 m2 => ?_
    have n2 := m2.next
    have r0 := r0.keeps (m2.keeps m1.fine) (by simp)
    refine m2.row1.store m2.fine (by omega) (st_45 _ _ _) rfl (by simp [Value.cells]) rfl fun A3 r3 k3 n3 f3 => ?_
    have r3 : Row1 A3 A1.next x.cells 45 := r3
    have r0 := r0.keeps k3 (by simp; omega)
    have hk3 : ∀ b, b = fitsR (init.concat x) f → K (.bool b) A3 := fun b h => by
      rw [h]; exact hk A3 ((k1.trans (m2.keeps m1.fine) (by simp)).trans k3 (by simp; omega)) (by omega) (by omega) f3
    simp only [fa_45_0, fa_45_1, fa_45_2, fa_45_3, fa_45_4, ld_4, ld_5, cell_row r0.row, cell_row r3.row, Fr.cells, cellOf, isT_int, isT_bool, cond_false, pureW_some, bin_gtr, bin_eql, bin_booleq, un_not, forkW_bool, Nat.zero_add]
    repeat' (first | apply And.intro | intro _)
    all_goals exact hk3 _ (by simp_all [fitsR])
end
end Go.Proofs.Yteiiledpfhopdaa

namespace Go.Proofs.Yteiiledpfhopdaa
open Go Go.Abs

def distN (L : List Fr) : Nat → Nat
  | 0 => 0
  | i + 1 => distN L i + (match L[i]? with | some x => if (L.take i).any (sameKey x) then 0 else 1 | none => 0)
/-- how many tracks of channels are among frames -/
def dist (L : List Fr) : Nat := distN L L.length
theorem distN_le (L : List Fr) : ∀ i, distN L i ≤ i
  | 0 => Nat.le_refl _
  | i + 1 => by
    have := distN_le L i
    simp only [distN]
    split
    · split <;> omega
    · omega

theorem ft28 : quiet Try.prog (underlying 28) = some (.struct (Try.prog.fieldsOf 28)) := by kernel_rfl
noncomputable def F28 (i : Nat) : Field := (Try.prog.fieldsOf 28).toList.getD i default
theorem fs28 : (Try.prog.fieldsOf 28).toList = [F28 0, F28 1] := by kernel_rfl
theorem pt28_0 (a : Int) (s : ByteArray) : quiet Try.prog (part (F28 0).type ⟨[.int .u8 a, .string s]⟩ (F28 0).offset) = some (.int .u8 a) := by kernel_rfl
theorem pt28_1 (a : Int) (s : ByteArray) : quiet Try.prog (part (F28 1).type ⟨[.int .u8 a, .string s]⟩ (F28 1).offset) = some (.string s) := by kernel_rfl
theorem ty28_0 : (F28 0).type = 5 := by kernel_rfl
theorem ty28_1 : (F28 1).type = 9 := by kernel_rfl
theorem quiet28 (a : Int) (s : ByteArray) : quiet Try.prog (Op.equal 28 (.agg ⟨[.int .u8 a, .string s]⟩) (.agg ⟨[.int .u8 a, .string s]⟩)) = some true := by
  show quiet Try.prog (Op.equalIn (9999 + 1) 28 _ _) = _
  rw [quiet_struct 9999 28 _ _ ft28 (by kernel_rfl), fs28]
  rw [quiet_field (pt28_0 a s) (pt28_0 a s) (by rw [ty28_0, quiet_eq_int 9998 5 _ _ _ _ ut5]; simp)]
  rw [quiet_field (pt28_1 a s) (pt28_1 a s) (by rw [ty28_1, quiet_eq_string 9998 9 _ _ ut9, beq_toListBytes]; simp)]
  rfl
theorem neq28 (a : Int) (s : ByteArray) (x y : Operand) : binA Try.prog .neq 28 x y (.agg ⟨[.int .u8 a, .string s]⟩) (.agg ⟨[.int .u8 a, .string s]⟩) = some (.bool false) := by
  have hg : eqGuardA Try.prog 28 x y (.agg ⟨[.int .u8 a, .string s]⟩) (.agg ⟨[.int .u8 a, .string s]⟩) = true := by
    show (!Try.prog.eqGuardType Try.prog.depth 28) = true
    kernel_rfl
  show (bif eqGuardA Try.prog 28 x y (.agg ⟨[.int .u8 a, .string s]⟩) (.agg ⟨[.int .u8 a, .string s]⟩) then (match eqA Try.prog 28 (.agg ⟨[.int .u8 a, .string s]⟩) (.agg ⟨[.int .u8 a, .string s]⟩) with | some b => some (Value.bool !b) | none => none) else none) = _
  rw [hg, cond_true]
  have he : eqA Try.prog 28 (.agg ⟨[.int .u8 a, .string s]⟩) (.agg ⟨[.int .u8 a, .string s]⟩) = some true := by
    unfold eqA
    have hc : (closedV 4 (.agg ⟨[.int .u8 a, .string s]⟩) && closedV 4 (.agg ⟨[.int .u8 a, .string s]⟩)) = true := rfl
    rw [hc, cond_true]
    exact quiet28 a s
  rw [he]
  rfl

section
variable {W0 : World} {m0 : Inj Try.prog}
/-- the document's Open -/
theorem wc19 {A : AW} {K : Value → AW → Prop} {q : Nat} {v dv : Value} {L : List Fr} {F : List Nat} (hq : Row1 A q [v, dv] 43) (hv : RdFr A v L F) (hL : L.length < 1000000)
    (hk : K (.int .i64 (dist L : Nat)) A) : Wc Try.prog theX W0 m0 19 [.pointer (some ⟨q, 0, none⟩)] A K := by
  let M := L.length + 2
  let I : Nat → Nat → List Value → AW → Prop := fun g id vals A' => A' = A ∧ ∃ i : Nat, (id = 0 ∧ vals = [.pointer (some ⟨q, 0, none⟩), .int .i64 (distN L i : Nat), .int .i64 (i : Nat)] ∧ i ≤ L.length ∧ g = (L.length - i) * M) ∨
    ∃ (k : Nat) (x : Fr), id = 2 ∧ vals = [.pointer (some ⟨q, 0, none⟩), .int .i64 (distN L i : Nat), .int .i64 (i : Nat), .bool (!(L.take k).any (sameKey x)), .int .i64 (k : Nat)] ∧ L[i]? = some x ∧ k ≤ i ∧ g = (L.length - (i + 1)) * M + (M - 1 - k)
  refine w19 _ _ (c19 (I := I) ?_) ?_
  · rintro g id vals A' d ⟨rfl, i, h⟩ hd
    rcases h with ⟨rfl, rfl, hi, rfl⟩ | ⟨k, x, rfl, rfl, hx, hk2, rfl⟩
    · rw [l19_0]
      have e0 : d 0 = .pointer (some ⟨q, 0, none⟩) := by simp [L19] at hd; exact hd.1
      have e3 : d 3 = .int .i64 (distN L i : Nat) := by simp [L19] at hd; exact hd.2.1
      have e4 : d 4 = .int .i64 (i : Nat) := by simp [L19] at hd; exact hd.2.2
      simp only [e0, e3, e4, nilP_ptr, fa_43_0, ld_29, cell_row hq.row, cellOf, hv.one.2, cond_false, pureW_some, hv.len, bin_lss, forkW_dec]
      refine ⟨fun hlt => ?_, fun hge => ?_⟩
      · have hlt : i < L.length := by omega
        have e : (L.length - i) * M = (L.length - (i + 1)) * M + M := by rw [← Nat.succ_mul]; congr 1; omega
        refine cutW_self.2 ⟨(L.length - (i + 1)) * M + (M - 1 - 0), by rw [e]; omega, rfl, i, .inr ⟨0, L[i], rfl, rfl, List.getElem?_eq_getElem hlt, Nat.zero_le _, rfl⟩⟩
      · have : i = L.length := by omega
        subst this
        exact hk
    · rw [l19_2]
      have e0 : d 0 = .pointer (some ⟨q, 0, none⟩) := by simp [L19] at hd; exact hd.1
      have e3 : d 3 = .int .i64 (distN L i : Nat) := by simp [L19] at hd; exact hd.2.1
      have e4 : d 4 = .int .i64 (i : Nat) := by simp [L19] at hd; exact hd.2.2.1
      have e5 : d 5 = .bool (!(L.take k).any (sameKey x)) := by have := hd; simp only [L19, List.map_cons, List.cons.injEq] at this; exact this.2.2.2.1
      have e6 : d 6 = .int .i64 (k : Nat) := by have := hd; simp only [L19, List.map_cons, List.cons.injEq] at this; exact this.2.2.2.2.1
      have hi : i < L.length := (List.getElem?_eq_some_iff.1 hx).1
      have hdn := distN_le L i
      have w1 : IntKind.i64.wrap ((k : Int) + 1) = ((k + 1 : Nat) : Int) := by rw [wrap_i64 (by omega) (by omega)]; omega
      have w2 : IntKind.i64.wrap ((i : Int) + 1) = ((i + 1 : Nat) : Int) := by rw [wrap_i64 (by omega) (by omega)]; omega
      have w3 : IntKind.i64.wrap ((distN L i : Int) + 1) = ((distN L i + 1 : Nat) : Int) := by rw [wrap_i64 (by omega) (by omega)]; omega
      simp only [e0, e3, e4, e5, e6, pureW_some, bin_lss, forkW_dec]
      refine ⟨fun hlt => ?_, fun hge => ?_⟩
      · have hlt : k < i := by omega
        obtain ⟨y, hy⟩ : ∃ y, L[k]? = some y := ⟨L[k], List.getElem?_eq_getElem (by omega)⟩
        obtain ⟨r1, o1, g1, g2⟩ := hv.at hy
        obtain ⟨r2, o2, g3, g4⟩ := hv.at hx
        have hany : (L.take (k + 1)).any (sameKey x) = ((L.take k).any (sameKey x) || sameKey x y) := by
          rw [List.take_add_one, hy]; simp
        have next : ∀ b, b = (!(L.take (k + 1)).any (sameKey x)) → cutW (T19 2) (T19 2) (∃ g', g' < (L.length - (i + 1)) * M + (M - 1 - k) ∧ I g' 2 [.pointer (some ⟨q, 0, none⟩), .int .i64 (distN L i : Nat), .int .i64 (i : Nat), .bool b, .int .i64 ((k + 1 : Nat) : Int)] A') := by
          rintro b rfl
          refine cutW_self.2 ⟨(L.length - (i + 1)) * M + (M - 1 - (k + 1)), by show _ + (L.length + 2 - 1 - (k + 1)) < _ + (L.length + 2 - 1 - k); omega, rfl, i, .inr ⟨k + 1, x, rfl, rfl, hx, hlt, rfl⟩⟩
        simp only [nilP_ptr, fa_43_0, ld_29, cell_row hq.row, cellOf, hv.one.2, cond_false, pureW_some, g1, g3, fa_45_6, fa_45_5, ld_22, ld_5, g2.c6, g2.c5, g4.c6, g4.c5, bin_eql, forkW_beq, bin_add, w1]
        refine ⟨fun h1 => ⟨fun h2 => ?_, fun h2 => ?_⟩, fun h1 => ?_⟩
        · exact next _ (by rw [hany]; simp [sameKey, h1, h2])
        · exact next _ (by rw [hany]; simp [sameKey, h2])
        · exact next _ (by rw [hany]; simp [sameKey, h1])
      · have hki : k = i := by omega
        subst hki
        have hd2 : distN L (k + 1) = distN L k + (if (L.take k).any (sameKey x) then 0 else 1) := by
          simp only [distN, hx]
        have e : (L.length - (k + 1)) * M < (L.length - (k + 1)) * M + (M - 1 - k) := by show _ < _ + (L.length + 2 - 1 - k); omega
        simp only [forkW_bool, bin_add, pureW_some, w2, w3]
        refine ⟨fun h1 => cutW_self.2 ⟨(L.length - (k + 1)) * M, e, rfl, k + 1, .inl ⟨rfl, ?_, by omega, rfl⟩⟩, fun h1 => cutW_self.2 ⟨(L.length - (k + 1)) * M, e, rfl, k + 1, .inl ⟨rfl, ?_, by omega, rfl⟩⟩⟩
        · have : (L.take k).any (sameKey x) = false := by simpa using h1
          rw [hd2, this]; simp
        · have : (L.take k).any (sameKey x) = true := by simpa using h1
          rw [hd2, this]; simp
  · rw [e19]
    exact cutW_self.2 ⟨(L.length - 0) * M, rfl, 0, .inl ⟨rfl, rfl, Nat.zero_le _, rfl⟩⟩

/-- Same, of the same -/
theorem wc17 {A : AW} {K : Value → AW → Prop} {ch tr : Int} {v1 v2 : Value} {l : List Seg} (hf : Fine A) (hA : A.next + 2 ≤ maxId) (h1 : IsSegs A v1 l) (h2 : IsSegs A v2 l) (hn : l.length < 1000000)
    (hk : ∀ A', Keeps A A' [] → A'.next = A.next + 2 → Fine A' → K (.bool true) A') : Wc Try.prog theX W0 m0 17 [asmVal ch tr v1, asmVal ch tr v2] A K := by
  let I : Nat → Nat → List Value → AW → Prop := fun g id vals A' => id = 0 ∧ ∃ i : Nat, vals = [.pointer (some ⟨A.next, 0, none⟩), .pointer (some ⟨A.next + 1, 0, none⟩), .int .i64 i] ∧ i ≤ l.length ∧ Keeps A A' [] ∧ A'.next = A.next + 2 ∧ Fine A' ∧ Row1 A' A.next (asmCells ch tr v1) 25 ∧ Row1 A' (A.next + 1) (asmCells ch tr v2) 25 ∧
    IsSegs A' v1 l ∧ IsSegs A' v2 l ∧ g = l.length - i
  refine w17 _ _ _ (c17 (I := I) ?_) ?_
  · rintro g id vals A' d ⟨rfl, i, rfl, hi, kk, hnx, hf', r1, r2, s1, s2, rfl⟩ hd
    rw [l17_0]
    have e2 : d 2 = .pointer (some ⟨A.next, 0, none⟩) := by simp [L17] at hd; exact hd.1
    have e3 : d 3 = .pointer (some ⟨A.next + 1, 0, none⟩) := by simp [L17] at hd; exact hd.2.1
    have e5 : d 5 = .int .i64 (i : Nat) := by simp [L17] at hd; exact hd.2.2
    simp only [e2, e3, e5, fa_25_2, ld_23, cell_row r1.row, cell_row r2.row, asmCells, cellOf, s1.one.2, s2.one.2, isT_int, cond_false, pureW_some, s1.len, bin_lss, forkW_dec, Nat.zero_add]
    refine ⟨fun hlt => ?_, fun hge => hk A' kk hnx hf'⟩
    have hlt : i < l.length := by omega
    obtain ⟨s, hs⟩ : ∃ s, l[i]? = some s := ⟨l[i], List.getElem?_eq_getElem hlt⟩
    obtain ⟨ra, oa, a1, _, _, a4, _⟩ := s1.at hs
    obtain ⟨rb, ob, b1, _, _, b4, _⟩ := s2.at hs
    simp only [a1, b1, ld_28, a4, b4, pureW_some, neq28, forkW_bool, bin_add]
    refine ⟨(fun h => Bool.noConfusion h), fun _ => ?_⟩
    rw [wrap_i64 (by omega) (by omega)]
    exact cutW_self.2 ⟨l.length - (i + 1), by omega, rfl, i + 1, rfl, by omega, kk, hnx, hf', r1, r2, s1, s2, rfl⟩
  · rw [e17]
    refine newP_made hf (by omega) (by simp only [Value.cells, asmVal, asmCells, List.all_cons, h1.one.1]; rfl) fun A1 m1 => ?_
    have n1 := m1.next
    refine newP_made m1.fine (by omega) (by simp only [Value.cells, asmVal, asmCells, List.all_cons, h2.one.1]; rfl) fun A2 m2 => ?_
    have n2 := m2.next
    have k2 := m2.keeps m1.fine
    have r1 : Row1 A2 A.next (asmCells ch tr v1) 25 := m1.row1.keeps k2 (by simp)
    have r2 : Row1 A2 (A.next + 1) (asmCells ch tr v2) 25 := by have := m2.row1; rw [n1] at this; exact this
    have s1 := (h1.ext m1.ext).ext m2.ext
    have s2 := (h2.ext m1.ext).ext m2.ext
    rw [n1]
    simp only [fa_25_0, fa_25_1, fa_25_2, ld_22, ld_5, ld_23, cell_row r1.row, cell_row r2.row, asmCells, cellOf, s1.one.2, s2.one.2, isT_int, cond_false, pureW_some, s1.len, s2.len, bin_neq, forkW_bne, Nat.zero_add]
    refine ⟨fun h => absurd rfl h, fun _ => ⟨fun h => absurd rfl h, fun _ => ⟨fun h => absurd rfl h, fun _ => ?_⟩⟩⟩
    exact cutW_self.2 ⟨l.length, rfl, 0, rfl, Nat.zero_le _, (m1.keeps hf).trans k2 (by simp), by omega, m2.fine, r1, r2, s1, s2, rfl⟩
end
end Go.Proofs.Yteiiledpfhopdaa

namespace Go.Proofs.Yteiiledpfhopdaa
open Go Go.Abs

def killR (Q : Value → AW → Prop) (a0 t1 t2 e : Value) (A : AW) : Prop := (pureW (nilP a0) fun t17 => pureW (fieldAddrA Try.prog 43 t17 1) fun t18 => effW (storeP Try.prog A 4 t18 (.bool true)) fun At19 => pureW (nilP a0) fun t20 => pureW (fieldAddrA Try.prog 43 t20 0) fun t21 => effW (storeP Try.prog At19 29 t21 (.slice none 0 0)) fun At22 => pureW (loadP Try.prog At22 25 t2) fun t23 => effW (storeP Try.prog At22 25 t1 t23) fun At24 => pureW (loadP Try.prog At24 25 t1) fun t25 => Q (.tuple ⟨[t25, (.bool false), e]⟩) At24)
noncomputable def goodR (S : Nat → List Value → AW → Prop) (Q : Value → AW → Prop) (d : Nat → Value) (A : AW) : Prop := (pureW (nilP (d 0)) fun t26 => pureW (fieldAddrA Try.prog 43 t26 0) fun t27 => pureW (loadP Try.prog A 29 t27) fun t28 => pureW (loadP Try.prog A 45 (d 3)) fun t29 => bothW (buildSliceA Try.prog A 29 1 [(0, t29)]) fun t30 At30 => freshW (freshOf Try.prog (evalT (Tm.fill ⟨1, .nil⟩ 0 [t29])) (.buildSlice 29 1 #[(0, .tmp 0)])) At30 t30 (pureW (loadP Try.prog At30 45 (d 3)) fun t31 => eqW t31 t29 (pureW (loadP Try.prog At30 29 t27) fun t32 => eqW t32 t28 (pureW (fieldAddrA Try.prog 43 t26 0) fun t33 => eqW t33 t27 (pureW (nilP (d 0)) fun t34 => eqW t34 t26 (eqW (d 0) (d 0) (eqW (d 0) (d 0) (bothW (appendA Try.prog At30 29 29 t28 t30) fun t35 At35 => eqW (d 0) (d 0) (pureW (nilP (d 0)) fun t36 => pureW (fieldAddrA Try.prog 43 t36 0) fun t37 => effW (storeP Try.prog At35 29 t37 t35) fun At38 => pureW (fieldAddrA Try.prog 45 (d 3) 3) fun t39 => pureW (loadP Try.prog At38 4 t39) fun t40 => pureW (unA Try.prog .not t40) fun t41 => forkW t41 (pureW (loadP Try.prog At38 25 (d 7)) fun t42 => effW (storeP Try.prog At38 25 (d 4) t42) fun At43 => pureW (loadP Try.prog At43 25 (d 4)) fun t44 => Q (.tuple ⟨[t44, (.bool false), (.int .i64 0)]⟩) At43) (pureW (fieldAddrA Try.prog 45 (d 3) 1) fun t45 => pureW (loadP Try.prog At38 4 t45) fun t46 => pureW (unA Try.prog .not t46) fun t47 => forkW t47 (pureW (loadP Try.prog At38 25 (d 7)) fun t48 => effW (storeP Try.prog At38 25 (d 4) t48) fun At49 => pureW (loadP Try.prog At49 25 (d 4)) fun t50 => Q (.tuple ⟨[t50, (.bool false), (.int .i64 0)]⟩) At49) (pureW (loadP Try.prog At38 45 (d 3)) fun t51 => bothW (buildSliceA Try.prog At38 29 1 [(0, t51)]) fun t52 At52 => bothW (appendA Try.prog At52 29 29 (d 8) t52) fun t53 At53 => pureW (fieldAddrA Try.prog 45 (d 3) 6) fun t54 => pureW (loadP Try.prog At53 22 t54) fun t55 => pureW (fieldAddrA Try.prog 45 (d 3) 5) fun t56 => pureW (loadP Try.prog At53 5 t56) fun t57 => pureW (buildA Try.prog 25 [(0, t55), (1, t57)]) fun t58 => bothW (allocP Try.prog At53 25) fun t59 At59 => effW (storeP Try.prog At59 25 t59 t58) fun At60 => cutW (T16 2) (T16 2) (S 2 [(d 0), (d 3), (d 4), t53, t59, (.int .i64 0)] At60))))))))))))
noncomputable def asmRest (S : Nat → List Value → AW → Prop) (d : Nat → Value) (A : AW) : Prop := (pureW (fieldAddrA Try.prog 25 (d 12) 2) fun t21 => pureW (loadP Try.prog A 23 t21) fun t22 => pureW (lenA Try.prog A 23 t22) fun t23 => pureW (binA Try.prog .sub 3 (.tmp 120) (.const (.int .i64 1)) t23 (.int .i64 1)) fun t24 => pureW (fieldAddrA Try.prog 25 (d 12) 2) fun t25 => pureW (loadP Try.prog A 23 t25) fun t26 => pureW (fieldAddrA Try.prog 25 (d 12) 2) fun t27 => pureW (loadP Try.prog A 23 t27) fun t28 => pureW (indexAddrA Try.prog 23 t28 t24) fun t29 => pureW (fieldAddrA Try.prog 28 t29 1) fun t30 => pureW (loadP Try.prog A 9 t30) fun t31 => pureW (indexAddrA Try.prog 29 (d 8) (d 13)) fun t32 => pureW (fieldAddrA Try.prog 45 t32 7) fun t33 => pureW (loadP Try.prog A 9 t33) fun t34 => pureW (binA Try.prog .add 9 (.tmp 130) (.tmp 135) t31 t34) fun t35 => pureW (indexAddrA Try.prog 23 t26 t24) fun t36 => pureW (fieldAddrA Try.prog 28 t36 1) fun t37 => effW (storeP Try.prog A 9 t37 t35) fun At38 => pureW (binA Try.prog .add 3 (.tmp 100) (.const (.int .i64 1)) (d 13) (.int .i64 1)) fun t39 => cutW (T16 2) (T16 2) (S 2 [(d 0), (d 3), (d 4), (d 8), (d 12), t39] At38))
set_option maxRecDepth 20000 in
theorem l16_0r (W0 : World) (m0 : Inj Try.prog) (S : Nat → List Value → AW → Prop) (Q : Value → AW → Prop) (d : Nat → Value) (A : AW) : wpgo Try.prog theX W0 m0 16 T16 L16 S Q 4000 (tmOf 187 d) (T16 0) false 0 0 0 A = (pureW (lenA Try.prog A 29 (d 8)) fun t0 => pureW (binA Try.prog .lss 3 (.tmp 28) (.tmp 30) (d 10) t0) fun t1 => forkW t1 (pureW (indexAddrA Try.prog 29 (d 8) (d 10)) fun t2 => pureW (fieldAddrA Try.prog 45 t2 7) fun t3 => pureW (loadP Try.prog A 9 t3) fun t4 => pureW (lenA Try.prog A 9 t4) fun t5 => pureW (binA Try.prog .add 3 (.tmp 34) (.tmp 40) (d 9) t5) fun t6 => pureW (binA Try.prog .add 3 (.tmp 32) (.const (.int .i64 1)) (d 10) (.int .i64 1)) fun t7 => cutW (T16 0) (T16 0) (S 0 [(d 0), (d 3), (d 4), (d 7), (d 8), t6, t7] A)) (pureW (loadP Try.prog A 45 (d 3)) fun t8 => Wc Try.prog theX W0 m0 24 [t8] A fun t9 At9 => pureW (binA Try.prog .eql 3 (.tmp 44) (.const (.int .i64 0)) t9 (.int .i64 0)) fun t10 => forkW t10 (pureW (loadP Try.prog At9 45 (d 3)) fun t11 => Wc Try.prog theX W0 m0 25 [(d 8), t11] At9 fun t12 At12 => pureW (unA Try.prog .not t12) fun t13 => forkW t13 (pureW (binA Try.prog .eql 3 (.tmp 52) (.const (.int .i64 0)) (.int .i64 70) (.int .i64 0)) fun t14 => forkW t14 (pureW (binA Try.prog .gtr 3 (.tmp 55) (.const (.int .i64 16384)) (d 9) (.int .i64 16384)) fun t15 => forkW t15 (pureW (binA Try.prog .neq 3 (.tmp 58) (.const (.int .i64 0)) (.int .i64 3) (.int .i64 0)) fun t16 => forkW t16 (killR Q (d 0) (d 4) (d 7) (.int .i64 3) At12) (goodR S Q d At12)) (pureW (binA Try.prog .neq 3 (.tmp 58) (.const (.int .i64 0)) (.int .i64 70) (.int .i64 0)) fun t61 => forkW t61 (killR Q (d 0) (d 4) (d 7) (.int .i64 70) At12) (goodR S Q d At12))) (pureW (binA Try.prog .neq 3 (.tmp 58) (.const (.int .i64 0)) (.int .i64 70) (.int .i64 0)) fun t106 => forkW t106 (killR Q (d 0) (d 4) (d 7) (.int .i64 70) At12) (goodR S Q d At12))) (pureW (binA Try.prog .eql 3 (.tmp 52) (.const (.int .i64 0)) t9 (.int .i64 0)) fun t151 => forkW t151 (pureW (binA Try.prog .gtr 3 (.tmp 55) (.const (.int .i64 16384)) (d 9) (.int .i64 16384)) fun t152 => forkW t152 (pureW (binA Try.prog .neq 3 (.tmp 58) (.const (.int .i64 0)) (.int .i64 3) (.int .i64 0)) fun t153 => forkW t153 (killR Q (d 0) (d 4) (d 7) (.int .i64 3) At12) (goodR S Q d At12)) (pureW (binA Try.prog .neq 3 (.tmp 58) (.const (.int .i64 0)) t9 (.int .i64 0)) fun t198 => forkW t198 (killR Q (d 0) (d 4) (d 7) t9 At12) (goodR S Q d At12))) (pureW (binA Try.prog .neq 3 (.tmp 58) (.const (.int .i64 0)) t9 (.int .i64 0)) fun t243 => forkW t243 (killR Q (d 0) (d 4) (d 7) t9 At12) (goodR S Q d At12)))) (pureW (binA Try.prog .eql 3 (.tmp 52) (.const (.int .i64 0)) t9 (.int .i64 0)) fun t288 => forkW t288 (pureW (binA Try.prog .gtr 3 (.tmp 55) (.const (.int .i64 16384)) (d 9) (.int .i64 16384)) fun t289 => forkW t289 (pureW (binA Try.prog .neq 3 (.tmp 58) (.const (.int .i64 0)) (.int .i64 3) (.int .i64 0)) fun t290 => forkW t290 (killR Q (d 0) (d 4) (d 7) (.int .i64 3) At9) (goodR S Q d At9)) (pureW (binA Try.prog .neq 3 (.tmp 58) (.const (.int .i64 0)) t9 (.int .i64 0)) fun t335 => forkW t335 (killR Q (d 0) (d 4) (d 7) t9 At9) (goodR S Q d At9))) (pureW (binA Try.prog .neq 3 (.tmp 58) (.const (.int .i64 0)) t9 (.int .i64 0)) fun t380 => forkW t380 (killR Q (d 0) (d 4) (d 7) t9 At9) (goodR S Q d At9))))) := l16_0 W0 m0 S Q d A
set_option maxRecDepth 20000 in
theorem l16_2r (W0 : World) (m0 : Inj Try.prog) (S : Nat → List Value → AW → Prop) (Q : Value → AW → Prop) (d : Nat → Value) (A : AW) : wpgo Try.prog theX W0 m0 16 T16 L16 S Q 4000 (tmOf 187 d) (T16 2) false 0 0 0 A = (pureW (lenA Try.prog A 29 (d 8)) fun t0 => pureW (binA Try.prog .lss 3 (.tmp 96) (.tmp 98) (d 13) t0) fun t1 => forkW t1 (pureW (indexAddrA Try.prog 29 (d 8) (d 13)) fun t2 => pureW (fieldAddrA Try.prog 45 t2 2) fun t3 => pureW (loadP Try.prog A 4 t3) fun t4 => forkW t4 (pureW (fieldAddrA Try.prog 25 (d 12) 2) fun t5 => pureW (loadP Try.prog A 23 t5) fun t6 => pureW (indexAddrA Try.prog 29 (d 8) (d 13)) fun t7 => pureW (fieldAddrA Try.prog 45 t7 4) fun t8 => pureW (loadP Try.prog A 5 t8) fun t9 => pureW (buildA Try.prog 28 [(0, t9)]) fun t10 => bothW (buildSliceA Try.prog A 23 1 [(0, t10)]) fun t11 At11 => freshW (freshOf Try.prog (evalT (Tm.fill ⟨1, .nil⟩ 0 [t10])) (.buildSlice 23 1 #[(0, .tmp 0)])) At11 t11 (pureW (buildA Try.prog 28 [(0, t9)]) fun t12 => eqW t12 t10 (pureW (loadP Try.prog At11 5 t8) fun t13 => eqW t13 t9 (pureW (fieldAddrA Try.prog 45 t7 4) fun t14 => eqW t14 t8 (pureW (indexAddrA Try.prog 29 (d 8) (d 13)) fun t15 => eqW t15 t7 (eqW (d 13) (d 13) (eqW (d 8) (d 8) (pureW (loadP Try.prog At11 23 t5) fun t16 => eqW t16 t6 (pureW (fieldAddrA Try.prog 25 (d 12) 2) fun t17 => eqW t17 t5 (bothW (appendA Try.prog At11 23 23 t6 t11) fun t18 At18 => pureW (fieldAddrA Try.prog 25 (d 12) 2) fun t19 => effW (storeP Try.prog At18 23 t19 t18) fun At20 => asmRest S d At20)))))))))) (asmRest S d A)) (cutW (T16 4) (T16 4) (S 4 [(d 0), (d 3), (d 4), (d 12), (.slice none 0 0), (.int .i64 0)] A))) := l16_2 W0 m0 S Q d A
end Go.Proofs.Yteiiledpfhopdaa

namespace Go.Proofs.Yteiiledpfhopdaa
open Go Go.Abs

structure GR where
  L : List Fr
  dead : Bool
/-- the document's gatherer in memory; the families that it lies in -/
def IsQ (A : AW) (q : Nat) (G : GR) (FQ : List Nat) : Prop := ∃ v F, FQ = q :: F ∧ FQ.Nodup ∧ Row1 A q [v, .bool G.dead] 43 ∧ OwnG A 45 8 v G.L.length (frCells G.L) F
theorem IsQ.keeps {A A' : AW} {q : Nat} {G : GR} {FQ S : List Nat} (h : IsQ A q G FQ) (k : Keeps A A' S) (hd : ∀ x ∈ FQ, x ∉ S) : IsQ A' q G FQ := by
  obtain ⟨v, F, rfl, hn, h1, h2⟩ := h
  exact ⟨v, F, rfl, hn, h1.keeps k (hd q (by simp)), h2.keeps k (fun x hx => hd x (by simp [hx]))⟩
theorem IsQ.lt {A : AW} {q : Nat} {G : GR} {FQ : List Nat} (h : IsQ A q G FQ) : ∀ x ∈ FQ, x < A.next := by
  obtain ⟨v, F, rfl, hn, h1, h2⟩ := h
  intro x hx
  rcases List.mem_cons.1 hx with rfl | hx
  · exact h1.lt
  · exact h2.lt x hx

theorem killR_ok {A : AW} {K : Value → AW → Prop} {q n1 n2 : Nat} {v dv e : Value} (hq : Row1 A q [v, dv] 43) (h1 : Row1 A n1 (asmCells 0 0 (.slice none 0 0)) 25) (h2 : Row1 A n2 (asmCells 0 0 (.slice none 0 0)) 25) (q1 : q ≠ n1) (q2 : q ≠ n2) (h12 : n1 ≠ n2)
    (hf : Fine A) (hmax : A.next ≤ maxId) (hk : ∀ A', IsQ A' q ⟨[], true⟩ [q] → Keeps A A' [q, n1] → A'.next = A.next → Fine A' → K (.tuple ⟨[asmVal 0 0 (.slice none 0 0), .bool false, e]⟩) A') :
    killR K (.pointer (some ⟨q, 0, none⟩)) (.pointer (some ⟨n1, 0, none⟩)) (.pointer (some ⟨n2, 0, none⟩)) e A := by
  unfold killR
  simp only [nilP_ptr, fa_43_1, fa_43_0, pureW_some, Nat.zero_add]
  refine hq.store hf hmax (st_4 _ _ _) rfl (by simp) rfl fun A1 a1 k1 n1e f1 => ?_
  have a1 : Row1 A1 q [v, .bool true] 43 := a1
  refine a1.store f1 (by omega) (st_29 _ _ _) rfl (by simp) rfl fun A2 a2 k2 n2e f2 => ?_
  have a2 : Row1 A2 q [.slice none 0 0, .bool true] 43 := a2
  have k12 : Keeps A A2 [q] := k1.trans k2 (by simp)
  have h2 := h2.keeps k12 (by simpa using fun e => q2 e.symm)
  have h1 := h1.keeps k12 (by simpa using fun e => q1 e.symm)
  simp only [ld_25, cells_row h2.row, asmCells, List.drop_zero, takeCells, isT_int, isT_slice, cond_false, pureW_some]
  refine h1.store f2 (by omega) (st_25 _ _ _) rfl (by simp [asmCells, Value.cells]) rfl fun A3 a3 k3 n3e f3 => ?_
  have a3 : Row1 A3 n1 (asmCells 0 0 (.slice none 0 0)) 25 := a3
  simp only [cells_row a3.row, asmCells, List.drop_zero, takeCells, isT_int, isT_slice, cond_false, pureW_some]
  exact hk A3 ⟨.slice none 0 0, [], rfl, by simp, a2.keeps k3 (by simpa using q1), OwnG.nil _ _ _⟩ ((k12.more (T := [q, n1]) (by simp)).trans k3 (by simp)) (by omega) f3

theorem asmRest_ok {S : Nat → List Value → AW → Prop} {d : Nat → Value} {A : AW} {n12 i : Nat} {ch tr : Int} {sv v8 : Value} {segs init : List Seg} {x : Seg} {F F8 : List Nat} {ls : List Fr} {f : Fr} (e8 : d 8 = v8) (e12 : d 12 = .pointer (some ⟨n12, 0, none⟩)) (e13 : d 13 = .int .i64 (i : Nat))
    (h12 : Row1 A n12 (asmCells ch tr sv) 25) (hs : OwnG A 28 2 sv segs.length (segCells segs) F) (hsegs : segs = init ++ [x]) (hv : RdFr A v8 ls F8) (hi : ls[i]? = some f) (hx : slen x.pay + slen f.pay < 1099511627776) (hn : init.length < 10000000) (hib : i < 10000000)
    (hf : Fine A) (hmax : A.next ≤ maxId)
    (hk : ∀ A', OwnG A' 28 2 sv segs.length (segCells (init ++ [⟨x.ty, catB x.pay f.pay⟩])) F → Keeps A A' F → A'.next = A.next → Fine A' → S 2 [d 0, d 3, d 4, v8, .pointer (some ⟨n12, 0, none⟩), .int .i64 ((i + 1 : Nat) : Int)] A') : asmRest S d A := by
  have hl : segs.length = init.length + 1 := by rw [hsegs]; simp
  obtain ⟨b, rfl⟩ : ∃ b, sv = .slice (some ⟨b, 0, none⟩) segs.length (capU + segs.length) := by
    rcases hs with ⟨_, h2, _⟩ | ⟨b, _, h2, _⟩
    · omega
    · exact ⟨b, h2⟩
  have hcl : (segCells segs).length = segs.length * 2 := segCells_length _
  have hgx : segs[init.length]? = some x := by rw [hsegs]; simp
  obtain ⟨_, c2⟩ := segCells_get hgx
  have hrow : ∃ ff, A.get b = some (.row (segCells segs) 28 ff 0 false) := by
    rcases hs with ⟨h2, _⟩ | ⟨b', ff, h2, h3, _⟩
    · cases h2
    · simp only [Value.slice.injEq, Option.some.injEq, Addr.mk.injEq, and_true] at h2
      subst h2
      exact ⟨ff, h3.row⟩
  obtain ⟨ff, hrow⟩ := hrow
  have hidx : indexAddrA Try.prog 23 (.slice (some ⟨b, 0, none⟩) segs.length (capU + segs.length)) (.int .i64 (init.length : Nat)) = some (.pointer (some ⟨b, init.length * 2, none⟩)) := by
    show indexAddrA Try.prog 23 _ (.int .i64 (.ofNat init.length)) = _
    rw [ia_23, blt_true.2 (by omega), cond_true, addA_eq, Nat.zero_add]
  have hw : IntKind.i64.wrap ((segs.length : Int) - 1) = (init.length : Nat) := by
    rw [wrap_i64 (by omega) (by omega)]; omega
  have hw2 : IntKind.i64.wrap ((i : Int) + 1) = ((i + 1 : Nat) : Int) := by rw [wrap_i64 (by omega) (by omega)]; omega
  obtain ⟨r, o, g1, g2⟩ := hv.at hi
  unfold asmRest
  simp only [e8, e12, e13, fa_25_2, fa_28_1, fa_45_7, ld_23, ld_9, cell_row h12.row, asmCells, cellOf, isTuple, cond_false, pureW_some, ln_23, bin_sub, hw, hidx, cell_row hrow, cellOf_get c2 isT_string, g1, g2.c7, bin_cat hx, Nat.zero_add]
  refine storeG hs hf hmax (st_9 _ _ _) rfl (by rw [hcl]; omega) rfl fun A1 v1 k1 n1e f1 => ?_
  have v1 : OwnG A1 28 2 (.slice (some ⟨b, 0, none⟩) segs.length (capU + segs.length)) segs.length (segCells (init ++ [⟨x.ty, catB x.pay f.pay⟩])) F := by
    have := v1
    rw [hsegs] at this ⊢
    rw [← segCells_set]
    exact this
  simp only [bin_add, pureW_some, hw2]
  exact cutW_self.2 (hk A1 v1 k1 n1e f1)

theorem goodR_ok {S : Nat → List Value → AW → Prop} {Q : Value → AW → Prop} {d : Nat → Value} {A : AW} {q n0 n1 n2 : Nat} {vL v8 : Value} {L ls : List Fr} {FL F8 : List Nat} {f : Fr}
    (e0 : d 0 = .pointer (some ⟨q, 0, none⟩)) (e3 : d 3 = .pointer (some ⟨n0, 0, none⟩)) (e4 : d 4 = .pointer (some ⟨n1, 0, none⟩)) (e7 : d 7 = .pointer (some ⟨n2, 0, none⟩)) (e8 : d 8 = v8)
    (hq : Row1 A q [vL, .bool false] 43) (hL : OwnG A 45 8 vL L.length (frCells L) FL) (h0 : Row1 A n0 f.cells 45) (h1 : Row1 A n1 (asmCells 0 0 (.slice none 0 0)) 25) (h2 : Row1 A n2 (asmCells 0 0 (.slice none 0 0)) 25) (hls : OwnG A 45 8 v8 ls.length (frCells ls) F8)
    (qFL : q ∉ FL) (qF8 : q ∉ F8) (q0 : n0 ≠ q) (q1 : n1 ≠ q) (q2 : n2 ≠ q) (d01 : n0 ≠ n1) (d12 : n1 ≠ n2) (d0L : n0 ∉ FL) (d1L : n1 ∉ FL) (d2L : n2 ∉ FL) (d0F8 : n0 ∉ F8) (dis : ∀ x ∈ F8, x ∉ FL)
    (hf : Fine A) (hA : A.next + 10 ≤ maxId) (hbL : L.length < 10000000) (hbl : ls.length < 10000000)
    (hk1 : ¬ (f.fin = true ∧ f.last = true) → ∀ A' v' FL', Row1 A' q [v', .bool false] 43 → OwnG A' 45 8 v' (L ++ [f]).length (frCells (L ++ [f])) FL' → (∀ x ∈ FL', x ∈ FL ∨ A.next ≤ x) → Keeps A A' (q :: n1 :: FL) → A'.next ≤ A.next + 4 → Fine A' →
      Q (.tuple ⟨[asmVal 0 0 (.slice none 0 0), .bool false, .int .i64 0]⟩) A')
    (hk2 : f.fin = true → f.last = true → ∀ A' v' FL' v8' F8' n59, Row1 A' q [v', .bool false] 43 → OwnG A' 45 8 v' (L ++ [f]).length (frCells (L ++ [f])) FL' → (∀ x ∈ FL', x ∈ FL ∨ A.next ≤ x) → OwnG A' 45 8 v8' (ls ++ [f]).length (frCells (ls ++ [f])) F8' →
      (∀ x ∈ F8', x ∈ F8 ∨ A.next ≤ x) → (∀ x ∈ F8', x ∉ FL') → Row1 A' n59 (asmCells f.ch f.tr (.slice none 0 0)) 25 → A.next ≤ n59 → n59 ∉ FL' → n59 ∉ F8' → Keeps A A' (q :: FL ++ F8) → A'.next ≤ A.next + 8 → Fine A' →
      S 2 [.pointer (some ⟨q, 0, none⟩), .pointer (some ⟨n0, 0, none⟩), .pointer (some ⟨n1, 0, none⟩), v8', .pointer (some ⟨n59, 0, none⟩), .int .i64 0] A') : goodR S Q d A := by
  have lL := hL.lt
  have l8 := hls.lt
  have lq := hq.lt
  have l0 := h0.lt
  have l1 := h1.lt
  have l2 := h2.lt
  have hld0 : ∀ B, Row1 B n0 f.cells 45 → loadP Try.prog B 45 (.pointer (some ⟨n0, 0, none⟩)) = some f.val := fun B h => by
    rw [ld_45, cells_row h.row]; rfl
  unfold goodR
  simp only [e0, e3, e4, e7, e8, nilP_ptr, fa_43_0, ld_29, cell_row hq.row, cellOf, hL.one.2, cond_false, hld0 _ h0, pureW_some, eqW_self]
  refine bslice_made hf (by omega) fun A1 m1 => ?_
  have n1e := m1.next
  have k1 := m1.keeps hf
  refine freshW_frame m1.row ?_
  have q1r := hq.keeps k1 (by simp)
  have r0 := h0.keeps k1 (by simp)
  simp only [hld0 _ r0, cell_row q1r.row, cellOf, hL.one.2, cond_false, pureW_some, eqW_self]
  refine appendG (P := Try.prog) sl29 sz45 by45 hz45 (new := f.cells) (m := 0) (by rw [src29, cells_row m1.row]; rfl) rfl rfl (hL.keeps k1 (by simp)) m1.fine (by omega) (by unfold room; omega) (by unfold room; omega) fun v2 A2 F2 hv2 k2 hF2 n2e f2 => ?_
  have hv2 : OwnG A2 45 8 v2 (L ++ [f]).length (frCells (L ++ [f])) F2 := by
    rw [List.length_append, frCells_append]; exact hv2
  have kA2 : Keeps A A2 FL := (k1.more (T := FL) (by simp)).trans k2 (fun x hx => .inl hx)
  have hq2 := hq.keeps kA2 qFL
  have r0 := h0.keeps kA2 d0L
  have r1 := h1.keeps kA2 d1L
  have r2 := h2.keeps kA2 d2L
  have lF2 : ∀ x ∈ F2, x ∈ FL ∨ A.next ≤ x := fun x hx => by
    rcases hF2 x hx with h | h
    · exact .inl h
    · exact .inr (by omega)
  have nF2 : ∀ n, n ∉ FL → n < A.next → n ∉ F2 := fun n h3 h4 hm => by
    rcases lF2 n hm with h | h
    · exact h3 h
    · omega
  obtain ⟨sa, sn, sc, rfl⟩ := OwnG.slice hv2
  refine hq2.store f2 (by omega) (st_29 _ _ _) rfl (by simp) rfl fun A3 q3 k3 n3e f3 => ?_
  have q3 : Row1 A3 q [.slice sa sn sc, .bool false] 43 := q3
  have r0 := r0.keeps k3 (by simpa using q0)
  have r1 := r1.keeps k3 (by simpa using q1)
  have r2 := r2.keeps k3 (by simpa using q2)
  have hv3 := hv2.keeps k3 (fun x hx => by
    simp only [List.mem_singleton]
    exact fun e => nF2 q qFL lq (e ▸ hx))
  have kA3 : Keeps A A3 (q :: FL) := (kA2.more (T := q :: FL) (fun x hx => .inl (by simp [hx]))).trans k3 (by simp)
  have endN : ¬ (f.fin = true ∧ f.last = true) → pureW (loadP Try.prog A3 25 (.pointer (some ⟨n2, 0, none⟩))) fun t42 => effW (storeP Try.prog A3 25 (.pointer (some ⟨n1, 0, none⟩)) t42) fun At43 => pureW (loadP Try.prog At43 25 (.pointer (some ⟨n1, 0, none⟩))) fun t44 => Q (.tuple ⟨[t44, (.bool false), (.int .i64 0)]⟩) At43 := by
    intro hnot
    simp only [ld_25, cells_row r2.row, asmCells, List.drop_zero, takeCells, isT_int, isT_slice, cond_false, pureW_some]
    refine r1.store f3 (by omega) (st_25 _ _ _) rfl (by simp [asmCells, Value.cells]) rfl fun A4 a4 k4 n4e f4 => ?_
    have a4 : Row1 A4 n1 (asmCells 0 0 (.slice none 0 0)) 25 := a4
    simp only [cells_row a4.row, asmCells, List.drop_zero, takeCells, isT_int, isT_slice, cond_false, pureW_some]
    refine hk1 hnot A4 _ F2 (q3.keeps k4 (by simpa using fun e => q1 e.symm)) (hv3.keeps k4 (fun x hx => by
      simp only [List.mem_singleton]
      exact fun e => nF2 n1 d1L l1 (e ▸ hx))) lF2 ?_ (by omega) f4
    exact (kA3.more (T := q :: n1 :: FL) (fun x hx => .inl (by simp only [List.mem_cons] at hx ⊢; rcases hx with h | h <;> simp [h]))).trans k4 (by simp)
  simp only [fa_45_3, fa_45_1, ld_4, cell_row r0.row, Fr.cells, cellOf, isT_bool, cond_false, pureW_some, un_not, forkW_bool, Nat.zero_add]
  refine ⟨fun h => endN (by simp at h; simp [h]), fun hfin => ⟨fun h => endN (by simp at h; simp [h]), fun hlast => ?_⟩⟩
  have hfin : f.fin = true := by simpa using hfin
  have hlast : f.last = true := by simpa using hlast
  simp only [hld0 _ r0, pureW_some]
  refine bslice_made f3 (by omega) fun A4 m4 => ?_
  have n4e := m4.next
  have k4 := m4.keeps f3
  have h8 : OwnG A4 45 8 v8 ls.length (frCells ls) F8 := (hls.keeps kA3 (fun x hx => by
    simp only [List.mem_cons, not_or]
    exact ⟨fun e => qF8 (e ▸ hx), dis x hx⟩)).keeps k4 (by simp)
  refine appendG (P := Try.prog) sl29 sz45 by45 hz45 (new := f.cells) (m := 0) (by rw [src29, cells_row m4.row]; rfl) rfl rfl h8 m4.fine (by omega) (by unfold room; omega) (by unfold room; omega) fun v5 A5 F5 hv5 k5 hF5 n5e f5 => ?_
  have hv5 : OwnG A5 45 8 v5 (ls ++ [f]).length (frCells (ls ++ [f])) F5 := by
    rw [List.length_append, frCells_append]; exact hv5
  have k35 : Keeps A3 A5 F8 := (k4.more (T := F8) (by simp)).trans k5 (fun x hx => .inl hx)
  have r0 := r0.keeps k35 d0F8
  have q5 := q3.keeps k35 qF8
  have hv5L := hv3.keeps k35 (fun x hx h => by
    rcases lF2 x hx with h3 | h3
    · exact dis x h h3
    · have := l8 x h; omega)
  simp only [fa_45_6, fa_45_5, ld_22, ld_5, cell_row r0.row, Fr.cells, cellOf, isTuple, cond_false, pureW_some, bd25c, Nat.zero_add]
  refine allocP_made zt25 f5 (by omega) rfl fun A6 m6 => ?_
  have n6e := m6.next
  have k6 := m6.keeps f5
  refine m6.row1.store m6.fine (by omega) (st_25 _ _ _) rfl (by simp [Value.cells]) rfl fun A7 r59 k7 n7e f7 => ?_
  have r59 : Row1 A7 A5.next (asmCells f.ch f.tr (.slice none 0 0)) 25 := r59
  have k57 : Keeps A5 A7 [] := (k6.more (T := []) (by simp)).trans k7 (by simp)
  have lF5 : ∀ x ∈ F5, x ∈ F8 ∨ A.next ≤ x := fun x hx => by
    rcases hF5 x hx with h | h
    · exact .inl h
    · exact .inr (by omega)
  refine cutW_self.2 (hk2 hfin hlast A7 _ F2 v5 F5 A5.next (q5.keeps k57 (by simp)) (hv5L.keeps k57 (by simp)) lF2 (hv5.keeps k57 (by simp)) lF5 ?_ r59 (by omega) ?_ ?_ ?_ (by omega) f7)
  · intro x hx hx2
    rcases hF5 x hx with h | h
    · rcases lF2 x hx2 with h3 | h3
      · exact dis x h h3
      · have := l8 x h; omega
    · have := hv2.lt x hx2
      omega
  · intro hm; have := hv2.lt _ hm; omega
  · intro hm; have := hv5.lt _ hm; omega
  · exact ((kA3.more (T := q :: FL ++ F8) (fun x hx => .inl (List.mem_append.2 (.inl hx)))).trans k35 (fun x hx => .inl (List.mem_append.2 (.inr hx)))).trans k57 (by simp)
end Go.Proofs.Yteiiledpfhopdaa

namespace Go.Proofs.Yteiiledpfhopdaa
open Go Go.Abs

def sumPay (l : List Fr) : Nat := (l.map fun x => slen x.pay).sum
theorem sumPay_append (a b : List Fr) : sumPay (a ++ b) = sumPay a + sumPay b := by simp [sumPay]
theorem sumPay_filter (p : Fr → Bool) : ∀ l : List Fr, sumPay (l.filter p) ≤ sumPay l
  | [] => Nat.le_refl _
  | x :: r => by
    have := sumPay_filter p r
    rw [List.filter_cons]
    split <;> simp [sumPay] at * <;> omega
theorem sumPay_take (l : List Fr) (i : Nat) : sumPay (l.take i) ≤ sumPay l := by
  have h : sumPay l = sumPay (l.take i) + sumPay (l.drop i) := by rw [← sumPay_append, List.take_append_drop]
  omega
def begS (segs : List Seg) (f : Fr) : List Seg := if f.beg then segs ++ [⟨f.ty, ByteArray.empty⟩] else segs
def asmStep (segs : List Seg) (f : Fr) : List Seg := addLast (begS segs f) f.pay
/-- frames, gathered -/
def asm (l : List Fr) : List Seg := l.foldl asmStep []
theorem asm_snoc (l : List Fr) (x : Fr) : asm (l ++ [x]) = asmStep (asm l) x := by simp [asm]
theorem asm_take {l : List Fr} {i : Nat} {x : Fr} (h : l[i]? = some x) : asm (l.take (i + 1)) = asmStep (asm (l.take i)) x := by
  rw [List.take_add_one, h]
  exact asm_snoc _ _
theorem sumPay_snoc {l : List Fr} {i : Nat} {x : Fr} (h : l[i]? = some x) : sumPay (l.take (i + 1)) = sumPay (l.take i) + slen x.pay := by
  rw [List.take_add_one, h, sumPay_append]
  simp [sumPay]
theorem snoc_of_ne {α : Type} {l : List α} (h : l ≠ []) : ∃ init x, l = init ++ [x] := ⟨l.dropLast, l.getLast h, (List.dropLast_concat_getLast h).symm⟩
theorem asmStep_facts {segs : List Seg} {f : Fr} (h : f.beg = true ∨ segs ≠ []) : total (asmStep segs f) = total segs + slen f.pay ∧ (asmStep segs f).length ≤ segs.length + 1 ∧ asmStep segs f ≠ [] := by
  have key : ∀ (init : List Seg) (x : Seg), total (addLast (init ++ [x]) f.pay) = total (init ++ [x]) + slen f.pay ∧ addLast (init ++ [x]) f.pay ≠ [] ∧ (addLast (init ++ [x]) f.pay).length = init.length + 1 := by
    intro init x
    rw [addLast_append, total_append, total_append]
    refine ⟨?_, by simp, by simp⟩
    simp [total, slen_cat]
    omega
  unfold asmStep begS
  cases hb : f.beg with
  | true =>
    obtain ⟨h1, h2, h3⟩ := key segs ⟨f.ty, ByteArray.empty⟩
    simp only [if_true]
    refine ⟨?_, by omega, h2⟩
    rw [h1, total_append]
    have : total [⟨f.ty, ByteArray.empty⟩] = 0 := rfl
    omega
  | false =>
    rw [hb] at h
    obtain ⟨init, x, rfl⟩ := snoc_of_ne (h.resolve_left (by simp))
    obtain ⟨h1, h2, h3⟩ := key init x
    simp only [Bool.false_eq_true, if_false]
    exact ⟨h1, by rw [h3]; simp, h2⟩
theorem asm_facts {ls : List Fr} (h : ∀ x, ls.head? = some x → x.beg = true) : ∀ i, i ≤ ls.length → total (asm (ls.take i)) = sumPay (ls.take i) ∧ (asm (ls.take i)).length ≤ i ∧ (0 < i → asm (ls.take i) ≠ [])
  | 0, _ => ⟨rfl, Nat.le_refl _, fun h => absurd h (Nat.lt_irrefl _)⟩
  | i + 1, hi => by
    obtain ⟨h1, h2, h3⟩ := asm_facts h i (by omega)
    obtain ⟨x, hx⟩ : ∃ x, ls[i]? = some x := ⟨ls[i], List.getElem?_eq_getElem (by omega)⟩
    have hb : x.beg = true ∨ asm (ls.take i) ≠ [] := by
      cases i with
      | zero => exact .inl (h x (by rw [← hx]; simp [List.head?_eq_getElem?]))
      | succ j => exact .inr (h3 (by omega))
    obtain ⟨g1, g2, g3⟩ := asmStep_facts hb
    rw [asm_take hx, sumPay_snoc hx]
    exact ⟨by omega, by omega, fun _ => g3⟩

/-- what the document's Feed answers, and leaves -/
def feedR (G : GR) (f : Fr) : GR × Res :=
  if G.dead then (G, rNo 9) else
  if !f.ok then (⟨[], true⟩, rNo 60) else
  if !fitsR (opens G.L f) f then (⟨[], true⟩, rNo 70) else
  if 16384 < slen f.pay + sumPay (opens G.L f) then (⟨[], true⟩, rNo 3) else
  if f.fin && f.last then (⟨(G.L ++ [f]).filter (fun x => !sameKey f x), false⟩, ⟨f.ch, f.tr, asm (opens G.L f ++ [f]), true, 0⟩) else
  (⟨G.L ++ [f], false⟩, rNo 0)

theorem fresh28 (ty : Int) : freshOf Try.prog (evalT (Tm.fill ⟨1, .nil⟩ 0 [.agg ⟨[.int .u8 ty, .string ByteArray.empty]⟩])) (.buildSlice 23 1 #[(0, .tmp 0)]) = some (.slice [.int .u8 ty, .string ByteArray.empty] 28 1) := by kernel_rfl
theorem freshW_seg {ty : Int} {A : AW} {b : Nat} {p : Prop} (h : A.get b = some (.row [.int .u8 ty, .string ByteArray.empty] 28 b 0 false)) (hp : p) :
    freshW (freshOf Try.prog (evalT (Tm.fill ⟨1, .nil⟩ 0 [.agg ⟨[.int .u8 ty, .string ByteArray.empty]⟩])) (.buildSlice 23 1 #[(0, .tmp 0)])) A (.slice (some ⟨b, 0, none⟩) 1 1) p := by
  refine ⟨⟨_, fresh28 ty, ?_⟩, hp⟩
  simp only [stillFresh, rowHas, h, Option.isNone_none, Bool.true_and, Nat.beq_refl, Bool.and_self, sameL, same_int, same_string]

/-- the end of the document's Feed: the heap between its loops -/
structure Mid (A0 A : AW) (q : Nat) (L : List Fr) (f : Fr) (FL : List Nat) (vL : Value) (FL' : List Nat) (n59 : Nat) (sv : Value) (Fs : List Nat) (segs : List Seg) : Prop where
  rq : Row1 A q [vL, .bool false] 43
  rL : OwnG A 45 8 vL (L ++ [f]).length (frCells (L ++ [f])) FL'
  subL : ∀ x ∈ FL', x ∈ FL ∨ A0.next + 3 ≤ x
  r59 : Row1 A n59 (asmCells f.ch f.tr sv) 25
  b59 : A0.next + 3 ≤ n59
  L59 : n59 ∉ FL'
  s : OwnG A 28 2 sv segs.length (segCells segs) Fs
  sb : ∀ x ∈ Fs, A0.next + 3 ≤ x
  sL : ∀ x ∈ Fs, x ∉ FL'
  s59 : n59 ∉ Fs
  kk : Keeps A0 A (q :: FL)
  lo : A0.next + 3 ≤ A.next
  fine : Fine A
  r0 : Row1 A A0.next f.cells 45
  r1 : Row1 A (A0.next + 1) (asmCells 0 0 (.slice none 0 0)) 25
theorem Mid.keeps {A0 A B : AW} {q : Nat} {L : List Fr} {f : Fr} {FL : List Nat} {vL : Value} {FL' : List Nat} {n59 : Nat} {sv : Value} {Fs : List Nat} {segs : List Seg} {S : List Nat} (h : Mid A0 A q L f FL vL FL' n59 sv Fs segs) (hq : q < A0.next) (k : Keeps A B S) (hb : Fine B)
    (hS : ∀ x ∈ S, A0.next + 3 ≤ x ∧ x ∉ FL' ∧ x ≠ n59 ∧ x ∉ Fs) : Mid A0 B q L f FL vL FL' n59 sv Fs segs :=
  ⟨h.rq.keeps k (fun hm => by have := (hS _ hm).1; omega), h.rL.keeps k (fun x hx hm => (hS _ hm).2.1 hx), h.subL, h.r59.keeps k (fun hm => (hS _ hm).2.2.1 rfl), h.b59, h.L59, h.s.keeps k (fun x hx hm => (hS _ hm).2.2.2 hx), h.sb, h.sL, h.s59,
    h.kk.trans k (fun x hx => .inr (by have := (hS _ hx).1; omega)), Nat.le_trans h.lo k.next, hb, h.r0.keeps k (fun hm => by have := (hS _ hm).1; omega), h.r1.keeps k (fun hm => by have := (hS _ hm).1; omega)⟩
end Go.Proofs.Yteiiledpfhopdaa

namespace Go.Proofs.Yteiiledpfhopdaa
open Go Go.Abs

theorem opens_len (L : List Fr) (f : Fr) : (opens L f).length ≤ L.length := List.length_filter_le _ _
section
variable {W0 : World} {m0 : Inj Try.prog}
/-- a step of the loop that puts segments together -/
theorem asmLoop {A0 A : AW} {S : Nat → List Value → AW → Prop} {Q : Value → AW → Prop} {d : Nat → Value} {q : Nat} {L : List Fr} {f : Fr} {FL : List Nat} {vL : Value} {FL' : List Nat} {n59 : Nat} {sv : Value} {Fs : List Nat} {v8 : Value} {ls : List Fr} {F8 : List Nat} {i : Nat} {x : Fr}
    (e0 : d 0 = .pointer (some ⟨q, 0, none⟩)) (e3 : d 3 = .pointer (some ⟨A0.next, 0, none⟩)) (e4 : d 4 = .pointer (some ⟨A0.next + 1, 0, none⟩)) (e8 : d 8 = v8) (e12 : d 12 = .pointer (some ⟨n59, 0, none⟩)) (e13 : d 13 = .int .i64 (i : Nat)) (hq : q < A0.next)
    (hm : Mid A0 A q L f FL vL FL' n59 sv Fs (asm (ls.take i))) (h8 : OwnG A 45 8 v8 ls.length (frCells ls) F8) (d59 : n59 ∉ F8) (dis : ∀ y ∈ Fs, y ∉ F8) (hx : ls[i]? = some x) (hok : ∀ y, ls.head? = some y → y.beg = true) (hbl : ls.length < 1000000) (hsum : sumPay ls < 1000000000)
    (hFL : ∀ y ∈ FL, y < A0.next) (hA : A.next + 10 ≤ maxId)
    (hk : ∀ A' sv' Fs', Mid A0 A' q L f FL vL FL' n59 sv' Fs' (asm (ls.take (i + 1))) → OwnG A' 45 8 v8 ls.length (frCells ls) F8 → (∀ y ∈ Fs', y ∉ F8) → A'.next ≤ A.next + 2 →
      S 2 [.pointer (some ⟨q, 0, none⟩), .pointer (some ⟨A0.next, 0, none⟩), .pointer (some ⟨A0.next + 1, 0, none⟩), v8, .pointer (some ⟨n59, 0, none⟩), .int .i64 ((i + 1 : Nat) : Int)] A')
    : wpgo Try.prog theX W0 m0 16 T16 L16 S Q 4000 (tmOf 187 d) (T16 2) false 0 0 0 A := by
  have hi : i < ls.length := (List.getElem?_eq_some_iff.1 hx).1
  obtain ⟨p1, p2, p3⟩ := asm_facts hok i (by omega)
  have hat := asm_take hx
  have hst : sumPay (ls.take i) + slen x.pay ≤ sumPay ls := by
    rw [← sumPay_snoc hx]; exact sumPay_take _ _
  obtain ⟨r, o, g1, g2⟩ := (OwnG.rdFr h8).at hx
  rw [l16_2r]
  simp only [e8, e13, (OwnG.rdFr h8).len, pureW_some, bin_lss, forkW_dec, g1, fa_45_2, ld_4, g2.c2, forkW_bool]
  refine ⟨fun _ => ⟨fun hb => ?_, fun hb => ?_⟩, fun h => absurd (by omega : (i : Int) < (ls.length : Nat)) (by simpa using h)⟩
  · simp only [e12, fa_25_2, fa_45_4, ld_23, ld_5, cell_row hm.r59.row, asmCells, cellOf, hm.s.one.2, isT_int, cond_false, pureW_some, g2.c4, bd28, Nat.zero_add]
    refine bslice23 hm.fine (by omega) fun A1 m1 => ?_
    have n1 := m1.next
    have k1 := m1.keeps hm.fine
    have hm1 := hm.keeps hq k1 m1.fine (by simp)
    have h81 := h8.keeps k1 (by simp)
    refine freshW_seg m1.row ?_
    obtain ⟨r', o', g1', g2'⟩ := (OwnG.rdFr h81).at hx
    have hro : r' = r ∧ o' = o := by
      rw [g1] at g1'
      simp only [Option.some.injEq, Value.pointer.injEq, Addr.mk.injEq] at g1'
      exact ⟨g1'.1.symm, g1'.2.1.symm⟩
    obtain ⟨rfl, rfl⟩ := hro
    simp only [eqW_self, pureW_some, g2'.c4, cell_row hm1.r59.row, asmCells, cellOf, hm1.s.one.2, isT_int, cond_false]
    refine appendG (P := Try.prog) sl23 sz28 by28 hz28 (new := [.int .u8 x.ty, .string ByteArray.empty]) (m := 0) (by rw [src23, cells_row m1.row]; rfl) rfl rfl hm1.s m1.fine (by omega) (by unfold room; omega) (by unfold room; omega) fun v2 A2 F2 hv2 k2 hF2 n2 f2 => ?_
    obtain ⟨sa, sn, sc, rfl⟩ := OwnG.slice hv2
    have hl59 := hm1.r59.lt
    have r59 := hm1.r59.keeps k2 hm.s59
    have lFs := hm1.s.lt
    have lFL' := hm1.rL.lt
    have lF8 := h81.lt
    refine r59.store f2 (by omega) (st_23 _ _ _) rfl (by simp [asmCells]) rfl fun A3 r59 k3 n3 f3 => ?_
    have r59 : Row1 A3 n59 (asmCells f.ch f.tr (.slice sa sn sc)) 25 := r59
    have sub2 : ∀ y ∈ F2, y ∈ Fs ∨ A1.next ≤ y := fun y hy => by
      rcases hF2 y hy with h | h
      · exact .inl h
      · exact .inr (by omega)
    have n259 : n59 ∉ F2 := fun hmm => by
      rcases sub2 _ hmm with h | h
      · exact hm.s59 h
      · omega
    have k23 : Keeps A1 A3 (n59 :: Fs) := (k2.more (T := n59 :: Fs) (fun y hy => .inl (by simp [hy]))).trans k3 (by simp)
    have nk : ∀ y, y ∉ Fs → y ≠ n59 → y ∉ n59 :: Fs := fun y h1 h2 => by simp [h1, h2]
    have hm3 : Mid A0 A3 q L f FL vL FL' n59 (.slice sa sn sc) F2 (begS (asm (ls.take i)) x) := by
      have hbs : begS (asm (ls.take i)) x = asm (ls.take i) ++ [⟨x.ty, ByteArray.empty⟩] := by simp [begS, hb]
      refine ⟨hm1.rq.keeps k23 (nk q (fun h => by have := hm1.sb q h; omega) (fun e => by have := hm1.b59; omega)), hm1.rL.keeps k23 (fun y hy => nk y (fun h => hm1.sL y h hy) (fun e => hm1.L59 (e ▸ hy))), hm1.subL, r59, hm1.b59, hm1.L59, ?_, fun y hy => ?_, fun y hy hy2 => ?_, n259,
        hm1.kk.trans k23 (fun y hy => ?_), by have := hm1.lo; omega, f3, hm1.r0.keeps k23 (nk _ (fun h => by have := hm1.sb _ h; omega) (fun e => by have := hm1.b59; omega)), hm1.r1.keeps k23 (nk _ (fun h => by have := hm1.sb _ h; omega) (fun e => by have := hm1.b59; omega))⟩
      · rw [hbs, List.length_append, segCells_append]
        exact hv2.keeps k3 (fun y hy => by simp only [List.mem_singleton]; exact fun e => n259 (e ▸ hy))
      · rcases sub2 y hy with h | h
        · exact hm1.sb y h
        · have := hm1.lo; omega
      · rcases sub2 y hy with h | h
        · exact hm1.sL y h hy2
        · have := lFL' y hy2; omega
      · rcases List.mem_cons.1 hy with rfl | hy
        · exact .inr (by have := hm1.b59; omega)
        · exact .inr (by have := hm1.sb y hy; omega)
    have h83 : OwnG A3 45 8 v8 ls.length (frCells ls) F8 := h81.keeps k23 (fun y hy => nk y (fun h => dis y h hy) (fun e => d59 (e ▸ hy)))
    have dis2 : ∀ y ∈ F2, y ∉ F8 := fun y hy h8y => by
      rcases sub2 y hy with h | h
      · exact dis y h h8y
      · have := lF8 y h8y; omega
    have hbs : begS (asm (ls.take i)) x = asm (ls.take i) ++ [⟨x.ty, ByteArray.empty⟩] := by simp [begS, hb]
    refine asmRest_ok (init := asm (ls.take i)) e8 e12 e13 hm3.r59 hm3.s hbs (OwnG.rdFr h83) hx (by simp [slen] at *; omega) (by omega) (by omega) f3 (by omega) fun A4 s4 k4 n4 f4 => ?_
    rw [e0, e3, e4]
    have hm4 : Mid A0 A4 q L f FL vL FL' n59 (.slice sa sn sc) F2 (asm (ls.take (i + 1))) := by
      have : asm (ls.take (i + 1)) = asm (ls.take i) ++ [⟨x.ty, catB ByteArray.empty x.pay⟩] := by
        rw [hat, asmStep, hbs, addLast_append]
      rw [this]
      have nq : ∀ y, y < A0.next + 3 → y ∉ F2 := fun y hy h => by have := hm3.sb y h; omega
      refine ⟨hm3.rq.keeps k4 (nq _ (by omega)), hm3.rL.keeps k4 (fun y hy h => hm3.sL y h hy), hm3.subL, hm3.r59.keeps k4 n259, hm3.b59, hm3.L59, ?_, hm3.sb, hm3.sL, n259, hm3.kk.trans k4 (fun y hy => .inr (by have := hm3.sb y hy; omega)), by have := hm3.lo; omega, f4, hm3.r0.keeps k4 (nq _ (by omega)), hm3.r1.keeps k4 (nq _ (by omega))⟩
      have hl : (asm (ls.take i) ++ [(⟨x.ty, catB ByteArray.empty x.pay⟩ : Seg)]).length = (begS (asm (ls.take i)) x).length := by rw [hbs]; simp
      rw [hl]
      exact s4
    exact hk A4 _ F2 hm4 (h83.keeps k4 (fun y hy h => dis2 y h hy)) dis2 (by omega)
  · have hi0 : 0 < i := by
      rcases Nat.eq_zero_or_pos i with rfl | h
      · have := hok x (by rw [← hx]; simp [List.head?_eq_getElem?])
        rw [this] at hb; cases hb
      · exact h
    obtain ⟨init, z, hz⟩ := snoc_of_ne (p3 hi0)
    have hbs : begS (asm (ls.take i)) x = init ++ [z] := by simp [begS, hb, hz]
    have hzl : slen z.pay ≤ total (asm (ls.take i)) := by rw [hz, total_append]; simp [total]
    have hil : init.length + 1 = (asm (ls.take i)).length := by rw [hz]; simp
    refine asmRest_ok (init := init) e8 e12 e13 hm.r59 hm.s hz (OwnG.rdFr h8) hx (by omega) (by omega) (by omega) hm.fine (by omega) fun A4 s4 k4 n4 f4 => ?_
    rw [e0, e3, e4]
    have hm4 : Mid A0 A4 q L f FL vL FL' n59 sv Fs (asm (ls.take (i + 1))) := by
      have : asm (ls.take (i + 1)) = init ++ [⟨z.ty, catB z.pay x.pay⟩] := by
        rw [hat, asmStep, hbs, addLast_append]
      rw [this]
      have nq : ∀ y, y < A0.next + 3 → y ∉ Fs := fun y hy h => by have := hm.sb y h; omega
      refine ⟨hm.rq.keeps k4 (nq _ (by omega)), hm.rL.keeps k4 (fun y hy h => hm.sL y h hy), hm.subL, hm.r59.keeps k4 hm.s59, hm.b59, hm.L59, ?_, hm.sb, hm.sL, hm.s59, hm.kk.trans k4 (fun y hy => .inr (by have := hm.sb y hy; omega)), by have := hm.lo; omega, f4, hm.r0.keeps k4 (nq _ (by omega)), hm.r1.keeps k4 (nq _ (by omega))⟩
      have hl : (init ++ [(⟨z.ty, catB z.pay x.pay⟩ : Seg)]).length = (asm (ls.take i)).length := by rw [hz]; simp
      rw [hl]
      exact s4
    exact hk A4 _ Fs hm4 (h8.keeps k4 (fun y hy h => dis y h hy)) dis (by omega)
end
end Go.Proofs.Yteiiledpfhopdaa

namespace Go.Proofs.Yteiiledpfhopdaa
open Go Go.Abs

def rests (l : List Fr) (f : Fr) : List Fr := l.filter (fun x => !sameKey f x)
theorem rests_take {L : List Fr} {i : Nat} {f x : Fr} (h : L[i]? = some x) : rests (L.take (i + 1)) f = rests (L.take i) f ++ (if sameKey f x then [] else [x]) := by
  unfold rests
  rw [List.take_add_one, h]
  cases hs : sameKey f x <;> simp [List.filter_append, List.filter_cons, hs]

section
variable {W0 : World} {m0 : Inj Try.prog}
/-- a step of the loop that keeps the others -/
theorem restLoop {A0 A : AW} {S : Nat → List Value → AW → Prop} {Q : Value → AW → Prop} {d : Nat → Value} {q : Nat} {L : List Fr} {f : Fr} {FL : List Nat} {vL : Value} {FL' : List Nat} {n59 : Nat} {sv : Value} {Fs : List Nat} {segs : List Seg} {v15 : Value} {F15 : List Nat} {i : Nat}
    (e0 : d 0 = .pointer (some ⟨q, 0, none⟩)) (e3 : d 3 = .pointer (some ⟨A0.next, 0, none⟩)) (e4 : d 4 = .pointer (some ⟨A0.next + 1, 0, none⟩)) (e12 : d 12 = .pointer (some ⟨n59, 0, none⟩)) (e15 : d 15 = v15) (e16 : d 16 = .int .i64 (i : Nat)) (hq : q < A0.next)
    (hm : Mid A0 A q L f FL vL FL' n59 sv Fs segs) (h15 : OwnG A 45 8 v15 (rests ((L ++ [f]).take i) f).length (frCells (rests ((L ++ [f]).take i) f)) F15) (b15 : ∀ y ∈ F15, A0.next + 3 ≤ y) (d59 : n59 ∉ F15) (dis : ∀ y ∈ Fs, y ∉ F15) (disL : ∀ y ∈ F15, y ∉ FL')
    (hi : i ≤ (L ++ [f]).length) (hbl : (L ++ [f]).length < 1000000) (hA : A.next + 10 ≤ maxId) (hqF : q ∉ FL')
    (hk : i < (L ++ [f]).length → ∀ A' v' F', Mid A0 A' q L f FL vL FL' n59 sv Fs segs → OwnG A' 45 8 v' (rests ((L ++ [f]).take (i + 1)) f).length (frCells (rests ((L ++ [f]).take (i + 1)) f)) F' → (∀ y ∈ F', A0.next + 3 ≤ y) → n59 ∉ F' → (∀ y ∈ Fs, y ∉ F') → (∀ y ∈ F', y ∉ FL') → A'.next ≤ A.next + 2 →
      S 4 [.pointer (some ⟨q, 0, none⟩), .pointer (some ⟨A0.next, 0, none⟩), .pointer (some ⟨A0.next + 1, 0, none⟩), .pointer (some ⟨n59, 0, none⟩), v', .int .i64 ((i + 1 : Nat) : Int)] A')
    (hend : ∀ A', IsQ A' q ⟨rests (L ++ [f]) f, false⟩ (q :: F15) → OwnG A' 28 2 sv segs.length (segCells segs) Fs → Keeps A0 A' (q :: FL) → A'.next ≤ A.next → Fine A' → Q (.tuple ⟨[asmVal f.ch f.tr sv, .bool true, .int .i64 0]⟩) A') :
    wpgo Try.prog theX W0 m0 16 T16 L16 S Q 4000 (tmOf 187 d) (T16 4) false 0 0 0 A := by
  have hrL := OwnG.rdFr hm.rL
  have hw : IntKind.i64.wrap ((i : Int) + 1) = ((i + 1 : Nat) : Int) := by rw [wrap_i64 (by omega) (by omega)]; omega
  rw [l16_4]
  simp only [e0, e3, e12, e15, e16, nilP_ptr, fa_43_0, ld_29, cell_row hm.rq.row, cellOf, hm.rL.one.2, cond_false, pureW_some, hrL.len, bin_lss, forkW_dec]
  refine ⟨fun hlt => ?_, fun hge => ?_⟩
  · have hlt : i < (L ++ [f]).length := by omega
    obtain ⟨x, hx⟩ : ∃ x, (L ++ [f])[i]? = some x := ⟨(L ++ [f])[i], List.getElem?_eq_getElem hlt⟩
    obtain ⟨r, o, g1, g2⟩ := hrL.at hx
    have hrt := rests_take (f := f) hx
    have app : sameKey f x = false → bothW (buildSliceA Try.prog A 29 1 [(0, x.val)]) fun t19 At19 => bothW (appendA Try.prog At19 29 29 v15 t19) fun t20 At20 => cutW (T16 4) (T16 4) (S 4 [.pointer (some ⟨q, 0, none⟩), .pointer (some ⟨A0.next, 0, none⟩), d 4, .pointer (some ⟨n59, 0, none⟩), t20, .int .i64 ((i + 1 : Nat) : Int)] At20) := by
      intro hsk
      rw [hsk] at hrt
      simp only [Bool.false_eq_true, if_false] at hrt
      refine bslice_made hm.fine (by omega) fun A1 m1 => ?_
      have n1 := m1.next
      have k1 := m1.keeps hm.fine
      have hl : (rests ((L ++ [f]).take i) f).length ≤ i := by
        have := List.length_filter_le (fun x => !sameKey f x) ((L ++ [f]).take i)
        unfold rests
        rw [List.length_take] at this
        omega
      refine appendG (P := Try.prog) sl29 sz45 by45 hz45 (new := x.cells) (m := 0) (by rw [src29, cells_row m1.row]; rfl) rfl rfl (h15.keeps k1 (by simp)) m1.fine (by omega) (by unfold room; omega) (by unfold room; omega) fun v2 A2 F2 hv2 k2 hF2 n2 f2 => ?_
      have k12 : Keeps A A2 F15 := (k1.more (T := F15) (by simp)).trans k2 (fun y hy => .inl hy)
      have sub2 : ∀ y ∈ F2, y ∈ F15 ∨ A1.next ≤ y := fun y hy => by
        rcases hF2 y hy with h | h
        · exact .inl h
        · exact .inr (by omega)
      have hlo := hm.lo
      have l59 := hm.r59.lt
      have lFs := hm.s.lt
      have lFL' := hm.rL.lt
      rw [e4]
      refine cutW_self.2 (hk hlt A2 v2 F2 (hm.keeps hq k12 f2 (fun y hy => ⟨b15 y hy, disL y hy, fun e => d59 (e ▸ hy), fun h => dis y h hy⟩)) ?_ (fun y hy => ?_) (fun h => ?_) (fun y hy h => ?_) (fun y hy h => ?_) (by omega))
      · rw [hrt, List.length_append, frCells_append]; exact hv2
      · rcases sub2 y hy with h | h
        · exact b15 y h
        · omega
      · rcases sub2 _ h with h | h
        · exact d59 h
        · omega
      · rcases sub2 y h with h | h
        · exact dis y hy h
        · have := lFs y hy; omega
      · rcases sub2 y hy with h2 | h2
        · exact disL y h2 h
        · have := lFL' y h; omega
    have skip : sameKey f x = true → cutW (T16 4) (T16 4) (S 4 [.pointer (some ⟨q, 0, none⟩), .pointer (some ⟨A0.next, 0, none⟩), d 4, .pointer (some ⟨n59, 0, none⟩), v15, .int .i64 ((i + 1 : Nat) : Int)] A) := by
      intro hsk
      rw [hsk] at hrt
      simp only [if_true, List.append_nil] at hrt
      rw [e4]
      exact cutW_self.2 (hk hlt A v15 F15 hm (by rw [hrt]; exact h15) b15 d59 dis disL (by omega))
    simp only [g1, fa_45_6, fa_45_5, ld_22, ld_5, g2.c6, g2.c5, g2.ld, cell_row hm.r0.row, Fr.cells, cellOf, isTuple, cond_false, pureW_some, bin_neq, forkW_bne, bin_add, hw, Nat.zero_add]
    refine ⟨fun h1 => app (by simp [sameKey, h1]), fun h1 => ⟨fun h2 => app (by simp [sameKey, h2]), fun h2 => skip (by simp [sameKey, h1, h2])⟩⟩
  · have hi : i = (L ++ [f]).length := by omega
    subst hi
    rw [List.take_length] at h15
    have l59 := hm.r59.lt
    have hb59 := hm.b59
    obtain ⟨sa, sn, sc, rfl⟩ := OwnG.slice h15
    simp only [e4]
    refine hm.rq.store hm.fine (by omega) (st_29 _ _ _) rfl (by simp) rfl fun A1 rq k1 n1 f1 => ?_
    have rq : Row1 A1 q [.slice sa sn sc, .bool false] 43 := rq
    have nq : ∀ y, A0.next ≤ y → y ∉ [q] := fun y h => by simp only [List.mem_singleton]; omega
    have r59 := hm.r59.keeps k1 (nq _ (by omega))
    have r1 := hm.r1.keeps k1 (nq _ (by omega))
    have h15 := h15.keeps k1 (fun y hy => nq y (by have := b15 y hy; omega))
    have hs := hm.s.keeps k1 (fun y hy => nq y (by have := hm.sb y hy; omega))
    simp only [ld_25, cells_row r59.row, asmCells, List.drop_zero, takeCells, hs.one.2, isT_int, cond_false, pureW_some]
    obtain ⟨ta, tn, tc, rfl⟩ := OwnG.slice hs
    refine r1.store f1 (by omega) (st_25 _ _ _) rfl (by simp [asmCells, Value.cells]) rfl fun A2 a2 k2 n2 f2 => ?_
    have a2 : Row1 A2 (A0.next + 1) (asmCells f.ch f.tr (.slice ta tn tc)) 25 := a2
    simp only [cells_row a2.row, asmCells, List.drop_zero, takeCells, isT_int, isT_slice, cond_false, pureW_some]
    have k12 : Keeps A0 A2 (q :: FL) := (hm.kk.trans k1 (by simp)).trans k2 (by simp)
    have nb : ∀ y, A0.next + 3 ≤ y → y ∉ [A0.next + 1] := fun y h => by simp only [List.mem_singleton]; omega
    refine hend A2 ⟨.slice sa sn sc, F15, rfl, ?_, rq.keeps k2 (by simp; omega), h15.keeps k2 (fun y hy => nb y (b15 y hy))⟩ (hs.keeps k2 (fun y hy => nb y (hm.sb y hy))) k12 (by omega) f2
    simp only [List.nodup_cons]
    exact ⟨fun h => by have := b15 q h; omega, h15.nodup⟩
end
end Go.Proofs.Yteiiledpfhopdaa
