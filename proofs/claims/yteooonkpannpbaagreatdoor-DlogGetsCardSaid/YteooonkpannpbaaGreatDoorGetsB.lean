/-
  The program's Get; the document's reader. Conditions: those of each theorem.
-/
import Derived.Test.YteooonkpannpbaaGreatDoorGetsA

namespace Go.Proofs.YteooonkpannpbaaGreatDoor
open Go.Abs

/-- what Get tells of a text -/
def gok (l : List UInt8) : Bool := dcOk (l, false) && ((dcS (l, false)).1.length == 0)
def gF (l : List UInt8) : Nat := if gok l = true then rnF (l, false) else 0
def gG (l : List UInt8) : List UInt8 := if gok l = true then rnG (l, false) else []
def gB (l : List UInt8) : List UInt8 := if gok l = true then rnB (l, false) else []
def gPs (l : List UInt8) : List Pt := if gok l = true then dcP (l, false) else []
def gE (l : List UInt8) : Int := if gok l = true then 0 else 260

section
variable {W0 : World} {m0 : Inj Tryz.prog}
theorem store27 {A : AW} {t f : Nat} {g b : ByteArray} {sv : Value} {zs : List Value} {K : AW → Prop} (ht : Row1 A t zs 27) (hz : zs.length = 4) (hs : oneCell sv = true) (hf : Fine A) (hA : A.next ≤ maxId)
    (hk : ∀ A', Row1 A' t (decCells f g b sv) 27 → Keeps A A' [t] → A'.next = A.next → Fine A' → K A') : effW (storeP Tryz.prog A 27 (.pointer (some ⟨t, 0, none⟩)) (decV f g b sv)) K := by
  have hset : setL zs 0 (decV f g b sv).cells.toList = decCells f g b sv := by
    match zs, hz with
    | [z0, z1, z2, z3], _ => rfl
  refine ht.store hf hA (st_27 _ _ _) rfl (by rw [hz]; exact Nat.le_refl 4) (by simp [decV, decCells, Value.cells, one_int, one_string, hs]) fun A3 t3 k3 n3 f3 => ?_
  rw [hset] at t3
  exact hk A3 t3 k3 n3 f3
def nilV : Value := decV 0 ⟨⟨[]⟩⟩ ⟨⟨[]⟩⟩ (.slice none 0 0)
theorem ba27n : buildA Tryz.prog 27 [] = some nilV := ba27
theorem RdPt.nil (A : AW) : RdPt A (.slice none 0 0) [] [] := .inl ⟨rfl, rfl, _, _, rfl⟩

theorem wc9 {s : ByteArray} {A : AW} {K : Value → AW → Prop} (hf : Fine A) (hA : A.next + 7000 < maxId) (hs : s.data.toList.length < 1000000)
    (hk : ∀ A' sv Fp, RdPt A' sv (gPs s.data.toList) Fp → (∀ y ∈ Fp, A.next ≤ y) → Keeps A A' [] → A'.next ≤ A.next + 6000 → Fine A' → K (.tuple ⟨[decV (gF s.data.toList) ⟨⟨gG s.data.toList⟩⟩ ⟨⟨gB s.data.toList⟩⟩ sv, .int .i64 (gE s.data.toList)]⟩) A') : Wc Tryz.prog theX W0 m0 9 [.string s] A K := by
  have bad : ∀ A' , gok s.data.toList = false → Keeps A A' [] → A'.next ≤ A.next + 6000 → Fine A' → K (.tuple ⟨[nilV, .int .i64 260]⟩) A' := fun A' hb k n f => by
    have := hk A' (.slice none 0 0) [] (by unfold gPs; rw [hb]; exact .nil _) (by simp) k n f
    unfold gF gG gB gE at this
    rw [hb] at this
    exact this
  refine w9 _ _ (cuts_none (S := fun _ _ _ => False) fun _ _ _ h => h) ?_
  rw [e9]
  refine allocP_made zero27 hf (by omega) rfl fun A1 m1 => ?_
  have n1 := m1.next
  refine conv_bytes m1.fine (by omega) fun A2 g2 s2 => ?_
  have n2 := g2.next
  have l2 := g2.le
  refine wc25 s2 g2.fine (by omega) hs fun A3 r v F3 g3 o3 hr3 hv3 hF3 => ?_
  have n3 := g3.next
  have l3 := g3.le
  have R3 := (m1.row1.keeps g2.keeps (by simp)).keeps g3.keeps (by simp)
  have vlt : v < A3.next := by obtain ⟨bs, h1, _⟩ := o3.ex; exact h1.lt
  refine wc26 (s := (s.data.toList, false)) o3 g3.fine (by omega) hs fun A4 sv Fp F4 o4 p4 hp4 k4 n4 f4 hF4 _ => ?_
  have l4 := k4.next
  have R4 := R3.keeps k4 (by simp; omega)
  simp only [extractP, List.getElem?_cons_zero, List.getElem?_cons_succ, pureW_some]
  refine allocP_made zero27 f4 (by omega) rfl fun A5 m5 => ?_
  have n5 := m5.next
  refine store27 m5.row1 rfl p4.one.1 m5.fine (by omega) fun A6 t6 k6 n6 f6 => ?_
  have R6 := (R4.keeps (m5.keeps f4) (by simp)).keeps k6 (by simp; omega)
  have hFp : ∀ y ∈ Fp, y < A4.next := p4.fam (A0 := A4)
  have p6 := (p4.keeps (m5.keeps f4) (by simp)).keeps k6 (fun y hy => by have := hFp y hy; simp; omega)
  have K3 : Keeps A A3 [] := ((m1.keeps hf).trans g2.keeps (by simp)).trans g3.keeps (by simp)
  have K6 : Keeps A A6 [] := ((K3.trans k4 (by simp; omega)).trans (m5.keeps f4) (by simp)).trans k6 (by simp; omega)
  have hle6 := K6.next
  simp only [un_not, pureW_some]
  refine forkW_bool.2 ⟨fun hb => ?_, fun hb => ?_⟩
  · have hg : gok s.data.toList = false := by unfold gok; rw [show dcOk (s.data.toList, false) = false by simpa using hb]; rfl
    rw [ba27n]
    simp only [pureW_some]
    refine store27 R6 rfl rfl f6 (by omega) fun A7 t7 k7 n7 f7 => ?_
    rw [load27 t7 rfl]
    simp only [pureW_some]
    exact bad A7 hg (K6.trans k7 (by simp)) (by omega) f7
  · have hok : dcOk (s.data.toList, false) = true := by simpa using hb
    have o6 := (o4.keeps (m5.keeps f4) (by simp) (by simp) (by simp)).keeps k6 (by simp; have := o4.rr.lt; omega) (by simp; omega) (fun y hy => by obtain ⟨bs, _, h2⟩ := o4.ex; have := h2.rd.lt y hy; simp; omega)
    refine wc27 o6 ?_
    simp only [bin_gtr, pureW_some, forkW_dec]
    refine ⟨fun hgt => ?_, fun hle => ?_⟩
    · have hg : gok s.data.toList = false := by
        unfold gok
        rw [hok, Bool.true_and]
        exact beq_false_of_ne (by omega)
      rw [ba27n]
      simp only [pureW_some]
      refine store27 R6 rfl rfl f6 (by omega) fun A7 t7 k7 n7 f7 => ?_
      rw [load27 t7 rfl]
      simp only [pureW_some]
      exact bad A7 hg (K6.trans k7 (by simp)) (by omega) f7
    · have hg : gok s.data.toList = true := by
        unfold gok
        rw [hok, Bool.true_and, beq_iff_eq]
        omega
      rw [load27 t6 p4.one.2]
      simp only [pureW_some]
      refine store27 R6 rfl p4.one.1 f6 (by omega) fun A7 t7 k7 n7 f7 => ?_
      rw [load27 t7 p4.one.2]
      simp only [pureW_some]
      have := hk A7 sv Fp (by unfold gPs; rw [hg, if_pos rfl]; exact p6.keeps k7 (fun y hy => by have := hp4 y hy; simp; omega)) (fun y hy => by have := hp4 y hy; omega) (K6.trans k7 (by simp)) (by omega) f7
      unfold gF gG gB gE at this
      rw [hg, if_pos rfl, if_pos rfl, if_pos rfl, if_pos rfl] at this
      exact this
end

/-! the document's reader -/
structure RR (A : AW) (p : Nat) (l : List UInt8) (bad : Bool) (F : List Nat) : Prop where
  ex : ∃ bs, Row1 A p [bs, .bool bad] 109 ∧ RdS 5 A bs l F
  hb : bad = true → l = []
  hp : p ∉ F
theorem RR.keeps {A A' : AW} {p : Nat} {l : List UInt8} {bad : Bool} {F S : List Nat} (h : RR A p l bad F) (k : Keeps A A' S) (hp : p ∉ S) (hd : ∀ x ∈ F, x ∉ S) : RR A' p l bad F := by
  obtain ⟨bs, h1, h2⟩ := h.ex
  exact ⟨⟨bs, h1.keeps k hp, h2.keeps k hd⟩, h.hb, h.hp⟩
theorem RR.lt {A : AW} {p : Nat} {l : List UInt8} {bad : Bool} {F : List Nat} (h : RR A p l bad F) : p < A.next ∧ ∀ y ∈ F, y < A.next := by
  obtain ⟨bs, h1, h2⟩ := h.ex
  exact ⟨h1.lt, h2.rd.lt⟩

section
variable {W0 : World} {m0 : Inj Tryz.prog}
theorem wc100 {A : AW} {p : Nat} {l : List UInt8} {bad : Bool} {F : List Nat} {K : Value → AW → Prop} (h : RR A p l bad F) (hf : Fine A) (hA : A.next < maxId) (hk : ∀ A', RR A' p [] true [] → Keeps A A' [p] → A'.next = A.next → Fine A' → K (.tuple ⟨[]⟩) A') : Wc Tryz.prog theX W0 m0 100 [.pointer (some ⟨p, 0, none⟩)] A K := by
  obtain ⟨bs, h1, h2⟩ := h.ex
  refine w100 _ _ (cuts_none (S := fun _ _ _ => False) fun _ _ _ h => h) ?_
  rw [e100]
  simp only [nilP_some, fa_109_0, fa_109_1, pureW_some, Nat.zero_add]
  refine h1.store hf (by omega) (st_4 _ _ _) rfl (by simp) rfl fun A2 r2 k2 n2 f2 => ?_
  have r2 : Row1 A2 p [bs, .bool true] 109 := r2
  refine r2.store f2 (by omega) (st_55 _ _ _) rfl (by simp) rfl fun A3 r3 k3 n3 f3 => ?_
  have r3 : Row1 A3 p [.slice none 0 0, .bool true] 109 := r3
  exact hk A3 ⟨⟨_, r3, .nil _ _⟩, fun _ => rfl, by simp⟩ (k2.trans k3 (fun x hx => .inl hx)) (by omega) f3

theorem wc59 {A : AW} {p : Nat} {s : St} {F : List Nat} {n : Nat} {K : Value → AW → Prop} (h : RR A p s.1 s.2 F) (hf : Fine A) (hA : A.next + 4 < maxId) (hl : s.1.length < 1000000) (hn : n < 1000000)
    (hk : ∀ A' x F' Fo, RR A' p (tk n s).2.1 (tk n s).2.2 F' → RdS 5 A' x (tk n s).1 Fo → Keeps A A' [p] → A'.next ≤ A.next + 2 → Fine A' → (∀ y ∈ F', y ∈ F) → (∀ y ∈ Fo, A.next ≤ y) → K x A') : Wc Tryz.prog theX W0 m0 59 [.pointer (some ⟨p, 0, none⟩), .int .i64 (n : Int)] A K := by
  have hroom : room = 68719476736 := rfl
  obtain ⟨l, bad⟩ := s
  have h : RR A p l bad F := h
  obtain ⟨bs, h1, h2⟩ := h.ex
  refine w59 _ _ _ (cuts_none (S := fun _ _ _ => False) fun _ _ _ h => h) ?_
  rw [e59]
  have spoil : (bad = true ∨ l.length < n) → Wc Tryz.prog theX W0 m0 100 [.pointer (some ⟨p, 0, none⟩)] A fun _ A' => K (.slice none 0 0) A' := fun hb => by
    refine wc100 h hf (by omega) fun A' o' k' n' f' => ?_
    have e : tk n (l, bad) = ([], ([], true)) := by unfold tk; rw [if_pos hb]
    rw [e] at hk
    exact hk A' (.slice none 0 0) [] [] o' (.nil _ _) k' (by omega) f' (by simp) (by simp)
  simp only [nilP_some, fa_109_0, fa_109_1, ld_4, ld_55, cell_row h1.row, cellOf, h2.rd.one.2, isT_bool, cond_false, h2.rd.len tb, bin_lss, bin_gtr, pureW_some, forkW_dec, Nat.zero_add]
  refine forkW_bool.2 ⟨fun hb => spoil (.inl hb), fun hb => ⟨fun h => by omega, fun _ => ⟨fun h => spoil (.inr (by omega)), fun hle => ?_⟩⟩⟩
  have hle : n ≤ l.length := by omega
  obtain ⟨x1, hx1, s1⟩ := h2.to tb hle
  have e : tk n (l, bad) = (l.take n, (l.drop n, false)) := by unfold tk; rw [if_neg (by simp [hb]; omega)]
  rw [e] at hk
  simp only [hx1, pureW_some]
  refine appendBuf tb (Buf.nil 5 A) (src_slice tb s1.rd) hf (by omega) (by rw [List.length_take]; simp; omega) fun x2 A2 F2 b2 k2 hF2 n2 f2 => ?_
  rw [List.nil_append] at b2
  have q2 := h1.keeps k2 (by simp)
  have t2 := h2.keeps k2 (by simp)
  obtain ⟨x3, hx3, s3⟩ := t2.from tb hle
  simp only [ld_55, cell_row q2.row, cellOf, h2.rd.one.2, cond_false, hx3, pureW_some]
  obtain ⟨o3, c3, hx⟩ := s3.rd.slice
  refine q2.store f2 (by omega) (st_55 _ _ _) (by rw [hx]; rfl) (by simp) (by rw [hx]; rfl) fun A3 r3 k3 n3 f3 => ?_
  have r3 : Row1 A3 p [x3, .bool bad] 109 := by rw [hx] at r3 ⊢; exact r3
  rw [hb] at r3
  have hpF := h.hp
  have hF2' : ∀ y ∈ F2, A.next ≤ y := fun y hy => by
    rcases hF2 y hy with h | h
    · simp at h
    · exact h
  have hplt := h1.lt
  refine hk A3 x2 F F2 ⟨⟨x3, r3, s3.keeps k3 fun y hy => by simp; intro h0; subst h0; exact hpF hy⟩, by simp, h.hp⟩ (b2.rdS.keeps k3 fun y hy => by have := hF2' y hy; simp; omega) ?_ (by omega) f3 (fun y hy => hy) hF2'
  exact k2.more (by simp) |>.trans k3 (fun y hy => .inl hy)

theorem wc57 {A : AW} {p : Nat} {s : St} {F : List Nat} {w : Nat} {K : Value → AW → Prop} (h : RR A p s.1 s.2 F) (hf : Fine A) (hA : A.next + 4 < maxId) (hl : s.1.length < 1000000) (hw : w = 1 ∨ w = 2 ∨ w = 4 ∨ w = 8)
    (hk : ∀ A' F', RR A' p (nm w s).2.1 (nm w s).2.2 F' → Keeps A A' [p] → A'.next ≤ A.next + 2 → Fine A' → (∀ y ∈ F', y ∈ F) → K (.int .u64 ((nm w s).1 : Int)) A') : Wc Tryz.prog theX W0 m0 57 [.pointer (some ⟨p, 0, none⟩), .int .i64 (w : Int)] A K := by
  have hlen := tk_len w s
  let I : Nat → Nat → List Value → AW → Prop := fun g' id vals A' => id = 0 ∧ ∃ (i : Nat) (x : Value) (F' Fo : List Nat), vals = [x, .int .u64 (beval ((tk w s).1.take i) : Nat), .int .i64 (i : Int)] ∧ i ≤ (tk w s).1.length ∧
    RdS 5 A' x (tk w s).1 Fo ∧ RR A' p (tk w s).2.1 (tk w s).2.2 F' ∧ Keeps A A' [p] ∧ A'.next ≤ A.next + 2 ∧ Fine A' ∧ (∀ y ∈ F', y ∈ F) ∧ g' = (tk w s).1.length - i
  refine w57 _ _ _ (c57 (I := I) ?_) ?_
  · rintro g' id vals A' d ⟨rfl, i, x, F', Fo, rfl, hi, hx, ho, k, n, f, hF, rfl⟩ hd
    rw [l57_0]
    simp only [L57, List.map_cons, List.map_nil, List.cons.injEq, and_true] at hd
    obtain ⟨h5, h6, h7⟩ := hd
    simp only [h5, h6, h7, hx.rd.len tb, bin_lss, pureW_some, forkW_dec]
    refine ⟨fun hlt => ?_, fun hge => ?_⟩
    · have hlt : i < (tk w s).1.length := by omega
      obtain ⟨c, hc⟩ : ∃ c, (tk w s).1[i]? = some c := ⟨_, List.getElem?_eq_getElem hlt⟩
      obtain ⟨a, a1, a2⟩ := hx.rd.at tb hc
      have hcl : c.toNat < 256 := c.toNat_lt
      have hb1 := beval_lt ((tk w s).1.take (i + 1))
      have e1 : (tk w s).1.take (i + 1) = (tk w s).1.take i ++ [c] := by rw [List.take_add_one, hc]; rfl
      rw [e1, beval_snoc] at hb1
      have hp : (256 : Nat) ^ ((tk w s).1.take i ++ [c]).length ≤ 256 ^ 8 := Nat.pow_le_pow_right (by decide) (by rw [← e1, List.length_take]; omega)
      have hp8 : (256 : Nat) ^ 8 = 18446744073709551616 := by decide
      simp only [a1, a2, pureW_some, cv_5_102, bothW_ok, bin_add, bin_mul]
      rw [wrap_u64 (n := 256 * (beval ((tk w s).1.take i) : Int)) (by omega) (by omega), wrap_u64 (n := (c.toNat : Int)) (by omega) (by omega), wrap_u64 (by omega) (by omega), wrap_i64 (by omega) (by omega)]
      refine cutW_self.2 ⟨(tk w s).1.length - (i + 1), by omega, rfl, i + 1, x, F', Fo, ?_, by omega, hx, ho, k, n, f, hF, rfl⟩
      have e9 : 256 * (beval ((tk w s).1.take i) : Int) + (c.toNat : Int) = ((beval ((tk w s).1.take i) * 256 + c.toNat : Nat) : Int) := by omega
      rw [e1, beval_snoc, e9]
      rfl
    · have hi : i = (tk w s).1.length := by omega
      subst hi
      rw [List.take_length]
      exact hk A' F' ho k n f hF
  · rw [e57]
    refine wc99 ?_
    have hb : ((w : Int) == 1 || ((w : Int) == 2 || ((w : Int) == 4 || (w : Int) == 8))) = true := by rcases hw with rfl | rfl | rfl | rfl <;> rfl
    rw [hb]
    simp only [un_not, pureW_some]
    refine forkW_bool.2 ⟨fun h => by simp at h, fun _ => ?_⟩
    refine wc59 h hf hA hl (by omega) fun A' x F' Fo ho hx k n f hF hFo => ?_
    exact cutW_self.2 ⟨(tk w s).1.length, rfl, 0, x, F', Fo, rfl, Nat.zero_le _, hx, ho, k, n, f, hF, rfl⟩

theorem wc101 {A : AW} {p : Nat} {s : St} {F : List Nat} {K : Value → AW → Prop} (h : RR A p s.1 s.2 F) (hf : Fine A) (hA : A.next + 8 < maxId) (hl : s.1.length < 1000000)
    (hk : ∀ A' F', RR A' p (tx1 s).2.1 (tx1 s).2.2 F' → Keeps A A' [p] → A'.next ≤ A.next + 4 → Fine A' → (∀ y ∈ F', y ∈ F) → K (.string ⟨⟨(tx1 s).1⟩⟩) A') : Wc Tryz.prog theX W0 m0 101 [.pointer (some ⟨p, 0, none⟩), .int .i64 1, .int .i64 255] A K := by
  refine w101 _ _ _ _ (cuts_none (S := fun _ _ _ => False) fun _ _ _ h => h) ?_
  rw [e101]
  simp only [bin_neq, pureW_some, forkW_bne]
  refine ⟨fun h => by omega, fun _ => ?_⟩
  refine wc57 (w := 1) h hf (by omega) hl (by omega) fun A1 F1 o1 k1 n1 f1 hF1 => ?_
  have hv1 : (nm 1 s).1 < 256 := nm_lt 1 s
  have hl1 := nm_shrink 1 s
  have spoil : ((nm 1 s).2.2 = true ∨ (nm 1 s).2.1.length < (nm 1 s).1) → Wc Tryz.prog theX W0 m0 100 [.pointer (some ⟨p, 0, none⟩)] A1 fun _ A' => K (.string ⟨⟨[]⟩⟩) A' := fun hb => by
    refine wc100 o1 f1 (by omega) fun A' o' k' n' f' => ?_
    have e : tx1 s = ([], ([], true)) := by unfold tx1; rw [if_pos hb]
    rw [e] at hk
    exact hk A' [] o' (k1.trans k' (fun y hy => .inl hy)) (by omega) f' (by simp)
  obtain ⟨bs, q1, q2⟩ := o1.ex
  simp only [nilP_some, fa_109_0, fa_109_1, ld_4, ld_55, cell_row q1.row, cellOf, q2.rd.one.2, isT_bool, cond_false, q2.rd.len tb, pureW_some, Nat.zero_add]
  refine forkW_bool.2 ⟨fun hb => spoil (.inl hb), fun hb => ?_⟩
  simp only [bin_lss, pureW_some, forkW_dec, cv_3_102, bothW_ok, bin_gtr]
  rw [wrap_u64 (n := 255) (by decide) (by decide)]
  refine ⟨fun h => by omega, fun _ => ⟨fun h => by omega, fun _ => ?_⟩⟩
  simp only [ld_55, cell_row q1.row, cellOf, q2.rd.one.2, cond_false, q2.rd.len tb, pureW_some, cv_3_102, bothW_ok]
  rw [wrap_u64 (by omega) (by omega)]
  simp only [bin_gtr, pureW_some, forkW_dec]
  refine ⟨fun h => spoil (.inr (by omega)), fun hle => ?_⟩
  have hle : (nm 1 s).1 ≤ (nm 1 s).2.1.length := by omega
  simp only [cv_102_3, bothW_ok]
  rw [wrap_i64 (by omega) (by omega)]
  have e : tx1 s = ((nm 1 s).2.1.take (nm 1 s).1, ((nm 1 s).2.1.drop (nm 1 s).1, false)) := by unfold tx1; rw [if_neg (by simp [hb]; omega)]
  have et : tk (nm 1 s).1 (nm 1 s).2 = ((nm 1 s).2.1.take (nm 1 s).1, ((nm 1 s).2.1.drop (nm 1 s).1, false)) := by unfold tk; rw [if_neg (by simp [hb]; omega)]
  refine wc59 (s := (nm 1 s).2) (n := (nm 1 s).1) o1 f1 (by omega) (by omega) (by omega) fun A2 x2 F2 Fo o2 x2s k2 n2 f2 hF2 hFo => ?_
  rw [et] at o2 x2s
  rw [e] at hk
  simp only [x2s.rd.str tb, bothW_ok]
  exact hk A2 F2 o2 (k1.trans k2 (fun y hy => .inl hy)) (by omega) f2 (fun y hy => hF1 y (hF2 y hy))

theorem wc56 {A : AW} {x : Value} {l : List UInt8} {F : List Nat} {K : Value → AW → Prop} (h : RdB A x l F) (hf : Fine A) (hA : A.next + 6 < maxId) (hl : l.length < 1000000)
    (hk : ∀ A' p F', Grow A A' 2 → RR A' p l false F' → A.next ≤ p → (∀ y ∈ F', A.next ≤ y) → K (.pointer (some ⟨p, 0, none⟩)) A') : Wc Tryz.prog theX W0 m0 56 [x] A K := by
  have hroom : room = 68719476736 := rfl
  refine w56 _ _ (cuts_none (S := fun _ _ _ => False) fun _ _ _ h => h) ?_
  rw [e56]
  refine appendBuf tb (Buf.nil 5 A) (src_slice tb h) hf (by omega) (by simp; omega) fun x2 A2 F2 b2 k2 hF2 n2 f2 => ?_
  rw [List.nil_append] at b2
  have hF2' : ∀ y ∈ F2, A.next ≤ y := fun y hy => by
    rcases hF2 y hy with h | h
    · simp at h
    · exact h
  obtain ⟨o, c, e1⟩ := b2.rd.slice
  have hlt := b2.lt
  have l2 := k2.next
  rw [e1, ba109]
  simp only [pureW_some]
  rw [← e1]
  refine newP_made (cs := [x2, .bool false]) f2 (by omega) (by simp [b2.rd.one.1, one_bool]) fun A3 m3 => ?_
  have n3 := m3.next
  exact hk A3 A2.next F2 ⟨k2.trans (m3.keeps f2) (by simp), m3.fine, by omega⟩ ⟨⟨x2, m3.row1, b2.rdS.keeps (m3.keeps f2) (by simp)⟩, by simp, fun hm => by have := hlt _ hm; omega⟩ (by omega) hF2'
end
end Go.Proofs.YteooonkpannpbaaGreatDoor


namespace Go.Proofs.YteooonkpannpbaaGreatDoor
open Go.Abs

/-- the error of a name's reading -/
def xgE (l : List UInt8) : Int := if (rnS (l, false)).2 = true then 4 else xchk ⟨⟨rnG (l, false)⟩⟩ ⟨⟨rnB (l, false)⟩⟩
/-- how many bytes a name has -/
def xgN (l : List UInt8) : Nat := l.length - (rnS (l, false)).1.length

section
variable {W0 : World} {m0 : Inj Tryz.prog}
theorem store24 {A : AW} {t : Nat} {f : Int} {g b : ByteArray} {zs : List Value} {K : AW → Prop} (ht : Row1 A t zs 24) (hz : zs.length = 3) (hf : Fine A) (hA : A.next ≤ maxId)
    (hk : ∀ A', Row1 A' t [.int .u32 f, .string g, .string b] 24 → Keeps A A' [t] → A'.next = A.next → Fine A' → K A') : effW (storeP Tryz.prog A 24 (.pointer (some ⟨t, 0, none⟩)) (.agg ⟨[.int .u32 f, .string g, .string b]⟩)) K := by
  refine ht.store hf hA (st_24 _ _ _) rfl (by rw [hz]; exact Nat.le_refl 3) rfl fun A3 t3 k3 n3 f3 => ?_
  have e : setL zs 0 (Value.cells (.agg ⟨[.int .u32 f, .string g, .string b]⟩)).toList = [.int .u32 f, .string g, .string b] := by
    match zs, hz with
    | [z0, z1, z2], _ => rfl
  rw [e] at t3
  exact hk A3 t3 k3 n3 f3
theorem load24 {A : AW} {t : Nat} {f : Int} {g b : ByteArray} (h : Row1 A t [.int .u32 f, .string g, .string b] 24) : loadP Tryz.prog A 24 (.pointer (some ⟨t, 0, none⟩)) = some (.agg ⟨[.int .u32 f, .string g, .string b]⟩) := by
  rw [ld_24, cells_row h.row]
  rfl

theorem wc58 {A : AW} {x : Value} {l : List UInt8} {F : List Nat} {K : Value → AW → Prop} (h : RdB A x l F) (hf : Fine A) (hA : A.next + 40 < maxId) (hl : l.length < 1000000)
    (hk : ∀ A' (f : Nat) (g b : List UInt8) (n : Nat), Grow A A' 30 → (xgE l = 0 → f = rnF (l, false) ∧ g = rnG (l, false) ∧ b = rnB (l, false) ∧ n = xgN l) → K (.tuple ⟨[.agg ⟨[.int .u32 (f : Int), .string ⟨⟨g⟩⟩, .string ⟨⟨b⟩⟩]⟩, .int .i64 (n : Int), .int .i64 (xgE l)]⟩) A') : Wc Tryz.prog theX W0 m0 58 [x] A K := by
  have zero : ∀ A', Grow A A' 30 → xgE l ≠ 0 → K (.tuple ⟨[.agg ⟨[.int .u32 0, .string .empty, .string .empty]⟩, .int .i64 0, .int .i64 (xgE l)]⟩) A' := fun A' g he => hk A' 0 [] [] 0 g fun h0 => absurd h0 he
  obtain ⟨xa, xc, rfl⟩ := h.slice
  refine w58 _ _ (cuts_none (S := fun _ _ _ => False) fun _ _ _ h => h) ?_
  rw [e58]
  refine allocP_made zero24 hf (by omega) rfl fun A1 m1 => ?_
  have n1 := m1.next
  have T1 : Row1 A1 A.next [.int .u32 0, .string .empty, .string .empty] 24 := m1.row1
  refine wc56 (h.keeps (m1.keeps hf) (by simp)) m1.fine (by omega) hl fun A2 p F2 g2 o2 hp2 hF2 => ?_
  have n2 := g2.next
  have l2 := g2.le
  have T2 := T1.keeps g2.keeps (by simp)
  refine wc57 (s := (l, false)) (w := 4) o2 g2.fine (by omega) hl (by omega) fun A3 F3 o3 k3 n3 f3 hF3 => ?_
  have l3 := k3.next
  have s3 := nm_shrink 4 (l, false)
  have hn4 : (nm 4 (l, false)).1 < 4294967296 := nm_lt 4 (l, false)
  have hpn : A.next ∉ [p] := by simp; omega
  refine wc101 o3 f3 (by omega) (Nat.lt_of_le_of_lt s3 hl) fun A4 F4 o4 k4 n4 f4 hF4 => ?_
  have l4 := k4.next
  have s4 := tx1_shrink (nm 4 (l, false)).2
  refine wc101 o4 f4 (by omega) (Nat.lt_of_le_of_lt (Nat.le_trans s4 s3) hl) fun A5 F5 o5 k5 n5 f5 hF5 => ?_
  have l5 := k5.next
  have T5 := ((T2.keeps k3 hpn).keeps k4 hpn).keeps k5 hpn
  have g05 : Grow A A5 25 := by
    have a2 := (Grow.made m1 hf).trans g2
    exact (((a2.own k3 (by simp; omega) (m := 2) (by omega) f3).own k4 (by simp; omega) (m := 4) (by omega) f4).own k5 (by simp; omega) (m := 4) (by omega) f5).more (by omega)
  have o5 : RR A5 p (rnS (l, false)).1 (rnS (l, false)).2 F5 := o5
  obtain ⟨bs, q1, q2⟩ := o5.ex
  simp only [nilP_some, fa_109_0, fa_109_1, ld_4, cell_row q1.row, cellOf, q2.rd.one.2, isT_bool, cond_false, pureW_some, Nat.zero_add]
  refine forkW_bool.2 ⟨fun hb => ?_, fun hb => ?_⟩
  · have e4 : xgE l = 4 := by unfold xgE; rw [if_pos hb]
    rw [ba24]
    simp only [pureW_some]
    refine store24 T5 rfl f5 (by omega) fun A6 T6 k6 n6 f6 => ?_
    rw [load24 T6]
    simp only [pureW_some]
    have := zero A6 ((g05.own k6 (by simp) (m := 0) (by omega) f6).more (by omega)) (by rw [e4]; decide)
    rw [e4] at this
    exact this
  · have eE : xgE l = xchk ⟨⟨rnG (l, false)⟩⟩ ⟨⟨rnB (l, false)⟩⟩ := by unfold xgE; rw [if_neg (by simp [hb])]
    simp only [cv_102_22, bothW_ok]
    rw [wrap_u32 (by omega) (by omega), ba24x]
    simp only [pureW_some]
    refine allocP_made zero24 f5 (by omega) rfl fun A6 m6 => ?_
    have n6 := m6.next
    refine store24 m6.row1 rfl m6.fine (by omega) fun A7 X7 k7 n7 f7 => ?_
    have g07 : Grow A A7 26 := ((g05.trans (.made m6 f5)).own k7 (by simp; omega) (m := 0) (by omega) f7).more (by omega)
    have T7 := (T5.keeps (m6.keeps f5) (by simp)).keeps k7 (by simp; omega)
    have o7 := (o5.keeps (m6.keeps f5) (by simp) (by simp)).keeps k7 (by have := o5.lt.1; simp; omega) (fun y hy => by have := o5.lt.2 y hy; simp; omega)
    rw [load24 X7]
    simp only [pureW_some]
    refine wc49 (f := (rnF (l, false) : Int)) (g := ⟨⟨rnG (l, false)⟩⟩) (b := ⟨⟨rnB (l, false)⟩⟩) f7 (by omega) fun A8 g8 => ?_
    have n8 := g8.next
    have g08 := g07.trans g8
    have T8 := T7.keeps g8.keeps (by simp)
    have X8 := X7.keeps g8.keeps (by simp)
    have o8 := o7.keeps g8.keeps (by simp) (by simp)
    rw [← eE]
    simp only [bin_neq, pureW_some, forkW_bne]
    refine ⟨fun he => ?_, fun he => ?_⟩
    · have e40 : xgE l = 40 := by
        rcases xchk_cases ⟨⟨rnG (l, false)⟩⟩ ⟨⟨rnB (l, false)⟩⟩ with h0 | h0
        · rw [eE] at he; exact absurd h0 he
        · rw [eE]; exact h0
      rw [ba24]
      simp only [pureW_some]
      refine store24 T8 rfl g8.fine (by omega) fun A9 T9 k9 n9 f9 => ?_
      rw [load24 T9]
      simp only [pureW_some]
      have := zero A9 ((g08.own k9 (by simp) (m := 0) (by omega) f9).more (by omega)) he
      rw [e40] at this
      exact this
    · obtain ⟨bs8, r1, r2⟩ := o8.ex
      have hsh := rnS_shrink (l, false)
      have hsh : (rnS (l, false)).1.length ≤ l.length := hsh
      rw [load24 X8]
      simp only [ln_55, nilP_some, fa_109_0, ld_55, cell_row r1.row, cellOf, r2.rd.one.2, cond_false, r2.rd.len tb, bin_sub, pureW_some]
      refine store24 T8 rfl g8.fine (by omega) fun A9 T9 k9 n9 f9 => ?_
      have pl := o8.lt
      have o9 := o8.keeps k9 (by simp; omega) (fun y hy => by have := hF5 y hy; have := hF4 y this; have := hF3 y this; have := hF2 y this; simp; omega)
      obtain ⟨bs9, v1, v2⟩ := o9.ex
      have hbb : bs9 = bs8 := by
        have a := r1.keeps k9 (by simp; omega)
        have e := a.row
        rw [v1.row] at e
        simp at e
        exact e
      subst hbb
      rw [wrap_i64 (by omega) (by omega)]
      simp only [ln_55, ld_55, cell_row v1.row, cellOf, r2.rd.one.2, cond_false, v2.rd.len tb, pureW_some, eqW_self]
      rw [load24 T9]
      simp only [pureW_some]
      have := hk A9 (rnF (l, false)) (rnG (l, false)) (rnB (l, false)) (xgN l) ((g08.own k9 (by simp) (m := 0) (by omega) f9).more (by omega)) fun _ => ⟨rfl, rfl, rfl, rfl⟩
      have eN : ((l.length : Nat) : Int) - ((rnS (l, false)).1.length : Nat) = (xgN l : Int) := by unfold xgN; omega
      rw [eN]
      rw [he] at this
      exact this
end
end Go.Proofs.YteooonkpannpbaaGreatDoor


namespace Go.Proofs.YteooonkpannpbaaGreatDoor
open Go.Abs

def rN (l : List UInt8) : St := (tk (xgN l) (l, false)).2
def pt' (s : St) : Pt := ⟨(nm 1 s).1, rnF ((nm 1 s).2.1, false), ⟨⟨rnG ((nm 1 s).2.1, false)⟩⟩, ⟨⟨rnB ((nm 1 s).2.1, false)⟩⟩, 0⟩
def rps : Nat → St → List Pt → Option (List Pt × St)
  | 0, s, acc => some (acc, s)
  | k + 1, s, acc => if xgE (nm 1 s).2.1 = 0 then rps k (tk (xgN (nm 1 s).2.1) (nm 1 s).2).2 (acc ++ [pt' s]) else none
def rtk (l : List UInt8) : Option (List Pt × St) := if xgE l = 0 then (if 1 ≤ (nm 1 (rN l)).1 ∧ (nm 1 (rN l)).1 ≤ 8 then rps (nm 1 (rN l)).1 (nm 1 (rN l)).2 [] else none) else none
def tDone (l : List UInt8) (r : List Pt × St) : Option (List Pt × Nat) := if r.2.2 = false ∧ dchk (rnF (l, false)) ⟨⟨rnG (l, false)⟩⟩ ⟨⟨rnB (l, false)⟩⟩ r.1 = 0 then some (r.1, l.length - r.2.1.length) else none
def tOk (l : List UInt8) : Option (List Pt × Nat) := (rtk l).bind (tDone l)

def z0 : Pt := ⟨0, 0, .empty, .empty, 0⟩
theorem pcs_len (l : List Pt) : (pcs l).length = l.length * 5 := flat_length ptlen l
theorem pcs_app (a b : List Pt) : pcs (a ++ b) = pcs a ++ pcs b := by simp [pcs, flat]
theorem pcs_cons (p : Pt) (b : List Pt) : pcs (p :: b) = p.cells ++ pcs b := by simp [pcs, flat]
theorem zerosA_pcs : ∀ m, zerosA z0.cells m = pcs (List.replicate m z0)
  | 0 => rfl
  | m + 1 => by rw [zerosA, zerosA_pcs m, List.replicate_succ, pcs_cons]
theorem setL_pcs (a : List Pt) (p q : Pt) (b : List Pt) : setL (pcs (a ++ q :: b)) (a.length * 5) p.cells = pcs (a ++ p :: b) := by
  rw [pcs_app, pcs_cons, pcs_app, pcs_cons]
  have := setL_mid (pcs a) q.cells p.cells (pcs b) rfl
  rw [pcs_len] at this
  exact this
theorem pcs_one (l : List Pt) : (pcs l).all oneCell = true := by
  rw [List.all_eq_true]
  intro x hx
  simp only [pcs, flat, List.mem_flatMap] at hx
  obtain ⟨p, _, hp⟩ := hx
  simp only [Pt.cells, List.mem_cons, List.not_mem_nil, or_false] at hp
  rcases hp with rfl | rfl | rfl | rfl | rfl <;> rfl
theorem ms25 {A : AW} {m : Nat} {k k2 : IntKind} {K : Value → AW → Prop} (hf : Fine A) (h : A.next < maxId) (hm : 0 < m) (hm8 : m ≤ 8) (hk : ∀ A', Made A A' (pcs (List.replicate m z0)) 50 → K (.slice (some ⟨A.next, 0, none⟩) m m) A') : bothW (makeSliceA Tryz.prog A 25 (.int k (m : Int)) (.int k2 (m : Int))) K := by
  have hroom : room = 68719476736 := rfl
  have hz : zerosT Tryz.prog 50 5 m = some (pcs (List.replicate m z0)) := by
    unfold zerosT
    rw [beq_false.2 (show m * 5 ≠ 0 by omega), cond_false, zero50]
    show (bif Nat.beq 5 5 then some (zerosA z0.cells m) else none) = _
    rw [zerosA_pcs]; rfl
  have hnr : A.newRow (pcs (List.replicate m z0)) 50 = some (⟨A.next, 0, none⟩, A.push (.row (pcs (List.replicate m z0)) 50 A.next 0 false)) := by
    unfold AW.newRow AW.new
    simp only [pcs_one, cond_true, blt_true.2 h]
    rfl
  have e : makeSliceA Tryz.prog A 25 (.int k (m : Int)) (.int k2 (m : Int)) = .ok (.slice (some ⟨A.next, 0, none⟩) m m) (A.push (.row (pcs (List.replicate m z0)) 50 A.next 0 false)) := by
    show makeSliceA Tryz.prog A 25 (.int k (.ofNat m)) (.int k2 (.ofNat m)) = _
    unfold makeSliceA
    simp only [sl25, sz50, by50, ble_true.2 (Nat.le_refl m), blt_true.2 (show m < room by omega), blt_true.2 (show m * 56 < room by omega), Bool.and_self, cond_true, hz, hnr]
  rw [e]
  exact bothW_ok.2 (hk _ ⟨AW.push_ext _ h, rfl, by rw [AW.push_get _ h, if_pos rfl], hf.alone (Nat.le_refl _), hf.push _ h⟩)
theorem ia25 {b j m : Nat} (h : j < m) : indexAddrA Tryz.prog 25 (.slice (some ⟨b, 0, none⟩) m m) (.int .i64 (j : Int)) = some (.pointer (some ⟨b, j * 5, none⟩)) := by
  show indexAddrA Tryz.prog 25 _ (.int .i64 (.ofNat j)) = _
  rw [ia_25, blt_true.2 h, cond_true]
  unfold addA
  cases hb : Nat.beq (j * 5) 0 with
  | true => rw [cond_true, Nat.eq_of_beq_eq_true hb]
  | false => rw [cond_false, Nat.zero_add]
theorem rdPt_row {A : AW} {b : Nat} {l : List Pt} (h : Row1 A b (pcs l) 50) : RdPt A (.slice (some ⟨b, 0, none⟩) l.length l.length) l [b] := by
  refine .inr ⟨b, 0, _, _, _, b, 0, false, rfl, h.row, h.lt, rfl, fun i p hi => ?_⟩
  rw [Nat.zero_add]
  exact flat_drop ptlen l i p hi

section
variable {W0 : World} {m0 : Inj Tryz.prog}
noncomputable def takeTail (W0 : World) (m0 : Inj Tryz.prog) (Q : Value → AW → Prop) (d0 d2 d4 d5 : Value) (A : AW) : Prop := (pureW (nilP d5) fun t116 => pureW (fieldAddrA Tryz.prog 109 t116 1) fun t117 => pureW (loadP Tryz.prog A 4 t117) fun t118 => forkW t118 (pureW (buildA Tryz.prog 27 []) fun t119 => effW (storeP Tryz.prog A 27 d2 t119) fun At120 => pureW (loadP Tryz.prog At120 27 d2) fun t121 => Q (.tuple ⟨[t121, (.int .i64 0)]⟩) At120) (pureW (loadP Tryz.prog A 27 d4) fun t122 => Wc Tryz.prog theX W0 m0 21 [t122] A fun t123 At123 => pureW (binA Tryz.prog .neq 3 (.tmp 77) (.const (.int .i64 0)) t123 (.int .i64 0)) fun t124 => forkW t124 (pureW (buildA Tryz.prog 27 []) fun t125 => effW (storeP Tryz.prog At123 27 d2 t125) fun At126 => pureW (loadP Tryz.prog At126 27 d2) fun t127 => Q (.tuple ⟨[t127, (.int .i64 0)]⟩) At126) (pureW (loadP Tryz.prog At123 27 d4) fun t128 => pureW (lenA Tryz.prog At123 9 d0) fun t129 => pureW (nilP d5) fun t130 => pureW (fieldAddrA Tryz.prog 109 t130 0) fun t131 => pureW (loadP Tryz.prog At123 55 t131) fun t132 => pureW (lenA Tryz.prog At123 55 t132) fun t133 => pureW (binA Tryz.prog .sub 3 (.tmp 83) (.tmp 88) t129 t133) fun t134 => effW (storeP Tryz.prog At123 27 d2 t128) fun At135 => pureW (binA Tryz.prog .sub 3 (.tmp 83) (.tmp 88) t129 t133) fun t136 => eqW t136 t134 (pureW (lenA Tryz.prog At135 55 t132) fun t137 => eqW t137 t133 (pureW (loadP Tryz.prog At135 55 t131) fun t138 => eqW t138 t132 (pureW (fieldAddrA Tryz.prog 109 t130 0) fun t139 => eqW t139 t131 (pureW (nilP d5) fun t140 => eqW t140 t130 (eqW d5 d5 (pureW (lenA Tryz.prog At135 9 d0) fun t141 => eqW t141 t129 (eqW d0 d0 (pureW (loadP Tryz.prog At135 27 d2) fun t142 => Q (.tuple ⟨[t142, t134]⟩) At135)))))))))))
theorem zeroTail {A A0 : AW} {t : Nat} {zs : List Value} {n : Nat} {Q : Value → AW → Prop} (h0 : Grow A0 A n) (ht : Row1 A t zs 27) (hz : zs.length = 4) (ht0 : A0.next ≤ t) (hA : A.next ≤ maxId) (hk : ∀ A', Grow A0 A' n → Q (.tuple ⟨[nilV, .int .i64 0]⟩) A') :
    pureW (buildA Tryz.prog 27 []) fun t119 => effW (storeP Tryz.prog A 27 (.pointer (some ⟨t, 0, none⟩)) t119) fun At120 => pureW (loadP Tryz.prog At120 27 (.pointer (some ⟨t, 0, none⟩))) fun t121 => Q (.tuple ⟨[t121, (.int .i64 0)]⟩) At120 := by
  rw [ba27n]
  simp only [pureW_some]
  refine store27 ht hz rfl h0.fine hA fun A2 t2 k2 n2 f2 => ?_
  rw [load27 t2 rfl]
  simp only [pureW_some]
  exact hk A2 ((h0.own k2 (by simpa using ht0) (m := 0) (by omega) f2).more (by omega))
theorem takeTail_ok {A A0 : AW} {s : ByteArray} {p q t n : Nat} {S : St} {F Fp : List Nat} {sv : Value} {zs : List Value} {ps : List Pt} {Q : Value → AW → Prop} (h0 : Grow A0 A n) (h : RR A p S.1 S.2 F) (hq : Row1 A q (decCells (rnF (s.data.toList, false)) ⟨⟨rnG (s.data.toList, false)⟩⟩ ⟨⟨rnB (s.data.toList, false)⟩⟩ sv) 27) (ht : Row1 A t zs 27) (hz : zs.length = 4) (hl : RdPt A sv ps Fp)
    (hA : A.next + 60 < maxId) (hn : ps.length < 1000000) (hFp : t ∉ Fp) (hpt : p ≠ t) (hFt : t ∉ F) (ht0 : A0.next ≤ t) (hsl : s.data.toList.length < 1000000) (hS : S.1.length ≤ s.data.toList.length)
    (hk0 : ∀ A', tDone s.data.toList (ps, S) = none → Grow A0 A' (n + 40) → Q (.tuple ⟨[nilV, .int .i64 0]⟩) A')
    (hk1 : ∀ A' N, tDone s.data.toList (ps, S) = some (ps, N) → RdPt A' sv ps Fp → Grow A0 A' (n + 40) → Q (.tuple ⟨[decV (rnF (s.data.toList, false)) ⟨⟨rnG (s.data.toList, false)⟩⟩ ⟨⟨rnB (s.data.toList, false)⟩⟩ sv, .int .i64 (N : Int)]⟩) A') :
    takeTail W0 m0 Q (.string s) (.pointer (some ⟨t, 0, none⟩)) (.pointer (some ⟨q, 0, none⟩)) (.pointer (some ⟨p, 0, none⟩)) A := by
  have hone := hl.one
  obtain ⟨bs, q1, q2⟩ := h.ex
  unfold takeTail
  simp only [nilP_some, fa_109_0, fa_109_1, ld_4, cell_row q1.row, cellOf, q2.rd.one.2, isT_bool, cond_false, load27 hq hone.2, pureW_some, Nat.zero_add]
  refine forkW_bool.2 ⟨fun hb => ?_, fun hb => ?_⟩
  · exact zeroTail h0 ht hz ht0 (by omega) fun A' g' => hk0 A' (by unfold tDone; rw [if_neg (by simp [hb])]) (g'.more (by omega))
  · refine wc21 (f := rnF (s.data.toList, false)) (g := ⟨⟨rnG (s.data.toList, false)⟩⟩) (b := ⟨⟨rnB (s.data.toList, false)⟩⟩) h0.fine (by omega) hl hn fun A2 g2 => ?_
    have n2 := g2.next
    have t2 := ht.keeps g2.keeps (by simp)
    have d2 := hq.keeps g2.keeps (by simp)
    have h2 := h.keeps g2.keeps (by simp) (by simp)
    have p2 := hl.keeps g2.keeps (by simp)
    have g02 := h0.trans g2
    simp only [bin_neq, pureW_some, forkW_bne]
    refine ⟨fun he => ?_, fun he => ?_⟩
    · exact zeroTail g02 t2 hz ht0 (by omega) fun A' g' => hk0 A' (by unfold tDone; rw [if_neg (fun hh => he hh.2)]) g'
    · obtain ⟨b2, r1, r2⟩ := h2.ex
      simp only [load27 d2 hone.2, ln_9, nilP_some, fa_109_0, ld_55, cell_row r1.row, cellOf, r2.rd.one.2, cond_false, r2.rd.len tb, bin_sub, pureW_some]
      rw [wrap_i64 (by omega) (by omega)]
      refine store27 t2 hz hone.1 g2.fine (by omega) fun A3 t3 k3 n3 f3 => ?_
      have h3 := h2.keeps k3 (by simpa using hpt) (fun y hy => by simp; intro e; subst e; exact hFt hy)
      obtain ⟨b3, v1, v2⟩ := h3.ex
      have hbb : b3 = b2 := by
        have a := r1.keeps k3 (by simpa using hpt)
        have e := a.row
        rw [v1.row] at e
        simp at e
        exact e
      subst hbb
      simp only [ln_9, ld_55, cell_row v1.row, cellOf, r2.rd.one.2, cond_false, v2.rd.len tb, load27 t3 hone.2, pureW_some, eqW_self]
      have eN : ((s.data.toList.length : Nat) : Int) - ((S.1.length : Nat) : Int) = ((s.data.toList.length - S.1.length : Nat) : Int) := by omega
      rw [eN]
      exact hk1 A3 _ (by unfold tDone; rw [if_pos ⟨hb, he⟩]) (p2.keeps k3 (fun y hy => by simp; intro e; subst e; exact hFp hy)) ((g02.own k3 (by simpa using ht0) (m := 0) (by omega) f3).more (by omega))
end
end Go.Proofs.YteooonkpannpbaaGreatDoor


namespace Go.Proofs.YteooonkpannpbaaGreatDoor
open Go.Abs

theorem rps_le : ∀ (k : Nat) (s : St) (acc : List Pt) (r : List Pt × St), rps k s acc = some r → r.2.1.length ≤ s.1.length ∧ r.1.length = acc.length + k
  | 0, s, acc, r, h => by
    rw [rps] at h; cases h; exact ⟨Nat.le_refl _, rfl⟩
  | k + 1, s, acc, r, h => by
    rw [rps] at h
    split at h
    · obtain ⟨h1, h2⟩ := rps_le k _ _ r h
      have a := tk_shrink (xgN (nm 1 s).2.1) (nm 1 s).2
      have b := nm_shrink 1 s
      rw [List.length_append] at h2
      exact ⟨by omega, by simpa [Nat.add_assoc, Nat.add_comm, Nat.add_left_comm] using h2⟩
    · cases h
theorem xgN_le (l : List UInt8) : xgN l ≤ l.length := Nat.sub_le _ _

section
variable {W0 : World} {m0 : Inj Tryz.prog}
theorem wc28 {A : AW} {s : ByteArray} {K : Value → AW → Prop} (hf : Fine A) (hA : A.next + 1000 < maxId) (hs : s.data.toList.length < 1000000)
    (hk0 : ∀ A', tOk s.data.toList = none → Grow A A' 600 → K (.tuple ⟨[nilV, .int .i64 0]⟩) A')
    (hk1 : ∀ A' ps N sv Fp, tOk s.data.toList = some (ps, N) → RdPt A' sv ps Fp → (∀ y ∈ Fp, A.next ≤ y) → Grow A A' 600 → K (.tuple ⟨[decV (rnF (s.data.toList, false)) ⟨⟨rnG (s.data.toList, false)⟩⟩ ⟨⟨rnB (s.data.toList, false)⟩⟩ sv, .int .i64 (N : Int)]⟩) A') :
    Wc Tryz.prog theX W0 m0 28 [.string s] A K := by
  let zs : List Value := [.int .u32 0, .string .empty, .string .empty, .slice none 0 0]
  let I : Nat → Nat → List Value → AW → Prop := fun g' id vals A' => id = 0 ∧ ∃ (i p : Nat) (F : List Nat), vals = [.string s, .pointer (some ⟨A.next, 0, none⟩), .pointer (some ⟨A.next + 1, 0, none⟩), .pointer (some ⟨p, 0, none⟩), .int .i64 (i : Int)] ∧
    Row1 A' A.next zs 27 ∧ A.next + 1 < p ∧ (∀ y ∈ F, A.next + 1 < y) ∧ Grow A A' (10 + 60 * i) ∧ i ≤ 9 ∧ g' = 10 - i ∧
    ((i = 0 ∧ Row1 A' (A.next + 1) zs 27 ∧ RR A' p s.data.toList false F) ∨
     ∃ (j m b : Nat) (acc : List Pt) (s' : St), i = j + 1 ∧ acc.length = j ∧ j ≤ m ∧ 1 ≤ m ∧ m ≤ 8 ∧ rps (m - j) s' acc = rtk s.data.toList ∧ s'.1.length ≤ s.data.toList.length ∧ A.next + 1 < b ∧ b ≠ p ∧ b ∉ F ∧
      Row1 A' (A.next + 1) (decCells (rnF (s.data.toList, false)) ⟨⟨rnG (s.data.toList, false)⟩⟩ ⟨⟨rnB (s.data.toList, false)⟩⟩ (.slice (some ⟨b, 0, none⟩) m m)) 27 ∧ Row1 A' b (pcs (acc ++ List.replicate (m - j) z0)) 50 ∧ RR A' p s'.1 s'.2 F)
  refine w28 _ _ (c28 (I := I) ?_) ?_
  · rintro g' id vals A' d ⟨rfl, i, p, F, rfl, hR, hp, hF, hg, hi9, hgi, hcase⟩ hd
    rw [l28_0]
    simp only [L28, List.map_cons, List.map_nil, List.cons.injEq, and_true] at hd
    obtain ⟨h0, h2, h4, h5, h6⟩ := hd
    have hnx := hg.next
    have hle := hg.le
    rcases hcase with ⟨rfl, hD, ho⟩ | ⟨j, m, b, acc, s', rfl, hj, hjm, hm1, hm8, hps, hs', hb, hbp, hbF, hD, hB, ho⟩
    · obtain ⟨bs, q1, q2⟩ := ho.ex
      have hlt := ho.lt
      have hD' : Row1 A' (A.next + 1) [.int .u32 0, .string .empty, .string .empty, .slice none 0 0] 27 := hD
      simp only [h0, h2, h4, h5, h6, fa_27_1, ld_25, cell_row hD'.row, cellOf, isT_int, isT_string, isT_slice, cond_false, ln_25, bin_leq, bin_lss, bin_gtr, pureW_some, forkW_dec, Nat.zero_add]
      refine ⟨fun _ => ⟨fun _ => ⟨fun h => by omega, fun _ => ?_⟩, fun h => by omega⟩, fun h => by omega⟩
      simp only [nilP_some, fa_109_0, ld_55, cell_row q1.row, cellOf, q2.rd.one.2, cond_false, pureW_some]
      refine wc58 q2.rd hg.fine (by omega) hs fun A1 f g b n g1 hx => ?_
      have n1 := g1.next
      simp only [extractP, List.getElem?_cons_zero, List.getElem?_cons_succ, pureW_some]
      refine allocP_made zero24 g1.fine (by omega) rfl fun A2 m2 => ?_
      have n2 := m2.next
      have l1 := g1.le
      refine store24 m2.row1 rfl m2.fine (by omega) fun A3 x3 k3 n3 f3 => ?_
      have g3 : Grow A A3 (50 + 60 * 0) := (((hg.trans g1).trans (.made m2 g1.fine)).own k3 (by simp; omega) (m := 0) (by omega) f3).more (by omega)
      have kk : Keeps A' A3 [A1.next] := (g1.keeps.more (by simp) |>.trans (m2.keeps g1.fine) (by simp)).trans k3 (fun x hx => .inl hx)
      have R3 := hR.keeps kk (by simp; omega)
      have D3 := hD'.keeps kk (by simp; omega)
      have o3 := ho.keeps kk (by simp; omega) (fun y hy => by have := hlt.2 y hy; simp; omega)
      simp only [bin_neq, pureW_some, forkW_bne]
      refine ⟨fun he => zeroTail g3 R3 rfl (Nat.le_refl _) (by omega) fun A4 g4 => hk0 A4 (by unfold tOk rtk; rw [if_neg he]; rfl) (g4.more (by omega)), fun he => ?_⟩
      obtain ⟨rfl, rfl, rfl, rfl⟩ := hx he
      have hN := xgN_le s.data.toList
      refine wc59 (s := (s.data.toList, false)) (n := xgN s.data.toList) o3 f3 (by omega) hs (by omega) fun A4 xx F4 Fo o4 _ k4 n4 f4 hF4 _ => ?_
      have l4 := k4.next
      have o4 : RR A4 p (rN s.data.toList).1 (rN s.data.toList).2 F4 := o4
      have hs4 : (rN s.data.toList).1.length ≤ s.data.toList.length := tk_shrink _ (s.data.toList, false)
      have R4 := R3.keeps k4 (by simp; omega)
      have D4 := D3.keeps k4 (by simp; omega)
      have X4 := x3.keeps k4 (by simp; omega)
      have g4 : Grow A A4 54 := (g3.own k4 (by simp; omega) (m := 2) (by omega) f4).more (by omega)
      simp only [bin_eql, pureW_some, forkW_beq]
      refine ⟨fun _ => ?_, fun h => absurd rfl h⟩
      rw [load24 X4]
      simp only [fa_27_0, pureW_some]
      refine D4.store f4 (by omega) (st_24 _ _ _) rfl (by simp [Value.cells]) rfl fun A5 D5 k5 n5 f5 => ?_
      have D5 : Row1 A5 (A.next + 1) (decCells (rnF (s.data.toList, false)) ⟨⟨rnG (s.data.toList, false)⟩⟩ ⟨⟨rnB (s.data.toList, false)⟩⟩ (.slice none 0 0)) 27 := D5
      have R5 := R4.keeps k5 (by simp)
      have o5 := o4.keeps k5 (by simp; omega) (fun y hy => by have := hF y (hF4 y hy); simp; omega)
      have g5 : Grow A A5 54 := (g4.own k5 (by simp) (m := 0) (by omega) f5).more (by omega)
      refine wc57 (w := 1) o5 f5 (by omega) (by omega) (by omega) fun A6 F6 o6 k6 n6 f6 hF6 => ?_
      have l6 := k6.next
      have hm : (nm 1 (rN s.data.toList)).1 < 256 := nm_lt 1 _
      have hs6 := nm_shrink 1 (rN s.data.toList)
      have R6 := R5.keeps k6 (by simp; omega)
      have D6 := D5.keeps k6 (by simp; omega)
      have g6 : Grow A A6 56 := (g5.own k6 (by simp; omega) (m := 2) (by omega) f6).more (by omega)
      simp only [cv_102_3, bothW_ok]
      rw [wrap_i64 (by omega) (by omega)]
      simp only [bin_lss, bin_gtr, pureW_some, forkW_dec]
      have hbad : ¬ (1 ≤ (nm 1 (rN s.data.toList)).1 ∧ (nm 1 (rN s.data.toList)).1 ≤ 8) → tOk s.data.toList = none := fun h => by unfold tOk rtk; rw [if_pos he, if_neg h]; rfl
      refine ⟨fun h => zeroTail g6 R6 rfl (Nat.le_refl _) (by omega) fun A7 g7 => hk0 A7 (hbad (by omega)) (g7.more (by omega)), fun h1 => ⟨fun h => zeroTail g6 R6 rfl (Nat.le_refl _) (by omega) fun A7 g7 => hk0 A7 (hbad (by omega)) (g7.more (by omega)), fun h8 => ?_⟩⟩
      refine ms25 f6 (by omega) (by omega) (by omega) fun A7 m7 => ?_
      have n7 := m7.next
      have D7 := D6.keeps (m7.keeps f6) (by simp)
      have R7 := R6.keeps (m7.keeps f6) (by simp)
      have o7 := o6.keeps (m7.keeps f6) (by simp) (by simp)
      refine D7.store m7.fine (by omega) (st_25 _ _ _) rfl (by simp [decCells]) rfl fun A8 D8 k8 n8 f8 => ?_
      simp only [bin_add, pureW_some]
      rw [wrap_i64 (by omega) (by omega)]
      have hol := o6.lt
      have hol1 := hol.1
      refine cutW_self.2 ⟨9, by omega, rfl, 1, p, F6, rfl, R7.keeps k8 (by simp), hp, fun y hy => hF y (hF4 y (hF6 y hy)), ((g6.trans (.made m7 f6)).own k8 (by simp) (m := 0) (by omega) f8).more (by omega), by omega, rfl,
        .inr ⟨0, (nm 1 (rN s.data.toList)).1, A6.next, [], (nm 1 (rN s.data.toList)).2, rfl, rfl, by omega, by omega, by omega, ?_, by omega, by omega, by omega, fun hh => by have := hol.2 _ hh; omega, D8, m7.row1.keeps k8 (by simp; omega), o7.keeps k8 (by simp; omega) (fun y hy => by have := hF y (hF4 y (hF6 y hy)); simp; omega)⟩⟩
      unfold rtk
      rw [if_pos he, if_pos ⟨by omega, by omega⟩, Nat.sub_zero]
    · obtain ⟨bs, q1, q2⟩ := ho.ex
      have hlt := ho.lt
      have fin : j = m → takeTail W0 m0 K (.string s) (.pointer (some ⟨A.next, 0, none⟩)) (.pointer (some ⟨A.next + 1, 0, none⟩)) (.pointer (some ⟨p, 0, none⟩)) A' := fun e => by
        subst e
        rw [Nat.sub_self] at hps hB
        rw [rps] at hps
        rw [List.replicate_zero, List.append_nil] at hB
        subst hj
        refine takeTail_ok (n := 10 + 60 * (acc.length + 1)) hg ho hD hR rfl (rdPt_row hB) (by omega) (by omega) (by simp; omega) (by omega) (fun hh => by have := hF _ hh; omega) (Nat.le_refl _) hs hs' (fun A2 h2 g2 => hk0 A2 (by unfold tOk; rw [← hps]; exact h2) (g2.more (by omega))) fun A2 N h2 r2 g2 => hk1 A2 acc N _ [b] (by unfold tOk; rw [← hps]; exact h2) r2 (by simp; omega) (g2.more (by omega))
      simp only [h0, h2, h4, h5, h6, fa_27_1, ld_25, cell_row hD.row, decCells, cellOf, isT_int, isT_string, isT_slice, cond_false, ln_25, bin_leq, bin_lss, bin_gtr, pureW_some, forkW_dec, Nat.zero_add]
      refine ⟨fun hle' => ⟨fun h10 => ⟨fun hpos => ?_, fun h => by omega⟩, fun h => by omega⟩, fun h => fin (by omega)⟩
      have hjlt : j < m := by omega
      obtain ⟨k, hk⟩ : ∃ k, m - j = k + 1 := ⟨m - j - 1, by omega⟩
      rw [hk] at hps hB
      rw [rps] at hps
      rw [List.replicate_succ] at hB
      refine wc57 (s := s') (w := 1) ho hg.fine (by omega) (by omega) (by omega) fun A1 F1 o1 k1 n1 f1 hF1 => ?_
      have l1 := k1.next
      have hm' : (nm 1 s').1 < 256 := nm_lt 1 _
      have hs1 := nm_shrink 1 s'
      obtain ⟨bs1, u1, u2⟩ := o1.ex
      have hlt1 := o1.lt
      have R1 := hR.keeps k1 (by simp; omega)
      have D1 := hD.keeps k1 (by simp; omega)
      have B1 := hB.keeps k1 (by simpa using hbp)
      have g1 : Grow A A1 (12 + 60 * (j + 1)) := (hg.own k1 (by simp; omega) (m := 2) (by omega) f1).more (by omega)
      simp only [nilP_some, fa_109_0, ld_55, cell_row u1.row, cellOf, u2.rd.one.2, cond_false, pureW_some]
      refine wc58 u2.rd f1 (by omega) (by omega) fun A2 f g b' n g2 hx => ?_
      have n2 := g2.next
      have l2 := g2.le
      simp only [extractP, List.getElem?_cons_zero, List.getElem?_cons_succ, pureW_some]
      refine allocP_made zero24 g2.fine (by omega) rfl fun A3 m3 => ?_
      have n3 := m3.next
      refine store24 m3.row1 rfl m3.fine (by omega) fun A4 x4 k4 n4 f4 => ?_
      have g4 : Grow A A4 (43 + 60 * (j + 1)) := (((g1.trans g2).trans (.made m3 g2.fine)).own k4 (by simp; omega) (m := 0) (by omega) f4).more (by omega)
      have kk : Keeps A1 A4 [A2.next] := (g2.keeps.more (by simp) |>.trans (m3.keeps g2.fine) (by simp)).trans k4 (fun x hx => .inl hx)
      have bl := B1.lt
      have R4 := R1.keeps kk (by simp; omega)
      have D4 := D1.keeps kk (by simp; omega)
      have B4 := B1.keeps kk (by simp; omega)
      have o4 := o1.keeps kk (by simp; omega) (fun y hy => by have := hlt1.2 y hy; simp; omega)
      simp only [bin_neq, pureW_some, forkW_bne]
      refine ⟨fun he => zeroTail g4 R4 rfl (Nat.le_refl _) (by omega) fun A5 g5 => hk0 A5 (by unfold tOk; rw [← hps, if_neg he]; rfl) (g5.more (by omega)), fun he => ?_⟩
      obtain ⟨rfl, rfl, rfl, rfl⟩ := hx he
      rw [if_pos he] at hps
      have hN := xgN_le (nm 1 s').2.1
      refine wc59 (s := (nm 1 s').2) (n := xgN (nm 1 s').2.1) o4 f4 (by omega) (by omega) (by omega) fun A5 xx F5 Fo o5 _ k5 n5 f5 hF5 _ => ?_
      have l5 := k5.next
      have hs5 := tk_shrink (xgN (nm 1 s').2.1) (nm 1 s').2
      have R5 := R4.keeps k5 (by simp; omega)
      have D5 := D4.keeps k5 (by simp; omega)
      have B5 := B4.keeps k5 (by simpa using hbp)
      have X5 := x4.keeps k5 (by simp; omega)
      have g5 : Grow A A5 (45 + 60 * (j + 1)) := (g4.own k5 (by simp; omega) (m := 2) (by omega) f5).more (by omega)
      simp only [bin_eql, pureW_some, forkW_beq]
      refine ⟨fun h => by omega, fun _ => ?_⟩
      simp only [fa_27_1, ld_25, cell_row D5.row, decCells, cellOf, isT_int, isT_string, isT_slice, cond_false, bin_sub, cv_102_5, bothW_ok, pureW_some, Nat.zero_add]
      rw [load24 X5, wrap_i64 (by omega) (by omega), show ((j + 1 : Nat) : Int) - 1 = (j : Int) by omega, wrap_u8, show ((nm 1 s').1 : Int) % 256 = ((nm 1 s').1 : Int) by omega, ia25 hjlt]
      simp only [pureW_some, ba50x]
      have hpl : (pcs (acc ++ z0 :: List.replicate k z0)).length = (acc.length + (k + 1)) * 5 := by rw [pcs_len, List.length_append, List.length_cons, List.length_replicate]
      refine B5.store f5 (by omega) (st_50 _ _ _) rfl (by rw [hpl, hj]; show j * 5 + 5 ≤ _; omega) rfl fun A6 B6 k6 n6 f6 => ?_
      have hset : setL (pcs (acc ++ z0 :: List.replicate k z0)) (j * 5) (pt' s').cells = pcs (acc ++ pt' s' :: List.replicate k z0) := by rw [← hj]; exact setL_pcs _ _ _ _
      have B6 : Row1 A6 b (pcs ((acc ++ [pt' s']) ++ List.replicate k z0)) 50 := by
        rw [List.append_assoc, List.singleton_append, ← hset]
        exact B6
      simp only [bin_add, pureW_some]
      rw [wrap_i64 (by omega) (by omega)]
      have hbF5 : b ∉ F5 := fun hh => hbF (hF1 _ (hF5 _ hh))
      refine cutW_self.2 ⟨10 - (j + 2), by omega, rfl, j + 2, p, F5, rfl, R5.keeps k6 (by simp; omega), hp, fun y hy => hF y (hF1 y (hF5 y hy)), (g5.own k6 (by simp; omega) (m := 0) (by omega) f6).more (by omega), by omega, rfl,
        .inr ⟨j + 1, m, b, acc ++ [pt' s'], (tk (xgN (nm 1 s').2.1) (nm 1 s').2).2, rfl, by rw [List.length_append, hj]; rfl, by omega, hm1, hm8, ?_, by omega, hb, hbp, hbF5, D5.keeps k6 (by simp; omega), ?_, o5.keeps k6 (by simp; omega) (fun y hy => by simp; intro e; subst e; exact hbF5 hy)⟩⟩
      · rw [show m - (j + 1) = k by omega]; exact hps
      · rw [show m - (j + 1) = k by omega]; exact B6
  · rw [e28]
    refine allocP_made zero27 hf (by omega) rfl fun A1 m1 => ?_
    have n1 := m1.next
    refine allocP_made zero27 m1.fine (by omega) rfl fun A2 m2 => ?_
    have n2 := m2.next
    refine conv_bytes m2.fine (by omega) fun A3 g3 s3 => ?_
    have n3 := g3.next
    have l3 := g3.le
    refine wc56 s3.rd g3.fine (by omega) hs fun A4 p F4 g4 o4 hp4 hF4 => ?_
    have R4 := ((m1.row1.keeps (m2.keeps m1.fine) (by simp)).keeps g3.keeps (by simp)).keeps g4.keeps (by simp)
    have D4 := (m2.row1.keeps g3.keeps (by simp)).keeps g4.keeps (by simp)
    rw [n1] at D4
    refine cutW_self.2 ⟨10, rfl, 0, p, F4, by rw [n1]; rfl, R4, by omega, fun y hy => by have := hF4 y hy; omega, ((((Grow.made m1 hf).trans (.made m2 m1.fine)).trans g3).trans g4).more (by omega), by omega, rfl, .inl ⟨rfl, D4, o4⟩⟩
end
end Go.Proofs.YteooonkpannpbaaGreatDoor
