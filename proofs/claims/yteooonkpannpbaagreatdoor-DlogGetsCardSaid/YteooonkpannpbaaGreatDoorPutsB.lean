/-
  A decision's bytes, of the program. Conditions: those of each theorem.
-/
import Derived.Test.YteooonkpannpbaaGreatDoorPutsA

namespace Go.Proofs.YteooonkpannpbaaGreatDoor
open Go.Abs

def pb (l : List Pt) : List UInt8 := l.flatMap fun p => UInt8.ofNat p.node :: xb p.f p.g p.b
def db (f : Nat) (g b : ByteArray) (l ps : List Pt) : List UInt8 := xb f g b ++ [UInt8.ofNat l.length] ++ pb ps
theorem pb_snoc (ps : List Pt) (p : Pt) : pb (ps ++ [p]) = pb ps ++ ([UInt8.ofNat p.node] ++ xb p.f p.g p.b) := by simp [pb]
theorem take_snoc {l : List Pt} {i : Nat} {p : Pt} (h : l[i]? = some p) : l.take (i + 1) = l.take i ++ [p] := by rw [List.take_add_one, h]; rfl
theorem partsOk_all {f : Nat} {g : ByteArray} : ∀ {l : List Pt} {last : Nat}, partsOk f g last l = true → ∀ p ∈ l, xchk p.g p.b = 0
  | [], _, _ => by simp
  | q :: l, last, h => by
    rw [partsOk_cons] at h
    intro p hp
    rcases List.mem_cons.1 hp with rfl | hp
    · exact h.2.2.2.1
    · exact partsOk_all h.2.2.2.2.2 p hp
theorem dchk_zero {f : Nat} {g b : ByteArray} {l : List Pt} (h : dchk f g b l = 0) : xchk g b = 0 ∧ l.length ≤ 8 ∧ ∀ p ∈ l, xchk p.g p.b = 0 := by
  unfold dchk at h
  split at h
  · next hh => exact ⟨hh.1, hh.2.2.2.1, partsOk_all hh.2.2.2.2⟩
  · cases h
theorem pb_length : ∀ {l : List Pt}, (∀ p ∈ l, xchk p.g p.b = 0) → (pb l).length ≤ 200 * l.length
  | [], _ => by simp [pb]
  | p :: l, h => by
    have h1 := xchk_zero (h p (by simp))
    have h2 := pb_length (l := l) fun q hq => h q (by simp [hq])
    have : pb (p :: l) = (UInt8.ofNat p.node :: xb p.f p.g p.b) ++ pb l := by simp [pb]
    rw [this, List.length_append, List.length_cons, xb_length, List.length_cons]
    omega
theorem db_length {f : Nat} {g b : ByteArray} {l ps : List Pt} (h0 : xchk g b = 0) (h : ∀ p ∈ ps, xchk p.g p.b = 0) (hn : ps.length ≤ 8) : (db f g b l ps).length ≤ 2000 := by
  have := xchk_zero h0
  have := pb_length h
  unfold db
  rw [List.length_append, List.length_append, xb_length]
  simp only [List.length_cons, List.length_nil]
  omega
theorem node_byte {p : Pt} (h : p.wf) : Value.int .u8 (p.node : Int) = .int .u8 ((UInt8.ofNat p.node).toNat : Int) := by
  rw [ofNat_u8]
  congr 1
  have := h.1
  omega
theorem RdPt.fam {A A0 : AW} {v : Value} {l : List Pt} {F : List Nat} (h : RdPt A v l F) : ∀ x ∈ F, x < A.next := by
  rcases h with ⟨_, rfl, _⟩ | ⟨r, o, c, cs, e, f, b, ro, _, _, h3, rfl, _⟩
  · simp
  · simpa using h3

section
variable {W0 : World} {m0 : Inj Tryz.prog}
theorem wc20 {f : Nat} {g b : ByteArray} {sv : Value} {l : List Pt} {F : List Nat} {A : AW} {K : Value → AW → Prop} (hf : Fine A) (hA : A.next + 500 < maxId) (hl : RdPt A sv l F) (hfl : f < 4294967296) (hw : ∀ p ∈ l, p.wf) (hd : dchk f g b l = 0)
    (hk : ∀ A' v F', Grow A A' 400 → Buf 5 A' v (db f g b l l) F' → (∀ x ∈ F', A.next ≤ x) → K v A') : Wc Tryz.prog theX W0 m0 20 [decV f g b sv] A K := by
  have hroom : room = 68719476736 := rfl
  obtain ⟨hx0, h8, hxs⟩ := dchk_zero hd
  have hxt : ∀ i, ∀ p ∈ l.take i, xchk p.g p.b = 0 := fun i p hp => hxs p (List.mem_of_mem_take hp)
  let I : Nat → Nat → List Value → AW → Prop := fun g' id vals A' => id = 0 ∧ ∃ (i : Nat) (v : Value) (F' : List Nat), vals = [v, sv, .int .i64 (l.length : Int), .int .i64 (i : Int)] ∧ i ≤ l.length ∧
    Buf 5 A' v (db f g b l (l.take i)) F' ∧ (∀ x ∈ F', A.next ≤ x) ∧ RdPt A' sv l F ∧ Grow A A' (40 + 30 * i) ∧ g' = l.length - i
  refine w20 _ _ (c20 (I := I) ?_) ?_
  · rintro g' id vals A' d ⟨rfl, i, v, F', rfl, hi, hb, hF', hl', hg, rfl⟩ hd
    rw [l20_0]
    simp only [L20, List.map_cons, List.map_nil, List.cons.injEq, and_true] at hd
    obtain ⟨h3, h16, h17, h18⟩ := hd
    have hnx := hg.next
    have hle := hg.le
    have hblt := hb.lt
    simp only [h3, h16, h17, h18, bin_lss, pureW_some, forkW_dec]
    refine ⟨fun hlt => ?_, fun hge => ?_⟩
    · have hlt : i < l.length := by omega
      obtain ⟨p, hp⟩ : ∃ p, l[i]? = some p := ⟨l[i], List.getElem?_eq_getElem hlt⟩
      have hpm : p ∈ l := List.mem_of_getElem? hp
      obtain ⟨r, o, a1, a2, a3, a4⟩ := hl'.at hp
      simp only [a1, ld_50, a2, pureW_some]
      refine allocP_made zero50 hg.fine (by omega) rfl fun A2 m2 => ?_
      have n2 := m2.next
      have r2 := m2.row1
      refine r2.store m2.fine (by omega) (st_50 _ _ _) rfl (by simp [Value.cells]) rfl fun A3 r3 k3 n3 f3 => ?_
      have r3 : Row1 A3 A'.next p.cells 50 := r3
      have g23 : Grow A' A3 1 := (Grow.made m2 hg.fine).own k3 (by simp) (m := 0) (by omega) f3
      have hl3 := hl'.keeps g23.keeps (by simp)
      have hb3 := hb.keeps g23.keeps (by simp)
      have g3 := hg.trans g23
      simp only [fa_50_0, fa_50_1, ld_5, cell_row r3.row, Pt.cells, cellOf, isT_int, cond_false, pureW_some, Nat.zero_add]
      rw [node_byte (hw p hpm)]
      refine bslice1 f3 (by omega) fun A4 m4 => ?_
      have n4 := m4.next
      refine freshW_1 m4.row ?_
      have r4 := r3.keeps (m4.keeps f3) (by simp)
      have ht : A4.cells? ⟨A'.next, 1, none⟩ 3 = some [.int .u32 (p.f : Int), .string p.g, .string p.b] := by rw [cells_row r4.row]; rfl
      simp only [fa_50_0, fa_50_1, ld_5, ld_24, cell_row r4.row, ht, Pt.cells, cellOf, isT_int, cond_false, pureW_some, Nat.zero_add, node_byte (hw p hpm), eqW_self]
      refine appendBuf tb (hb3.keeps (m4.keeps f3) (by simp)) (src_slice tb (buf1 m4.row1).rd) m4.fine (by omega) (by have := db_length (f := f) (l := l) hx0 (hxt i) (by rw [List.length_take]; omega); simp only [List.length_cons, List.length_nil]; omega) fun v5 A5 F5 b5 k5 hF5 n5 f5 => ?_
      have g5 := (g3.trans (.made m4 f3)).own k5 hF' (m := 1) (by omega) f5
      have hne : A'.next ∉ F' := fun h => by have := hblt _ h; omega
      have r5 := r4.keeps k5 hne
      have ht5 : A5.cells? ⟨A'.next, 1, none⟩ 3 = some [.int .u32 (p.f : Int), .string p.g, .string p.b] := by rw [cells_row r5.row]; rfl
      simp only [fa_50_1, ld_24, ht5, pureW_some, eqW_self, Nat.zero_add]
      have hF5' : ∀ x ∈ F5, A.next ≤ x := fun x hx => by
        rcases hF5 x hx with h | h
        · exact hF' x h
        · omega
      refine wc48 (f := p.f) (g := p.g) (b := p.b) g5 (by omega) (hw p hpm).2.1 (hxs p hpm) b5 hF5' (by have := db_length (f := f) (l := l) hx0 (hxt i) (by rw [List.length_take]; omega); rw [List.length_append]; simp only [List.length_cons, List.length_nil]; omega) fun A6 v6 F6 g6 k6 n6 b6 hF6 => ?_
      simp only [bin_add, pureW_some]
      rw [wrap_i64 (by omega) (by omega)]
      have hne5 : ∀ x ∈ F, x ∉ F5 := fun x hx h => by
        have h1 := hl.fam (A0 := A) x hx
        have h2 := hF5' x h
        omega
      have hne1 : ∀ x ∈ F, x ∉ F' := fun x hx h => by
        have h1 := hl.fam (A0 := A) x hx
        have h2 := hF' x h
        omega
      refine cutW_self.2 ⟨l.length - (i + 1), by omega, rfl, i + 1, v6, F6, rfl, by omega, ?_, fun x hx => ?_, ((hl3.keeps (m4.keeps f3) (by simp)).keeps k5 hne1).keeps k6 hne5, g6.more (by omega), rfl⟩
      · rw [take_snoc hp]
        have : db f g b l (l.take i ++ [p]) = db f g b l (l.take i) ++ [UInt8.ofNat p.node] ++ xb p.f p.g p.b := by
          unfold db
          rw [pb_snoc]
          simp only [List.append_assoc]
        rw [this]
        exact b6
      · rcases hF6 x hx with h | h
        · exact hF5' x h
        · have := g5.le; omega
    · have hi : i = l.length := by omega
      subst hi
      rw [List.take_length] at hb
      exact hk A' v F' (hg.more (by omega)) hb hF'
  · rw [e20]
    refine newP_made (cs := (Value.cells (decV f g b sv)).toList) hf (by omega) (by simp [decV, decCells, Value.cells, one_int, one_string, hl.one.1]) fun A1 m1 => ?_
    have n1 := m1.next
    have r1 : Row1 A1 A.next (decCells f g b sv) 27 := m1.row1
    have hl1 := hl.keeps (m1.keeps hf) (by simp)
    have ht : A1.cells? ⟨A.next, 0, none⟩ 3 = some [.int .u32 (f : Int), .string g, .string b] := by rw [cells_row r1.row]; rfl
    have hb1 : (IntKind.u8.wrap (l.length : Int)) = ((UInt8.ofNat l.length).toNat : Int) := by rw [wrap_u8, ofNat_u8]
    simp only [fa_27_0, fa_27_1, ld_24, ld_25, ht, cell_row r1.row, decCells, cellOf, isT_int, isT_string, hl.one.2, cond_false, hl1.len, cv_3_5, bothW_ok, hb1, pureW_some, Nat.zero_add]
    refine bslice1 m1.fine (by omega) fun A2 m2 => ?_
    have n2 := m2.next
    refine freshW_1 m2.row ?_
    have r2 := r1.keeps (m2.keeps m1.fine) (by simp)
    have ht2 : A2.cells? ⟨A.next, 0, none⟩ 3 = some [.int .u32 (f : Int), .string g, .string b] := by rw [cells_row r2.row]; rfl
    simp only [fa_27_0, fa_27_1, ld_24, ld_25, ht2, cell_row r2.row, decCells, cellOf, isT_int, isT_string, hl.one.2, cond_false, hl1.len, cv_3_5, bothW_ok, hb1, pureW_some, eqW_self, Nat.zero_add]
    have g2 := (Grow.made m1 hf).trans (.made m2 m1.fine)
    refine wc48 (f := f) (g := g) (b := b) g2 (by omega) hfl hx0 (Buf.nil 5 _) (by simp) (by simp) fun A3 v3 F3 g3 k3 n3 b3 hF3 => ?_
    rw [List.nil_append] at b3
    have q2 := m2.row1.keeps k3 (by simp)
    refine freshW_1 q2.row ?_
    have r3 := r2.keeps k3 (by simp)
    have hl3 := (hl1.keeps (m2.keeps m1.fine) (by simp)).keeps k3 (by simp)
    have ht3 : A3.cells? ⟨A.next, 0, none⟩ 3 = some [.int .u32 (f : Int), .string g, .string b] := by rw [cells_row r3.row]; rfl
    simp only [fa_27_0, fa_27_1, ld_24, ld_25, ht3, cell_row r3.row, decCells, cellOf, isT_int, isT_string, hl.one.2, cond_false, hl1.len, cv_3_5, bothW_ok, hb1, pureW_some, eqW_self, Nat.zero_add]
    have hF3' : ∀ x ∈ F3, A.next ≤ x := fun x hx => by
      rcases hF3 x hx with h | h
      · simp at h
      · omega
    have l3 := k3.next
    refine appendBuf tb b3 (src_slice tb (buf1 q2).rd) g3.fine (by omega) (by have := xchk_zero hx0; rw [xb_length]; simp only [List.length_cons, List.length_nil]; omega) fun v4 A4 F4 b4 k4 hF4 n4 f4 => ?_
    have hne : A.next ∉ F3 := fun h => by
      rcases hF3 _ h with h | h
      · simp at h
      · omega
    have r4 := r3.keeps k4 hne
    have hne3 : ∀ x ∈ F, x ∉ F3 := fun x hx h => by
      have h1 := hl.fam (A0 := A) x hx
      have h2 := hF3' x h
      omega
    have hl4 := hl3.keeps k4 hne3
    simp only [fa_27_1, ld_25, cell_row r4.row, decCells, cellOf, isT_int, isT_string, hl.one.2, cond_false, hl1.len, pureW_some, Nat.zero_add]
    refine cutW_self.2 ⟨l.length, rfl, 0, v4, F4, rfl, by omega, ?_, fun x hx => ?_, hl4, (g3.own k4 hF3' (m := 1) (by omega) f4).more (by omega), rfl⟩
    · simpa [db, pb] using b4
    · rcases hF4 x hx with h | h
      · exact hF3' x h
      · have := g3.le; omega
end
end Go.Proofs.YteooonkpannpbaaGreatDoor
