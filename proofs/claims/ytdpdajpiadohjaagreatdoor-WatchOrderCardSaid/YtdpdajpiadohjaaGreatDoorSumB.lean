/-
  A name's global transaction, a score's parts. Conditions: those of each theorem.
-/
import Derived.Test.YtdpdajpiadohjaaGreatDoorSumA

namespace Go.Proofs.YtdpdajpiadohjaaGreatDoor
open Go.Abs

def addsV : Value := .agg ⟨[.nilFunc, .func (.func 48) #[] #[], .func (.func 49) #[] #[], .func (.func 50) #[] #[], .func (.func 51) #[] #[], .func (.func 52) #[] #[]]⟩
theorem ba61 : buildA Tryz.prog 61 [(1, (.func (.func 48) #[] #[])), (2, (.func (.func 49) #[] #[])), (3, (.func (.func 50) #[] #[])), (4, (.func (.func 51) #[] #[])), (5, (.func (.func 52) #[] #[]))] = some addsV := by kernel_rfl
theorem load_at {A : AW} {b : Nat} {p : Nm} {pre post : List Value} {e : TypeId} (h : Go.Abs.Row1 A b (pre ++ (p.cells ++ post)) e) : loadP Tryz.prog A 46 (.pointer (some ⟨b, pre.length, none⟩)) = some (.agg ⟨p.cells⟩) := by
  have h3 : takeCells (p.cells ++ post) 3 = some p.cells := takeCells_app p.cells post rfl
  rw [ld_46, cells_row h.row, List.drop_left, h3]
section
variable {W0 : World} {m0 : Inj Tryz.prog}
theorem wc23 {p : Nm} {A : AW} {K : Value → AW → Prop} (hf : Fine A) (hA : A.next + 5 < maxId) (hk : ∀ A', Grow A A' 2 → K (.agg ⟨(gl p).cells⟩) A') : Wc Tryz.prog theX W0 m0 23 [.agg ⟨p.cells⟩] A K := by
  refine w23 _ _ (cuts_none (S := fun _ _ _ => False) fun _ _ _ h => h) ?_
  rw [e23]
  refine newP_made (cs := p.cells) hf (by omega) rfl fun A1 m1 => ?_
  have n1 := m1.next
  have k1 := m1.keeps hf
  refine allocP_made zero46 m1.fine (by omega) rfl fun A2 m2 => ?_
  have n2 := m2.next
  have k2 := m2.keeps m1.fine
  simp only [fa_46_2, pureW_some, Nat.zero_add]
  have r1 : Go.Abs.Row1 A2 A.next p.cells 46 := m1.row1.keeps k2 (by simp)
  refine r1.store m2.fine (by omega) (st_9 _ _ _) rfl (by simp [Nm.cells]) rfl fun A3 r3 k3 n3 f3 => ?_
  have r3 : Go.Abs.Row1 A3 A.next (gl p).cells 46 := r3
  simp only [load46 r3, pureW_some]
  refine putNm (p := gl p) (m2.row1.keeps k3 (by simp; omega)) rfl f3 (by omega) fun A4 r4 k4 n4 f4 => ?_
  simp only [load46 r4, pureW_some]
  refine hk A4 ⟨(((k1.trans k2 (by simp)).trans k3 (by simp)).trans k4 (by simp; omega)), f4, by omega⟩
theorem wc29 {p : Nm} {A : AW} {K : Value → AW → Prop} (hf : Fine A) (hA : A.next + 5 < maxId) (hk : ∀ A', Grow A A' 2 → K (.agg ⟨(gl p).cells⟩) A') : Wc Tryz.prog theX W0 m0 29 [.agg ⟨p.cells⟩] A K := by
  refine w29 _ _ (cuts_none (S := fun _ _ _ => False) fun _ _ _ h => h) ?_
  rw [e29]
  refine newP_made (cs := p.cells) hf (by omega) rfl fun A1 m1 => ?_
  have n1 := m1.next
  have k1 := m1.keeps hf
  refine allocP_made zero46 m1.fine (by omega) rfl fun A2 m2 => ?_
  have n2 := m2.next
  have k2 := m2.keeps m1.fine
  have r1 : Go.Abs.Row1 A2 A.next [.int .u32 (p.f : Int), .string p.g, .string p.b] 46 := m1.row1.keeps k2 (by simp)
  simp only [fa_46_0, fa_46_1, ld_44, ld_9, cell_row r1.row, cellOf, isT_int, isT_string, cond_false, pureW_some, Nat.zero_add, ba46_2]
  refine putNm (p := gl p) m2.row1 rfl m2.fine (by omega) fun A4 r4 k4 n4 f4 => ?_
  simp only [load46 r4, pureW_some]
  exact hk A4 ⟨(k1.trans k2 (by simp)).trans k4 (by simp; omega), f4, by omega⟩
theorem wc24 {A : AW} {K : Value → AW → Prop} (hf : Fine A) (hA : A.next + 5 < maxId) (hk : ∀ A', Grow A A' 1 → K addsV A') : Wc Tryz.prog theX W0 m0 24 [] A K := by
  refine w24 _ (cuts_none (S := fun _ _ _ => False) fun _ _ _ h => h) ?_
  rw [e24]
  refine allocP_made zero61 hf (by omega) rfl fun A1 m1 => ?_
  have n1 := m1.next
  have k1 := m1.keeps hf
  simp only [ba61, pureW_some]
  refine m1.row1.store m1.fine (by omega) (st_61 _ _ _) rfl (by simp [Value.cells]) rfl fun A2 r2 k2 n2 f2 => ?_
  have r2 : Go.Abs.Row1 A2 A.next addsV.cells.toList 61 := r2
  have hl : loadP Tryz.prog A2 61 (.pointer (some ⟨A.next, 0, none⟩)) = some addsV := by
    rw [ld_61, cells_row r2.row]; rfl
  simp only [hl, pureW_some]
  exact hk A2 ⟨k1.trans k2 (by simp), f2, by omega⟩
theorem wc48 {s : Sc} {q : Nat} {A : AW} {K : Value → AW → Prop} (h : Go.Abs.Row1 A q s.cells 58) (hf : Fine A) (hA : A.next ≤ maxId) (hc : s.c1 < 1000000) (hk : ∀ A', Go.Abs.Row1 A' q (s.add 1).cells 58 → Keeps A A' [q] → A'.next = A.next → Fine A' → K (.tuple ⟨[]⟩) A') : Wc Tryz.prog theX W0 m0 48 [.pointer (some ⟨q, 0, none⟩)] A K := by
  refine w48 _ _ (cuts_none (S := fun _ _ _ => False) fun _ _ _ h => h) ?_
  rw [e48]
  have h' : Go.Abs.Row1 A q [.int .u32 (s.x.f : Int), .string s.x.g, .string s.x.b, .int .i64 (s.c1 : Int), .int .i64 (s.c2 : Int), .int .i64 (s.c3 : Int), .int .i64 (s.c4 : Int), .int .i64 (s.c5 : Int)] 58 := h
  simp only [nilP, fa_58_1, ld_3, cell_row h'.row, cellOf, isT_int, cond_false, pureW_some, Nat.zero_add, bin_add]
  rw [wrap_i64 (by omega) (by omega)]
  refine h.store hf hA (st_3 _ _ _) rfl (by simp [Sc.cells]) rfl fun A1 r1 k1 n1 f1 => hk A1 ?_ k1 n1 f1
  exact r1
theorem wc49 {s : Sc} {q : Nat} {A : AW} {K : Value → AW → Prop} (h : Go.Abs.Row1 A q s.cells 58) (hf : Fine A) (hA : A.next ≤ maxId) (hc : s.c2 < 1000000) (hk : ∀ A', Go.Abs.Row1 A' q (s.add 2).cells 58 → Keeps A A' [q] → A'.next = A.next → Fine A' → K (.tuple ⟨[]⟩) A') : Wc Tryz.prog theX W0 m0 49 [.pointer (some ⟨q, 0, none⟩)] A K := by
  refine w49 _ _ (cuts_none (S := fun _ _ _ => False) fun _ _ _ h => h) ?_
  rw [e49]
  have h' : Go.Abs.Row1 A q [.int .u32 (s.x.f : Int), .string s.x.g, .string s.x.b, .int .i64 (s.c1 : Int), .int .i64 (s.c2 : Int), .int .i64 (s.c3 : Int), .int .i64 (s.c4 : Int), .int .i64 (s.c5 : Int)] 58 := h
  simp only [nilP, fa_58_2, ld_3, cell_row h'.row, cellOf, isT_int, cond_false, pureW_some, Nat.zero_add, bin_add]
  rw [wrap_i64 (by omega) (by omega)]
  refine h.store hf hA (st_3 _ _ _) rfl (by simp [Sc.cells]) rfl fun A1 r1 k1 n1 f1 => hk A1 ?_ k1 n1 f1
  exact r1
theorem wc50 {s : Sc} {q : Nat} {A : AW} {K : Value → AW → Prop} (h : Go.Abs.Row1 A q s.cells 58) (hf : Fine A) (hA : A.next ≤ maxId) (hc : s.c3 < 1000000) (hk : ∀ A', Go.Abs.Row1 A' q (s.add 3).cells 58 → Keeps A A' [q] → A'.next = A.next → Fine A' → K (.tuple ⟨[]⟩) A') : Wc Tryz.prog theX W0 m0 50 [.pointer (some ⟨q, 0, none⟩)] A K := by
  refine w50 _ _ (cuts_none (S := fun _ _ _ => False) fun _ _ _ h => h) ?_
  rw [e50]
  have h' : Go.Abs.Row1 A q [.int .u32 (s.x.f : Int), .string s.x.g, .string s.x.b, .int .i64 (s.c1 : Int), .int .i64 (s.c2 : Int), .int .i64 (s.c3 : Int), .int .i64 (s.c4 : Int), .int .i64 (s.c5 : Int)] 58 := h
  simp only [nilP, fa_58_3, ld_3, cell_row h'.row, cellOf, isT_int, cond_false, pureW_some, Nat.zero_add, bin_add]
  rw [wrap_i64 (by omega) (by omega)]
  refine h.store hf hA (st_3 _ _ _) rfl (by simp [Sc.cells]) rfl fun A1 r1 k1 n1 f1 => hk A1 ?_ k1 n1 f1
  exact r1
theorem wc51 {s : Sc} {q : Nat} {A : AW} {K : Value → AW → Prop} (h : Go.Abs.Row1 A q s.cells 58) (hf : Fine A) (hA : A.next ≤ maxId) (hc : s.c4 < 1000000) (hk : ∀ A', Go.Abs.Row1 A' q (s.add 4).cells 58 → Keeps A A' [q] → A'.next = A.next → Fine A' → K (.tuple ⟨[]⟩) A') : Wc Tryz.prog theX W0 m0 51 [.pointer (some ⟨q, 0, none⟩)] A K := by
  refine w51 _ _ (cuts_none (S := fun _ _ _ => False) fun _ _ _ h => h) ?_
  rw [e51]
  have h' : Go.Abs.Row1 A q [.int .u32 (s.x.f : Int), .string s.x.g, .string s.x.b, .int .i64 (s.c1 : Int), .int .i64 (s.c2 : Int), .int .i64 (s.c3 : Int), .int .i64 (s.c4 : Int), .int .i64 (s.c5 : Int)] 58 := h
  simp only [nilP, fa_58_4, ld_3, cell_row h'.row, cellOf, isT_int, cond_false, pureW_some, Nat.zero_add, bin_add]
  rw [wrap_i64 (by omega) (by omega)]
  refine h.store hf hA (st_3 _ _ _) rfl (by simp [Sc.cells]) rfl fun A1 r1 k1 n1 f1 => hk A1 ?_ k1 n1 f1
  exact r1
theorem wc52 {s : Sc} {q : Nat} {A : AW} {K : Value → AW → Prop} (h : Go.Abs.Row1 A q s.cells 58) (hf : Fine A) (hA : A.next ≤ maxId) (hc : s.c5 < 1000000) (hk : ∀ A', Go.Abs.Row1 A' q (s.add 5).cells 58 → Keeps A A' [q] → A'.next = A.next → Fine A' → K (.tuple ⟨[]⟩) A') : Wc Tryz.prog theX W0 m0 52 [.pointer (some ⟨q, 0, none⟩)] A K := by
  refine w52 _ _ (cuts_none (S := fun _ _ _ => False) fun _ _ _ h => h) ?_
  rw [e52]
  have h' : Go.Abs.Row1 A q [.int .u32 (s.x.f : Int), .string s.x.g, .string s.x.b, .int .i64 (s.c1 : Int), .int .i64 (s.c2 : Int), .int .i64 (s.c3 : Int), .int .i64 (s.c4 : Int), .int .i64 (s.c5 : Int)] 58 := h
  simp only [nilP, fa_58_5, ld_3, cell_row h'.row, cellOf, isT_int, cond_false, pureW_some, Nat.zero_add, bin_add]
  rw [wrap_i64 (by omega) (by omega)]
  refine h.store hf hA (st_3 _ _ _) rfl (by simp [Sc.cells]) rfl fun A1 r1 k1 n1 f1 => hk A1 ?_ k1 n1 f1
  exact r1
end
theorem dyn_add (A : AW) (a : Addr) (w : Nat) (hw : 1 ≤ w ∧ w ≤ 5) : ∃ f, indexA Tryz.prog 61 addsV (.int .u8 (w : Int)) = some (.func (.func f) #[] #[]) ∧ f = 47 + w ∧ dynA Tryz.prog theX A (.func (.func f) #[] #[]) [.pointer (some a)] = .ok (.enter f [.pointer (some a)]) A := by
  have : w = 1 ∨ w = 2 ∨ w = 3 ∨ w = 4 ∨ w = 5 := by omega
  rcases this with rfl | rfl | rfl | rfl | rfl
  · exact ⟨48, by kernel_rfl, rfl, by kernel_rfl⟩
  · exact ⟨49, by kernel_rfl, rfl, by kernel_rfl⟩
  · exact ⟨50, by kernel_rfl, rfl, by kernel_rfl⟩
  · exact ⟨51, by kernel_rfl, rfl, by kernel_rfl⟩
  · exact ⟨52, by kernel_rfl, rfl, by kernel_rfl⟩
end Go.Proofs.YtdpdajpiadohjaaGreatDoor


namespace Go.Proofs.YtdpdajpiadohjaaGreatDoor
open Go.Abs

def zS : Sc := ⟨⟨0, .empty, .empty⟩, 0, 0, 0, 0, 0⟩
theorem zero58S : zeroT Tryz.prog 58 = some (vS zS) := zero58
theorem lookS {A : AW} {r c : Nat} {es : List (En Nm Sc)} {l : List Dd} (h : OwnM kN vS A r es c) (hs : Sums l es) (k : Nm) :
    ∃ s0 : Sc, lookupA Tryz.prog A 57 (.map (some r)) (.agg ⟨k.cells⟩) false = some (vS s0) ∧ (⟨k, s0.c1, s0.c2, s0.c3, s0.c4, s0.c5⟩ : Sc) = scOf l k ∧ (Has l k → s0 = scOf l k) := by
  have hl := h.look mtN zero58S k false
  rcases sums_look hs h.nk k with ⟨h1, h2⟩ | ⟨h1, h2⟩
  · rw [h1] at hl
    exact ⟨scOf l k, hl, rfl, fun _ => rfl⟩
  · rw [h1] at hl
    refine ⟨zS, hl, ?_, fun h => absurd h h2⟩
    unfold scOf zS
    rw [cnt_zero h2 (by omega), cnt_zero h2 (by omega), cnt_zero h2 (by omega), cnt_zero h2 (by omega), cnt_zero h2 (by omega)]
theorem sums_len {l : List Dd} {es : List (En Nm Sc)} (hs : Sums l es) (hn : (es.map En.k).Nodup) : es.length ≤ l.length := by
  have := nodup_len (b := l.map fun d => gl d.x) hn fun k hk => by
    obtain ⟨e, he, rfl⟩ := List.mem_map.1 hk
    obtain ⟨d, hd, _, h2⟩ := (hs.1 e.k).1 ⟨e, he, rfl⟩
    exact List.mem_map.2 ⟨d, hd, h2⟩
  simpa using this
theorem scOf_x (l : List Dd) (k : Nm) : (scOf l k).x = k := rfl
theorem newSc1 {A : AW} {s : Sc} {K : Value → AW → Prop} (hf : Fine A) (h : A.next < maxId) (hk : ∀ A', Made A A' s.cells 48 → K (.slice (some ⟨A.next, 0, none⟩) 1 1) A') : bothW (buildSliceA Tryz.prog A 25 1 [(0, vS s)]) K := by
  show bothW (buildSliceA Tryz.prog A 25 1 [(0, .agg ⟨[.int .u32 (s.x.f : Int), .string s.x.g, .string s.x.b, .int .i64 (s.c1 : Int), .int .i64 (s.c2 : Int), .int .i64 (s.c3 : Int), .int .i64 (s.c4 : Int), .int .i64 (s.c5 : Int)]⟩)]) K
  rw [bs25]
  unfold AW.newRow AW.new
  have hc : (s.cells.all oneCell) = true := rfl
  have hc' : ([Value.int .u32 (s.x.f : Int), .string s.x.g, .string s.x.b, .int .i64 (s.c1 : Int), .int .i64 (s.c2 : Int), .int .i64 (s.c3 : Int), .int .i64 (s.c4 : Int), .int .i64 (s.c5 : Int)].all oneCell) = true := hc
  simp only [hc', cond_true, blt_true.2 h]
  exact bothW_ok.2 (hk (A.push (.row s.cells 48 A.next 0 false)) ⟨AW.push_ext _ h, rfl, by rw [AW.push_get _ h, if_pos rfl], hf.alone (Nat.le_refl _), hf.push _ h⟩)
section
variable {W0 : World} {m0 : Inj Tryz.prog}
/-- one more deed of a name, added by the function that stands for it -/
theorem addW {s : Sc} {q w : Nat} {A : AW} {K : Value → AW → Prop} (hw : 1 ≤ w ∧ w ≤ 5) (h : Go.Abs.Row1 A q s.cells 58) (hf : Fine A) (hA : A.next ≤ maxId) (hc : s.c1 < 1000000 ∧ s.c2 < 1000000 ∧ s.c3 < 1000000 ∧ s.c4 < 1000000 ∧ s.c5 < 1000000)
    (hk : ∀ A', Go.Abs.Row1 A' q (s.add w).cells 58 → Keeps A A' [q] → A'.next = A.next → Fine A' → K (.tuple ⟨[]⟩) A') :
    Wc Tryz.prog theX W0 m0 (47 + w) [.pointer (some ⟨q, 0, none⟩)] A K := by
  have : w = 1 ∨ w = 2 ∨ w = 3 ∨ w = 4 ∨ w = 5 := by omega
  rcases this with rfl | rfl | rfl | rfl | rfl
  · exact wc48 h hf hA hc.1 hk
  · exact wc49 h hf hA hc.2.1 hk
  · exact wc50 h hf hA hc.2.2.1 hk
  · exact wc51 h hf hA hc.2.2.2.1 hk
  · exact wc52 h hf hA hc.2.2.2.2 hk
theorem addT {s : Sc} {q w : Nat} {A : AW} {K : Value → AW → Prop} (hw : 1 ≤ w ∧ w ≤ 5) (h : Go.Abs.Row1 A q s.cells 58) (hf : Fine A) (hA : A.next ≤ maxId) (hc : s.c1 < 1000000 ∧ s.c2 < 1000000 ∧ s.c3 < 1000000 ∧ s.c4 < 1000000 ∧ s.c5 < 1000000)
    (hk : ∀ A', Go.Abs.Row1 A' q (s.add w).cells 58 → Keeps A A' [q] → A'.next = A.next → Fine A' → K (.tuple ⟨[]⟩) A') :
    toW Tryz.prog theX W0 m0 (47 + w) [.pointer (some ⟨q, 0, none⟩)] A K := by
  have hkk := addW (W0 := W0) (m0 := m0) hw h hf hA hc hk
  have : w = 1 ∨ w = 2 ∨ w = 3 ∨ w = 4 ∨ w = 5 := by omega
  rcases this with rfl | rfl | rfl | rfl | rfl <;> exact hkk
set_option maxHeartbeats 2000000 in
theorem wc9 {v : Value} {l : List Dd} {a : List Nm} {Fd : List Nat} {A : AW} {K : Value → AW → Prop} (hv : RdE 4 Dd.cells A v l Fd) (hl : l.length < 10000) (ha : NamesOf l a) (hf : Fine A) (hA : A.next + 100 + 30 * l.length < maxId)
    (hk : ∀ A' sv F, OwnE 48 7 Sc.cells A' sv (tally l a) F → (∀ x ∈ F, A.next ≤ x) → Grow A A' (60 + 30 * l.length) → K sv A') :
    Wc Tryz.prog theX W0 m0 9 [v] A K := by
  let I : Nat → Nat → List Value → AW → Prop := fun g id vals A' =>
    (id = 0 ∧ ∃ (i c : Nat) (es : List (En Nm Sc)), vals = [.map (some A.next), v, .int .i64 (l.length : Int), .int .i64 (i : Int)] ∧ i ≤ l.length ∧ OwnM kN vS A' A.next es c ∧ Sums (l.take i) es ∧ Keeps A A' [] ∧ Fine A' ∧ A'.next ≤ A.next + 1 + 8 * i ∧ A.next < A'.next ∧ g = 20000 + (l.length - i)) ∨
    (id = 2 ∧ ∃ (j c B : Nat) (es : List (En Nm Sc)) (sl out : Value) (F Fo : List Nat), vals = [.map (some A.next), out, sl, .int .i64 (a.length : Int), .int .i64 (j : Int)] ∧ j ≤ a.length ∧ OwnM kN vS A' A.next es c ∧ Sums l es ∧ OwnE 46 2 Nm.cells A' sl a F ∧ OwnE 48 7 Sc.cells A' out (tally l (a.take j)) Fo ∧
      (∀ x ∈ F, x < B) ∧ (∀ x ∈ Fo, B ≤ x) ∧ A.next < B ∧ B ≤ A.next + 30 + 14 * l.length ∧ Keeps A A' [] ∧ Fine A' ∧ A'.next ≤ B + 4 * j ∧ B ≤ A'.next ∧ a.length ≤ l.length ∧ g = a.length - j)
  refine w9 _ _ (c9 (I := I) ?_) ?_
  · rintro g id vals A' d (⟨rfl, i, c, es, rfl, hi, hm, hs, k, f, nx, lt0, rfl⟩ | ⟨rfl, j, c, B, es, sl, out, F, Fo, rfl, hj, hm, hs, hsl, ho, hFB, hFo, hAB, hB, k, f, nx, hBn, hal, rfl⟩) hd
    · rw [l9_0]
      simp only [L9, List.map_cons, List.map_nil, List.cons.injEq, and_true] at hd
      obtain ⟨d3, d11, d12, d13⟩ := hd
      simp only [d3, d11, d12, d13, bin_lss, pureW_some, forkW_dec]
      refine ⟨fun hlt => ?_, fun hge => ?_⟩
      · have hlt : i < l.length := by omega
        have hp := List.getElem?_eq_getElem hlt
        generalize hdd : l[i] = dd at hp
        obtain ⟨r, o, a1, _, a2⟩ := (hv.keeps k (fun x hx => by simp)).at etD hp
        simp only [a1, a2, pureW_some]
        have hsn : l.take (i + 1) = l.take i ++ [dd] := by rw [List.take_add_one, hp]; rfl
        refine allocP_made zero56 f (by omega) rfl fun A1 m1 => ?_
        have n1 := m1.next
        have k1 := m1.keeps f
        refine m1.row1.store m1.fine (by omega) (st_56 _ _ _) rfl (by simp [Value.cells]) rfl fun A2 r2 k2 n2 f2 => ?_
        have K2 : Keeps A' A2 [] := k1.trans k2 (by simp)
        have r2 : Go.Abs.Row1 A2 A'.next [.int .u8 (dd.n : Int), .int .u32 (dd.x.f : Int), .string dd.x.g, .string dd.x.b, .int .u8 (dd.w : Int)] 56 := r2
        have hm2 := hm.keeps K2 (by simp)
        simp only [fa_56_2, fa_56_1, ld_5, cell_row r2.row, cellOf, isT_int, cond_false, pureW_some, Nat.zero_add, bin_lss, bin_gtr, bin_add, forkW_dec]
        rw [wrap_i64 (by omega) (by omega)]
        have hskip : okD dd = false → cutW (T9 0) (T9 0) (∃ g', g' < 20000 + (l.length - i) ∧ I g' 0 [.map (some A.next), v, .int .i64 (l.length : Int), .int .i64 ((i : Int) + 1)] A2) := fun ho =>
          cutW_self.2 ⟨20000 + (l.length - (i + 1)), by omega, .inl ⟨rfl, i + 1, c, es, rfl, by omega, hm2, by rw [hsn]; exact sums_skip hs ho, k.trans K2 (by simp), f2, by omega, by omega, rfl⟩⟩
        refine ⟨fun h => hskip (by unfold okD; exact decide_eq_false (by omega)), fun h1 => ⟨fun h => hskip (by unfold okD; exact decide_eq_false (by omega)), fun h2 => ?_⟩⟩
        have hw : 1 ≤ dd.w ∧ dd.w ≤ 5 := by omega
        have hok : okD dd = true := by unfold okD; exact decide_eq_true hw
        have hX : ∀ {B : AW}, Go.Abs.Row1 B A'.next [.int .u8 (dd.n : Int), .int .u32 (dd.x.f : Int), .string dd.x.g, .string dd.x.b, .int .u8 (dd.w : Int)] 56 → loadP Tryz.prog B 46 (.pointer (some ⟨A'.next, 1, none⟩)) = some (.agg ⟨dd.x.cells⟩) := fun h =>
          load_at (pre := [.int .u8 (dd.n : Int)]) (post := [.int .u8 (dd.w : Int)]) h
        simp only [hX r2, pureW_some]
        refine wc23 f2 (by omega) fun A3 g3 => ?_
        have n3 := g3.next
        have l3 := g3.le
        have hm3 := hm2.keeps g3.keeps (by simp)
        have r3 := r2.keeps g3.keeps (by simp)
        obtain ⟨s0, hlk, hs0, _⟩ := lookS hm3 hs (gl dd.x)
        simp only [hlk, pureW_some]
        refine allocP_made zero58 g3.fine (by omega) rfl fun A4 m4 => ?_
        have n4 := m4.next
        have k4 := m4.keeps g3.fine
        refine m4.row1.store m4.fine (by omega) (st_58 _ _ _) rfl (by simp [vS, Value.cells, Sc.cells]) rfl fun A5 r5 k5 n5 f5 => ?_
        have r5 : Go.Abs.Row1 A5 A3.next s0.cells 58 := r5
        have K5 : Keeps A3 A5 [] := k4.trans k5 (by simp)
        have r5d := r3.keeps K5 (by simp)
        simp only [hX r5d, pureW_some]
        refine wc23 f5 (by omega) fun A6 g6 => ?_
        have n6 := g6.next
        have l6 := g6.le
        have r6 := r5.keeps g6.keeps (by simp)
        simp only [fa_58_0, pureW_some]
        refine r6.store g6.fine (by omega) (st_46 _ _ _) rfl (by simp [Sc.cells]) rfl fun A7 r7 k7 n7 f7 => ?_
        have r7 : Go.Abs.Row1 A7 A3.next (scOf (l.take i) (gl dd.x)).cells 58 := by rw [← hs0]; exact r7
        have r7d := (r5d.keeps g6.keeps (by simp)).keeps k7 (by simp; omega)
        simp only [cell_row r7d.row, cellOf, isT_int, cond_false, pureW_some]
        refine wc24 f7 (by omega) fun A8 g8 => ?_
        have n8 := g8.next
        have l8 := g8.le
        have r8d := r7d.keeps g8.keeps (by simp)
        have r8 := r7.keeps g8.keeps (by simp)
        simp only [cell_row r8d.row, cellOf, isT_int, cond_false, pureW_some, eqW_self]
        obtain ⟨fn, hix, hfn, hdy⟩ := dyn_add A8 ⟨A3.next, 0, none⟩ dd.w hw
        simp only [hix, pureW_some]
        rw [hdy, hfn]
        have hcb : ∀ w, cnt (l.take i) (gl dd.x) w < 1000000 := fun w => Nat.lt_of_le_of_lt (cnt_le _ _ _) (by rw [List.length_take]; omega)
        refine .inr (.inl ⟨_, _, _, rfl, addT hw r8 g8.fine (by omega) ⟨hcb 1, hcb 2, hcb 3, hcb 4, hcb 5⟩ fun A9 r9 k9 n9 f9 => ?_⟩)
        rw [← scOf_snoc] at r9
        have hld0 : loadP Tryz.prog A9 46 (.pointer (some ⟨A3.next, 0, none⟩)) = some (.agg ⟨(gl dd.x).cells⟩) :=
          load_at (pre := []) (post := (scOf (l.take i ++ [dd]) (gl dd.x)).cells.drop 3) r9
        have hld1 : loadP Tryz.prog A9 58 (.pointer (some ⟨A3.next, 0, none⟩)) = some (vS (scOf (l.take i ++ [dd]) (gl dd.x))) := by
          rw [ld_58, cells_row r9.row]; rfl
        simp only [hld0, hld1, pureW_some]
        have Kall : Keeps A2 A9 [] := (((((g3.keeps.trans K5 (by simp)).trans g6.keeps (by simp)).trans k7 (fun x hx => .inr (by simp at hx; omega))).trans g8.keeps (by simp)).trans k9 (fun x hx => .inr (by simp at hx; omega)))
        have hm9 := hm2.keeps Kall (by simp)
        refine hm9.put mtN f9 (by omega) (k := gl dd.x) (v := scOf (l.take i ++ [dd]) (gl dd.x)) fun A10 c' hm10 k10 n10 f10 => ?_
        refine cutW_self.2 ⟨20000 + (l.length - (i + 1)), by omega, .inl ⟨rfl, i + 1, c', _, rfl, by omega, hm10, ?_, ?_, f10, by omega, by omega, rfl⟩⟩
        · rw [hsn, scOf_snoc]
          exact sums_snoc hs hm.nk hok
        · exact ((k.trans K2 (by simp)).trans Kall (by simp)).trans k10 (fun x hx => .inr (by simp at hx; omega))
      · have hil : i = l.length := by omega
        subst hil
        rw [List.take_length] at hs
        have hesl := sums_len hs hm.nk
        refine w26 _ _ (cuts_none (S := fun _ _ _ => False) fun _ _ _ h => h) ?_
        rw [e26]
        refine newP_made (cs := [.map (some A.next)]) f (by omega) rfl fun A1 m1 => ?_
        have n1 := m1.next
        have k1 := m1.keeps f
        have hm1 := hm.keeps k1 (by simp)
        refine wc25 m1.row1 hm1 m1.fine (by omega) (by omega) fun A2 sl F vs ho hp hF k2 n2 f2 => ?_
        have hm2 := hm1.keeps k2 (by simp)
        have hnm : srt (vs.map En.k) = a := sums_names hs hm.nk ha (hp.map _)
        rw [hnm] at ho
        have hla : a.length ≤ l.length := by
          rw [← hnm]
          unfold srt
          rw [List.length_mergeSort, List.length_map, hp.length_eq]
          exact hesl
        simp only [(ho.rd etN.len).len etN, pureW_some]
        have hle := k2.next
        exact cutW_self.2 ⟨a.length, by omega, .inr ⟨rfl, 0, c, A2.next, es, sl, .slice none 0 0, F, [], rfl, by omega, hm2, hs, ho, .nil _, fun x hx => ho.lt x hx, by simp, by omega, by omega, (k.trans k1 (by simp)).trans k2 (by simp), f2, by omega, Nat.le_refl _, hla, rfl⟩⟩
    · rw [l9_2]
      simp only [L9, List.map_cons, List.map_nil, List.cons.injEq, and_true] at hd
      obtain ⟨d3, d7, d46, d47, d48⟩ := hd
      simp only [d3, d7, d46, d47, d48, bin_lss, pureW_some, forkW_dec]
      refine ⟨fun hlt => ?_, fun hge => ?_⟩
      · have hlt : j < a.length := by omega
        have hp := List.getElem?_eq_getElem hlt
        generalize hpp : a[j] = p at hp
        obtain ⟨r, o, a1, _, a2⟩ := (hsl.rd etN.len).at etN hp
        simp only [a1, a2, pureW_some]
        refine allocP_made zero46 f (by omega) rfl fun A1 m1 => ?_
        have n1 := m1.next
        have k1 := m1.keeps f
        refine putNm (p := p) m1.row1 rfl m1.fine (by omega) fun A2 r2 k2 n2 f2 => ?_
        have K2 : Keeps A' A2 [] := k1.trans k2 (by simp)
        have hm2 := hm.keeps K2 (by simp)
        obtain ⟨s0, hlk, _, hs1⟩ := lookS hm2 hs p
        have hs1 := hs1 ((ha.2 p).1 (List.mem_of_getElem? hp))
        simp only [load46 r2, hlk, pureW_some]
        refine newSc1 f2 (by omega) fun A3 m3 => ?_
        have n3 := m3.next
        have k3 := m3.keeps f2
        refine OwnE.append etS ((ho.keeps K2 (by simp)).keeps k3 (by simp)) m3.row1 m3.fine (by omega) (by unfold tally; rw [List.length_map, List.length_take]; omega) fun out' A4 Fo' ho4 k4 hF4 n4 f4 => ?_
        simp only [bin_add, pureW_some]
        rw [wrap_i64 (by omega) (by omega)]
        have K3 : Keeps A' A3 [] := K2.trans k3 (by simp)
        refine cutW_self.2 ⟨a.length - (j + 1), by omega, .inr ⟨rfl, j + 1, c, B, es, sl, out', F, Fo', rfl, by omega, (hm.keeps K3 (by simp)).keeps k4 (fun h => by have := hFo _ h; omega), hs, ((hsl.keeps K3 (by simp)).keeps k4 (fun x hx h => by have := hFB x hx; have := hFo x h; omega)), ?_, hFB, fun x hx => ?_, hAB, hB, ?_, f4, by omega, by omega, hal, rfl⟩⟩
        · have e : tally l (a.take (j + 1)) = tally l (a.take j) ++ [s0] := by
            unfold tally
            rw [List.take_add_one, hp, List.map_append, hs1]; rfl
          rw [e]; exact ho4
        · rcases hF4 x hx with h | h
          · exact hFo x h
          · omega
        · exact (k.trans K3 (by simp)).trans k4 (fun x hx => .inr (by have := hFo x hx; omega))
      · have hja : j = a.length := by omega
        subst hja
        rw [List.take_length] at ho
        exact hk A' out Fo ho (fun x hx => by have := hFo x hx; omega) ⟨k, f, by omega⟩
  · rw [e9]
    refine newM (α := Nm) (β := Sc) (ke := kN) (ve := vS) hf (by omega) fun A1 hm k1 n1 f1 => ?_
    simp only [hv.len etD, pureW_some]
    exact cutW_self.2 ⟨20000 + l.length, .inl ⟨rfl, 0, 0, [], rfl, by omega, hm, sums_nil, k1, f1, by omega, by omega, by simp⟩⟩
end
end Go.Proofs.YtdpdajpiadohjaaGreatDoor


namespace Go.Proofs.YtdpdajpiadohjaaGreatDoor
open Go.Abs

/-- are lists of names the same? -/
noncomputable def eqL (a b : List Nm) : Bool := @decide (a = b) (Classical.propDecidable _)
theorem eqL_true {a b : List Nm} (h : a = b) : eqL a b = true := by unfold eqL; exact @decide_eq_true _ (Classical.propDecidable _) h
theorem eqL_false {a b : List Nm} (h : ¬ a = b) : eqL a b = false := by unfold eqL; exact @decide_eq_false _ (Classical.propDecidable _) h
def decS (s : Sc) : Bool := decidedS s
def pickF (dec : Bool) : Value := if dec = true then .func (.func 33) #[] #[] else .func (.func 32) #[] #[]
theorem bothN_snoc (l : List Dd) (a : List Nm) (k : Nm) (dec : Bool) : bothN l (a ++ [k]) dec = bothN l a dec ++ (if bothS (scOf l k) && (decidedS (scOf l k) == dec) then [k] else []) := by
  unfold bothN tally
  rw [List.map_append, List.filter_append, List.map_append]
  congr 1
  simp only [List.map_cons, List.map_nil, List.filter_cons, List.filter_nil]
  cases bothS (scOf l k) && (decidedS (scOf l k) == dec) <;> rfl
section
variable {W0 : World} {m0 : Inj Tryz.prog}
theorem wc11 {v1 v2 : Value} {l1 l2 : List Nm} {F1 F2 : List Nat} {A : AW} {K : Value → AW → Prop} (h1 : RdE 2 Nm.cells A v1 l1 F1) (h2 : RdE 2 Nm.cells A v2 l2 F2) (hl : l1.length < 1000000) (hk : K (.bool (eqL l1 l2)) A) : Wc Tryz.prog theX W0 m0 11 [v1, v2] A K := by
  let I : Nat → Nat → List Value → AW → Prop := fun g id vals A' => id = 0 ∧ A' = A ∧ ∃ i : Nat, vals = [v1, v2, .int .i64 (i : Int)] ∧ g = l1.length - i ∧ i ≤ l1.length ∧ l1.length = l2.length ∧ ∀ j, j < i → l1[j]? = l2[j]?
  refine w11 _ _ _ (c11 (I := I) ?_) ?_
  · rintro g id vals A' d ⟨rfl, rfl, i, rfl, rfl, hi, hlen, hs⟩ hd
    rw [l11_0]
    simp only [L11, List.map_cons, List.map_nil, List.cons.injEq, and_true] at hd
    obtain ⟨h0, h1', h5⟩ := hd
    simp only [h0, h1', h5, h1.len etN, bin_lss, pureW_some, forkW_dec]
    refine ⟨fun hlt => ?_, fun hge => ?_⟩
    · have hlt : i < l1.length := by omega
      have hp := List.getElem?_eq_getElem hlt
      have hq := List.getElem?_eq_getElem (show i < l2.length by omega)
      obtain ⟨r, o, a1, _, a2⟩ := h1.at etN hp
      obtain ⟨r', o', b1, _, b2⟩ := h2.at etN hq
      simp only [a1, b1, a2, b2, pureW_some, neqN, bin_add]
      rw [wrap_i64 (by omega) (by omega)]
      refine forkW_bool.2 ⟨fun h => ?_, fun h => ?_⟩
      · have hne : l1[i] ≠ l2[i]'(by omega) := keqN_not.1 (by simpa using h)
        rw [eqL_false (fun e => hne (by simp [e]))] at hk
        exact hk
      · have he : l1[i] = l2[i]'(by omega) := keqN_iff.1 (by simpa using h)
        refine cutW_self.2 ⟨l1.length - (i + 1), by omega, rfl, rfl, i + 1, rfl, rfl, by omega, hlen, fun j hj => ?_⟩
        by_cases hji : j = i
        · subst hji; rw [hp, hq, he]
        · exact hs j (by omega)
    · have : l1 = l2 := List.ext_getElem? fun j => by
        by_cases hj : j < i
        · exact hs j hj
        · rw [List.getElem?_eq_none (by omega), List.getElem?_eq_none (by omega)]
      rw [eqL_true this] at hk
      exact hk
  · rw [e11]
    simp only [h1.len etN, h2.len etN, bin_neq, pureW_some, forkW_bne]
    refine ⟨fun hne => ?_, fun he => ?_⟩
    · rw [eqL_false (fun e => hne (by rw [e]))] at hk
      exact hk
    · exact cutW_self.2 ⟨l1.length, rfl, rfl, 0, rfl, rfl, by omega, by omega, fun j hj => by omega⟩
theorem wc33 {s : Sc} {A : AW} {K : Value → AW → Prop} (hc : s.c4 < 1000000 ∧ s.c5 < 1000000) (hf : Fine A) (hA : A.next + 5 < maxId) (hk : ∀ A', Grow A A' 1 → K (.bool (decidedS s)) A') : Wc Tryz.prog theX W0 m0 33 [vS s] A K := by
  refine w33 _ _ (cuts_none (S := fun _ _ _ => False) fun _ _ _ h => h) ?_
  rw [e33]
  refine newP_made (cs := s.cells) hf (by omega) rfl fun A1 m1 => ?_
  have r1 : Go.Abs.Row1 A1 A.next [.int .u32 (s.x.f : Int), .string s.x.g, .string s.x.b, .int .i64 (s.c1 : Int), .int .i64 (s.c2 : Int), .int .i64 (s.c3 : Int), .int .i64 (s.c4 : Int), .int .i64 (s.c5 : Int)] 48 := m1.row1
  simp only [fa_48_4, fa_48_5, ld_3, cell_row r1.row, cellOf, isT_int, cond_false, pureW_some, Nat.zero_add, bin_add, bin_gtr]
  rw [wrap_i64 (by omega) (by omega)]
  have := hk A1 (.made m1 hf)
  have e : decidedS s = decide ((0 : Int) < (s.c4 : Int) + (s.c5 : Int)) := by
    unfold decidedS
    exact decide_eq_decide.2 (by omega)
  rw [← e]
  exact this
theorem wc32 {s : Sc} {A : AW} {K : Value → AW → Prop} (hc : s.c4 < 1000000 ∧ s.c5 < 1000000) (hf : Fine A) (hA : A.next + 8 < maxId) (hk : ∀ A', Grow A A' 2 → K (.bool (!decidedS s)) A') : Wc Tryz.prog theX W0 m0 32 [vS s] A K := by
  refine w32 _ _ (cuts_none (S := fun _ _ _ => False) fun _ _ _ h => h) ?_
  rw [e32]
  refine newP_made (cs := s.cells) hf (by omega) rfl fun A1 m1 => ?_
  have n1 := m1.next
  have hld : loadP Tryz.prog A1 48 (.pointer (some ⟨A.next, 0, none⟩)) = some (vS s) := by
    rw [ld_48, cells_row m1.row1.row]; rfl
  simp only [hld, pureW_some]
  refine wc33 hc m1.fine (by omega) fun A2 g2 => ?_
  simp only [un_not, pureW_some]
  exact hk A2 ((Grow.made m1 hf).trans g2)
/-- the chosen function, called of a score -/
theorem soW (dec : Bool) {s : Sc} {A : AW} {K : Value → AW → Prop} (hc : s.c4 < 1000000 ∧ s.c5 < 1000000) (hf : Fine A) (hA : A.next + 8 < maxId) (hk : ∀ A', Grow A A' 2 → K (.bool (decidedS s == dec)) A') :
    anW Tryz.prog theX W0 m0 (dynA Tryz.prog theX A (pickF dec) [vS s]) K := by
  cases dec with
  | true =>
    have hd : dynA Tryz.prog theX A (pickF true) [vS s] = .ok (.enter 33 [vS s]) A := by unfold pickF; kernel_rfl
    rw [hd]
    refine .inr (.inl ⟨_, _, _, rfl, show Wc Tryz.prog theX W0 m0 33 [vS s] A K from wc33 hc hf (by omega) fun A' g => ?_⟩)
    have := hk A' (g.more (by omega))
    rwa [show (decidedS s == true) = decidedS s by cases decidedS s <;> rfl] at this
  | false =>
    have hd : dynA Tryz.prog theX A (pickF false) [vS s] = .ok (.enter 32 [vS s]) A := by unfold pickF; kernel_rfl
    rw [hd]
    refine .inr (.inl ⟨_, _, _, rfl, show Wc Tryz.prog theX W0 m0 32 [vS s] A K from wc32 hc hf (by omega) fun A' g => ?_⟩)
    have := hk A' g
    rwa [show (decidedS s == false) = !decidedS s by cases decidedS s <;> rfl] at this
end
end Go.Proofs.YtdpdajpiadohjaaGreatDoor


namespace Go.Proofs.YtdpdajpiadohjaaGreatDoor
open Go.Abs

theorem names_len {l : List Dd} {a : List Nm} (h : NamesOf l a) : a.length ≤ l.length := by
  have hn : a.Nodup := h.1.imp fun {x y} hxy e => by
    rw [e, xcmp_zero.2 rfl] at hxy
    omega
  have := nodup_len (b := l.map fun d => gl d.x) hn fun k hk => by
    obtain ⟨d, hd, _, h2⟩ := (h.2 k).1 hk
    exact List.mem_map.2 ⟨d, hd, h2⟩
  simpa using this
theorem tally_get {l : List Dd} {a : List Nm} {i : Nat} {p : Nm} (h : a[i]? = some p) : (tally l a)[i]? = some (scOf l p) := by
  unfold tally
  rw [List.getElem?_map, h]; rfl
theorem both_len (l : List Dd) (a : List Nm) (dec : Bool) : (bothN l a dec).length ≤ a.length := by
  unfold bothN tally
  rw [List.length_map]
  exact Nat.le_trans (List.length_filter_le _ _) (by rw [List.length_map]; exact Nat.le_refl _)
section
variable {W0 : World} {m0 : Inj Tryz.prog}
set_option maxHeartbeats 1000000 in
theorem wc31 {v : Value} {l : List Dd} {a : List Nm} {Fd : List Nat} (dec : Bool) {A : AW} {K : Value → AW → Prop} (hv : RdE 4 Dd.cells A v l Fd) (hl : l.length < 10000) (ha : NamesOf l a) (hf : Fine A) (hA : A.next + 200 + 60 * l.length < maxId)
    (hk : ∀ A' sv F, OwnE 46 2 Nm.cells A' sv (bothN l a dec) F → (∀ x ∈ F, A.next ≤ x) → Grow A A' (60 + 40 * l.length) → K sv A') :
    Wc Tryz.prog theX W0 m0 31 [v, pickF dec] A K := by
  have hal := names_len ha
  let I : Nat → Nat → List Value → AW → Prop := fun g id vals A' => id = 0 ∧ ∃ (i : Nat) (out ts : Value) (F Fo : List Nat) (A1 : AW), vals = [pickF dec, out, ts, .int .i64 (a.length : Int), .int .i64 (i : Int)] ∧ i ≤ a.length ∧ Grow A A1 (60 + 30 * l.length) ∧ OwnE 48 7 Sc.cells A' ts (tally l a) F ∧
      OwnE 46 2 Nm.cells A' out (bothN l (a.take i) dec) Fo ∧ (∀ x ∈ F, x < A1.next) ∧ (∀ x ∈ Fo, A1.next ≤ x) ∧ Keeps A1 A' [] ∧ Fine A' ∧ A'.next ≤ A1.next + 6 * i ∧ g = a.length - i
  refine w31 _ _ _ (c31 (I := I) ?_) ?_
  · rintro g id vals A' d ⟨rfl, i, out, ts, F, Fo, A1, rfl, hi, g1, hts, ho, hF, hFo, k, f, nx, rfl⟩ hd
    rw [l31_0]
    simp only [L31, List.map_cons, List.map_nil, List.cons.injEq, and_true] at hd
    obtain ⟨d1, d5, d9, d10, d11⟩ := hd
    have hn1 := g1.next
    have hle1 := g1.le
    have hle := k.next
    simp only [d1, d5, d9, d10, d11, bin_lss, pureW_some, forkW_dec]
    refine ⟨fun hlt => ?_, fun hge => ?_⟩
    · have hlt : i < a.length := by omega
      have hp := List.getElem?_eq_getElem hlt
      generalize hpp : a[i] = p at hp
      obtain ⟨r, o, a1, _, a2⟩ := (hts.rd etS.len).at etS (tally_get (l := l) hp)
      simp only [a1, a2, pureW_some]
      have hcb : ∀ w, cnt l p w < 10000 := fun w => Nat.lt_of_le_of_lt (cnt_le _ _ _) hl
      have hsn : bothN l (a.take (i + 1)) dec = bothN l (a.take i) dec ++ (if bothS (scOf l p) && (decidedS (scOf l p) == dec) then [p] else []) := by
        rw [List.take_add_one, hp]
        exact bothN_snoc l (a.take i) p dec
      refine allocP_made zero48 f (by omega) rfl fun A2 m2 => ?_
      have n2 := m2.next
      have k2 := m2.keeps f
      refine m2.row1.store m2.fine (by omega) (st_48 _ _ _) rfl (by simp [Value.cells, Sc.cells]) rfl fun A3 r3 k3 n3 f3 => ?_
      have K3 : Keeps A' A3 [] := k2.trans k3 (by simp)
      have r3' : Go.Abs.Row1 A3 A'.next (scOf l p).cells 48 := r3
      have r3 : Go.Abs.Row1 A3 A'.next [.int .u32 (p.f : Int), .string p.g, .string p.b, .int .i64 (cnt l p 1 : Int), .int .i64 (cnt l p 2 : Int), .int .i64 (cnt l p 3 : Int), .int .i64 (cnt l p 4 : Int), .int .i64 (cnt l p 5 : Int)] 48 := r3
      have h1 := hcb 1
      have h2 := hcb 2
      have h4 := hcb 4
      have h5 := hcb 5
      have hld : loadP Tryz.prog A3 48 (.pointer (some ⟨A'.next, 0, none⟩)) = some (vS (scOf l p)) := by
        rw [ld_48, cells_row r3'.row]; rfl
      simp only [fa_48_1, fa_48_2, fa_48_4, fa_48_5, fa_48_0, ld_3, cell_row r3.row, cellOf, isT_int, cond_false, pureW_some, Nat.zero_add, bin_add, bin_gtr, forkW_dec, hld]
      rw [wrap_i64 (n := (cnt l p 1 : Int) + (cnt l p 4 : Int)) (by omega) (by omega), wrap_i64 (n := (cnt l p 2 : Int) + (cnt l p 5 : Int)) (by omega) (by omega), wrap_i64 (n := (i : Int) + 1) (by omega) (by omega)]
      have hts3 := hts.keeps K3 (by simp)
      have ho3 := ho.keeps K3 (by simp)
      have hno : ∀ {B : AW}, Grow A3 B 2 → (bothS (scOf l p) && (decidedS (scOf l p) == dec)) = false → cutW (T31 0) (T31 0) (∃ g', g' < a.length - i ∧ I g' 0 [pickF dec, out, ts, .int .i64 (a.length : Int), .int .i64 ((i : Int) + 1)] B) := fun gB hb => by
        have nB := gB.next
        refine cutW_self.2 ⟨a.length - (i + 1), by omega, rfl, i + 1, out, ts, F, Fo, A1, rfl, by omega, g1, hts3.keeps gB.keeps (by simp), ?_, hF, hFo, (k.trans K3 (by simp)).trans gB.keeps (by simp), gB.fine, by omega, rfl⟩
        rw [hsn, hb]
        simp only [Bool.false_eq_true, if_false, List.append_nil]
        exact ho3.keeps gB.keeps (by simp)
      refine ⟨fun c1 => ⟨fun c2 => ?_, fun c2 => hno ((Grow.refl f3).more (by omega)) ?_⟩, fun c1 => hno ((Grow.refl f3).more (by omega)) ?_⟩
      · have hbs : bothS (scOf l p) = true := by
          unfold bothS scOf
          simp only [Bool.and_eq_true, decide_eq_true_eq]
          omega
        refine soW dec ⟨Nat.lt_trans h4 (by decide), Nat.lt_trans h5 (by decide)⟩ f3 (by omega) fun A4 g4 => ?_
        have n4 := g4.next
        have l4 := g4.le
        refine forkW_bool.2 ⟨fun hd => ?_, fun hd => hno g4 (by rw [hd, Bool.and_false])⟩
        have r4 := r3'.keeps g4.keeps (by simp)
        have hx : loadP Tryz.prog A4 46 (.pointer (some ⟨A'.next, 0, none⟩)) = some (.agg ⟨p.cells⟩) := load_at (pre := []) (post := (scOf l p).cells.drop 3) r4
        simp only [hx, pureW_some]
        refine newNm1 g4.fine (by omega) fun A5 m5 => ?_
        have n5 := m5.next
        have k5 := m5.keeps g4.fine
        have K5 : Keeps A' A5 [] := (K3.trans g4.keeps (by simp)).trans k5 (by simp)
        have hbl := both_len l (a.take i) dec
        rw [List.length_take] at hbl
        refine OwnE.append etN (ho.keeps K5 (by simp)) m5.row1 m5.fine (by omega) (by omega) fun out' A6 Fo' ho6 k6 hF6 n6 f6 => ?_
        refine cutW_self.2 ⟨a.length - (i + 1), by omega, rfl, i + 1, out', ts, F, Fo', A1, rfl, by omega, g1, (hts.keeps K5 (by simp)).keeps k6 (fun x hx h => by have := hF x hx; have := hFo x h; omega), ?_, hF, fun x hx => ?_, ?_, f6, by omega, rfl⟩
        · rw [hsn, hbs, hd]
          exact ho6
        · rcases hF6 x hx with h | h
          · exact hFo x h
          · omega
        · exact (k.trans K5 (by simp)).trans k6 (fun x hx => .inr (hFo x hx))
      · unfold bothS scOf
        rw [show decide (0 < cnt l p 2 + cnt l p 5) = false from decide_eq_false (by omega)]
        simp
      · unfold bothS scOf
        rw [show decide (0 < cnt l p 1 + cnt l p 4) = false from decide_eq_false (by omega)]
        simp
    · have hia : i = a.length := by omega
      subst hia
      rw [List.take_length] at ho
      exact hk A' out Fo ho (fun x hx => by have := hFo x hx; omega) ⟨g1.keeps.trans k (by simp), f, by omega⟩
  · rw [e31]
    refine wc9 hv hl ha hf (by omega) fun A1 ts F hts hF g1 => ?_
    have hlen := (hts.rd etS.len).len (B := A1) etS
    have e : (tally l a).length = a.length := by unfold tally; rw [List.length_map]
    rw [e] at hlen
    simp only [hlen, pureW_some]
    exact cutW_self.2 ⟨a.length, rfl, 0, .slice none 0 0, ts, F, [], A1, rfl, by omega, g1, hts, .nil _, fun x hx => hts.lt x hx, by simp, .refl _ _, g1.fine, by omega, rfl⟩
theorem wc12 {v : Value} {l : List Dd} {a : List Nm} {Fd : List Nat} {A : AW} {K : Value → AW → Prop} (hv : RdE 4 Dd.cells A v l Fd) (hl : l.length < 10000) (ha : NamesOf l a) (hf : Fine A) (hA : A.next + 200 + 60 * l.length < maxId)
    (hk : ∀ A' sv F, OwnE 46 2 Nm.cells A' sv (bothN l a false) F → (∀ x ∈ F, A.next ≤ x) → Grow A A' (60 + 40 * l.length) → K sv A') : Wc Tryz.prog theX W0 m0 12 [v] A K := by
  refine w12 _ _ (cuts_none (S := fun _ _ _ => False) fun _ _ _ h => h) ?_
  rw [e12]
  exact wc31 false hv hl ha hf hA hk
theorem wc14 {v : Value} {l : List Dd} {a : List Nm} {Fd : List Nat} {A : AW} {K : Value → AW → Prop} (hv : RdE 4 Dd.cells A v l Fd) (hl : l.length < 10000) (ha : NamesOf l a) (hf : Fine A) (hA : A.next + 200 + 60 * l.length < maxId)
    (hk : ∀ A' sv F, OwnE 46 2 Nm.cells A' sv (bothN l a true) F → (∀ x ∈ F, A.next ≤ x) → Grow A A' (60 + 40 * l.length) → K sv A') : Wc Tryz.prog theX W0 m0 14 [v] A K := by
  refine w14 _ _ (cuts_none (S := fun _ _ _ => False) fun _ _ _ h => h) ?_
  rw [e14]
  exact wc31 true hv hl ha hf hA hk
end
end Go.Proofs.YtdpdajpiadohjaaGreatDoor
