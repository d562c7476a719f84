/-
  The library's sort, as it stands in the program; what it does to names. Conditions: those of each theorem.
-/
import Derived.Test.YtjiglbmjhecobaaGreatDoorPutsA
import Derived.Test.YtjiglbmjhecobaaGreatDoorAbsI

namespace Go.Proofs.YtjiglbmjhecobaaGreatDoor
open Go.Abs Go.Sort
def sortR : Go.Shelf.Ren := ⟨fun | 6 => 130 | 15 => 211 | 14 => 210 | 28 => 301 | 29 => 302 | 20 => 293 | 21 => 294 | 22 => 295 | 23 => 296 | 24 => 297 | 25 => 298 | 26 => 299 | 27 => 300 | 46 => 364 | 47 => 365 | 48 => 366 | 49 => 367 | 50 => 368 | 57 => 415 | n => n, fun | 22 => 27 | 24 => 24 | 25 => 161 | 3 => 3 | 39 => 45 | 0 => 0 | 53 => 22 | 55 => 57 | 4 => 4 | 46 => 382 | 45 => 381 | 50 => 280 | 5 => 5 | 9 => 9 | 66 => 444 | 70 => 447 | 76 => 489 | 77 => 490 | n => n, fun n => n⟩
theorem sortX : Go.Proofs.SlLaysF0.n6 Tryz.prog sortR where
  mixed := by kernel_rfl
  f6 := ⟨Tryz.f130.name, by decide, Tryz.func130.trans (congrArg some (by kernel_rfl))⟩
  f14 := ⟨Tryz.f210.name, by decide, Tryz.func210.trans (congrArg some (by kernel_rfl))⟩
  f15 := Tryz.func211.trans (congrArg some (by kernel_rfl))
  f20 := ⟨Tryz.f293.name, by decide, Tryz.func293.trans (congrArg some (by kernel_rfl))⟩
  f21 := ⟨Tryz.f294.name, by decide, Tryz.func294.trans (congrArg some (by kernel_rfl))⟩
  f22 := ⟨Tryz.f295.name, by decide, Tryz.func295.trans (congrArg some (by kernel_rfl))⟩
  f23 := ⟨Tryz.f296.name, by decide, Tryz.func296.trans (congrArg some (by kernel_rfl))⟩
  f24 := ⟨Tryz.f297.name, by decide, Tryz.func297.trans (congrArg some (by kernel_rfl))⟩
  f25 := ⟨Tryz.f298.name, by decide, Tryz.func298.trans (congrArg some (by kernel_rfl))⟩
  f26 := ⟨Tryz.f299.name, by decide, Tryz.func299.trans (congrArg some (by kernel_rfl))⟩
  f27 := ⟨Tryz.f300.name, by decide, Tryz.func300.trans (congrArg some (by kernel_rfl))⟩
  f28 := Tryz.func301.trans (congrArg some (by kernel_rfl))
  f29 := Tryz.func302.trans (congrArg some (by kernel_rfl))
  f46 := ⟨Tryz.f364.name, by decide, Tryz.func364.trans (congrArg some (by kernel_rfl))⟩
  f47 := Tryz.func365.trans (congrArg some (by kernel_rfl))
  f48 := Tryz.func366.trans (congrArg some (by kernel_rfl))
  f49 := ⟨Tryz.f367.name, by decide, Tryz.func367.trans (congrArg some (by kernel_rfl))⟩
  f50 := ⟨Tryz.f368.name, by decide, Tryz.func368.trans (congrArg some (by kernel_rfl))⟩
  f57 := ⟨Tryz.f415.name, by decide, Tryz.func415.trans (congrArg some (by kernel_rfl))⟩
  t0 := Tryz.underlying0
  a0 := Tryz.isAgg0
  z0 := Tryz.sizeOf0
  v0 := Tryz.zeroValue0
  t3 := Tryz.underlying3
  a3 := Tryz.isAgg3
  z3 := Tryz.sizeOf3
  v3 := Tryz.zeroValue3
  t4 := Tryz.underlying4
  a4 := Tryz.isAgg4
  z4 := Tryz.sizeOf4
  v4 := Tryz.zeroValue4
  t5 := Tryz.underlying5
  a5 := Tryz.isAgg5
  z5 := Tryz.sizeOf5
  v5 := Tryz.zeroValue5
  t9 := Tryz.underlying9
  a9 := Tryz.isAgg9
  z9 := Tryz.sizeOf9
  v9 := Tryz.zeroValue9
  t22 := Tryz.underlying27
  a22 := Tryz.isAgg27
  z22 := Tryz.sizeOf27
  v22 := Tryz.zeroValue27
  t25 := Tryz.underlying161
  a25 := Tryz.isAgg161
  z25 := Tryz.sizeOf161
  v25 := Tryz.zeroValue161
  t39 := Tryz.underlying45
  a39 := Tryz.isAgg45
  z39 := Tryz.sizeOf45
  v39 := Tryz.zeroValue45
  t45 := Tryz.underlying381
  a45 := Tryz.isAgg381
  z45 := Tryz.sizeOf381
  v45 := Tryz.zeroValue381
  t46 := Tryz.underlying382
  a46 := Tryz.isAgg382
  z46 := Tryz.sizeOf382
  v46 := Tryz.zeroValue382
  t50 := Tryz.underlying280
  a50 := Tryz.isAgg280
  z50 := Tryz.sizeOf280
  v50 := Tryz.zeroValue280
  t53 := Tryz.underlying22
  a53 := Tryz.isAgg22
  z53 := Tryz.sizeOf22
  v53 := Tryz.zeroValue22
  t55 := Tryz.underlying57
  a55 := Tryz.isAgg57
  z55 := Tryz.sizeOf57
  v55 := Tryz.zeroValue57
  t66 := Tryz.underlying444
  a66 := Tryz.isAgg444
  z66 := Tryz.sizeOf444
  v66 := Tryz.zeroValue444
  t70 := Tryz.underlying447
  a70 := Tryz.isAgg447
  z70 := Tryz.sizeOf447
  v70 := Tryz.zeroValue447
  t76 := Tryz.underlying489
  a76 := Tryz.isAgg489
  z76 := Tryz.sizeOf489
  v76 := Tryz.zeroValue489
  t77 := Tryz.underlying490
  a77 := Tryz.isAgg490
  z77 := Tryz.sizeOf490
  v77 := Tryz.zeroValue490

section
variable {W0 : World} {m0 : Inj Tryz.prog}
theorem nm_closed (x : Nm) : x.cells.all (closedV 3) = true := rfl
theorem nm_one (x : Nm) : x.cells.all oneCell = true := rfl
theorem cmp131 (W : World) (x y : Nm) : Wc Tryz.prog theX W (mG Tryz.prog) 131 [.agg ⟨x.cells⟩, .agg ⟨y.cells⟩] (wG Tryz.prog.globals.size []) fun v _ => v = .int .i64 (xcmp x y) :=
  wc131 ⟨fun _ _ => rfl, fun _ _ => rfl⟩ (of_decide_eq_true (by kernel_rfl)) fun _ _ => rfl
theorem sort_names {v : Value} {l : List Nm} {F : List Nat} {A : AW} {K : Value → AW → Prop} (h : OwnN A v l F) (hf : Fine A) (hl : l.length < 1000000)
    (hk : ∀ A', OwnN A' v (l.mergeSort fun x y => !(Go.Proofs.ltOf xcmp y x)) F → Keeps A A' F → A'.next = A.next → Fine A' → K (.tuple #[]) A') : knW Tryz.prog W0 m0 130 [v, .func (.func 131) #[] #[]] A K := by
  refine .inr (lib_sort (P := Tryz.prog) (ρ := sortR) sortX (k := 3) (by decide) Tryz.isAgg24 Tryz.sizeOf24 (enc := Nm.cells) nm_len (fun x u hu => ?_) nm_one nm_closed xcmp_swo xcmp_total (g := 131) ?_ (cmp_lays gP ?_ nm_closed cmp131) h hf (by omega) fun A' h1 k1 n1 f1 => hk A' ?_ k1 n1 f1)
  · simp only [Nm.cells, List.mem_cons, List.not_mem_nil, or_false] at hu
    rcases hu with rfl | rfl | rfl <;> rfl
  · exact enters_of Tryz.func131 (by kernel_rfl) rfl
  · exact of_decide_eq_true (by kernel_rfl)
  · unfold OwnN
    rw [List.length_mergeSort]
    exact h1
end
end Go.Proofs.YtjiglbmjhecobaaGreatDoor


namespace Go.Proofs.YtjiglbmjhecobaaGreatDoor
open Go.Abs

def okN (p : Nm) : Bool := decide (xchk p.g p.b = 0)
def Asc (l : List Nm) : Prop := ∀ i p q, l[i]? = some p → l[i + 1]? = some q → xcmp p q < 0
def Good (l : List Nm) : Prop := (∀ p ∈ l, okN p = true) ∧ Asc l
def srt (l : List Nm) : List Nm := l.mergeSort fun x y => !(Go.Proofs.ltOf xcmp y x)
theorem le_not {x y : Nm} : (!(Go.Proofs.ltOf xcmp y x)) = true ↔ xcmp x y ≤ 0 := by
  rw [Bool.not_eq_true', lt_not, xcmp_swap]
  omega
theorem srt_pairwise (l : List Nm) : (srt l).Pairwise fun x y => xcmp x y ≤ 0 := by
  have h := List.pairwise_mergeSort (le := fun x y : Nm => !(Go.Proofs.ltOf xcmp y x)) (fun a b c h1 h2 => ?_) (fun a b => ?_) l
  · exact h.imp fun h => le_not.1 h
  · rw [le_not] at *
    by_cases e1 : xcmp a b = 0
    · have := xcmp_zero.1 e1; subst this; exact h2
    · by_cases e2 : xcmp b c = 0
      · have := xcmp_zero.1 e2; subst this; exact h1
      · have := xcmp_trans (show xcmp a b < 0 by omega) (show xcmp b c < 0 by omega)
        omega
  · rw [Bool.or_eq_true, le_not, le_not, xcmp_swap b a]
    omega
theorem asc_pairwise : ∀ {l : List Nm}, Asc l → l.Pairwise fun x y => xcmp x y < 0
  | [], _ => .nil
  | [a], _ => by simp
  | a :: b :: r, h => by
    have ht : Asc (b :: r) := fun i p q hp hq => h (i + 1) p q (by simpa using hp) (by simpa using hq)
    have ih := asc_pairwise ht
    have hab : xcmp a b < 0 := h 0 a b rfl rfl
    rw [List.pairwise_cons]
    refine ⟨fun c hc => ?_, ih⟩
    rcases List.mem_cons.1 hc with rfl | hc
    · exact hab
    · exact xcmp_trans hab ((List.pairwise_cons.1 ih).1 c hc)
theorem srt_asc {l : List Nm} (h : Asc l) : srt l = l := by
  refine List.mergeSort_of_pairwise ((asc_pairwise h).imp fun h => ?_)
  rw [le_not]; omega
theorem asc_of_sorted {l : List Nm} (h : l.Pairwise fun x y => xcmp x y ≤ 0) (hn : NoAdj l) : Asc l := by
  intro i p q hp hq
  obtain ⟨h1, rfl⟩ := List.getElem?_eq_some_iff.1 hp
  obtain ⟨h2, rfl⟩ := List.getElem?_eq_some_iff.1 hq
  have h3 := List.pairwise_iff_getElem.1 h i (i + 1) h1 h2 (by omega)
  have h4 := hn i _ _ hp hq
  have h5 : xcmp l[i] l[i + 1] ≠ 0 := fun e => h4 (xcmp_zero.1 e)
  omega
theorem filt_good {l : List Nm} (h : ∀ p ∈ l, okN p = true) : l.filter okN = l := List.filter_eq_self.2 h
theorem sorted_eq {l l' : List Nm} (h1 : NoAdj (srt (l.filter okN)) → l' = srt (l.filter okN)) (h2 : ¬ NoAdj (srt (l.filter okN)) → l'.length < (srt (l.filter okN)).length) : l = l' ↔ Good l := by
  constructor
  · intro he
    by_cases hn : NoAdj (srt (l.filter okN))
    · have he2 := h1 hn
      rw [← he] at he2
      refine ⟨fun p hp => ?_, ?_⟩
      · rw [he2] at hp
        have := (List.mergeSort_perm _ _).mem_iff.1 hp
        exact (List.mem_filter.1 this).2
      · have := asc_of_sorted (srt_pairwise _) hn
        rw [← he2] at this
        exact this
    · exfalso
      have h3 := h2 hn
      have h4 : (srt (l.filter okN)).length = (l.filter okN).length := List.length_mergeSort _
      have h5 := List.length_filter_le okN l
      rw [← he] at h3
      omega
  · intro hg
    have hf := filt_good hg.1
    rw [hf, srt_asc hg.2] at h1
    refine (h1 fun i p q hp hq e => ?_).symm
    have := hg.2 i p q hp hq
    rw [e, xcmp_zero.2 rfl] at this
    omega

section
variable {W0 : World} {m0 : Inj Tryz.prog}
theorem store24 {A : AW} {t : Nat} {p : Nm} {zs : List Value} {K : AW → Prop} (ht : Go.Abs.Row1 A t zs 24) (hz : zs.length = 3) (hf : Fine A) (hA : A.next ≤ maxId)
    (hk : ∀ A', Go.Abs.Row1 A' t p.cells 24 → Keeps A A' [t] → A'.next = A.next → Fine A' → K A') : effW (storeP Tryz.prog A 24 (.pointer (some ⟨t, 0, none⟩)) (.agg ⟨p.cells⟩)) K := by
  refine ht.store hf hA (st24' _ _ p) rfl (by rw [hz]; exact Nat.le_refl 3) rfl fun A3 t3 k3 n3 f3 => ?_
  have e : setL zs 0 (Value.cells (.agg ⟨p.cells⟩)).toList = p.cells := by
    match zs, hz with
    | [z0, z1, z2], _ => rfl
  rw [e] at t3
  exact hk A3 t3 k3 n3 f3
theorem load24 {A : AW} {t : Nat} {p : Nm} (h : Go.Abs.Row1 A t p.cells 24) : loadP Tryz.prog A 24 (.pointer (some ⟨t, 0, none⟩)) = some (.agg ⟨p.cells⟩) := by
  rw [ld_24, cells_row h.row]
  rfl
theorem wc66 {v : Value} {l : List Nm} {F : List Nat} {A : AW} {K : Value → AW → Prop} (h : RdN A v l F) (hf : Fine A) (hA : A.next + 5 * l.length + 10 < maxId) (hl : l.length < 100000)
    (hk : ∀ A' v' l' F', Grow A A' (5 * l.length) → RdN A' v' l' F' → (l = l' ↔ Good l) → K v' A') : Wc Tryz.prog theX W0 m0 66 [v] A K := by
  let I : Nat → Nat → List Value → AW → Prop := fun g id vals A' => id = 0 ∧ ∃ (i : Nat) (o : Value) (Fo : List Nat), vals = [o, v, .int .i64 (l.length : Int), .int .i64 (i : Int)] ∧ g = l.length - i ∧ i ≤ l.length ∧ OwnN A' o ((l.take i).filter okN) Fo ∧ (∀ x ∈ Fo, A.next ≤ x) ∧ RdN A' v l F ∧ Grow A A' (5 * i)
  have hF := h.fam
  refine w66 _ _ (c66 (I := I) ?_) ?_
  · rintro g id vals A' d ⟨rfl, i, o, Fo, rfl, rfl, hi, ho, hFo, hr, hg⟩ hd
    rw [l66_0]
    simp only [L66, List.map_cons, List.map_nil, List.cons.injEq, and_true] at hd
    obtain ⟨h3, h6, h7, h8⟩ := hd
    have hnx := hg.next
    simp only [h3, h6, h7, h8, bin_lss, pureW_some, forkW_dec]
    refine ⟨fun hlt => ?_, fun hge => ?_⟩
    · have hlt : i < l.length := by omega
      have hp := List.getElem?_eq_getElem hlt
      obtain ⟨p, hpe⟩ : ∃ p, l[i] = p := ⟨_, rfl⟩
      rw [hpe] at hp
      obtain ⟨r, oo, a1, a2⟩ := hr.at hp
      simp only [a1, ld_24, a2, pureW_some]
      refine allocP_made zero24 hg.fine (by omega) rfl fun A2 m2 => ?_
      have n2 := m2.next
      have g2 := Grow.made m2 hg.fine
      refine store24 (p := p) m2.row1 rfl m2.fine (by omega) fun A3 t3 k3 n3 f3 => ?_
      have g3 : Grow A' A3 1 := (g2.own k3 (by simp) (m := 0) (by omega) f3)
      rw [load24 t3]
      simp only [pureW_some]
      refine wc26 (f := (p.f : Int)) (g := p.g) (b := p.b) f3 (by omega) fun A4 g4 => ?_
      have n4 := g4.next
      have t4 := t3.keeps g4.keeps (by simp)
      have g04 := hg.trans (g3.trans g4)
      have ho4 := (ho.keeps g3.keeps (by simp)).keeps g4.keeps (by simp)
      have hr4 := (hr.keeps g3.keeps (by simp)).keeps g4.keeps (by simp)
      have htake : l.take (i + 1) = l.take i ++ [p] := by rw [List.take_add_one, hp]; rfl
      simp only [bin_eql, pureW_some, forkW_beq]
      refine ⟨fun h0 => ?_, fun h0 => ?_⟩
      · rw [load24 t4]
        simp only [pureW_some]
        refine bslice27 g4.fine (by omega) fun A5 m5 => ?_
        have n5 := m5.next
        have g5 := Grow.made m5 g4.fine
        have ho5 := ho4.keeps g5.keeps (by simp)
        refine ho5.append m5.row1 m5.fine (by omega) (by have := List.length_filter_le okN (l.take i); rw [List.length_take] at this; omega) fun v6 A6 F6 o6 k6 hF6 n6 f6 => ?_
        simp only [bin_add, pureW_some]
        rw [wrap_i64 (by omega) (by omega)]
        have hflt : (l.take (i + 1)).filter okN = (l.take i).filter okN ++ [p] := by
          rw [htake, List.filter_append]
          have : okN p = true := by unfold okN; simp [h0]
          simp [this]
        have hle := g04.le
        refine cutW_self.2 ⟨l.length - (i + 1), by omega, rfl, i + 1, v6, F6, rfl, rfl, by omega, by rw [hflt]; exact o6, fun x hx => ?_, (hr4.keeps g5.keeps (by simp)).keeps k6 (fun x hx hm => by have := hF x hx; have := hFo x hm; omega), ((g04.trans g5).own k6 hFo (m := 1) (by omega) f6).more (by omega)⟩
        rcases hF6 x hx with h | h
        · exact hFo x h
        · omega
      · simp only [bin_add, pureW_some]
        rw [wrap_i64 (by omega) (by omega)]
        have hflt : (l.take (i + 1)).filter okN = (l.take i).filter okN := by
          rw [htake, List.filter_append]
          have : okN p = false := by unfold okN; simp; exact fun e => h0 (by rw [e])
          simp [this]
        exact cutW_self.2 ⟨l.length - (i + 1), by omega, rfl, i + 1, o, Fo, rfl, rfl, by omega, by rw [hflt]; exact ho4, hFo, hr4, g04.more (by omega)⟩
    · have hi' : i = l.length := by omega
      rw [hi', List.take_length] at ho
      refine sort_names ho hg.fine (by have := List.length_filter_le okN l; omega) fun A2 o2 k2 n2 f2 => ?_
      refine wc132 o2 f2 (by omega) (by rw [List.length_mergeSort]; have := List.length_filter_le okN l; omega) (fun x hx => by have := ho.lt x hx; omega) fun A3 v3 l3 F3 r3 hF3 k3 n3 f3 e1 e2 => ?_
      refine hk A3 v3 l3 F3 (((hg.own k2 hFo (m := 0) (by omega) f2).own k3 hFo (m := 0) (by omega) f3).more (by omega)) r3 (sorted_eq e1 e2)
  · rw [e66]
    simp only [h.len, pureW_some]
    exact cutW_self.2 ⟨l.length, rfl, 0, .slice none 0 0, [], rfl, rfl, by omega, by simpa using OwnN.nil A, by simp, h, .refl hf⟩
noncomputable def nmsOk (l : List Nm) : Bool := @decide (l.length ≤ 200 ∧ Good l) (Classical.propDecidable _)
theorem nmsOk_iff {l : List Nm} : nmsOk l = true ↔ l.length ≤ 200 ∧ Good l := by unfold nmsOk; simp
theorem wc27 {v : Value} {l : List Nm} {F : List Nat} {A : AW} {K : Value → AW → Prop} (h : RdN A v l F) (hf : Fine A) (hA : A.next + 2000 < maxId)
    (hk : ∀ A', Grow A A' 1000 → K (.bool (nmsOk l)) A') : Wc Tryz.prog theX W0 m0 27 [v] A K := by
  refine w27 _ _ (cuts_none (S := fun _ _ _ => False) fun _ _ _ h => h) ?_
  rw [e27]
  simp only [h.len, bin_leq, pureW_some, forkW_dec]
  refine ⟨fun hle => ?_, fun hgt => ?_⟩
  · refine wc66 h hf (by omega) (by omega) fun A2 v2 l2 F2 g2 r2 he => ?_
    refine wc37 (h.keeps g2.keeps (by simp)) r2 (by omega) ?_
    have e : eqL l l2 = nmsOk l := by
      by_cases hg : Good l
      · rw [eqL_true (he.2 hg)]
        exact (nmsOk_iff.2 ⟨by omega, hg⟩).symm
      · rw [eqL_false (fun e => hg (he.1 e))]
        cases hn : nmsOk l with
        | false => rfl
        | true => exact absurd (nmsOk_iff.1 hn).2 hg
    rw [e]
    exact hk A2 (g2.more (by omega))
  · have e : nmsOk l = false := by
      cases hn : nmsOk l with
      | false => rfl
      | true => exact absurd (nmsOk_iff.1 hn).1 (by omega)
    have := hk A ((Grow.refl hf).more (by omega))
    rw [e] at this
    exact this
end
end Go.Proofs.YtjiglbmjhecobaaGreatDoor


namespace Go.Crc

def bit1 (r : Nat) : Nat := if r % 2 = 1 then (r / 2) ^^^ 2197175160 else r / 2
def bits : Nat → Nat → Nat
  | 0, r => r
  | n + 1, r => bits n (bit1 r)
def tab : List Nat := [0, 274646895, 549293790, 820201905, 1098587580, 1361435347, 1640403810, 1905808397, 2197175160, 2460548119, 2722870694, 2987750089, 3280807620, 3553878443, 3811616794, 4084100981]
def nib (r : Nat) : Nat := (r / 16) ^^^ tab.getD (r % 16) 0
def byteR (r : Nat) (c : UInt8) : Nat := bits 8 (r ^^^ c.toNat)
def crcR (r : Nat) (l : List UInt8) : Nat := l.foldl byteR r
def sum32 (l : List UInt8) : Nat := 4294967295 - crcR 4294967295 l
def le4 (s : Nat) : List UInt8 := [UInt8.ofNat s, UInt8.ofNat (s / 256), UInt8.ofNat (s / 65536), UInt8.ofNat (s / 16777216)]
def sealT (l : List UInt8) : List UInt8 := l ++ le4 (sum32 l)

theorem xor_half (x y : Nat) : (x ^^^ y) / 2 = (x / 2) ^^^ (y / 2) := by
  apply Nat.eq_of_testBit_eq
  intro i
  simp [Nat.testBit_div_two, Nat.testBit_xor]
theorem xor_odd (x y : Nat) : ((x ^^^ y) % 2 = 1) ↔ ¬ ((x % 2 = 1) ↔ (y % 2 = 1)) := by
  have h := Nat.testBit_xor x y 0
  simp only [Nat.testBit_zero] at h
  by_cases hx : x % 2 = 1 <;> by_cases hy : y % 2 = 1 <;> simp_all
theorem bit1_xor (x y : Nat) : bit1 (x ^^^ y) = bit1 x ^^^ bit1 y := by
  unfold bit1
  have h := xor_odd x y
  rw [xor_half]
  by_cases hx : x % 2 = 1 <;> by_cases hy : y % 2 = 1
  · rw [if_neg (fun e => (h.1 e) ⟨fun _ => hy, fun _ => hx⟩), if_pos hx, if_pos hy]
    apply Nat.eq_of_testBit_eq
    intro i
    simp only [Nat.testBit_xor]
    cases (x / 2).testBit i <;> cases (y / 2).testBit i <;> cases Nat.testBit 2197175160 i <;> rfl
  · rw [if_pos (h.2 fun e => hy (e.1 hx)), if_pos hx, if_neg hy]
    apply Nat.eq_of_testBit_eq
    intro i
    simp only [Nat.testBit_xor]
    cases (x / 2).testBit i <;> cases (y / 2).testBit i <;> cases Nat.testBit 2197175160 i <;> rfl
  · rw [if_pos (h.2 fun e => hx (e.2 hy)), if_neg hx, if_pos hy]
    apply Nat.eq_of_testBit_eq
    intro i
    simp only [Nat.testBit_xor]
    cases (x / 2).testBit i <;> cases (y / 2).testBit i <;> cases Nat.testBit 2197175160 i <;> rfl
  · rw [if_neg (fun e => (h.1 e) ⟨fun e => absurd e hx, fun e => absurd e hy⟩), if_neg hx, if_neg hy]
theorem bits_xor : ∀ (n x y : Nat), bits n (x ^^^ y) = bits n x ^^^ bits n y
  | 0, _, _ => rfl
  | n + 1, x, y => by rw [bits, bit1_xor, bits_xor n]; rfl
theorem bits_add : ∀ (n m r : Nat), bits (n + m) r = bits m (bits n r)
  | 0, m, r => by rw [Nat.zero_add]; rfl
  | n + 1, m, r => by rw [show n + 1 + m = (n + m) + 1 by omega, bits, bits_add n m]; rfl
theorem bit1_even (q : Nat) : bit1 (2 * q) = q := by
  unfold bit1
  rw [if_neg (by omega)]
  omega
theorem bits_shift : ∀ (n q : Nat), bits n (2 ^ n * q) = q
  | 0, q => by simp [bits]
  | n + 1, q => by rw [bits, Nat.pow_succ, Nat.mul_comm (2 ^ n) 2, Nat.mul_assoc, bit1_even, bits_shift n]
theorem split_xor (n r : Nat) : r = (2 ^ n * (r / 2 ^ n)) ^^^ (r % 2 ^ n) := by
  apply Nat.eq_of_testBit_eq
  intro i
  rw [Nat.testBit_xor, Nat.testBit_two_pow_mul, Nat.testBit_mod_two_pow]
  by_cases h : i < n
  · simp [h, show ¬ n ≤ i by omega]
  · have h2 : n ≤ i := by omega
    simp only [h, h2, decide_true, decide_false, Bool.true_and, Bool.false_and, Bool.xor_false]
    rw [Nat.testBit_div_two_pow, show i - n + n = i by omega]
theorem tab_bits : ∀ n, n < 16 → bits 4 n = tab.getD n 0 := by decide
theorem nib_bits (r : Nat) : nib r = bits 4 r := by
  conv => rhs; rw [split_xor 4 r]
  rw [bits_xor, bits_shift 4, tab_bits _ (Nat.mod_lt _ (by decide))]
  rfl
theorem nib_nib (r : Nat) : nib (nib r) = bits 8 r := by
  rw [nib_bits, nib_bits, ← bits_add]
theorem bit1_lt {r : Nat} (h : r < 4294967296) : bit1 r < 4294967296 := by
  unfold bit1
  split
  · exact Nat.xor_lt_two_pow (n := 32) (by omega) (by decide)
  · omega
theorem bits_lt : ∀ (n : Nat) {r : Nat}, r < 4294967296 → bits n r < 4294967296
  | 0, _, h => h
  | n + 1, _, h => bits_lt n (bit1_lt h)
theorem byte_lt (c : UInt8) : c.toNat < 4294967296 := Nat.lt_trans c.toNat_lt (by decide)
theorem byteR_lt {r : Nat} (c : UInt8) (h : r < 4294967296) : byteR r c < 4294967296 := bits_lt 8 (Nat.xor_lt_two_pow (n := 32) h (byte_lt c))
theorem crcR_lt : ∀ (l : List UInt8) {r : Nat}, r < 4294967296 → crcR r l < 4294967296
  | [], _, h => h
  | c :: l, _, h => crcR_lt l (byteR_lt c h)
theorem sum32_lt (l : List UInt8) : sum32 l < 4294967296 := by unfold sum32; omega
theorem le4_length (s : Nat) : (le4 s).length = 4 := rfl
theorem seal_length (l : List UInt8) : (sealT l).length = l.length + 4 := by simp [sealT, le4]
theorem crcR_append (r : Nat) (a b : List UInt8) : crcR r (a ++ b) = crcR (crcR r a) b := by simp [crcR]
def sealed (l : List UInt8) : Bool := decide (4 ≤ l.length) && (l == sealT (l.take (l.length - 4)))
theorem sealed_seal (l : List UInt8) : sealed (sealT l) = true := by
  unfold sealed
  have h : (sealT l).take ((sealT l).length - 4) = l := by
    rw [seal_length, Nat.add_sub_cancel]
    unfold sealT
    rw [List.take_left']
    rfl
  rw [h, seal_length]
  simp
end Go.Crc


namespace Go.Proofs.YtjiglbmjhecobaaGreatDoor
open Go.Abs Go.Crc

theorem bv32 {n : Nat} (h : n < 4294967296) : (BitVec.ofInt 32 (n : Int)).toNat = n := by
  rw [BitVec.toNat_ofInt]
  have : ((2 ^ 32 : Nat) : Int) = 4294967296 := by decide
  rw [this]
  omega
theorem wrap_u32 {n : Nat} (h : n < 4294967296) : IntKind.u32.wrap (n : Int) = (n : Int) := by
  simp [IntKind.wrap, IntKind.bits, IntKind.signed]
  omega
theorem bin_xor32 {P : Program} {t : TypeId} {xo yo : Operand} {a b : Nat} (ha : a < 4294967296) (hb : b < 4294967296) : binA P .xor t xo yo (.int .u32 (a : Int)) (.int .u32 (b : Int)) = some (.int .u32 ((a ^^^ b : Nat) : Int)) := by
  have e : IntKind.u32.wrap ((BitVec.ofInt 32 (a : Int) ^^^ BitVec.ofInt 32 (b : Int)).toNat : Int) = ((a ^^^ b : Nat) : Int) := by
    rw [BitVec.toNat_xor, bv32 ha, bv32 hb]
    exact wrap_u32 (Nat.xor_lt_two_pow (n := 32) ha hb)
  have : binA P .xor t xo yo (.int .u32 (a : Int)) (.int .u32 (b : Int)) = some (.int .u32 (IntKind.u32.wrap ((BitVec.ofInt 32 (a : Int) ^^^ BitVec.ofInt 32 (b : Int)).toNat : Int))) := by
    rfl
  rw [this, e]
theorem and15 (a : Nat) : a &&& 15 = a % 16 := Nat.and_two_pow_sub_one_eq_mod a 4
theorem bin_and15 {P : Program} {t : TypeId} {xo yo : Operand} {a : Nat} (ha : a < 4294967296) : binA P .and t xo yo (.int .u32 (a : Int)) (.int .u32 15) = some (.int .u32 ((a % 16 : Nat) : Int)) := by
  have e : IntKind.u32.wrap ((BitVec.ofInt 32 (a : Int) &&& BitVec.ofInt 32 ((15 : Nat) : Int)).toNat : Int) = ((a % 16 : Nat) : Int) := by
    rw [BitVec.toNat_and, bv32 ha, bv32 (by decide), and15]
    exact wrap_u32 (by omega)
  have : binA P .and t xo yo (.int .u32 (a : Int)) (.int .u32 15) = some (.int .u32 (IntKind.u32.wrap ((BitVec.ofInt 32 (a : Int) &&& BitVec.ofInt 32 ((15 : Nat) : Int)).toNat : Int))) := by
    rfl
  rw [this, e]
theorem xor_all {n : Nat} (h : n < 4294967296) : 4294967295 ^^^ n = 4294967295 - n := by
  apply Nat.eq_of_testBit_eq
  intro i
  have e1 : 4294967295 - n = 2 ^ 32 - (n + 1) := by omega
  rw [e1, Nat.testBit_two_pow_sub_succ (by omega), Nat.testBit_xor, show (4294967295 : Nat) = 2 ^ 32 - 1 by rfl, Nat.testBit_two_pow_sub_one]
  by_cases hi : i < 32
  · simp [hi]
  · have : n.testBit i = false := Nat.testBit_lt_two_pow (Nat.lt_of_lt_of_le h (Nat.pow_le_pow_right (n := 2) (by decide) (show 32 ≤ i by omega)))
    simp [hi, this]
theorem un_xor32 {P : Program} {n : Nat} (h : n < 4294967296) : unA P .xor (.int .u32 (n : Int)) = some (.int .u32 ((4294967295 - n : Nat) : Int)) := by
  have e : IntKind.u32.wrap ((BitVec.ofInt 32 ((4294967295 : Nat) : Int) ^^^ BitVec.ofInt 32 (n : Int)).toNat : Int) = ((4294967295 - n : Nat) : Int) := by
    rw [BitVec.toNat_xor, bv32 (by decide), bv32 h, xor_all h]
    exact wrap_u32 (by omega)
  have : unA P .xor (.int .u32 (n : Int)) = some (.int .u32 (IntKind.u32.wrap ((BitVec.ofInt 32 ((4294967295 : Nat) : Int) ^^^ BitVec.ofInt 32 (n : Int)).toNat : Int))) := by
    rfl
  rw [this, e]
theorem shr_nat (a s : Nat) : ((a : Int).fdiv (2 ^ s)) = ((a / 2 ^ s : Nat) : Int) := by
  rw [Int.fdiv_eq_ediv_of_nonneg _ (Int.pow_nonneg (by decide)), show (2 : Int) ^ s = ((2 ^ s : Nat) : Int) by rw [Int.natCast_pow]; rfl]
  rfl

def tabV : List Value := tab.map fun (n : Nat) => .int .u32 (n : Int)
structure Glb (A : AW) : Prop where
  row : A.get 0 = some (.row tabV 301 0 0 true)
  lt : 0 < A.next
theorem Glb.keeps {A A' : AW} {S : List Nat} (h : Glb A) (k : Keeps A A' S) (hn : 0 ∉ S) : Glb A' := ⟨k.get 0 _ h.row h.lt hn, Nat.lt_of_lt_of_le h.lt k.next⟩
theorem tab_load {A : AW} (h : Glb A) {i : Nat} (hi : i < 16) : ∃ a, indexAddrA Tryz.prog 301 (.pointer (some ⟨0, 0, none⟩)) (.int .u32 (i : Int)) = some (.pointer (some a)) ∧ A.cell? a = some (.int .u32 ((tab.getD i 0 : Nat) : Int)) := by
  refine ⟨⟨0, i, none⟩, ?_, ?_⟩
  · show indexAddrA Tryz.prog 301 _ (.int .u32 (.ofNat i)) = _
    rw [ia_301, blt_true.2 hi, cond_true]
    unfold addA
    cases hb : Nat.beq (i * 1) 0 with
    | true => rw [cond_true]; have := Nat.eq_of_beq_eq_true hb; rw [Nat.mul_one] at this; rw [this]
    | false => rw [cond_false, Nat.mul_one, Nat.zero_add]
  · rw [cell_row h.row]
    refine cellOf_get ?_ rfl
    unfold tabV
    have hl : i < tab.length := hi
    rw [List.getElem?_map, List.getElem?_eq_getElem hl]
    simp [List.getD, List.getElem?_eq_getElem hl]
theorem tab_lt : ∀ i, i < 16 → tab.getD i 0 < 4294967296 := by decide
theorem nib_lt {r : Nat} (h : r < 4294967296) : nib r < 4294967296 := by rw [nib_bits]; exact bits_lt 4 h

section
variable {W0 : World} {m0 : Inj Tryz.prog}
theorem nib_step {A : AW} {r : Nat} {K : Value → Prop} (hg : Glb A) (hr : r < 4294967296) {o1 o2 o3 o4 o5 o6 : Operand} (hk : K (.int .u32 ((nib r : Nat) : Int))) :
    pureW (binA Tryz.prog .shr 22 o1 o2 (.int .u32 (r : Int)) (.int .u64 4)) fun t5 => pureW (binA Tryz.prog .and 22 o3 o4 (.int .u32 (r : Int)) (.int .u32 15)) fun t6 => pureW (indexAddrA Tryz.prog 301 (.pointer (some ⟨0, 0, none⟩)) t6) fun t7 => pureW (loadP Tryz.prog A 22 t7) fun t8 => pureW (binA Tryz.prog .xor 22 o5 o6 t5 t8) fun t9 => K t9 := by
  have hi : r % 16 < 16 := Nat.mod_lt _ (by decide)
  obtain ⟨a, h1, h2⟩ := tab_load hg hi
  rw [bin_shr (by decide)]
  have e1 : (r : Int).fdiv (2 ^ (min (4 : Int).toNat (IntKind.bits .u32))) = ((r / 16 : Nat) : Int) := shr_nat r 4
  rw [e1]
  simp only [bin_and15 hr, pureW_some, h1, ld_22, h2]
  rw [bin_xor32 (by omega) (tab_lt _ hi)]
  exact pureW_some.2 hk

theorem wc127 {A : AW} {x : Value} {l : List UInt8} {F : List Nat} {s0 : Nat} {K : Value → AW → Prop} (h : RdB A x l F) (hg : Glb A) (hl : l.length < 1000000) (hs : s0 < 4294967296) (hk : K (.int .u32 ((4294967295 - crcR (4294967295 - s0) l : Nat) : Int)) A) : Wc Tryz.prog theX W0 m0 127 [.int .u32 (s0 : Int), x] A K := by
  let I : Nat → Nat → List Value → AW → Prop := fun g id vals A' => id = 0 ∧ A' = A ∧ ∃ i : Nat, vals = [x, .int .u32 ((crcR (4294967295 - s0) (l.take i) : Nat) : Int), .int .i64 (l.length : Int), .int .i64 (i : Int)] ∧ g = l.length - i ∧ i ≤ l.length
  refine w127 _ _ _ (c127 (I := I) ?_) ?_
  · rintro g id vals A' d ⟨rfl, rfl, i, rfl, rfl, hi⟩ hd
    rw [l127_0]
    simp only [L127, List.map_cons, List.map_nil, List.cons.injEq, and_true] at hd
    obtain ⟨h1, h5, h10, h11⟩ := hd
    have hr : crcR (4294967295 - s0) (l.take i) < 4294967296 := crcR_lt _ (by omega)
    obtain ⟨r, hre⟩ : ∃ r, crcR (4294967295 - s0) (l.take i) = r := ⟨_, rfl⟩
    rw [hre] at h5 hr
    simp only [h1, h5, h10, h11, bin_lss, pureW_some, forkW_dec]
    refine ⟨fun hlt => ?_, fun hge => ?_⟩
    · have hlt : i < l.length := by omega
      have hc := List.getElem?_eq_getElem hlt
      obtain ⟨a, a1, a2⟩ := h.at tb hc
      have hcl := byte_lt l[i]
      have ec : IntKind.u32.wrap ((l[i].toNat : Nat) : Int) = ((l[i].toNat : Nat) : Int) := wrap_u32 hcl
      simp only [a1, ld_5, a2, pureW_some, cv_5_22, bothW_ok, ec, bin_xor32 hr hcl]
      have hx : r ^^^ l[i].toNat < 4294967296 := Nat.xor_lt_two_pow (n := 32) hr hcl
      refine nib_step hg hx ?_
      refine nib_step hg (nib_lt hx) ?_
      simp only [bin_add, pureW_some]
      rw [wrap_i64 (by omega) (by omega), nib_nib]
      refine cutW_self.2 ⟨l.length - (i + 1), by omega, rfl, rfl, i + 1, ?_, rfl, by omega⟩
      rw [List.take_add_one, hc]
      have e : crcR (4294967295 - s0) (l.take i ++ (some l[i]).toList) = Go.Crc.bits 8 (r ^^^ l[i].toNat) := by
        rw [crcR_append, hre]; rfl
      rw [e]; rfl
    · have hi' : i = l.length := by omega
      rw [hi', List.take_length] at hre
      rw [un_xor32 hr]
      refine pureW_some.2 ?_
      rw [← hre]
      exact hk
  · rw [e127]
    rw [un_xor32 hs]
    simp only [h.len tb, pureW_some]
    exact cutW_self.2 ⟨l.length, rfl, rfl, 0, rfl, rfl, by omega⟩
theorem wc61 {A : AW} {x : Value} {l : List UInt8} {F : List Nat} {K : Value → AW → Prop} (h : RdB A x l F) (hg : Glb A) (hl : l.length < 1000000) (hk : K (.int .u32 ((sum32 l : Nat) : Int)) A) : Wc Tryz.prog theX W0 m0 61 [x] A K := by
  refine w61 _ _ (cuts_none (S := fun _ _ _ => False) fun _ _ _ h => h) ?_
  rw [e61]
  exact wc127 (s0 := 0) h hg hl (by decide) hk

theorem le4_get {s i : Nat} (h : i < 4) : (le4 s)[i]? = some (UInt8.ofNat (s / 256 ^ i)) := by
  have hc : i = 0 ∨ i = 1 ∨ i = 2 ∨ i = 3 := by omega
  rcases hc with rfl | rfl | rfl | rfl <;> simp [le4]
theorem wc22 {A : AW} {x : Value} {l : List UInt8} {F : List Nat} {K : Value → AW → Prop} (h : RdB A x l F) (hg : Glb A) (hf : Fine A) (hA : A.next + 5 < maxId) (hl : l.length < 900000)
    (hk : ∀ A' v F', Grow A A' 1 → Buf 5 A' v (Go.Crc.sealT l) F' → (∀ x ∈ F', A.next ≤ x) → K v A') : Wc Tryz.prog theX W0 m0 22 [x] A K := by
  have hroom : room = 68719476736 := rfl
  have hlt := h.lt
  obtain ⟨a0, c0, hx⟩ := h.slice
  let I : Nat → Nat → List Value → AW → Prop := fun g id vals A' => id = 0 ∧ ∃ i : Nat, vals = [x, .slice (some ⟨A.next, 0, none⟩) (l.length + 4) (l.length + 4), .int .u32 ((sum32 l : Nat) : Int), .int .i64 (i : Int)] ∧ g = 4 - i ∧ i ≤ 4 ∧
    Go.Abs.Row1 A' A.next (bytesV (l ++ (le4 (sum32 l)).take i) ++ List.replicate (4 - i) (.int .u8 0)) 5 ∧ Grow A A' 1 ∧ A'.next = A.next + 1
  refine w22 _ _ (c22 (I := I) ?_) ?_
  · rintro g id vals A' d ⟨rfl, i, rfl, rfl, hi, hr, hgr, hn⟩ hd
    rw [l22_0]
    simp only [L22, List.map_cons, List.map_nil, List.cons.injEq, and_true] at hd
    obtain ⟨h0, h3, h4, h15⟩ := hd
    have hx' : lenA Tryz.prog A' 44 x = some (.int .i64 (l.length : Int)) := by rw [hx]; exact ln_44 _ _ _ _
    simp only [h0, h3, h4, h15, bin_lss, pureW_some, forkW_dec]
    refine ⟨fun hlt => ?_, fun hge => ?_⟩
    · have hlt : i < 4 := by omega
      have hlen : lenA Tryz.prog A' 44 x = some (.int .i64 (l.length : Int)) := by rw [hx]; exact ln_44 _ _ _ _
      simp only [hlen, bin_add, bin_mul, pureW_some]
      rw [wrap_i64 (n := (l.length : Int) + i) (by omega) (by omega), wrap_i64 (n := 8 * (i : Int)) (by omega) (by omega), bin_shr (by omega)]
      have e3 : min (8 * (i : Int)).toNat (IntKind.bits .u32) = 8 * i := by show min _ 32 = _; omega
      rw [e3]
      simp only [pureW_some, cv_22_5, bothW_ok, byte_of]
      have hia : indexAddrA Tryz.prog 44 (.slice (some ⟨A.next, 0, none⟩) (l.length + 4) (l.length + 4)) (.int .i64 ((l.length : Int) + i)) = some (.pointer (some ⟨A.next, l.length + i, none⟩)) := by
        show indexAddrA Tryz.prog 44 _ (.int .i64 (.ofNat (l.length + i))) = _
        rw [ia_44, blt_true.2 (by omega), cond_true]
        unfold addA
        cases hb : Nat.beq ((l.length + i) * 1) 0 with
        | true => rw [cond_true]; have := Nat.eq_of_beq_eq_true hb; rw [Nat.mul_one] at this; rw [this]
        | false => rw [cond_false, Nat.mul_one, Nat.zero_add]
      rw [hia]
      simp only [pureW_some]
      refine hr.store hgr.fine (by omega) (st_5 _ _ _) rfl (by simp [Value.cells, bytesV_length, le4_length]; omega) rfl fun A2 r2 k2 n2 f2 => ?_
      have e4 : 4 - i = (4 - (i + 1)) + 1 := by omega
      have e5 : l.length + i = (bytesV (l ++ (le4 (sum32 l)).take i)).length := by rw [bytesV_length, List.length_append, List.length_take, le4_length]; omega
      have hs : setL (bytesV (l ++ (le4 (sum32 l)).take i) ++ List.replicate (4 - i) (Value.int .u8 0)) (l.length + i) (Value.cells (.int .u8 ((UInt8.ofNat (sum32 l / 256 ^ i)).toNat : Int))).toList = bytesV (l ++ (le4 (sum32 l)).take (i + 1)) ++ List.replicate (4 - (i + 1)) (.int .u8 0) := by
        rw [e4, List.replicate_succ, e5]
        have := setL_mid (bytesV (l ++ (le4 (sum32 l)).take i)) [Value.int .u8 0] [Value.int .u8 ((UInt8.ofNat (sum32 l / 256 ^ i)).toNat : Int)] (List.replicate (4 - (i + 1)) (.int .u8 0)) rfl
        refine this.trans ?_
        rw [List.take_add_one, le4_get hlt, ← List.append_assoc, bytesV_append, bytesV_append, bytesV_append]
        simp [bytesV]
      rw [hs] at r2
      rw [wrap_i64 (by omega) (by omega)]
      exact cutW_self.2 ⟨4 - (i + 1), by omega, rfl, i + 1, rfl, rfl, by omega, r2, (hgr.own k2 (by simp) (m := 0) (by omega) f2), by omega⟩
    · have hi' : i = 4 := by omega
      subst hi'
      have e : bytesV (l ++ (le4 (sum32 l)).take 4) ++ List.replicate (4 - 4) (Value.int .u8 0) = bytesV (Go.Crc.sealT l) ++ [] := rfl
      rw [e] at hr
      refine hk A' _ [A.next] hgr (.inr (.inr ⟨A.next, l.length + 4, [], by rw [seal_length], by omega, hr, by rw [seal_length]; rfl, rfl, rfl⟩)) (by simp)
  · rw [e22]
    simp only [h.len tb, bin_add, pureW_some]
    rw [wrap_i64 (by omega) (by omega), show (l.length : Int) + 4 = ((l.length + 4 : Nat) : Int) by omega]
    refine makeBytes tb hf (by omega) (Nat.le_refl _) (by omega) fun A1 m1 => ?_
    have n1 := m1.next
    have k1 := m1.keeps hf
    refine copyOwn tb m1.row1 (h.keeps k1 (by simp)) m1.fine (by omega) (by rw [List.length_replicate]; omega) fun A2 vv r2 k2 n2 f2 => ?_
    rw [Nat.min_eq_left (by omega), List.take_length] at r2
    have g2 : Grow A A2 1 := (Grow.made m1 hf).own k2 (by simp) (m := 0) (by omega) f2
    have hx2 := h.keeps g2.keeps (by simp)
    have hg2 := hg.keeps g2.keeps (by simp)
    refine wc61 hx2 hg2 (by omega) ?_
    refine cutW_self.2 ⟨4, rfl, 0, rfl, rfl, by omega, ?_, g2, by omega⟩
    have e : setL (List.replicate (l.length + 4) (Value.int .u8 0)) 0 (bytesV l) = bytesV (l ++ (le4 (sum32 l)).take 0) ++ List.replicate (4 - 0) (.int .u8 0) := by
      rw [List.replicate_append_replicate.symm]
      have := setL_mid [] (List.replicate l.length (Value.int .u8 0)) (bytesV l) (List.replicate 4 (.int .u8 0)) (by rw [List.length_replicate, bytesV_length])
      simp only [List.nil_append, List.length_nil] at this
      rw [this]
      simp
    rw [← e]
    exact r2

theorem wc129 {A : AW} {x : Value} {l : List UInt8} {F : List Nat} {s0 : Nat} {K : Value → AW → Prop} (h : RdB A x l F) (hl : l.length < 1000000) (hs : s0 < 4294967296) (hk : K (.int .u32 ((4294967295 - crcR (4294967295 - s0) l : Nat) : Int)) A) : Wc Tryz.prog theX W0 m0 129 [.int .u32 (s0 : Int), x] A K := by
  let I : Nat → Nat → List Value → AW → Prop := fun g id vals A' => A' = A ∧
    ((id = 0 ∧ ∃ i : Nat, vals = [x, .int .u32 ((crcR (4294967295 - s0) (l.take i) : Nat) : Int), .int .i64 (i : Int)] ∧ g = 10 * (l.length - i) ∧ i ≤ l.length) ∨
     (id = 2 ∧ ∃ (i k r : Nat) (c : UInt8), vals = [x, .int .u32 ((Go.Crc.bits k (r ^^^ c.toNat) : Nat) : Int), .int .i64 (i : Int), .int .i64 (k : Int)] ∧ g = 10 * (l.length - i - 1) + (9 - k) ∧ i < l.length ∧ k ≤ 8 ∧ r < 4294967296 ∧ r = crcR (4294967295 - s0) (l.take i) ∧ l[i]? = some c))
  refine w129 _ _ _ (c129 (I := I) ?_) ?_
  · rintro g id vals A' d ⟨rfl, ⟨rfl, i, rfl, rfl, hi⟩ | ⟨rfl, i, k, r, c, rfl, rfl, hi, hk8, hr, hre, hc⟩⟩ hd
    · rw [l129_0]
      simp only [L129, List.map_cons, List.map_nil, List.cons.injEq, and_true] at hd
      obtain ⟨h1, h5, h6⟩ := hd
      have hr : crcR (4294967295 - s0) (l.take i) < 4294967296 := crcR_lt _ (by omega)
      obtain ⟨r, hre⟩ : ∃ r, crcR (4294967295 - s0) (l.take i) = r := ⟨_, rfl⟩
      rw [hre] at h5 hr
      simp only [h1, h5, h6, h.len tb, bin_lss, pureW_some, forkW_dec]
      refine ⟨fun hlt => ?_, fun hge => ?_⟩
      · have hlt : i < l.length := by omega
        have hc := List.getElem?_eq_getElem hlt
        obtain ⟨a, a1, a2⟩ := h.at tb hc
        have hcl := byte_lt l[i]
        have ec : IntKind.u32.wrap ((l[i].toNat : Nat) : Int) = ((l[i].toNat : Nat) : Int) := wrap_u32 hcl
        simp only [a1, ld_5, a2, pureW_some, cv_5_22, bothW_ok, ec, bin_xor32 hr hcl]
        exact cutW_self.2 ⟨10 * (l.length - i - 1) + 9, by omega, rfl, .inr ⟨rfl, i, 0, r, l[i], rfl, rfl, hlt, by omega, hr, hre.symm, hc⟩⟩
      · have hi' : i = l.length := by omega
        rw [hi', List.take_length] at hre
        rw [un_xor32 hr]
        refine pureW_some.2 ?_
        rw [← hre]
        exact hk
    · rw [l129_2]
      simp only [L129, List.map_cons, List.map_nil, List.cons.injEq, and_true] at hd
      obtain ⟨h1, h5, h6, h7⟩ := hd
      have hb : Go.Crc.bits k (r ^^^ c.toNat) < 4294967296 := bits_lt k (Nat.xor_lt_two_pow (n := 32) hr (byte_lt c))
      obtain ⟨q, hq⟩ : ∃ q, Go.Crc.bits k (r ^^^ c.toNat) = q := ⟨_, rfl⟩
      rw [hq] at h5 hb
      simp only [h1, h5, h6, h7, bin_lss, pureW_some, forkW_dec]
      refine ⟨fun hlt => ?_, fun hge => ?_⟩
      · have hlt : k < 8 := by omega
        rw [bin_rem (by decide), bin_quo (by decide)]
        have e1 : (q : Int).tmod 2 = ((q % 2 : Nat) : Int) := by rw [Int.tmod_eq_emod_of_nonneg (by omega)]; omega
        have e2 : IntKind.u32.wrap ((q : Int).tdiv 2) = ((q / 2 : Nat) : Int) := by
          rw [Int.tdiv_eq_ediv_of_nonneg (by omega), show (q : Int) / 2 = ((q / 2 : Nat) : Int) by omega]
          exact wrap_u32 (by omega)
        rw [e1, e2]
        simp only [pureW_some, bin_eql, forkW_beq]
        have enext : Go.Crc.bits (k + 1) (r ^^^ c.toNat) = bit1 q := by rw [bits_add, hq]; rfl
        refine ⟨fun ho => ?_, fun ho => ?_⟩
        · have ho : q % 2 = 1 := by omega
          have hx := bin_xor32 (P := Tryz.prog) (t := 22) (xo := .tmp 34) (yo := .const (.int .u32 2197175160)) (a := q / 2) (b := 2197175160) (by omega) (by decide)
          have hx' : binA Tryz.prog .xor 22 (.tmp 34) (.const (.int .u32 2197175160)) (.int .u32 ((q / 2 : Nat) : Int)) (.int .u32 2197175160) = some (.int .u32 (((q / 2) ^^^ 2197175160 : Nat) : Int)) := hx
          rw [hx']
          simp only [pureW_some, bin_add]
          rw [wrap_i64 (by omega) (by omega)]
          have e : bit1 q = (q / 2) ^^^ 2197175160 := by unfold bit1; rw [if_pos ho]
          refine cutW_self.2 ⟨10 * (l.length - i - 1) + (9 - (k + 1)), by omega, rfl, .inr ⟨rfl, i, k + 1, r, c, by rw [enext, e]; rfl, rfl, hi, by omega, hr, hre, hc⟩⟩
        · have ho : ¬ q % 2 = 1 := by omega
          simp only [pureW_some, bin_add]
          rw [wrap_i64 (by omega) (by omega)]
          have e : bit1 q = q / 2 := by unfold bit1; rw [if_neg ho]
          refine cutW_self.2 ⟨10 * (l.length - i - 1) + (9 - (k + 1)), by omega, rfl, .inr ⟨rfl, i, k + 1, r, c, by rw [enext, e]; rfl, rfl, hi, by omega, hr, hre, hc⟩⟩
      · have hk' : k = 8 := by omega
        subst hk'
        simp only [bin_add, pureW_some]
        rw [wrap_i64 (by omega) (by omega)]
        refine cutW_self.2 ⟨10 * (l.length - (i + 1)), by omega, rfl, .inl ⟨rfl, i + 1, ?_, rfl, by omega⟩⟩
        rw [List.take_add_one, hc]
        have e : crcR (4294967295 - s0) (l.take i ++ (some c).toList) = q := by
          rw [crcR_append, ← hre, ← hq]; rfl
        rw [e]; rfl
  · rw [e129]
    rw [un_xor32 hs]
    simp only [pureW_some]
    exact cutW_self.2 ⟨10 * l.length, rfl, .inl ⟨rfl, 0, rfl, rfl, by omega⟩⟩
theorem wc65 {A : AW} {x : Value} {l : List UInt8} {F : List Nat} {K : Value → AW → Prop} (h : RdB A x l F) (hl : l.length < 1000000) (hk : K (.int .u32 ((sum32 l : Nat) : Int)) A) : Wc Tryz.prog theX W0 m0 65 [x] A K := by
  refine w65 _ _ (cuts_none (S := fun _ _ _ => False) fun _ _ _ h => h) ?_
  rw [e65]
  exact wc129 (s0 := 0) h hl (by decide) hk
theorem bslice4 {A : AW} {a b c d : Int} {K : Value → AW → Prop} (hf : Fine A) (h : A.next < maxId) (hk : ∀ A', Made A A' [.int .u8 a, .int .u8 b, .int .u8 c, .int .u8 d] 5 → K (.slice (some ⟨A.next, 0, none⟩) 4 4) A') : bothW (buildSliceA Tryz.prog A 44 4 [(0, .int .u8 a), (1, .int .u8 b), (2, .int .u8 c), (3, .int .u8 d)]) K := by
  rw [bs44_4]
  unfold AW.newRow AW.new
  have hc : ([Value.int .u8 a, .int .u8 b, .int .u8 c, .int .u8 d].all oneCell) = true := rfl
  simp only [hc, cond_true, blt_true.2 h]
  exact bothW_ok.2 (hk (A.push (.row [.int .u8 a, .int .u8 b, .int .u8 c, .int .u8 d] 5 A.next 0 false)) ⟨AW.push_ext _ h, rfl, by rw [AW.push_get _ h, if_pos rfl], hf.alone (Nat.le_refl _), hf.push _ h⟩)
theorem bufN {A : AW} {b : Nat} {l : List UInt8} (h : Go.Abs.Row1 A b (bytesV l) 5) (hl : l.length < 1000000) : Buf 5 A (.slice (some ⟨b, 0, none⟩) l.length l.length) l [b] :=
  .inr (.inr ⟨b, l.length, [], rfl, by have : room = 68719476736 := rfl; omega, by simpa using h, rfl, rfl, rfl⟩)
theorem wc25 {A : AW} {x : Value} {l : List UInt8} {F : List Nat} {K : Value → AW → Prop} (h : RdB A x l F) (hf : Fine A) (hA : A.next + 5 < maxId) (hl : l.length < 900000)
    (hk : ∀ A' v F', Grow A A' 3 → Buf 5 A' v (Go.Crc.sealT l) F' → (∀ x ∈ F', A.next ≤ x) → K v A') : Wc Tryz.prog theX W0 m0 25 [x] A K := by
  have hroom : room = 68719476736 := rfl
  refine w25 _ _ (cuts_none (S := fun _ _ _ => False) fun _ _ _ h => h) ?_
  rw [e25]
  refine wc65 h (by omega) ?_
  refine appendBuf tb (Buf.nil 5 A) (src_slice tb h) hf (by omega) (by simp; omega) fun v1 A1 F1 b1 k1 hF1 n1 f1 => ?_
  rw [List.nil_append] at b1
  have g1 : Grow A A1 1 := (Grow.refl hf).own k1 (by simp) (m := 1) (by omega) f1 |>.more (by omega)
  have hF1' : ∀ x ∈ F1, A.next ≤ x := fun x hx => by
    rcases hF1 x hx with h | h
    · simp at h
    · exact h
  obtain ⟨s, hse⟩ : ∃ s, sum32 l = s := ⟨_, rfl⟩
  rw [hse]
  simp only [cv_22_5, bothW_ok]
  rw [bin_shr (by decide), bin_shr (by decide), bin_shr (by decide)]
  simp only [pureW_some, cv_22_5, bothW_ok]
  have b0 : IntKind.u8.wrap (s : Int) = ((UInt8.ofNat (s / 256 ^ 0)).toNat : Int) := by rw [← byte_of s 0]; simp
  have b1' : IntKind.u8.wrap ((s : Int).fdiv (2 ^ (min (8 : Int).toNat (IntKind.bits .u32)))) = ((UInt8.ofNat (s / 256 ^ 1)).toNat : Int) := byte_of s 1
  have b2' : IntKind.u8.wrap ((s : Int).fdiv (2 ^ (min (16 : Int).toNat (IntKind.bits .u32)))) = ((UInt8.ofNat (s / 256 ^ 2)).toNat : Int) := byte_of s 2
  have b3' : IntKind.u8.wrap ((s : Int).fdiv (2 ^ (min (24 : Int).toNat (IntKind.bits .u32)))) = ((UInt8.ofNat (s / 256 ^ 3)).toNat : Int) := byte_of s 3
  rw [b0, b1', b2', b3']
  refine bslice4 f1 (by omega) fun A2 m2 => ?_
  have n2 := m2.next
  have e4 : [UInt8.ofNat (s / 256 ^ 0), UInt8.ofNat (s / 256 ^ 1), UInt8.ofNat (s / 256 ^ 2), UInt8.ofNat (s / 256 ^ 3)] = le4 s := by simp [le4]
  have r2 : Go.Abs.Row1 A2 A1.next (bytesV (le4 s)) 5 := by rw [← e4]; exact m2.row1
  have hb2 : Buf 5 A2 (.slice (some ⟨A1.next, 0, none⟩) 4 4) (le4 s) [A1.next] := bufN r2 (by simp [le4])
  have g2 := g1.trans (.made m2 f1)
  refine appendBuf tb (b1.keeps (m2.keeps f1) (by simp)) (src_slice tb hb2.rd) m2.fine (by omega) (by simp [le4]; omega) fun v3 A3 F3 b3 k3 hF3 n3 f3 => ?_
  have e : l ++ le4 s = Go.Crc.sealT l := by unfold Go.Crc.sealT; rw [hse]
  rw [e] at b3
  have hle := g1.le
  refine hk A3 v3 F3 ((g2.own k3 hF1' (m := 1) (by omega) f3).more (by omega)) b3 fun x hx => ?_
  rcases hF3 x hx with h | h
  · exact hF1' x h
  · omega
end
end Go.Proofs.YtjiglbmjhecobaaGreatDoor


namespace Go.Proofs.YtjiglbmjhecobaaGreatDoor
open Go.Abs

theorem cap_nil (A : AW) : builtinA Tryz.prog A .cap [44] 3 [.slice none 0 0] = .ok (.value (.int .i64 0)) A := by kernel_rfl
theorem slice_nil (A : AW) : sliceA Tryz.prog A 44 (.slice none 0 0) none (some (.int .i64 0)) none = some (.slice none 0 0) := by kernel_rfl
theorem ud3 : Tryz.prog.underlying 3 = some (.int .i64) := by kernel_rfl
theorem ld_44' (A : AW) (a : Addr) : loadP Tryz.prog A 44 (.pointer (some a)) = A.cell? a := ld_44 A a
section
variable {W0 : World} {m0 : Inj Tryz.prog}
theorem wc126 {n : Nat} {A : AW} {K : Value → AW → Prop} (hf : Fine A) (hA : A.next < maxId) (hn : n < 1000000000) (h0 : 0 < n)
    (hk : ∀ A' v, BufC 5 A' v [] n A.next → Keeps A A' [] → A'.next = A.next + 1 → Fine A' → K v A') : Wc Tryz.prog theX W0 m0 126 [.slice none 0 0, .int .i64 (n : Int)] A K := by
  have hroom : room = 68719476736 := rfl
  refine w126 _ _ _ (cuts_none (S := fun _ _ _ => False) fun _ _ _ h => h) ?_
  rw [e126]; unfold qe126_0
  simp only [bin_lss, pureW_some, forkW_dec]
  refine ⟨fun h => absurd h (by omega), fun _ => ?_⟩
  have cw : ∀ {K' : Value → AW → Prop}, K' (.int .i64 0) A → anW Tryz.prog theX W0 m0 (builtinA Tryz.prog A .cap [44] 3 [.slice none 0 0]) K' := fun h => .inl ⟨_, _, cap_nil A, h⟩
  refine cw ?_
  simp only [ln_44, bin_sub, pureW_some]
  rw [wrap_i64 (n := 0 - ((0 : Nat) : Int)) (by omega) (by omega), wrap_i64 (by omega) (by omega)]
  simp only [bin_gtr, pureW_some, forkW_dec]
  refine ⟨fun h => ?_, fun h => ?_⟩
  · refine cw ?_
    simp only [slice_nil, pureW_some]
    rw [show (n : Int) - (0 - ((0 : Nat) : Int)) = (n : Int) by omega]
    refine growNil tb ud3 (by omega) (by omega) hf hA fun A' b' k' n' f' hr => ?_
    have e : sliceA Tryz.prog A' 44 (.slice (some ⟨A.next, 0, none⟩) n (capU + n)) none (some (.int .i64 ((0 : Nat) : Int))) none = some (.slice (some ⟨A.next, 0, none⟩) 0 (capU + n)) := by
      have := slice_open (P := Tryz.prog) (len := n) tb hr (n := 0) (c := n) (Nat.zero_le n)
      rw [moved_eq] at this
      exact this
    simp only [ln_44, pureW_some, e]
    exact hk A' _ b' k' n' f'
  · omega
theorem cat_take (l1 l2 : List UInt8) : ([l1, l2].take 0).flatten = [] ∧ ([l1, l2].take 1).flatten = l1 ∧ ([l1, l2].take 2).flatten = l1 ++ l2 := by simp
theorem ia154 {q n i : Nat} (hi : i < n) : indexAddrA Tryz.prog 154 (.slice (some ⟨q, 0, none⟩) n n) (.int .i64 (i : Int)) = some (.pointer (some ⟨q, i, none⟩)) := by
  show indexAddrA Tryz.prog 154 _ (.int .i64 (.ofNat i)) = _
  rw [ia_154, blt_true.2 hi, cond_true]
  unfold addA
  cases hb : Nat.beq (i * 1) 0 with
  | true => rw [cond_true]; have := Nat.eq_of_beq_eq_true hb; rw [Nat.mul_one] at this; rw [this]
  | false => rw [cond_false, Nat.mul_one, Nat.zero_add]
set_option maxRecDepth 100000 in
theorem wc56 {q : Nat} {v1 v2 : Value} {l1 l2 : List UInt8} {F1 F2 : List Nat} {A : AW} {K : Value → AW → Prop} (hq : Go.Abs.Row1 A q [v1, v2] 44) (h1 : RdB A v1 l1 F1) (h2 : RdB A v2 l2 F2) (hf : Fine A) (hA : A.next + 10 < maxId) (hr : l1.length + l2.length < 1000000) (hp : 0 < l1.length)
    (hk : ∀ A' v F, Grow A A' 3 → Buf 5 A' v (l1 ++ l2) F → (∀ x ∈ F, A.next ≤ x) → K v A') : Wc Tryz.prog theX W0 m0 56 [.slice (some ⟨q, 0, none⟩) 2 2] A K := by
  have hroom : room = 68719476736 := rfl
  have lt1 := h1.lt
  have lt2 := h2.lt
  have hql := hq.lt
  have hel : ∀ i, i < 2 → ∃ v l F, [v1, v2][i]? = some v ∧ [l1, l2][i]? = some l ∧ RdB A v l F := by
    intro i hi
    have : i = 0 ∨ i = 1 := by omega
    rcases this with rfl | rfl
    · exact ⟨v1, l1, F1, rfl, rfl, h1⟩
    · exact ⟨v2, l2, F2, rfl, rfl, h2⟩
  have hsz : ∀ i, ([l1, l2].take i).flatten.length ≤ l1.length + l2.length := by
    intro i
    have : i = 0 ∨ i = 1 ∨ 2 ≤ i := by omega
    rcases this with rfl | rfl | h
    · simp
    · simp
    · rw [List.take_of_length_le (by simpa using h)]; simp
  let I : Nat → Nat → List Value → AW → Prop := fun g id vals A' =>
    (id = 0 ∧ A' = A ∧ ∃ i : Nat, vals = [.slice (some ⟨q, 0, none⟩) 2 2, .int .i64 ((([l1, l2].take i).flatten.length : Nat) : Int), .slice (some ⟨q, 0, none⟩) 2 2, .int .i64 2, .int .i64 (i : Int)] ∧ g = 10 - i ∧ i ≤ 2) ∨
    (id = 2 ∧ ∃ (i : Nat) (v : Value), vals = [v, .slice (some ⟨q, 0, none⟩) 2 2, .int .i64 2, .int .i64 (i : Int)] ∧ g = 5 - i ∧ i ≤ 2 ∧ Grow A A' 1 ∧
      BufC 5 A' v ([l1, l2].take i).flatten (l1.length + l2.length) A.next)
  refine w56 _ _ (c56 (I := I) ?_) ?_
  · rintro g id vals A' d (⟨rfl, rfl, i, rfl, rfl, hi⟩ | ⟨rfl, i, v, rfl, rfl, hi, hg, hb⟩) hd
    · rw [l56_0]
      simp only [L56, List.map_cons, List.map_nil, List.cons.injEq, and_true] at hd
      obtain ⟨h0, h3, h9, h10, h11⟩ := hd
      have hs := hsz i
      simp only [h0, h3, h9, h10, h11, bin_lss, pureW_some, forkW_dec]
      refine ⟨fun hlt => ?_, fun hge => ?_⟩
      · have hlt : i < 2 := by omega
        obtain ⟨v, l, F, e1, e2, e3⟩ := hel i hlt
        have hcell : A'.cell? ⟨q, i, none⟩ = some v := by rw [cell_row hq.row]; exact cellOf_get e1 e3.one.2
        have htk : ([l1, l2].take (i + 1)).flatten = ([l1, l2].take i).flatten ++ l := by rw [List.take_add_one, e2]; simp
        have hs1 := hsz (i + 1)
        rw [htk, List.length_append] at hs1
        rw [ia154 hlt]
        simp only [ld_44', hcell, e3.len tb, bin_add, pureW_some]
        rw [wrap_i64 (by omega) (by omega)]
        simp only [bin_lss, pureW_some, forkW_dec]
        refine ⟨fun h => absurd h (by omega), fun _ => ?_⟩
        rw [wrap_i64 (by omega) (by omega)]
        refine cutW_self.2 ⟨10 - (i + 1), by omega, .inl ⟨rfl, rfl, i + 1, ?_, rfl, by omega⟩⟩
        rw [htk, List.length_append]
        simp only [List.cons.injEq, Value.int.injEq, and_true, true_and]
        omega
      · have hi' : i = 2 := by omega
        subst hi'
        have e : ([l1, l2].take 2).flatten = l1 ++ l2 := (cat_take l1 l2).2.2
        rw [e, List.length_append]
        refine wc126 hf (by omega) (by omega) (by omega) fun A2 v2' b2 k2 n2 f2 => ?_
        simp only [ln_154, pureW_some]
        exact cutW_self.2 ⟨5, by omega, .inr ⟨rfl, 0, _, rfl, rfl, by omega, ⟨k2, f2, by omega⟩, b2⟩⟩
    · rw [l56_2]
      simp only [L56, List.map_cons, List.map_nil, List.cons.injEq, and_true] at hd
      obtain ⟨h6, h25, h26, h27⟩ := hd
      have hnx := hg.next
      have hle := hg.le
      simp only [h6, h25, h26, h27, bin_lss, pureW_some, forkW_dec]
      refine ⟨fun hlt => ?_, fun hge => ?_⟩
      · have hlt : i < 2 := by omega
        obtain ⟨vi, l, F, e1, e2, e3⟩ := hel i hlt
        have hq' := hq.keeps hg.keeps (by simp)
        have e3' := e3.keeps hg.keeps (by simp)
        have hcell : A'.cell? ⟨q, i, none⟩ = some vi := by rw [cell_row hq'.row]; exact cellOf_get e1 e3.one.2
        have htk : ([l1, l2].take (i + 1)).flatten = ([l1, l2].take i).flatten ++ l := by rw [List.take_add_one, e2]; simp
        have hs1 := hsz (i + 1)
        rw [htk, List.length_append] at hs1
        rw [ia154 hlt]
        simp only [ld_44', hcell, pureW_some]
        refine appendCap tb hb (src_slice tb e3') hg.fine (by omega) hs1 fun A2 v2' b2 k2 n2 f2 => ?_
        simp only [bin_add, pureW_some]
        rw [wrap_i64 (by omega) (by omega)]
        exact cutW_self.2 ⟨5 - (i + 1), by omega, .inr ⟨rfl, i + 1, v2', rfl, rfl, by omega, hg.own k2 (by simp) (m := 0) (by omega) f2, by rw [htk]; exact b2⟩⟩
      · have hi' : i = 2 := by omega
        subst hi'
        have e : ([l1, l2].take 2).flatten = l1 ++ l2 := (cat_take l1 l2).2.2
        rw [e] at hb
        exact hk A' v [A.next] (hg.more (by omega)) (hb.buf (by rw [List.length_append]) (by omega)) (by simp)
  · rw [e56]
    simp only [ln_154, pureW_some]
    exact cutW_self.2 ⟨10, .inl ⟨rfl, rfl, 0, rfl, rfl, by omega⟩⟩
theorem wc18 {q : Nat} {v1 v2 : Value} {l1 l2 : List UInt8} {F1 F2 : List Nat} {A : AW} {K : Value → AW → Prop} (hq : Go.Abs.Row1 A q [v1, v2] 44) (h1 : RdB A v1 l1 F1) (h2 : RdB A v2 l2 F2) (hf : Fine A) (hA : A.next + 10 < maxId) (hr : l1.length + l2.length < 1000000) (hp : 0 < l1.length)
    (hk : ∀ A' v F, Grow A A' 3 → Buf 5 A' v (l1 ++ l2) F → (∀ x ∈ F, A.next ≤ x) → K v A') : Wc Tryz.prog theX W0 m0 18 [.slice (some ⟨q, 0, none⟩) 2 2] A K := by
  refine w18 _ _ (cuts_none (S := fun _ _ _ => False) fun _ _ _ h => h) ?_
  rw [e18]
  exact wc56 hq h1 h2 hf hA hr hp hk
end
end Go.Proofs.YtjiglbmjhecobaaGreatDoor


namespace Go.Proofs.YtjiglbmjhecobaaGreatDoor
open Go.Abs

theorem cb_at : ∀ (i : Nat) (a b : List UInt8), a.take i = b.take i → i ≤ a.length → i ≤ b.length → Go.Lib.compareBytes a b = Go.Lib.compareBytes (a.drop i) (b.drop i)
  | 0, a, b, _, _, _ => rfl
  | i + 1, [], b, _, h, _ => by simp at h
  | i + 1, _ :: _, [], _, _, h => by simp at h
  | i + 1, a :: xs, b :: ys, h, h1, h2 => by
    simp only [List.take_succ_cons, List.cons.injEq] at h
    obtain ⟨rfl, h⟩ := h
    simp only [Go.Lib.compareBytes, UInt8.lt_irrefl, if_false, List.drop_succ_cons]
    exact cb_at i xs ys h (by simpa using h1) (by simpa using h2)
theorem cb_neq {a b : UInt8} {xs ys : List UInt8} (h : (a.toNat : Int) ≠ (b.toNat : Int)) : (a.toNat : Int) < (b.toNat : Int) ↔ Go.Lib.compareBytes (a :: xs) (b :: ys) < 0 := by
  simp only [Go.Lib.compareBytes]
  by_cases h1 : a < b
  · have := UInt8.lt_iff_toNat_lt.1 h1
    rw [if_pos h1]
    omega
  · have hn : ¬ a.toNat < b.toNat := fun h => h1 (UInt8.lt_iff_toNat_lt.2 h)
    have h2 : b < a := UInt8.lt_iff_toNat_lt.2 (by omega)
    rw [if_neg h1, if_pos h2]
    omega
theorem cb_nil {a b : List UInt8} (h : a = [] ∨ b = []) : Go.Lib.compareBytes a b < 0 ↔ a.length < b.length := by
  cases a with
  | nil => cases b <;> simp [Go.Lib.compareBytes]
  | cons x a =>
    cases b with
    | nil => simp [Go.Lib.compareBytes]
    | cons y b => simp at h
theorem idx9 {s : ByteArray} {i : Nat} {c : UInt8} (h : s.data.toList[i]? = some c) : indexA Tryz.prog 9 (.string s) (.int .i64 (i : Int)) = some (.int .u8 (c.toNat : Int)) := by
  show indexA Tryz.prog 9 (.string s) (.int .i64 (.ofNat i)) = some (.int .u8 (c.toNat : Int))
  unfold indexA
  simp only [tb.ust]
  rw [h]

def zi (x : Nm) : Int := if sameX (x.f : Int) 0 x.g ⟨⟨[]⟩⟩ x.b ⟨⟨[]⟩⟩ = true then 1 else 0
noncomputable def ni (l : List Nm) : Int := if nmsOk l = true then 1 else 0
def Lok (kd xa no : Nat) (z c n : Int) (len : Nat) : Prop :=
  ((1 ≤ kd ∧ kd ≤ 5) ∨ (17 ≤ kd ∧ kd ≤ 21)) ∧ ((kd = 5 ∨ kd = 21) → z = 1) ∧ ((kd ≠ 5 ∧ kd ≠ 21) → c = 0) ∧ xa ≤ 7 ∧ no ≤ 999 ∧ (xa = 0 ∨ no = 0) ∧ ((kd ≤ 5 ∨ kd = 21) → xa = 0 ∧ no = 0) ∧ (kd = 21 ∨ len = 0) ∧ n = 1
noncomputable def lchk (kd xa no : Nat) (x : Nm) (l : List Nm) : Int := @ite _ (Lok kd xa no (zi x) (xchk x.g x.b) (ni l) l.length) (Classical.propDecidable _) 0 250
theorem lchk_ok {kd xa no : Nat} {x : Nm} {l : List Nm} (h : Lok kd xa no (zi x) (xchk x.g x.b) (ni l) l.length) : lchk kd xa no x l = 0 := if_pos h
theorem lchk_no {kd xa no : Nat} {x : Nm} {l : List Nm} (h : ¬ Lok kd xa no (zi x) (xchk x.g x.b) (ni l) l.length) : lchk kd xa no x l = 250 := if_neg h
def letC (kd xa no : Nat) (x : Nm) (sv : Value) : List Value := [.int .u8 (kd : Int), .int .u32 (x.f : Int), .string x.g, .string x.b, .int .u8 (xa : Int), .int .u16 (no : Int), sv]
def letV (kd xa no : Nat) (x : Nm) (sv : Value) : Value := .agg ⟨letC kd xa no x sv⟩
theorem zneq (x : Nm) (xo yo : Operand) : binA Tryz.prog .neq 24 xo yo (.agg ⟨x.cells⟩) (.agg ⟨[.int .u32 0, .string ⟨⟨[]⟩⟩, .string ⟨⟨[]⟩⟩]⟩) = some (.bool (zi x != 1)) := by
  have h := neq24 (x.f : Int) 0 x.g ⟨⟨[]⟩⟩ x.b ⟨⟨[]⟩⟩ xo yo
  refine h.trans ?_
  unfold zi
  cases sameX (x.f : Int) 0 x.g ⟨⟨[]⟩⟩ x.b ⟨⟨[]⟩⟩ <;> rfl

section
variable {W0 : World} {m0 : Inj Tryz.prog}
theorem wc20 {kd : Nat} {A : AW} {K : Value → AW → Prop} (hkd : kd < 256)
    (hk : ∀ (k : Nat) (an : Bool), (an = false ∧ k = 0 ∧ ¬ ((1 ≤ kd ∧ kd ≤ 5) ∨ (17 ≤ kd ∧ kd ≤ 21))) ∨ (an = false ∧ k = kd ∧ 1 ≤ kd ∧ kd ≤ 5) ∨ (an = true ∧ k + 16 = kd ∧ 17 ≤ kd ∧ kd ≤ 21) → K (.tuple ⟨[.int .u8 (k : Int), .bool an]⟩) A) : Wc Tryz.prog theX W0 m0 20 [.int .u8 (kd : Int)] A K := by
  refine w20 _ _ (cuts_none (S := fun _ _ _ => False) fun _ _ _ h => h) ?_
  rw [e20]
  simp only [bin_gtr, bin_lss, bin_sub, wrap_u8, pureW_some, forkW_dec]
  refine ⟨fun h => ?_, fun h => ?_⟩
  · have e : ((kd : Int) - 16) % 256 = ((kd - 16 : Nat) : Int) := by omega
    rw [e]
    refine ⟨fun h1 => hk 0 false (.inl ⟨rfl, rfl, by omega⟩), fun h1 => ⟨fun h2 => hk 0 false (.inl ⟨rfl, rfl, by omega⟩), fun h2 => ?_⟩⟩
    have := hk (kd - 16) true (.inr (.inr ⟨rfl, by omega, by omega, by omega⟩))
    rw [decide_eq_true (by omega)]
    exact this
  · refine ⟨fun h1 => hk 0 false (.inl ⟨rfl, rfl, by omega⟩), fun h1 => ⟨fun h2 => hk 0 false (.inl ⟨rfl, rfl, by omega⟩), fun h2 => ?_⟩⟩
    have := hk kd false (.inr (.inl ⟨rfl, rfl, by omega, by omega⟩))
    rw [decide_eq_false (by omega)]
    exact this
theorem wc128 {A : AW} {a b : ByteArray} {K : Value → AW → Prop} (ha : slen a < 1000000) (hk : K (.bool (decide (cmpS a b < 0))) A) : Wc Tryz.prog theX W0 m0 128 [.string a, .string b] A K := by
  let I : Nat → Nat → List Value → AW → Prop := fun g id vals A' => id = 0 ∧ A' = A ∧ ∃ i : Nat, vals = [.string a, .string b, .int .i64 (i : Int)] ∧ i ≤ slen a ∧ i ≤ slen b ∧ a.data.toList.take i = b.data.toList.take i ∧ g = slen a - i
  have hsa : a.data.toList.length = slen a := rfl
  have hsb : b.data.toList.length = slen b := rfl
  refine w128 _ _ _ (c128 (I := I) ?_) ?_
  · rintro g id vals A' d ⟨rfl, rfl, i, rfl, hi, hi2, ht, rfl⟩ hd
    rw [l128_0]
    simp only [L128, List.map_cons, List.map_nil, List.cons.injEq, and_true] at hd
    obtain ⟨h0, h1, h5⟩ := hd
    have hat := cb_at i a.data.toList b.data.toList ht (by omega) (by omega)
    simp only [h0, h1, h5, ln_9, hsa, hsb, bin_lss, pureW_some, forkW_dec]
    have hend : (i = slen a ∨ i = slen b) → K (.bool (decide ((slen a : Int) < (slen b : Int)))) A' := fun h => by
      have e : decide (cmpS a b < 0) = decide ((slen a : Int) < (slen b : Int)) := by
        apply decide_eq_decide.2
        unfold cmpS
        rw [hat, cb_nil]
        · rw [List.length_drop, List.length_drop, hsa, hsb]
          omega
        · rcases h with h | h
          · exact .inl (List.drop_eq_nil_of_le (by omega))
          · exact .inr (List.drop_eq_nil_of_le (by omega))
      rw [e] at hk
      exact hk
    refine ⟨fun hlt => ⟨fun hlt2 => ?_, fun h => hend (.inr (by omega))⟩, fun h => hend (.inl (by omega))⟩
    have g1 : i < a.data.toList.length := by omega
    have g2 : i < b.data.toList.length := by omega
    have e1 := idx9 (List.getElem?_eq_getElem g1)
    have e2 := idx9 (List.getElem?_eq_getElem g2)
    simp only [e1, e2, bin_neq, bin_lss, bin_add, pureW_some, forkW_bne]
    refine ⟨fun hne => ?_, fun heq => ?_⟩
    · have e : decide (cmpS a b < 0) = decide ((a.data.toList[i].toNat : Int) < (b.data.toList[i].toNat : Int)) := by
        apply decide_eq_decide.2
        unfold cmpS
        rw [cb_neq (xs := a.data.toList.drop (i + 1)) (ys := b.data.toList.drop (i + 1)) hne, ← List.drop_eq_getElem_cons, ← List.drop_eq_getElem_cons, ← hat]
      rw [e] at hk
      exact hk
    · rw [wrap_i64 (by omega) (by omega)]
      refine cutW_self.2 ⟨slen a - (i + 1), by omega, rfl, rfl, i + 1, rfl, by omega, by omega, ?_, rfl⟩
      have hc : a.data.toList[i] = b.data.toList[i] := by
        apply UInt8.toNat_inj.1
        omega
      rw [List.take_add_one, List.take_add_one, ht, List.getElem?_eq_getElem g1, List.getElem?_eq_getElem g2, hc]
  · rw [e128]
    exact cutW_self.2 ⟨_, rfl, rfl, 0, rfl, by omega, by omega, by simp, rfl⟩
theorem wc63 {A : AW} {p q : Nm} {K : Value → AW → Prop} (hf : Fine A) (hA : A.next + 4 < maxId) (h1 : slen p.g < 1000000) (h2 : slen p.b < 1000000) (hk : ∀ A' r, Grow A A' 2 → (r < 0 ↔ xcmp p q < 0) → K (.int .i64 r) A') : Wc Tryz.prog theX W0 m0 63 [.agg ⟨p.cells⟩, .agg ⟨q.cells⟩] A K := by
  refine w63 _ _ _ (cuts_none (S := fun _ _ _ => False) fun _ _ _ h => h) ?_
  rw [e63]; unfold qe63_0
  refine newP_made (cs := p.cells) hf (by omega) rfl fun A1 m1 => ?_
  have n1 := m1.next
  refine newP_made (cs := q.cells) m1.fine (by omega) rfl fun A2 m2 => ?_
  have gr := (Grow.made m1 hf).trans (.made m2 m1.fine)
  have r1 : Go.Abs.Row1 A2 A.next p.cells 24 := m1.row1.keeps (m2.keeps m1.fine) (by simp)
  have r2 : Go.Abs.Row1 A2 A1.next q.cells 24 := m2.row1
  have t1 := load24 r1
  have t2 := load24 r2
  have r1 : Go.Abs.Row1 A2 A.next [.int .u32 (p.f : Int), .string p.g, .string p.b] 24 := r1
  have r2 : Go.Abs.Row1 A2 A1.next [.int .u32 (q.f : Int), .string q.g, .string q.b] 24 := r2
  simp only [t1, t2, eqN, pureW_some]
  have hlt {r : Int} (hr : r < 0 ↔ xcmp p q < 0) : K (.int .i64 r) A2 := hk A2 r gr hr
  have hcs : ∀ x y : ByteArray, (!(x.data.toList == y.data.toList)) = true ↔ x ≠ y := fun x y => by
    rw [Bool.not_eq_true', beq_eq_false_iff_ne]
    exact ⟨fun h e => h (by rw [e]), fun h e => h (ba_eq e)⟩
  have hcs0 : ∀ x y : ByteArray, (!(x.data.toList == y.data.toList)) = false ↔ x = y := fun x y => by
    rw [Bool.not_eq_false', beq_iff_eq]
    exact ⟨fun h => ba_eq h, fun h => by rw [h]⟩
  refine forkW_bool.2 ⟨fun h => ?_, fun h => ?_⟩
  · have := sameX_iff.1 h
    subst this
    exact hlt (by rw [xcmp_zero.2 rfl])
  have hne := sameX_not.1 h
  have hcz : ∀ {x y : ByteArray}, x ≠ y → cmpS x y ≠ 0 := fun h e => h (cmpS_zero.1 e)
  simp only [fa_24_0, fa_24_1, fa_24_2, ld_9, cell_row r1.row, cell_row r2.row, cellOf, isT_int, isT_string, cond_false, pureW_some, Nat.zero_add]
  refine wc128 h2 ?_
  simp only [fa_24_0, fa_24_1, fa_24_2, ld_9, ld_22, cell_row r1.row, cell_row r2.row, cellOf, isT_int, isT_string, cond_false, bin_strneq, bin_neq, bin_lss, pureW_some, forkW_bne, forkW_dec, Nat.zero_add]
  refine forkW_bool.2 ⟨fun hg => ?_, fun hg => ⟨fun hff => ⟨fun h3 => hlt ?_, fun h3 => hlt ?_⟩, fun hff => ⟨fun h3 => hlt ?_, fun h3 => hlt ?_⟩⟩⟩
  · have hg := (hcs _ _).1 hg
    refine wc128 h1 ?_
    simp only [fa_24_0, ld_22, cell_row r1.row, cell_row r2.row, cellOf, isT_int, isT_string, cond_false, bin_neq, bin_lss, pureW_some, forkW_bne, forkW_dec, Nat.zero_add]
    refine ⟨fun hff => ⟨fun h3 => hlt ?_, fun h3 => hlt ?_⟩, fun hff => ⟨fun h3 => hlt ?_, fun h3 => hlt ?_⟩⟩ <;> rw [xcmp_neg]
    · exact ⟨fun _ => .inl (by omega), fun _ => by decide⟩
    · refine ⟨fun h => absurd h (by decide), fun h => ?_⟩
      rcases h with h | ⟨h, _⟩ <;> omega
    · exact ⟨fun _ => .inr ⟨by omega, .inl h3⟩, fun _ => by decide⟩
    · refine ⟨fun h => absurd h (by decide), fun h => ?_⟩
      rcases h with h | ⟨h, h4 | ⟨h4, _⟩⟩
      · omega
      · exact absurd h4 h3
      · exact absurd h4 hg
  all_goals have hg := (hcs0 _ _).1 hg
  all_goals rw [xcmp_neg]
  · exact ⟨fun _ => .inl (by omega), fun _ => by decide⟩
  · refine ⟨fun h => absurd h (by decide), fun h => ?_⟩
    rcases h with h | ⟨h, _⟩ <;> omega
  · exact ⟨fun _ => .inr ⟨by omega, .inr ⟨hg, h3⟩⟩, fun _ => by decide⟩
  · refine ⟨fun h => absurd h (by decide), fun h => ?_⟩
    rcases h with h | ⟨h, h4 | ⟨_, h4⟩⟩
    · omega
    · exact absurd h4 (by rw [hg, cmpS_zero.2 rfl]; decide)
    · exact absurd h4 h3
end
end Go.Proofs.YtjiglbmjhecobaaGreatDoor
