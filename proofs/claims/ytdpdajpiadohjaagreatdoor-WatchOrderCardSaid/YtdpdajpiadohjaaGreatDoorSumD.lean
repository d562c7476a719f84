/-
  WatchTallies: the law answers true. Conditions: those of the theorem.
-/
import Derived.Test.YtdpdajpiadohjaaGreatDoorSumC
import Derived.Test.YtdpdajpiadohjaaGreatDoorAbsI
import Derived.Test.YtdpdajpiadohjaaGreatDoorHead

namespace Go.Proofs.YtdpdajpiadohjaaGreatDoor
open Go.Abs
section
variable {W0 : World} {m0 : Inj Tryz.prog}
theorem head_kn (hhd : KC.Holds Tryz.prog W0 m0 ⟨7, [], [.bool true]⟩) (A' : AW) {K : Value → AW → Prop} (hk : K (.bool true) A') : knW Tryz.prog W0 m0 7 [] A' K := .inl ⟨[.bool true], by decide, hhd, rfl, fun v hv => by
  obtain rfl : v = .bool true := by simpa using hv
  exact hk⟩
theorem wc3 {v : Value} {l : List Dd} {Fd : List Nat} {A : AW} (hhd : KC.Holds Tryz.prog W0 m0 ⟨7, [], [.bool true]⟩) (hv : RdE 4 Dd.cells A v l Fd) (ht : Txt l) (hf : Fine A) (hA : A.next + 400000 < maxId) : Wc Tryz.prog theX W0 m0 3 [v] A fun r _ => r = .bool true := by
  refine w3 _ _ (cuts_none (S := fun _ _ _ => False) fun _ _ _ h => h) ?_
  rw [e3]
  simp only [hv.len etD, pureW_some, bin_gtr, forkW_dec]
  refine ⟨fun _ => head_kn hhd _ rfl, fun hle => ?_⟩
  have hl : l.length ≤ 60 := by omega
  obtain ⟨a, ha⟩ := names_all l
  have same : ∀ {b : List Nm}, NamesOf l b → b = a := fun hb => names_one hb ha fun _ => Iff.rfl
  have hal := names_len ha
  have htl : (tally l a).length = a.length := by unfold tally; rw [List.length_map]
  refine wc9 hv (by omega) ha hf (by omega) fun A1 t1 F1 h1 hF1 g1 => ?_
  have n1 := g1.next
  have v1 := hv.keeps g1.keeps (by simp)
  refine wc10 v1 hl ht g1.fine (by omega) fun A2 t2 a2 F2 ha2 h2 hF2 g2 => ?_
  obtain rfl := same ha2
  have n2 := g2.next
  have v2 := v1.keeps g2.keeps (by simp)
  refine wc8 ((h1.keeps g2.keeps (by simp)).rd etS.len) (h2.rd etS.len) (by omega) ?_
  rw [eqLS_true rfl]
  refine forkW_bool.2 ⟨fun _ => ?_, fun h => by cases h⟩
  refine wc12 v2 (by omega) ha g2.fine (by omega) fun A3 t3 F3 h3 hF3 g3 => ?_
  have n3 := g3.next
  have v3 := v2.keeps g3.keeps (by simp)
  refine wc13 false v3 hl ht g3.fine (by omega) fun A4 t4 a4 F4 ha4 h4 hF4 g4 => ?_
  obtain rfl := same ha4
  have n4 := g4.next
  have v4 := v3.keeps g4.keeps (by simp)
  have b4 := both_len l a4 false
  refine wc11 ((h3.keeps g4.keeps (by simp)).rd etN.len) (h4.rd etN.len) (by omega) ?_
  rw [eqL_true rfl]
  refine forkW_bool.2 ⟨fun _ => ?_, fun h => by cases h⟩
  refine wc14 v4 (by omega) ha g4.fine (by omega) fun A5 t5 F5 h5 hF5 g5 => ?_
  have n5 := g5.next
  have v5 := v4.keeps g5.keeps (by simp)
  refine wc13 true v5 hl ht g5.fine (by omega) fun A6 t6 a6 F6 ha6 h6 hF6 g6 => ?_
  obtain rfl := same ha6
  have b6 := both_len l a6 true
  refine wc11 ((h5.keeps g6.keeps (by simp)).rd etN.len) (h6.rd etN.len) (by omega) ?_
  rw [eqL_true rfl]
  exact forkW_bool.2 ⟨fun _ => head_kn hhd _ rfl, fun h => by cases h⟩
end
end Go.Proofs.YtdpdajpiadohjaaGreatDoor


namespace Go.Proofs.YtdpdajpiadohjaaGreatDoor
open Go.Abs
theorem txt_app {a b : List Dd} (h1 : Txt a) (h2 : Txt b) : Txt (a ++ b) := fun d hd => by
  rcases List.mem_append.1 hd with h | h
  · exact h1 d h
  · exact h2 d h
noncomputable def memN' (l : List Nm) (p : Nm) : Bool := @decide (p ∈ l) (Classical.propDecidable _)
theorem memN'_true {l : List Nm} {p : Nm} (h : p ∈ l) : memN' l p = true := by unfold memN'; exact @decide_eq_true _ (Classical.propDecidable _) h
theorem memN'_false {l : List Nm} {p : Nm} (h : ¬ p ∈ l) : memN' l p = false := by unfold memN'; exact @decide_eq_false _ (Classical.propDecidable _) h
/-- the score t covers s -/
def Cov (s t : Sc) : Prop := t.x = s.x ∧ s.c1 ≤ t.c1 ∧ s.c2 ≤ t.c2
section
variable {W0 : World} {m0 : Inj Tryz.prog}
theorem wc18 {v : Value} {l : List Nm} {F : List Nat} {p : Nm} {A : AW} {K : Value → AW → Prop} (h : RdE 2 Nm.cells A v l F) (hl : l.length < 1000000) (hf : Fine A) (hA : A.next + 10 < maxId) (hk : ∀ A', Grow A A' 1 → K (.bool (memN' l p)) A') : Wc Tryz.prog theX W0 m0 18 [v, .agg ⟨p.cells⟩] A K := by
  let I : Nat → Nat → List Value → AW → Prop := fun g id vals A' => id = 0 ∧ Grow A A' 1 ∧ ∃ i : Nat, vals = [v, .pointer (some ⟨A.next, 0, none⟩), .int .i64 (i : Int)] ∧ Go.Abs.Row1 A' A.next p.cells 46 ∧ RdE 2 Nm.cells A' v l F ∧ i ≤ l.length ∧ (∀ j, j < i → l[j]? ≠ some p) ∧ g = l.length - i
  refine w18 _ _ _ (c18 (I := I) ?_) ?_
  · rintro g id vals A' d ⟨rfl, gr, i, rfl, hr, rd, hi, hno, rfl⟩ hd
    rw [l18_0]
    simp only [L18, List.map_cons, List.map_nil, List.cons.injEq, and_true] at hd
    obtain ⟨d0, d3, d5⟩ := hd
    simp only [d0, d3, d5, rd.len etN, bin_lss, pureW_some, forkW_dec]
    refine ⟨fun hlt => ?_, fun hge => ?_⟩
    · have hlt : i < l.length := by omega
      have hp := List.getElem?_eq_getElem hlt
      generalize hpp : l[i] = y at hp
      obtain ⟨r, o, a1, _, a2⟩ := rd.at etN hp
      simp only [a1, a2, load46 hr, pureW_some, eqN, bin_add]
      rw [wrap_i64 (by omega) (by omega)]
      refine forkW_bool.2 ⟨fun he => ?_, fun he => ?_⟩
      · have := keqN_iff.1 he
        subst this
        have := hk A' gr
        rw [memN'_true (List.mem_of_getElem? hp)] at this
        exact this
      · refine cutW_self.2 ⟨l.length - (i + 1), by omega, rfl, gr, i + 1, rfl, hr, rd, by omega, fun j hj => ?_, rfl⟩
        by_cases hji : j = i
        · subst hji; rw [hp]; exact fun e => keqN_not.1 he (Option.some.inj e)
        · exact hno j (by omega)
    · have := hk A' gr
      rw [memN'_false fun hm => by
        obtain ⟨j, hj⟩ := List.getElem?_of_mem hm
        by_cases hji : j < i
        · exact hno j hji hj
        · rw [List.getElem?_eq_none (by omega)] at hj; cases hj] at this
      exact this
  · rw [e18]
    refine newP_made (cs := p.cells) hf (by omega) rfl fun A1 m1 => ?_
    exact cutW_self.2 ⟨l.length, rfl, .made m1 hf, 0, rfl, m1.row1, h.keeps (m1.keeps hf) (by simp), by omega, fun j hj => by omega, by simp⟩
set_option maxHeartbeats 2000000 in
theorem wc5 {v1 v2 : Value} {la lb : List Dd} {Fa Fb : List Nat} {A : AW} (hhd : KC.Holds Tryz.prog W0 m0 ⟨7, [], [.bool true]⟩) (h1 : RdE 4 Dd.cells A v1 la Fa) (h2 : RdE 4 Dd.cells A v2 lb Fb) (hm1 : la.length < 1000000000000000) (hm2 : lb.length < 1000000000000000) (hf : Fine A) (hA : A.next + 1000000 < maxId) : Wc Tryz.prog theX W0 m0 5 [v1, v2] A fun r _ => r = .bool true := by
  obtain ⟨na, hna⟩ := names_all la
  obtain ⟨n, hn⟩ := names_all (la ++ lb)
  have hnal := names_len hna
  have hnl := names_len hn
  rw [List.length_append] at hnl
  have htl : (tally la na).length = na.length := by unfold tally; rw [List.length_map]
  have htn : (tally (la ++ lb) n).length = n.length := by unfold tally; rw [List.length_map]
  let I : Nat → Nat → List Value → AW → Prop := fun g id vals A' => la.length + lb.length ≤ 60 ∧
    ((id = 0 ∧ ∃ (i : Nat) (sl ws nw : Value) (F1 F2 F3 : List Nat), vals = [v1, sl, ws, nw, .int .i64 (i : Int)] ∧ i ≤ na.length ∧ RdE 4 Dd.cells A' v1 la Fa ∧ OwnE 56 4 Dd.cells A' sl (la ++ lb) F1 ∧ OwnE 48 7 Sc.cells A' ws (tally la na) F2 ∧ OwnE 48 7 Sc.cells A' nw (tally (la ++ lb) n) F3 ∧ Fine A' ∧ A'.next ≤ A.next + 60000 ∧ g = 1000 + (na.length - i) * 100) ∨
     (id = 2 ∧ ∃ (i k : Nat) (fd : Bool) (s : Sc) (sl ws nw : Value) (F1 F2 F3 : List Nat), vals = [v1, sl, ws, nw, .int .i64 (i : Int), .bool fd, .int .i64 (k : Int)] ∧ (tally la na)[i]? = some s ∧ i < na.length ∧ k ≤ n.length ∧ (fd = true ∨ ∀ (j : Nat) t, j < k → (tally (la ++ lb) n)[j]? = some t → ¬ Cov s t) ∧
        RdE 4 Dd.cells A' v1 la Fa ∧ OwnE 56 4 Dd.cells A' sl (la ++ lb) F1 ∧ OwnE 48 7 Sc.cells A' ws (tally la na) F2 ∧ OwnE 48 7 Sc.cells A' nw (tally (la ++ lb) n) F3 ∧ Fine A' ∧ A'.next ≤ A.next + 60000 ∧ g = 1000 + (na.length - i) * 100 - 99 + (n.length - k)) ∨
     (id = 4 ∧ ∃ (i : Nat) (sl tn : Value) (F1 F2 : List Nat), vals = [sl, tn, .int .i64 (i : Int)] ∧ i ≤ (bothN la na false).length ∧ OwnE 56 4 Dd.cells A' sl (la ++ lb) F1 ∧ OwnE 46 2 Nm.cells A' tn (bothN la na false) F2 ∧ Fine A' ∧ A'.next ≤ A.next + 70000 + 6000 * i ∧ g = (bothN la na false).length - i))
  have hbt := both_len la na false
  refine w5 _ _ _ (c5 (I := I) ?_) ?_
  · rintro g id vals A' d ⟨h60, ⟨rfl, i, sl, ws, nw, F1, F2, F3, rfl, hi, r1, ol, ow, on, f, nx, rfl⟩ | ⟨rfl, i, k, fd, s, sl, ws, nw, F1, F2, F3, rfl, hs, hi, hkn, hfd, r1, ol, ow, on, f, nx, rfl⟩ | ⟨rfl, i, sl, tn, F1, F2, rfl, hi, ol, ot, f, nx, rfl⟩⟩ hd
    · rw [l5_0]
      simp only [L5, List.map_cons, List.map_nil, List.cons.injEq, and_true] at hd
      obtain ⟨d0, d5, d7, d8, d9⟩ := hd
      have hlw := (ow.rd etS.len).len (B := A') etS
      rw [htl] at hlw
      simp only [d0, d5, d7, d8, d9, hlw, bin_lss, pureW_some, forkW_dec]
      refine ⟨fun hlt => ?_, fun hge => ?_⟩
      · have hlt : i < na.length := by omega
        have hp := List.getElem?_eq_getElem (show i < (tally la na).length by omega)
        exact cutW_self.2 ⟨1000 + (na.length - i) * 100 - 99 + n.length, by omega, h60, .inr (.inl ⟨rfl, i, 0, false, _, sl, ws, nw, F1, F2, F3, rfl, hp, hlt, by omega, .inr fun j t hj => by omega, r1, ol, ow, on, f, nx, rfl⟩)⟩
      · refine wc12 r1 (by omega) hna f (by omega) fun A2 tn F2' ot hF2 g2 => ?_
        have n2 := g2.next
        exact cutW_self.2 ⟨(bothN la na false).length, by omega, h60, .inr (.inr ⟨rfl, 0, sl, tn, F1, F2', rfl, by omega, ol.keeps g2.keeps (by simp), ot, g2.fine, by omega, rfl⟩)⟩
    · rw [l5_2]
      simp only [L5, List.map_cons, List.map_nil, List.cons.injEq, and_true] at hd
      obtain ⟨d0, d5, d7, d8, d9, d10, d11⟩ := hd
      have hln := (on.rd etS.len).len (B := A') etS
      rw [htn] at hln
      simp only [d0, d5, d7, d8, d9, d10, d11, hln, bin_lss, pureW_some, forkW_dec]
      refine ⟨fun hlt => ?_, fun hge => ?_⟩
      · have hlt : k < n.length := by omega
        have hp := List.getElem?_eq_getElem (show k < (tally (la ++ lb) n).length by omega)
        generalize hpp : (tally (la ++ lb) n)[k]'(show k < (tally (la ++ lb) n).length by omega) = t at hp
        have go : ∀ b : Bool, (b = true ∨ (fd = false ∧ ¬ Cov s t)) → cutW (T5 2) (T5 2) (∃ g', g' < 1000 + (na.length - i) * 100 - 99 + (n.length - k) ∧ I g' 2 [v1, sl, ws, nw, .int .i64 (i : Int), .bool b, .int .i64 ((k : Int) + 1)] A') := fun b hb => by
          refine cutW_self.2 ⟨1000 + (na.length - i) * 100 - 99 + (n.length - (k + 1)), by omega, h60, .inr (.inl ⟨rfl, i, k + 1, b, s, sl, ws, nw, F1, F2, F3, rfl, hs, hi, by omega, ?_, r1, ol, ow, on, f, nx, rfl⟩)⟩
          rcases hb with hb | ⟨hb, hc⟩
          · exact .inl hb
          · refine .inr fun j u hj hu => ?_
            by_cases hjk : j = k
            · subst hjk
              rw [hp, Option.some.injEq] at hu
              rw [← hu]; exact hc
            · rcases hfd with h | h
              · rw [hb] at h; cases h
              · exact h j u (by omega) hu
        obtain ⟨r, o, a1, a2, _⟩ := (on.rd etS.len).at etS hp
        obtain ⟨r', o', b1, b2, _⟩ := (ow.rd etS.len).at etS hs
        have x1 : loadP Tryz.prog A' 46 (.pointer (some ⟨r, o, none⟩)) = some (.agg ⟨t.x.cells⟩) := load_part (pre := []) (post := [.int .i64 (t.c1 : Int), .int .i64 (t.c2 : Int), .int .i64 (t.c3 : Int), .int .i64 (t.c4 : Int), .int .i64 (t.c5 : Int)]) a2
        have x2 : loadP Tryz.prog A' 46 (.pointer (some ⟨r', o', none⟩)) = some (.agg ⟨s.x.cells⟩) := load_part (pre := []) (post := [.int .i64 (s.c1 : Int), .int .i64 (s.c2 : Int), .int .i64 (s.c3 : Int), .int .i64 (s.c4 : Int), .int .i64 (s.c5 : Int)]) b2
        have p1 : A'.cell? ⟨r, o + 3, none⟩ = some (.int .i64 (t.c1 : Int)) := cell_of a2 (k := 3) rfl
        have p2 : A'.cell? ⟨r, o + 4, none⟩ = some (.int .i64 (t.c2 : Int)) := cell_of a2 (k := 4) rfl
        have q1 : A'.cell? ⟨r', o' + 3, none⟩ = some (.int .i64 (s.c1 : Int)) := cell_of b2 (k := 3) rfl
        have q2 : A'.cell? ⟨r', o' + 4, none⟩ = some (.int .i64 (s.c2 : Int)) := cell_of b2 (k := 4) rfl
        simp only [a1, b1, fa_48_0, fa_48_1, fa_48_2, ld_3, x1, x2, p1, p2, q1, q2, eqN, pureW_some, bin_add, bin_geq, forkW_dec]
        rw [wrap_i64 (by omega) (by omega)]
        refine forkW_bool.2 ⟨fun hb => ?_, fun hb => ?_⟩
        · exact go true (.inl rfl)
        · refine forkW_bool.2 ⟨fun he => ?_, fun he => ?_⟩
          · refine ⟨fun c1 => ?_, fun c1 => go false (.inr ⟨hb, fun hc => by have := hc.2.1; omega⟩)⟩
            refine go _ ?_
            by_cases c2 : (s.c2 : Int) ≤ (t.c2 : Int)
            · exact .inl (decide_eq_true c2)
            · exact .inr ⟨hb, fun hc => by have := hc.2.2; omega⟩
          · exact go false (.inr ⟨hb, fun hc => keqN_not.1 he hc.1⟩)
      · have hkl : k = n.length := by omega
        have hft : fd = true := by
          rcases hfd with h | h
          · exact h
          · obtain ⟨t, ht, hc⟩ := tally_more hna hn (List.mem_of_getElem? hs)
            obtain ⟨j, hj⟩ := List.getElem?_of_mem ht
            have hjl : j < k := by
              rcases Nat.lt_or_ge j k with h | h
              · exact h
              · rw [List.getElem?_eq_none (by omega)] at hj; cases hj
            exact absurd hc (h j t hjl hj)
        subst hft
        simp only [un_not, pureW_some, bin_add]
        rw [wrap_i64 (by omega) (by omega)]
        refine forkW_bool.2 ⟨fun h => (by cases h), fun _ => ?_⟩
        exact cutW_self.2 ⟨1000 + (na.length - (i + 1)) * 100, by omega, h60, .inl ⟨rfl, i + 1, sl, ws, nw, F1, F2, F3, rfl, by omega, r1, ol, ow, on, f, nx, rfl⟩⟩
    · rw [l5_4]
      simp only [L5, List.map_cons, List.map_nil, List.cons.injEq, and_true] at hd
      obtain ⟨d5, d12, d13⟩ := hd
      have hlo : (la ++ lb).length ≤ 60 := by rw [List.length_append]; omega
      simp only [d5, d12, d13, (ot.rd etN.len).len etN, bin_lss, pureW_some, forkW_dec]
      refine ⟨fun hlt => ?_, fun hge => head_kn hhd _ rfl⟩
      have hlt : i < (bothN la na false).length := by omega
      have hp := List.getElem?_eq_getElem hlt
      generalize hpp : (bothN la na false)[i] = p at hp
      have hpm := List.mem_of_getElem? hp
      obtain ⟨r, o, a1, _, a2⟩ := (ot.rd etN.len).at etN hp
      simp only [a1, a2, pureW_some]
      refine wc12 (ol.rd etD.len) (by omega) hn f (by omega) fun A2 t2 G2 o2 hG2 g2 => ?_
      have n2 := g2.next
      have ot2 := ot.keeps g2.keeps (by simp)
      obtain ⟨r2, o2', a3, _, a4⟩ := (ot2.rd etN.len).at etN hp
      have e2 := a3.symm.trans a1
      simp only [Option.some.injEq, Value.pointer.injEq, Addr.mk.injEq, and_true] at e2
      obtain ⟨rfl, rfl⟩ := e2
      simp only [a1, a4, pureW_some, eqW_self]
      have b2 := both_len (la ++ lb) n false
      refine wc18 (p := p) (o2.rd etN.len) (by omega) g2.fine (by omega) fun A3 g3 => ?_
      have n3 := g3.next
      have ot3 := ot2.keeps g3.keeps (by simp)
      have ol3 := (ol.keeps g2.keeps (by simp)).keeps g3.keeps (by simp)
      simp only [un_not, bin_add, pureW_some]
      rw [wrap_i64 (by omega) (by omega)]
      refine forkW_bool.2 ⟨fun h => ?_, fun h => ?_⟩
      · have hnot : ¬ p ∈ bothN (la ++ lb) n false := fun hm => by rw [memN'_true hm] at h; cases h
        have hin : p ∈ bothN (la ++ lb) n true := (torn_more hna hn hpm).resolve_left hnot
        obtain ⟨r4, o4, c1, _, c2⟩ := (ot3.rd etN.len).at etN hp
        have e3 := c1.symm.trans a1
        simp only [Option.some.injEq, Value.pointer.injEq, Addr.mk.injEq, and_true] at e3
        obtain ⟨rfl, rfl⟩ := e3
        simp only [c2, pureW_some]
        refine wc14 (ol3.rd etD.len) (by omega) hn g3.fine (by omega) fun A4 t4 G4 o4' hG4 g4 => ?_
        have n4 := g4.next
        have ot4 := ot3.keeps g4.keeps (by simp)
        obtain ⟨r5, o5, c3, _, c4⟩ := (ot4.rd etN.len).at etN hp
        have e4 := c3.symm.trans c1
        simp only [Option.some.injEq, Value.pointer.injEq, Addr.mk.injEq, and_true] at e4
        obtain ⟨rfl, rfl⟩ := e4
        simp only [c1, c4, pureW_some, eqW_self]
        have b4 := both_len (la ++ lb) n true
        refine wc18 (p := p) (o4'.rd etN.len) (by omega) g4.fine (by omega) fun A5 g5 => ?_
        have n5 := g5.next
        rw [memN'_true hin]
        simp only [un_not, pureW_some]
        refine forkW_bool.2 ⟨fun h => (by cases h), fun _ => ?_⟩
        exact cutW_self.2 ⟨(bothN la na false).length - (i + 1), by omega, h60, .inr (.inr ⟨rfl, i + 1, sl, tn, F1, F2, rfl, by omega, (ol3.keeps g4.keeps (by simp)).keeps g5.keeps (by simp), ot4.keeps g5.keeps (by simp), g5.fine, by omega, rfl⟩)⟩
      · exact cutW_self.2 ⟨(bothN la na false).length - (i + 1), by omega, h60, .inr (.inr ⟨rfl, i + 1, sl, tn, F1, F2, rfl, by omega, ol3, ot3, g3.fine, by omega, rfl⟩)⟩
  · rw [e5]
    simp only [h1.len etD, h2.len etD, bin_add, bin_gtr, pureW_some, forkW_dec]
    rw [wrap_i64 (by omega) (by omega)]
    refine ⟨fun _ => head_kn hhd _ rfl, fun hle => ?_⟩
    have h60 : la.length + lb.length ≤ 60 := by omega
    have o0 : OwnE 56 4 Dd.cells A (.slice none 0 0) [] [] := .nil A
    refine o0.appendL etD h1 hf (by omega) (by simp) (by omega) fun s1 A1 G1 o1 k1 hG1 n1 f1 => ?_
    have hG1 : ∀ x ∈ G1, A.next ≤ x := fun x hx => by
      rcases hG1 x hx with h | h
      · cases h
      · omega
    have l1 := k1.next
    rw [List.nil_append] at o1
    refine o1.appendL etD (h2.keeps k1 (by simp)) f1 (by omega) (by omega) (by omega) fun s2 A2 G2 o2 k2 hG2 n2 f2 => ?_
    have hG2 : ∀ x ∈ G2, A.next ≤ x := fun x hx => by
      rcases hG2 x hx with h | h
      · exact hG1 x h
      · omega
    have l2 := k2.next
    have K2 : Keeps A A2 [] := k1.trans k2 (fun x hx => .inr (hG1 x hx))
    have r2 := h2.keeps K2 (by simp)
    have r1 := h1.keeps K2 (by simp)
    have o3 : OwnE 56 4 Dd.cells A2 (.slice none 0 0) [] [] := .nil A2
    refine o3.appendL etD r2 f2 (by omega) (by simp) (by omega) fun s3 A3 G3 o3 k3 hG3 n3 f3 => ?_
    have hG3 : ∀ x ∈ G3, A2.next ≤ x := fun x hx => by
      rcases hG3 x hx with h | h
      · cases h
      · omega
    have l3 := k3.next
    rw [List.nil_append] at o3
    refine o3.appendL etD (r1.keeps k3 (by simp)) f3 (by omega) (by omega) (by omega) fun s4 A4 G4 o4 k4 hG4 n4 f4 => ?_
    have l4 := k4.next
    have K4 : Keeps A2 A4 [] := k3.trans k4 (fun x hx => .inr (hG3 x hx))
    have o2 := o2.keeps K4 (by simp)
    have r1 := r1.keeps K4 (by simp)
    have hlo : (la ++ lb).length ≤ 60 := by rw [List.length_append]; omega
    have hlo' : (lb ++ la).length ≤ 60 := by rw [List.length_append]; omega
    refine wc9 r1 (by omega) hna f4 (by omega) fun A5 w5 F5 o5 hF5 g5 => ?_
    have n5 := g5.next
    refine wc9 ((o2.keeps g5.keeps (by simp)).rd etD.len) (by omega) hn g5.fine (by omega) fun A6 w6 F6 o6 hF6 g6 => ?_
    have n6 := g6.next
    have G56 := g5.trans g6
    refine wc9 ((o4.keeps G56.keeps (by simp)).rd etD.len) (by omega) (names_comm hn) g6.fine (by omega) fun A7 w7 F7 o7 hF7 g7 => ?_
    have n7 := g7.next
    have G57 := G56.trans g7
    refine wc8 ((o6.keeps g7.keeps (by simp)).rd etS.len) (o7.rd etS.len) (by omega) ?_
    rw [eqLS_true (tally_comm la lb n)]
    simp only [un_not, pureW_some]
    refine forkW_bool.2 ⟨fun h => (by cases h), fun _ => ?_⟩
    refine wc12 ((o2.keeps G57.keeps (by simp)).rd etD.len) (by omega) hn g7.fine (by omega) fun A8 w8 F8 o8 hF8 g8 => ?_
    have n8 := g8.next
    have G58 := G57.trans g8
    refine wc12 ((o4.keeps G58.keeps (by simp)).rd etD.len) (by omega) (names_comm hn) g8.fine (by omega) fun A9 w9 F9 o9 hF9 g9 => ?_
    have n9 := g9.next
    have G59 := G58.trans g9
    have b9 := both_len (la ++ lb) n false
    refine wc11 ((o8.keeps g9.keeps (by simp)).rd etN.len) (o9.rd etN.len) (by omega) ?_
    rw [eqL_true (bothN_comm la lb n false)]
    simp only [un_not, pureW_some]
    refine forkW_bool.2 ⟨fun h => (by cases h), fun _ => ?_⟩
    have h7 := (o6.keeps g7.keeps (by simp)).keeps (g8.trans g9).keeps (by simp)
    exact cutW_self.2 ⟨1000 + na.length * 100, h60, .inl ⟨rfl, 0, s2, w5, w6, _, _, _, rfl, by omega, r1.keeps G59.keeps (by simp), o2.keeps G59.keeps (by simp), ((o5.keeps g6.keeps (by simp)).keeps g7.keeps (by simp)).keeps (g8.trans g9).keeps (by simp), h7, g9.fine, by omega, by simp⟩⟩
end
end Go.Proofs.YtdpdajpiadohjaaGreatDoor
