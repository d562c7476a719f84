/-
  LetterBack: the law answers true. Conditions: those of the theorem.
-/
import Derived.Test.YtjiglbmjhecobaaGreatDoorGetsB

namespace Go.Proofs.YtjiglbmjhecobaaGreatDoor
open Go.Abs Go.Crc
theorem bin_boolneq {xo yo : Operand} {a b : Bool} : binA Tryz.prog .neq 4 xo yo (.bool a) (.bool b) = some (.bool (a != b)) := by cases a <;> cases b <;> kernel_rfl
theorem bin_booleq {xo yo : Operand} {a b : Bool} : binA Tryz.prog .eql 4 xo yo (.bool a) (.bool b) = some (.bool (a == b)) := by cases a <;> cases b <;> kernel_rfl
theorem lput_len {kd xa no : Nat} {x : Nm} {l : List Nm} (h : Lok kd xa no (zi x) (xchk x.g x.b) (ni l) l.length) : (lput kd xa no x l).length ≤ 30000 := by
  obtain ⟨h200, hall⟩ := lok_bound h
  have hb := lbody_length hall
  rw [lput_ok h, seal_length]
  obtain ⟨_, _, h3, _⟩ := h
  have hm : (lmid kd x).length ≤ 134 := by
    unfold lmid
    split
    · simp
    · exact nb_length (h3 (by omega))
  have ht : (ltail kd l).length ≤ 26802 := by
    unfold ltail
    split
    · rw [List.length_append, be_length]; omega
    · simp
  unfold lbytes
  rw [List.length_append, List.length_append, lhead_length]
  omega
section
variable {W0 : World} {m0 : Inj Tryz.prog}
noncomputable def bk1 (W0 : World) (m0 : Inj Tryz.prog) (Q : Value → AW → Prop) (a2 : Value) (At41 : AW) : Prop := Wc Tryz.prog theX W0 m0 11 [a2] At41 fun t43 At43 => pureW (extractP t43 0) fun t44 => pureW (extractP t43 1) fun t45 => bothW (allocP Tryz.prog At43 29) fun t46 At46 => effW (storeP Tryz.prog At46 29 t46 t44) fun At47 => pureW (binA Tryz.prog .neq 31 (.tmp 69) (.const (.int .i64 0)) t45 (.int .i64 0)) fun t48 => forkW t48 (pureW (binA Tryz.prog .eql 31 (.tmp 71) (.const (.int .i64 250)) t45 (.int .i64 250)) fun t49 => forkW t49 (pureW (loadP Tryz.prog At47 29 t46) fun t50 => pureW (buildA Tryz.prog 29 []) fun t51 => Wc Tryz.prog theX W0 m0 14 [t50, t51] At47 fun t52 At52 => forkW t52 (knW Tryz.prog W0 m0 7 [] At52 fun t53 At53 => Q t53 At53) (Q (.bool false) At52)) (Q (.bool false) At47)) (pureW (loadP Tryz.prog At47 29 t46) fun t54 => Wc Tryz.prog theX W0 m0 8 [t54] At47 fun t55 At55 => pureW (extractP t55 0) fun t56 => pureW (extractP t55 1) fun t57 => pureW (binA Tryz.prog .eql 31 (.tmp 86) (.const (.int .i64 0)) t57 (.int .i64 0)) fun t58 => forkW t58 (pureW (binA Tryz.prog .eql 9 (.tmp 89) (.tmp 90) t56 a2) fun t59 => forkW t59 (knW Tryz.prog W0 m0 7 [] At55 fun t60 At60 => Q t60 At60) (Q (.bool false) At55)) (Q (.bool false) At55))
theorem bk1_ok {s : ByteArray} {A : AW} {Q : Value → AW → Prop} (hhd : KC.Holds Tryz.prog W0 m0 ⟨7, [], [.bool true]⟩) (hf : Fine A) (hg0 : Glb A) (hA : A.next + 150000 < maxId) (hs : s.data.toList.length < 700000) (hQ : ∀ A', Q (.bool true) A') : bk1 W0 m0 Q (.string s) A := by
  unfold bk1
  refine wc11 hf hg0 (by omega) hs (fun A3 sv F hG g3 l3 hF3 => ?_) fun A3 hG g3 => ?_
  · have n3 := g3.next
    have h200 := dL_len hG
    simp only [ex_0, ex_1, pureW_some]
    refine allocP_made zero29 g3.fine (by omega) rfl fun A4 m4 => ?_
    have n4 := m4.next
    have k4 := m4.keeps g3.fine
    refine store29 m4.row1 rfl l3.one.1 m4.fine (by omega) fun A5 r5 k5 n5 f5 => ?_
    have K5 : Keeps A3 A5 [] := k4.trans k5 (by simp)
    have l5 := l3.keeps K5 (by simp)
    simp only [bin_neq, pureW_some, forkW_bne]
    refine ⟨fun h => absurd rfl h, fun _ => ?_⟩
    rw [letW_load r5 l3.one.2]
    simp only [pureW_some]
    refine wc8 (dkd_lt _) (dxa_lt _) (dno_lt _) (dX_f _) (dL_f _) f5 ((hg0.keeps g3.keeps (by simp)).keeps K5 (by simp)) (by omega) l5 fun A6 g6 => ?_
    obtain ⟨_, _, e1, e2⟩ := hG
    rw [e1, e2]
    simp only [ex_0, ex_1, pureW_some, bin_eql, forkW_beq, bin_streq]
    exact ⟨fun _ => forkW_bool.2 ⟨fun _ => head_kn hhd _ (hQ _), fun h => by simp at h⟩, fun h => absurd rfl h⟩
  · have n3 := g3.next
    simp only [ex_0, ex_1, pureW_some]
    refine allocP_made zero29 g3.fine (by omega) rfl fun A4 m4 => ?_
    have n4 := m4.next
    refine store29 (kd := 0) (xa := 0) (no := 0) (x := x0) (sv := .slice none 0 0) m4.row1 rfl rfl m4.fine (by omega) fun A5 r5 k5 n5 f5 => ?_
    simp only [bin_neq, bin_eql, pureW_some, forkW_bne, forkW_beq]
    refine ⟨fun _ => ⟨fun _ => ?_, fun h => absurd rfl h⟩, fun h => by omega⟩
    rw [letW_load r5 rfl, ba29']
    simp only [pureW_some]
    refine wc14 (l := []) (l' := []) f5 (by omega) (.nil _ _ _) (.nil _ _ _) (by simp) fun A6 g6 => ?_
    rw [sameL_true ⟨rfl, rfl, rfl, rfl, rfl⟩]
    exact forkW_bool.2 ⟨fun _ => head_kn hhd _ (hQ _), fun h => by cases h⟩

set_option maxRecDepth 100000 in
set_option maxHeartbeats 4000000 in
theorem wc6 {kd xa no kd' xa' no' : Nat} {x x' : Nm} {sv sv' : Value} {l l' : List Nm} {F F' : List Nat} {s : ByteArray} {A : AW} (hhd : KC.Holds Tryz.prog W0 m0 ⟨7, [], [.bool true]⟩) (hkd : kd < 256) (hxa : xa < 256) (hn0 : no < 65536) (hxf : x.f < 4294967296) (hlf : ∀ p ∈ l, p.f < 4294967296)
    (hf : Fine A) (hg0 : Glb A) (hA : A.next + 400000 < maxId) (h1 : RdN A sv l F) (h2 : RdN A sv' l' F') : Wc Tryz.prog theX W0 m0 6 [letV kd xa no x sv, letV kd' xa' no' x' sv', .string s] A fun v _ => v = .bool true := by
  refine w6 _ _ _ _ (cuts_none (S := fun _ _ _ => False) fun _ _ _ h => h) ?_
  rw [e6]; unfold qe6_0
  refine newP_made (cs := (Value.cells (letV kd xa no x sv)).toList) hf (by omega) (by simp [letV, letC, Value.cells, one_int, one_string, h1.one.1]) fun A1 m1 => ?_
  have n1 := m1.next
  have k1 := m1.keeps hf
  refine newP_made (cs := (Value.cells (letV kd' xa' no' x' sv')).toList) m1.fine (by omega) (by simp [letV, letC, Value.cells, one_int, one_string, h2.one.1]) fun A2 m2 => ?_
  have n2 := m2.next
  have k2 := m2.keeps m1.fine
  have g2 : Grow A A2 2 := (Grow.made m1 hf).trans (.made m2 m1.fine)
  have r1 : Go.Abs.Row1 A2 A.next (letC kd xa no x sv) 29 := m1.row1.keeps k2 (by simp)
  have r2 : Go.Abs.Row1 A2 A1.next (letC kd' xa' no' x' sv') 29 := m2.row1
  have one1 := h1.one
  have one2 := h2.one
  have s1 := (h1.keeps k1 (by simp)).keeps k2 (by simp)
  have s2 := (h2.keeps k1 (by simp)).keeps k2 (by simp)
  have p1 := letW_load r1 one1.2
  have p2 := letW_load r2 one2.2
  simp only [fa_29_4, ld_27, Nat.zero_add, cell_row r1.row, cell_row r2.row, letC, cellOf, isT_int, isT_string, one1.2, one2.2, cond_false, s1.len, s2.len, ln_9, bin_gtr, pureW_some, forkW_dec]
  refine ⟨fun _ => head_kn hhd _ rfl, fun hl1 => ⟨fun _ => head_kn hhd _ rfl, fun hl2 => ⟨fun _ => head_kn hhd _ rfl, fun hls => ?_⟩⟩⟩
  have hs : s.data.toList.length < 700000 := by omega
  rw [p1, p2]
  simp only [pureW_some]
  refine wc14 g2.fine (by omega) s1 s2 (by omega) fun A3 g3 => ?_
  have n3 := g3.next
  rw [letW_load (r1.keeps g3.keeps (by simp)) one1.2, letW_load (r2.keeps g3.keeps (by simp)) one2.2]
  simp only [pureW_some, eqW_self]
  refine wc13 g3.fine (by omega) (s1.keeps g3.keeps (by simp)) (s2.keeps g3.keeps (by simp)) (by omega) fun A4 g4 => ?_
  have n4 := g4.next
  have g04 := (g2.trans g3).trans g4
  have r4 := (r1.keeps g3.keeps (by simp)).keeps g4.keeps (by simp)
  have s4 := (s1.keeps g3.keeps (by simp)).keeps g4.keeps (by simp)
  simp only [bin_boolneq, pureW_some]
  refine forkW_bool.2 ⟨fun h => by simp at h, fun _ => ?_⟩
  rw [letW_load r4 one1.2]
  simp only [pureW_some]
  refine wc14 g4.fine (by omega) s4 s4 (by omega) fun A5 g5 => ?_
  have n5 := g5.next
  rw [sameL_true ⟨rfl, rfl, rfl, rfl, rfl⟩]
  simp only [un_not, pureW_some]
  refine forkW_bool.2 ⟨fun h => by simp at h, fun _ => ?_⟩
  have g05 := g04.trans g5
  have r5 := r4.keeps g5.keeps (by simp)
  have s5 := s4.keeps g5.keeps (by simp)
  rw [letW_load r5 one1.2]
  simp only [pureW_some]
  refine wc8 hkd hxa hn0 hxf hlf g5.fine (hg0.keeps g05.keeps (by simp)) (by omega) s5 fun A6 g6 => ?_
  have n6 := g6.next
  have g06 := g05.trans g6
  have r6 := r5.keeps g6.keeps (by simp)
  have s6 := s5.keeps g6.keeps (by simp)
  have G6 := hg0.keeps g06.keeps (by simp)
  simp only [ex_0, ex_1, pureW_some, bin_eql, forkW_beq]
  refine ⟨fun he => ?_, fun _ => bk1_ok hhd g6.fine G6 (by omega) hs fun _ => rfl⟩
  have hL := lchk_zero he
  have hlen := lput_len hL
  refine wc11 (s := ⟨⟨lput kd xa no x l⟩⟩) g6.fine G6 (by omega) (by show (lput kd xa no x l).length < _; omega) (fun A7 sv7 F7 hG g7 l7 hF7 => ?_) fun A7 hG g7 => absurd (good_P hL hxf hlf) hG
  have n7 := g7.next
  have hB : dB (lput kd xa no x l) = lbytes kd xa no x l := by rw [lput_ok hL, dB_seal]
  obtain ⟨_, b1, b2, b3, b4, b5⟩ := back_P hL hxf hlf
  have l7 : RdN A7 sv7 l F7 := by
    have : RdN A7 sv7 (dL (dB (lput kd xa no x l))) F7 := l7
    rw [hB, b5] at this
    exact this
  have eV : letV (dkd (dB (lput kd xa no x l))) (dxa (dB (lput kd xa no x l))) (dno (dB (lput kd xa no x l))) (dX (dB (lput kd xa no x l))) sv7 = letV kd xa no x sv7 := by rw [hB, b1, b2, b3, b4]
  have r7 := r6.keeps g7.keeps (by simp)
  have s7 := s6.keeps g7.keeps (by simp)
  have G7 := G6.keeps g7.keeps (by simp)
  simp only [ex_0, ex_1, pureW_some, eV]
  refine allocP_made zero29 g7.fine (by omega) rfl fun A8 m8 => ?_
  have n8 := m8.next
  refine store29 m8.row1 rfl l7.one.1 m8.fine (by omega) fun A9 r9 k9 n9 f9 => ?_
  have K9 : Keeps A7 A9 [] := (m8.keeps g7.fine).trans k9 (by simp)
  simp only [bin_neq, pureW_some, forkW_bne]
  refine ⟨fun h => absurd rfl h, fun _ => ?_⟩
  rw [letW_load r9 l7.one.2, letW_load (r7.keeps K9 (by simp)) one1.2]
  simp only [pureW_some]
  refine wc14 f9 (by omega) (l7.keeps K9 (by simp)) (s7.keeps K9 (by simp)) (by omega) fun A10 g10 => ?_
  have n10 := g10.next
  rw [sameL_true ⟨rfl, rfl, rfl, rfl, rfl⟩]
  simp only [un_not, pureW_some]
  refine forkW_bool.2 ⟨fun h => by simp at h, fun _ => ?_⟩
  exact bk1_ok hhd g10.fine ((G7.keeps K9 (by simp)).keeps g10.keeps (by simp)) (by omega) hs fun _ => rfl
end
end Go.Proofs.YtjiglbmjhecobaaGreatDoor
