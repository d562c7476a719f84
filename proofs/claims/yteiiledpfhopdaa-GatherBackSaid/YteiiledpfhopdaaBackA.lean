/-
  GatherBack: the law answers true, in the abstract machine. Conditions: those of each theorem.
-/
import Derived.Test.YteiiledpfhopdaaMayA

namespace Go.Proofs.Yteiiledpfhopdaa
open Go Go.Abs

theorem rises_le {l : List Seg} {i : Nat} (h : Rises l i) (hi : i ≤ l.length) (ht : ∀ s ∈ l, 0 ≤ s.ty) : i ≤ 4 := by
  have key : ∀ j s, j < i → l[j]? = some s → (j : Int) ≤ s.ty := by
    intro j
    induction j with
    | zero => intro s _ hs; exact ht s (List.mem_of_getElem? hs)
    | succ j ih =>
      intro s hj hs
      obtain ⟨p, hp⟩ : ∃ p, l[j]? = some p := ⟨l[j], List.getElem?_eq_getElem (by omega)⟩
      have h1 := ih p (by omega) hp
      have h2 := (h (j + 1) s hj hs).2 p (by omega) (by simpa using hp)
      omega
  rcases Nat.eq_zero_or_pos i with h0 | h0
  · omega
  · obtain ⟨p, hp⟩ : ∃ p, l[i - 1]? = some p := ⟨l[i - 1], List.getElem?_eq_getElem (by omega)⟩
    have h1 := key (i - 1) p (by omega) hp
    have h2 := (h (i - 1) p (by omega) hp).1
    omega
section
variable {W0 : World} {m0 : Inj Try.prog}
/-- Check, of a row of any length -/
theorem wc12t {ch tr : Int} {sv : Value} {l : List Seg} {A : AW} {K : Value → AW → Prop} (hf : Fine A) (hA : A.next + 10 ≤ maxId) (hl : IsSegs A sv l) (hty : ∀ s ∈ l, 0 ≤ s.ty) (htr : 0 ≤ tr)
    (hk : ∀ A', Ext A A' → Fine A' → A'.next ≤ A.next + 6 → K (.int .i64 (chk tr l)) A') : Wc Try.prog theX W0 m0 12 [asmVal ch tr sv] A K := by
  have hmax : maxId = 4194304 := rfl
  let I : Nat → Nat → List Value → AW → Prop := fun g id vals A' => id = 0 ∧ ∃ i n : Nat, vals = [.pointer (some ⟨A.next, 0, none⟩), .int .i64 n, sv, .int .i64 l.length, .int .i64 i] ∧ i ≤ l.length ∧ n = total (l.take i) ∧ n ≤ 16384 ∧ Rises l i ∧ Ext A A' ∧ Fine A' ∧ A'.next ≤ A.next + 1 + i ∧ A.next < A'.next ∧ A'.get A.next = some (.row (asmCells ch tr sv) 25 A.next 0 false) ∧ g = l.length - i
  refine w12 _ _ (c12 (I := I) ?_) ?_
  · rintro g id vals A' d ⟨rfl, i, n, rfl, hi, rfl, hn, hri, hx, hf', hnx, hlt0, hg, rfl⟩ hd
    rw [l12_0]
    have h1 : d 1 = .pointer (some ⟨A.next, 0, none⟩) := by simp [L12] at hd; exact hd.1
    have h3 : d 3 = .int .i64 (total (l.take i) : Nat) := by simp [L12] at hd; exact hd.2.1
    have h7 : d 7 = sv := by simp [L12] at hd; exact hd.2.2.1
    have h8 : d 8 = .int .i64 (l.length : Nat) := by simp [L12] at hd; exact hd.2.2.2.1
    have h9 : d 9 = .int .i64 (i : Nat) := by simp [L12] at hd; exact hd.2.2.2.2
    have hl' := hl.ext hx
    have hi4 : i ≤ 4 := rises_le hri hi hty
    simp only [h1, h3, h7, h8, h9, fa_25_2, fa_25_1, ld_23, ld_5, cell_row hg, asmCells, cellOf, hl.one.2, isT_int, cond_false, pureW_some, hl'.len, bin_lss, bin_eql, bin_gtr, forkW_dec, forkW_beq, Nat.zero_add]
    refine ⟨fun hlt => ?_, fun hge => ?_⟩
    · have hlt : i < l.length := by omega
      obtain ⟨s, hs⟩ : ∃ s, l[i]? = some s := ⟨l[i], List.getElem?_eq_getElem hlt⟩
      obtain ⟨r, o, g1, g2, g3, g4, g5⟩ := hl'.at hs
      have ht : total (l.take (i + 1)) = total (l.take i) + slen s.pay := by
        rw [List.take_add_one, hs]; simp [total]
      have hm : total (l.take (i + 1)) ≤ total l := by
        have : total l = total (l.take (i + 1)) + total (l.drop (i + 1)) := by
          conv => lhs; rw [← List.take_append_drop (i + 1) l]
          exact total_append _ _
        omega
      simp only [g1, pureW_some, ld_28, g4]
      refine allocP_made zero28 hf' (by omega) rfl fun A2 m2 => ?_
      refine effW_store (st_28 _ _ _) rfl m2.row m2.mem (by decide) rfl (by omega) fun A3 m3 => ?_
      have hx3 : Ext A A3 := m3.ext (hx.trans m2.ext) (by omega)
      have hf3 : Fine A3 := m3.fine m2.fine m2.row
      have hn3 : A3.next = A'.next + 1 := by rw [m3.next, m2.next]
      have hr3 : A3.get A'.next = some (.row [.int .u8 s.ty, .string s.pay] 28 A'.next 0 false) := m3.row
      have hg3 : A3.get A.next = some (.row (asmCells ch tr sv) 25 A.next 0 false) := by rw [m3.get _ (by omega), m2.ext.get _ hlt0]; exact hg
      have hl3 := hl.ext hx3
      have hr := hk A3 hx3 hf3 (by omega)
      simp only [fa_28_0, fa_28_1, ld_5, ld_9, ln_9, cell_row hr3, cell_row hg3, asmCells, cellOf, hl.one.2, isT_int, isT_string, cond_false, pureW_some, bin_gtr, bin_sub, bin_add, forkW_dec]
      have bad : ¬ Rises l (i + 1) → K (.int .i64 70) A3 := by
        intro hb
        have : chk tr l = 70 := by
          unfold chk; rw [if_neg]; rintro ⟨_, h⟩; exact hb (shape_rises h _)
        rw [this] at hr; exact hr
      refine ⟨fun h => bad fun hb => ?_, fun h3' => ⟨fun hpos => ?_, fun hz => ?_⟩⟩
      · have := (hb i s (by omega) hs).1; omega
      · have hpos : 0 < i := by omega
        obtain ⟨p, hp⟩ : ∃ p, l[i - 1]? = some p := ⟨l[i - 1], List.getElem?_eq_getElem (by omega)⟩
        obtain ⟨r', o', k1, k2, _, _, _⟩ := hl3.at hp
        have e1 : IntKind.i64.wrap ((i : Int) - 1) = ((i - 1 : Nat) : Int) := by rw [wrap_i64 (by omega) (by omega)]; omega
        simp only [e1, k1, k2, fa_28_0, ld_5, pureW_some, bin_geq, forkW_dec]
        refine ⟨fun h => bad fun hb => ?_, fun hlt' => ?_⟩
        · have := (hb i s (by omega) hs).2 p hpos hp; omega
        · have hri' : Rises l (i + 1) := by
            intro j s' hj hs'
            rcases Nat.lt_or_ge j i with hji | hji
            · exact hri j s' hji hs'
            · obtain rfl : j = i := by omega
              rw [hs] at hs'; cases hs'
              refine ⟨by omega, fun p' _ hp' => ?_⟩
              rw [hp] at hp'; cases hp'; omega
          rw [wrap_i64 (by omega) (by omega)]
          refine ⟨fun hgt => ?_, fun hle => ?_⟩
          · have : chk tr l = 70 := by
              unfold chk; rw [if_neg]; rintro ⟨h, _⟩; unfold slen at *; omega
            rw [this] at hr; exact hr
          · have hle : total (l.take i) + slen s.pay ≤ 16384 := by unfold slen at *; omega
            rw [wrap_i64 (by unfold slen at *; omega) (by unfold slen at *; omega), wrap_i64 (by omega) (by omega)]
            refine cutW_self.2 ⟨l.length - (i + 1), by omega, rfl, i + 1, total (l.take (i + 1)), ?_, by omega, rfl, by omega, hri', hx3, hf3, by omega, by omega, hg3, rfl⟩
            rw [ht]
            rfl
      · obtain rfl : i = 0 := by omega
        · have hri' : Rises l (0 + 1) := by
            intro j s' hj hs'
            obtain rfl : j = 0 := by omega
            rw [hs] at hs'; cases hs'
            exact ⟨by omega, fun p' h0 _ => by omega⟩
          have i : Nat := 0
          rw [wrap_i64 (by omega) (by omega)]
          refine ⟨fun hgt => ?_, fun hle => ?_⟩
          · have : chk tr l = 70 := by
              unfold chk; rw [if_neg]; rintro ⟨h, _⟩; unfold slen at *; omega
            rw [this] at hr; exact hr
          · have hle : total (l.take 0) + slen s.pay ≤ 16384 := by unfold slen at *; omega
            rw [wrap_i64 (by unfold slen at *; omega) (by unfold slen at *; omega), wrap_i64 (by omega) (by omega)]
            refine cutW_self.2 ⟨l.length - (0 + 1), by omega, rfl, 0 + 1, total (l.take (0 + 1)), ?_, by omega, rfl, by omega, hri', hx3, hf3, by omega, by omega, hg3, rfl⟩
            rw [ht]
            rfl
    · have hi : i = l.length := by omega
      subst hi
      rw [List.take_length] at hn
      have hr := hk A' hx hf' (by omega)
      match l, hl, hl', hn, hr, hri with
      | [], hl, hl', hn, hr, hri =>
        simp [chk, shape, total, tyAt] at hr
        simp
        simp_all
      | [a], hl, hl', hn, hr, hri =>
        obtain ⟨r0, o0, p0, q0, _, _, _⟩ := hl'.at (i := 0) (s := a) rfl
        have p0 : indexAddrA Try.prog 23 sv (.int .i64 0) = _ := p0
        have y0 := (hri 0 a (by simp) rfl).1
        simp only [p0, q0, fa_28_0, ld_5, pureW_some, bin_neq, forkW_bne, List.length_cons, List.length_nil]
        clear hd h1 h3 h7 h8 h9 hk hri
        simp only [chk, shape, tyAt, List.length_cons, List.length_nil, hn, true_and] at hr
        grind
      | [a, b], hl, hl', hn, hr, hri =>
        obtain ⟨r0, o0, p0, q0, _, _, _⟩ := hl'.at (i := 0) (s := a) rfl
        have p0 : indexAddrA Try.prog 23 sv (.int .i64 0) = _ := p0
        have y0 := (hri 0 a (by simp) rfl).1
        have y1 := (hri 1 b (by simp) rfl).1
        have z1 := (hri 1 b (by simp) rfl).2 a (by decide) rfl
        simp only [p0, q0, fa_28_0, ld_5, pureW_some, bin_neq, forkW_bne, List.length_cons, List.length_nil]
        clear hd h1 h3 h7 h8 h9 hk hri
        simp only [chk, shape, tyAt, List.length_cons, List.length_nil, hn, true_and] at hr
        grind
      | [a, b, c], hl, hl', hn, hr, hri =>
        obtain ⟨r0, o0, p0, q0, _, _, _⟩ := hl'.at (i := 0) (s := a) rfl
        have p0 : indexAddrA Try.prog 23 sv (.int .i64 0) = _ := p0
        have y0 := (hri 0 a (by simp) rfl).1
        have y1 := (hri 1 b (by simp) rfl).1
        have z1 := (hri 1 b (by simp) rfl).2 a (by decide) rfl
        have y2 := (hri 2 c (by simp) rfl).1
        have z2 := (hri 2 c (by simp) rfl).2 b (by decide) rfl
        simp only [p0, q0, fa_28_0, ld_5, pureW_some, bin_neq, forkW_bne, List.length_cons, List.length_nil]
        clear hd h1 h3 h7 h8 h9 hk hri
        simp only [chk, shape, tyAt, List.length_cons, List.length_nil, hn, true_and] at hr
        grind
      | a :: b :: c :: e :: r, hl, hl', hn, hr, hri =>
        obtain ⟨r0, o0, p0, q0, _, _, _⟩ := hl'.at (i := 0) (s := a) rfl
        have p0 : indexAddrA Try.prog 23 sv (.int .i64 0) = _ := p0
        have y0 := (hri 0 a (by simp) rfl).1
        have y1 := (hri 1 b (by simp) rfl).1
        have z1 := (hri 1 b (by simp) rfl).2 a (by decide) rfl
        have y2 := (hri 2 c (by simp) rfl).1
        have z2 := (hri 2 c (by simp) rfl).2 b (by decide) rfl
        have y3 := (hri 3 e (by simp) rfl).1
        have z3 := (hri 3 e (by simp) rfl).2 c (by decide) rfl
        simp only [p0, q0, fa_28_0, ld_5, pureW_some, bin_neq, forkW_bne, List.length_cons, List.length_nil]
        clear hd h1 h3 h7 h8 h9 hk hri
        simp only [chk, shape, tyAt, List.length_cons, List.length_nil, hn, true_and] at hr
        grind
  · rw [e12]
    refine newP_made hf (by omega) (by simp [asmVal, asmCells, Value.cells, one_int, hl.one.1]) fun A' m => ?_
    have hg : A'.get A.next = some (.row (asmCells ch tr sv) 25 A.next 0 false) := m.row
    simp only [fa_25_2, ld_23, cell_row hg, asmCells, cellOf, hl.one.2, isT_int, cond_false, pureW_some, (hl.ext m.ext).len, Nat.zero_add]
    refine cutW_self.2 ⟨l.length, rfl, 0, 0, rfl, Nat.zero_le _, by simp [total], Nat.zero_le _, (fun j s hj => by omega), m.ext, m.fine, by rw [m.next]; omega, by rw [m.next]; omega, hg, rfl⟩
end

noncomputable def feedT (W0 : World) (m0 : Inj Try.prog) (S : Nat → List Value → AW → Prop) (Q : Value → AW → Prop) (d : Nat → Value) (p0 : AW) (p1 : Value) (p2 : Value) (p3 : Value) (p4 : Value) : Prop := (pureW (loadP Try.prog p0 45 p1) fun b0 => Wc Try.prog theX W0 m0 15 [(d 14), b0] p0 fun b1 B2 => pureW (extractP b1 0) fun b3 => pureW (extractP b1 1) fun b4 => pureW (extractP b1 2) fun b5 => bothW (allocP Try.prog B2 25) fun b6 B7 => effW (storeP Try.prog B7 25 b6 b3) fun B8 => pureW (binA Try.prog .neq 30 (.tmp 161) (.const (.int .i64 0)) b5 (.int .i64 0)) fun b9 => forkW b9 (Q (.bool false) B8) (pureW (binA Try.prog .neq 4 (.tmp 164) (.tmp 165) b4 p2) fun b10 => forkW b10 (Q (.bool false) B8) (forkW b4 (pureW (loadP Try.prog B8 25 b6) fun b11 => pureW (loadP Try.prog B8 25 p3) fun b12 => Wc Try.prog theX W0 m0 17 [b11, b12] B8 fun b13 B14 => pureW (unA Try.prog .not b13) fun b15 => forkW b15 (Q (.bool false) B14) (pureW (unA Try.prog .not b4) fun b16 => forkW b16 (pureW (fieldAddrA Try.prog 25 b6 2) fun b17 => pureW (loadP Try.prog B14 23 b17) fun b18 => pureW (lenA Try.prog B14 23 b18) fun b19 => pureW (binA Try.prog .neq 3 (.tmp 183) (.const (.int .i64 0)) b19 (.int .i64 0)) fun b20 => forkW b20 (Q (.bool false) B14) (pureW (binA Try.prog .add 3 (.tmp 110) (.const (.int .i64 1)) (d 17) (.int .i64 1)) fun b21 => cutW (T5 4) (T5 4) (S 4 [(d 2), (d 3), (d 4), (d 10), (d 12), (d 14), p4, (d 16), b21] B14))) (pureW (binA Try.prog .add 3 (.tmp 110) (.const (.int .i64 1)) (d 17) (.int .i64 1)) fun b22 => cutW (T5 4) (T5 4) (S 4 [(d 2), (d 3), (d 4), (d 10), (d 12), (d 14), p4, (d 16), b22] B14)))) (pureW (unA Try.prog .not b4) fun b23 => forkW b23 (pureW (fieldAddrA Try.prog 25 b6 2) fun b24 => pureW (loadP Try.prog B8 23 b24) fun b25 => pureW (lenA Try.prog B8 23 b25) fun b26 => pureW (binA Try.prog .neq 3 (.tmp 183) (.const (.int .i64 0)) b26 (.int .i64 0)) fun b27 => forkW b27 (Q (.bool false) B8) (pureW (binA Try.prog .add 3 (.tmp 110) (.const (.int .i64 1)) (d 17) (.int .i64 1)) fun b28 => cutW (T5 4) (T5 4) (S 4 [(d 2), (d 3), (d 4), (d 10), (d 12), (d 14), p4, (d 16), b28] B8))) (pureW (binA Try.prog .add 3 (.tmp 110) (.const (.int .i64 1)) (d 17) (.int .i64 1)) fun b29 => cutW (T5 4) (T5 4) (S 4 [(d 2), (d 3), (d 4), (d 10), (d 12), (d 14), p4, (d 16), b29] B8))))))
noncomputable def feedT1 (W0 : World) (m0 : Inj Try.prog) (S : Nat → List Value → AW → Prop) (Q : Value → AW → Prop) (d : Nat → Value) (p0 : AW) (p1 : Value) (p2 : Value) (p3 : Value) (p4 : Value) : Prop := (pureW (loadP Try.prog p0 45 p1) fun b0 => Wc Try.prog theX W0 m0 15 [(d 14), b0] p0 fun b1 B2 => pureW (extractP b1 0) fun b3 => pureW (extractP b1 1) fun b4 => pureW (extractP b1 2) fun b5 => bothW (allocP Try.prog B2 25) fun b6 B7 => effW (storeP Try.prog B7 25 b6 b3) fun B8 => pureW (binA Try.prog .neq 30 (.tmp 161) (.const (.int .i64 0)) b5 (.int .i64 0)) fun b9 => forkW b9 (Q (.bool false) B8) (pureW (binA Try.prog .neq 4 (.tmp 164) (.tmp 165) b4 p2) fun b10 => forkW b10 (Q (.bool false) B8) (forkW b4 (pureW (loadP Try.prog B8 25 b6) fun b11 => pureW (loadP Try.prog B8 25 p3) fun b12 => Wc Try.prog theX W0 m0 17 [b11, b12] B8 fun b13 B14 => pureW (unA Try.prog .not b13) fun b15 => forkW b15 (Q (.bool false) B14) (pureW (unA Try.prog .not b4) fun b16 => forkW b16 (pureW (fieldAddrA Try.prog 25 b6 2) fun b17 => pureW (loadP Try.prog B14 23 b17) fun b18 => pureW (lenA Try.prog B14 23 b18) fun b19 => pureW (binA Try.prog .neq 3 (.tmp 183) (.const (.int .i64 0)) b19 (.int .i64 0)) fun b20 => forkW b20 (Q (.bool false) B14) (pureW (binA Try.prog .add 3 (.tmp 110) (.const (.int .i64 1)) (d 17) (.int .i64 1)) fun b21 => cutW (T5 4) (T5 4) (S 4 [(d 2), (d 3), (d 4), (d 10), (d 12), (d 14), (d 15), p4, b21] B14))) (pureW (binA Try.prog .add 3 (.tmp 110) (.const (.int .i64 1)) (d 17) (.int .i64 1)) fun b22 => cutW (T5 4) (T5 4) (S 4 [(d 2), (d 3), (d 4), (d 10), (d 12), (d 14), (d 15), p4, b22] B14)))) (pureW (unA Try.prog .not b4) fun b23 => forkW b23 (pureW (fieldAddrA Try.prog 25 b6 2) fun b24 => pureW (loadP Try.prog B8 23 b24) fun b25 => pureW (lenA Try.prog B8 23 b25) fun b26 => pureW (binA Try.prog .neq 3 (.tmp 183) (.const (.int .i64 0)) b26 (.int .i64 0)) fun b27 => forkW b27 (Q (.bool false) B8) (pureW (binA Try.prog .add 3 (.tmp 110) (.const (.int .i64 1)) (d 17) (.int .i64 1)) fun b28 => cutW (T5 4) (T5 4) (S 4 [(d 2), (d 3), (d 4), (d 10), (d 12), (d 14), (d 15), p4, b28] B8))) (pureW (binA Try.prog .add 3 (.tmp 110) (.const (.int .i64 1)) (d 17) (.int .i64 1)) fun b29 => cutW (T5 4) (T5 4) (S 4 [(d 2), (d 3), (d 4), (d 10), (d 12), (d 14), (d 15), p4, b29] B8))))))
noncomputable def takeA (W0 : World) (m0 : Inj Try.prog) (S : Nat → List Value → AW → Prop) (Q : Value → AW → Prop) (d : Nat → Value) (p0 : AW) (p1 : Value) (p2 : Value) : Prop := (pureW (loadP Try.prog p0 25 (d 3)) fun b0 => pureW (indexAddrA Try.prog 29 (d 10) (d 15)) fun b1 => pureW (loadP Try.prog p0 45 b1) fun b2 => effW (storeP Try.prog p0 25 p1 b0) fun B3 => pureW (loadP Try.prog B3 45 b1) fun b4 => eqW b4 b2 (pureW (indexAddrA Try.prog 29 (d 10) (d 15)) fun b5 => eqW b5 b1 (eqW (d 15) (d 15) (eqW (d 10) (d 10) (effW (storeP Try.prog B3 45 p2 b2) fun B6 => pureW (binA Try.prog .add 3 (.tmp 138) (.const (.int .i64 1)) (d 15) (.int .i64 1)) fun b7 => pureW (lenA Try.prog B6 29 (d 10)) fun b8 => pureW (binA Try.prog .eql 3 (.tmp 140) (.tmp 142) b7 b8) fun b9 => feedT W0 m0 S Q d B6 p2 b9 p1 b7)))))
noncomputable def takeB (W0 : World) (m0 : Inj Try.prog) (S : Nat → List Value → AW → Prop) (Q : Value → AW → Prop) (d : Nat → Value) (p0 : AW) (p1 : Value) (p2 : Value) : Prop := (pureW (indexAddrA Try.prog 29 (d 12) (d 16)) fun b0 => pureW (loadP Try.prog p0 45 b0) fun b1 => effW (storeP Try.prog p0 45 p1 b1) fun B2 => pureW (binA Try.prog .add 3 (.tmp 148) (.const (.int .i64 1)) (d 16) (.int .i64 1)) fun b3 => pureW (lenA Try.prog B2 29 (d 12)) fun b4 => pureW (binA Try.prog .eql 3 (.tmp 150) (.tmp 152) b3 b4) fun b5 => feedT1 W0 m0 S Q d B2 p1 b5 p2 b3)
noncomputable def prep (W0 : World) (m0 : Inj Try.prog) (S : Nat → List Value → AW → Prop) (Q : Value → AW → Prop) (d : Nat → Value) (p0 : AW) : Prop := (pureW (loadP Try.prog p0 25 (d 4)) fun b0 => pureW (buildA Try.prog 45 []) fun b1 => bothW (allocP Try.prog p0 25) fun b2 B3 => bothW (allocP Try.prog B3 45) fun b4 B5 => effW (storeP Try.prog B5 25 b2 b0) fun B6 => effW (storeP Try.prog B6 45 b4 b1) fun B7 => takeA W0 m0 S Q d B7 b2 b4)
noncomputable def prep1 (W0 : World) (m0 : Inj Try.prog) (S : Nat → List Value → AW → Prop) (Q : Value → AW → Prop) (d : Nat → Value) (p0 : AW) : Prop := (pureW (loadP Try.prog p0 25 (d 4)) fun b0 => pureW (buildA Try.prog 45 []) fun b1 => bothW (allocP Try.prog p0 25) fun b2 B3 => bothW (allocP Try.prog B3 45) fun b4 B5 => effW (storeP Try.prog B5 25 b2 b0) fun B6 => effW (storeP Try.prog B6 45 b4 b1) fun B7 => takeB W0 m0 S Q d B7 b4 b2)
noncomputable def prep2 (W0 : World) (m0 : Inj Try.prog) (S : Nat → List Value → AW → Prop) (Q : Value → AW → Prop) (d : Nat → Value) (p0 : AW) (p1 : Value) : Prop := (pureW (loadP Try.prog p0 25 (d 4)) fun b0 => pureW (buildA Try.prog 45 []) fun b1 => bothW (allocP Try.prog p0 25) fun b2 B3 => bothW (allocP Try.prog B3 45) fun b4 B5 => effW (storeP Try.prog B5 25 b2 b0) fun B6 => effW (storeP Try.prog B6 45 b4 b1) fun B7 => forkW p1 (takeA W0 m0 S Q d B7 b2 b4) (takeB W0 m0 S Q d B7 b4 b2))
set_option maxRecDepth 20000 in
theorem l5_4r (W0 : World) (m0 : Inj Try.prog) (S : Nat → List Value → AW → Prop) (Q : Value → AW → Prop) (d : Nat → Value) (A : AW) : wpgo Try.prog theX W0 m0 5 T5 L5 S Q 4000 (tmOf 193 d) (T5 4) false 0 0 0 A = (pureW (lenA Try.prog A 29 (d 10)) fun t0 => pureW (binA Try.prog .lss 3 (.tmp 100) (.tmp 102) (d 15) t0) fun t1 => forkW t1 (pureW (lenA Try.prog A 53 (d 2)) fun t2 => pureW (binA Try.prog .lss 3 (.tmp 112) (.tmp 114) (d 17) t2) fun t3 => forkW t3 (pureW (indexAddrA Try.prog 53 (d 2) (d 17)) fun t4 => pureW (loadP Try.prog A 54 t4) fun t5 => pureW (lenA Try.prog A 29 (d 10)) fun t6 => pureW (binA Try.prog .eql 3 (.tmp 122) (.tmp 124) (d 15) t6) fun t7 => forkW t7 (pureW (lenA Try.prog A 29 (d 12)) fun t8 => pureW (binA Try.prog .eql 3 (.tmp 126) (.tmp 128) (d 16) t8) fun t9 => forkW t9 (prep W0 m0 S Q d A) (prep1 W0 m0 S Q d A)) (pureW (lenA Try.prog A 29 (d 12)) fun t92 => pureW (binA Try.prog .eql 3 (.tmp 126) (.tmp 128) (d 16) t92) fun t93 => forkW t93 (prep W0 m0 S Q d A) (prep2 W0 m0 S Q d A t5))) (pureW (lenA Try.prog A 29 (d 10)) fun t213 => pureW (binA Try.prog .eql 3 (.tmp 122) (.tmp 124) (d 15) t213) fun t214 => forkW t214 (pureW (lenA Try.prog A 29 (d 12)) fun t215 => pureW (binA Try.prog .eql 3 (.tmp 126) (.tmp 128) (d 16) t215) fun t216 => forkW t216 (prep W0 m0 S Q d A) (prep1 W0 m0 S Q d A)) (pureW (lenA Try.prog A 29 (d 12)) fun t299 => pureW (binA Try.prog .eql 3 (.tmp 126) (.tmp 128) (d 16) t299) fun t300 => forkW t300 (prep W0 m0 S Q d A) (prep1 W0 m0 S Q d A)))) (pureW (lenA Try.prog A 29 (d 12)) fun t383 => pureW (binA Try.prog .lss 3 (.tmp 105) (.tmp 107) (d 16) t383) fun t384 => forkW t384 (pureW (lenA Try.prog A 53 (d 2)) fun t385 => pureW (binA Try.prog .lss 3 (.tmp 112) (.tmp 114) (d 17) t385) fun t386 => forkW t386 (pureW (indexAddrA Try.prog 53 (d 2) (d 17)) fun t387 => pureW (loadP Try.prog A 54 t387) fun t388 => pureW (lenA Try.prog A 29 (d 10)) fun t389 => pureW (binA Try.prog .eql 3 (.tmp 122) (.tmp 124) (d 15) t389) fun t390 => forkW t390 (pureW (lenA Try.prog A 29 (d 12)) fun t391 => pureW (binA Try.prog .eql 3 (.tmp 126) (.tmp 128) (d 16) t391) fun t392 => forkW t392 (prep W0 m0 S Q d A) (prep1 W0 m0 S Q d A)) (pureW (lenA Try.prog A 29 (d 12)) fun t475 => pureW (binA Try.prog .eql 3 (.tmp 126) (.tmp 128) (d 16) t475) fun t476 => forkW t476 (prep W0 m0 S Q d A) (prep2 W0 m0 S Q d A t388))) (pureW (lenA Try.prog A 29 (d 10)) fun t596 => pureW (binA Try.prog .eql 3 (.tmp 122) (.tmp 124) (d 15) t596) fun t597 => forkW t597 (pureW (lenA Try.prog A 29 (d 12)) fun t598 => pureW (binA Try.prog .eql 3 (.tmp 126) (.tmp 128) (d 16) t598) fun t599 => forkW t599 (prep W0 m0 S Q d A) (prep1 W0 m0 S Q d A)) (pureW (lenA Try.prog A 29 (d 12)) fun t682 => pureW (binA Try.prog .eql 3 (.tmp 126) (.tmp 128) (d 16) t682) fun t683 => forkW t683 (prep W0 m0 S Q d A) (prep1 W0 m0 S Q d A)))) (Wc Try.prog theX W0 m0 18 [(d 14)] A fun t766 At766 => pureW (binA Try.prog .eql 3 (.tmp 188) (.const (.int .i64 0)) t766 (.int .i64 0)) fun t767 => forkW t767 (knW Try.prog W0 m0 8 [] At766 fun t768 At768 => Q t768 At768) (Q (.bool false) At766)))) := l5_4 W0 m0 S Q d A

end Go.Proofs.Yteiiledpfhopdaa

namespace Go.Proofs.Yteiiledpfhopdaa
open Go Go.Abs

/-- feeding a frame, and looking at what it told; then C -/
noncomputable def feedC (W0 : World) (m0 : Inj Try.prog) (Q : Value → AW → Prop) (g14 : Value) (p0 : AW) (p1 : Value) (p2 : Value) (p3 : Value) (C : AW → Prop) : Prop := (pureW (loadP Try.prog p0 45 p1) fun b0 => Wc Try.prog theX W0 m0 15 [g14, b0] p0 fun b1 B2 => pureW (extractP b1 0) fun b3 => pureW (extractP b1 1) fun b4 => pureW (extractP b1 2) fun b5 => bothW (allocP Try.prog B2 25) fun b6 B7 => effW (storeP Try.prog B7 25 b6 b3) fun B8 => pureW (binA Try.prog .neq 30 (.tmp 161) (.const (.int .i64 0)) b5 (.int .i64 0)) fun b9 => forkW b9 (Q (.bool false) B8) (pureW (binA Try.prog .neq 4 (.tmp 164) (.tmp 165) b4 p2) fun b10 => forkW b10 (Q (.bool false) B8) (forkW b4 (pureW (loadP Try.prog B8 25 b6) fun b11 => pureW (loadP Try.prog B8 25 p3) fun b12 => Wc Try.prog theX W0 m0 17 [b11, b12] B8 fun b13 B14 => pureW (unA Try.prog .not b13) fun b15 => forkW b15 (Q (.bool false) B14) (pureW (unA Try.prog .not b4) fun b16 => forkW b16 (pureW (fieldAddrA Try.prog 25 b6 2) fun b17 => pureW (loadP Try.prog B14 23 b17) fun b18 => pureW (lenA Try.prog B14 23 b18) fun b19 => pureW (binA Try.prog .neq 3 (.tmp 183) (.const (.int .i64 0)) b19 (.int .i64 0)) fun b20 => forkW b20 (Q (.bool false) B14) (C B14)) (C B14))) (pureW (unA Try.prog .not b4) fun b23 => forkW b23 (pureW (fieldAddrA Try.prog 25 b6 2) fun b24 => pureW (loadP Try.prog B8 23 b24) fun b25 => pureW (lenA Try.prog B8 23 b25) fun b26 => pureW (binA Try.prog .neq 3 (.tmp 183) (.const (.int .i64 0)) b26 (.int .i64 0)) fun b27 => forkW b27 (Q (.bool false) B8) (C B8)) (C B8)))))
theorem feedT_eq (W0 : World) (m0 : Inj Try.prog) (S : Nat → List Value → AW → Prop) (Q : Value → AW → Prop) (d : Nat → Value) (p0 : AW) (p1 p2 p3 p4 : Value) : feedT W0 m0 S Q d p0 p1 p2 p3 p4 =
    feedC W0 m0 Q (d 14) p0 p1 p2 p3 fun B => pureW (binA Try.prog .add 3 (.tmp 110) (.const (.int .i64 1)) (d 17) (.int .i64 1)) fun b => cutW (T5 4) (T5 4) (S 4 [(d 2), (d 3), (d 4), (d 10), (d 12), (d 14), p4, (d 16), b] B) := rfl
theorem feedT1_eq (W0 : World) (m0 : Inj Try.prog) (S : Nat → List Value → AW → Prop) (Q : Value → AW → Prop) (d : Nat → Value) (p0 : AW) (p1 p2 p3 p4 : Value) : feedT1 W0 m0 S Q d p0 p1 p2 p3 p4 =
    feedC W0 m0 Q (d 14) p0 p1 p2 p3 fun B => pureW (binA Try.prog .add 3 (.tmp 110) (.const (.int .i64 1)) (d 17) (.int .i64 1)) fun b => cutW (T5 4) (T5 4) (S 4 [(d 2), (d 3), (d 4), (d 10), (d 12), (d 14), (d 15), p4, b] B) := rfl

/-- v is the slice of these segments, in these families -/
def RdSegs (A : AW) (v : Value) (l : List Seg) (F : List Nat) : Prop :=
  (l = [] ∧ F = [] ∧ ∃ o c, v = .slice o 0 c) ∨ ∃ r o c cs e f b ro, v = .slice (some ⟨r, o, none⟩) l.length c ∧ A.get r = some (.row cs e f b ro) ∧ f < A.next ∧ F = [f] ∧ ∀ i s, l[i]? = some s → cs[o + i * 2]? = some (.int .u8 s.ty) ∧ cs[o + i * 2 + 1]? = some (.string s.pay)
theorem RdSegs.keeps {A A' : AW} {v : Value} {l : List Seg} {F S : List Nat} (h : RdSegs A v l F) (k : Keeps A A' S) (hd : ∀ x ∈ F, x ∉ S) : RdSegs A' v l F := by
  rcases h with h | ⟨r, o, c, cs, e, f, b, ro, h1, h2, h3, rfl, h4⟩
  · exact .inl h
  · exact .inr ⟨r, o, c, cs, e, f, b, ro, h1, k.get r _ h2 h3 (hd f (by simp)), Nat.lt_of_lt_of_le h3 k.next, rfl, h4⟩
theorem RdSegs.isSegs {A : AW} {v : Value} {l : List Seg} {F : List Nat} (h : RdSegs A v l F) (hf : Fine A) : IsSegs A v l := by
  rcases h with ⟨h1, _, h2⟩ | ⟨r, o, c, cs, e, f, b, ro, h1, h2, h3, _, h4⟩
  · exact .inl ⟨h1, h2⟩
  · exact .inr ⟨r, o, c, cs, e, f, b, ro, h1, h2, hf.lt h2, h4⟩
theorem RdSegs.one {A : AW} {v : Value} {l : List Seg} {F : List Nat} (h : RdSegs A v l F) : oneCell v = true ∧ isTuple v = false := by
  rcases h with ⟨_, _, o, c, rfl⟩ | ⟨r, o, c, cs, e, f, b, ro, rfl, _⟩ <;> exact ⟨rfl, rfl⟩

section
variable {W0 : World} {m0 : Inj Try.prog}
theorem ld_asm {A : AW} {n : Nat} {ch tr : Int} {sv : Value} (h : Row1 A n (asmCells ch tr sv) 25) (ho : isTuple sv = false) : loadP Try.prog A 25 (.pointer (some ⟨n, 0, none⟩)) = some (asmVal ch tr sv) := by
  rw [ld_25, cells_row h.row]
  simp only [asmCells, List.drop_zero, takeCells, isT_int, ho, cond_false, asmVal]
theorem ld_fr {A : AW} {n : Nat} {f : Fr} (h : Row1 A n f.cells 45) : loadP Try.prog A 45 (.pointer (some ⟨n, 0, none⟩)) = some f.val := by
  rw [ld_45, cells_row h.row]; rfl

theorem feedC_ok {Q : Value → AW → Prop} {C : AW → Prop} {A : AW} {g k m nx nw : Nat} {G : GI} {R : GR} {FP Fl : List Nat} {f : Fr} {l : List Seg} {tr ch : Int} {sv : Value} (hG : IsG A g G FP) (hf : Fine A) (hA : A.next + 30 ≤ maxId) (hS : Sim G R) (hRl : R.L.length < 100000) (hc : chk tr l = 0) (hm : 0 < m) (hm2 : m ≤ 4084) (hch : 0 ≤ ch ∧ ch < 65536) (hd : R.dead = false)
    (hk : (cutTo l tr ch m l.length)[k]? = some f) (ho : opK R.L (ch, tr) = (cutTo l tr ch m l.length).take k) (hx : Row1 A nx f.cells 45) (hw : Row1 A nw (asmCells ch tr sv) 25) (hnw : nw ∉ FP) (hl : RdSegs A sv l Fl) (hFl : ∀ x ∈ Fl, x ∉ FP)
    (hK : ∀ A' FP' G' R', IsG A' g G' FP' → Sim G' R' → R'.dead = false → R'.L.length ≤ R.L.length + 1 → (opK R'.L (ch, tr) = if k + 1 = (cutTo l tr ch m l.length).length then [] else (cutTo l tr ch m l.length).take (k + 1)) → (∀ j, j ≠ (ch, tr) → opK R'.L j = opK R.L j) →
      (∀ x ∈ FP', x ∈ FP ∨ A.next ≤ x) → Keeps A A' FP → A'.next ≤ A.next + 25 → Fine A' → C A') :
    feedC W0 m0 Q (.pointer (some ⟨g, 0, none⟩)) A (.pointer (some ⟨nx, 0, none⟩)) (.bool (decide (k + 1 = (cutTo l tr ch m l.length).length))) (.pointer (some ⟨nw, 0, none⟩)) C := by
  unfold feedC
  rw [ld_fr hx, pureW_some]
  have hlen : l.length ≤ 3 := by
    unfold chk at hc
    split at hc
    · rename_i hh; exact (shape_tr hh.2).2.2.2.2
    · cases hc
  refine wc15cut hG hf (by omega) hS hRl hc hm hm2 hch hd hk ho fun A1 FP1 Fv1 sv1 G1 R1 hG1 hS1 hd1 hl1 ho1 hj1 hsv1 sP1 sv1' dv1 k1 n1 f1 => ?_
  have hone : oneCell sv1 = true ∧ isTuple sv1 = false := by
    split at hsv1
    · exact hsv1.one
    · rw [hsv1.1]; exact ⟨rfl, rfl⟩
  have hw1 := hw.keeps k1 hnw
  have hl1' := hl.keeps k1 hFl
  simp only [extractP, List.getElem?_cons_zero, List.getElem?_cons_succ, pureW_some]
  refine allocP_made zt25 f1 (by omega) rfl fun A2 m2 => ?_
  have n2 := m2.next
  have k2 := m2.keeps f1
  have hcells : (if k + 1 = (cutTo l tr ch m l.length).length then asmVal ch tr sv1 else asmVal 0 0 sv1) = .agg ⟨asmCells (if k + 1 = (cutTo l tr ch m l.length).length then ch else 0) (if k + 1 = (cutTo l tr ch m l.length).length then tr else 0) sv1⟩ := by split <;> rfl
  rw [hcells]
  refine m2.row1.store m2.fine (by omega) (st_25 _ _ _) rfl (by simp [asmCells, Value.cells]) (by simp only [Value.cells, asmCells, List.all_cons, hone.1]; rfl) fun A3 r3 k3 n3 f3 => ?_
  have r3 : Row1 A3 A1.next (asmCells (if k + 1 = (cutTo l tr ch m l.length).length then ch else 0) (if k + 1 = (cutTo l tr ch m l.length).length then tr else 0) sv1) 25 := r3
  have k13 : Keeps A1 A3 [] := k2.trans k3 (by simp)
  have hw3 := hw1.keeps k13 (by simp)
  have hl3 := hl1'.keeps k13 (by simp)
  have hG3 := hG1.keeps k13 (by simp)
  have fin : ∀ B, Keeps A3 B [] → B.next ≤ A3.next + 2 → Fine B → C B := fun B kB nB fB =>
    hK B FP1 G1 R1 (hG3.keeps kB (by simp)) hS1 hd1 hl1 ho1 hj1 sP1 ((k1.trans k13 (by simp)).trans kB (by simp)) (by omega) fB
  simp only [bin_neq, bin_boolneq, bne_self_eq_false, pureW_some, forkW_bool, un_not, Bool.false_eq_true, false_implies, true_implies, true_and]
  refine ⟨fun hlast => ?_, fun hlast => ?_⟩
  · have hlast' : k + 1 = (cutTo l tr ch m l.length).length := of_decide_eq_true hlast
    simp only [if_pos hlast'] at hsv1 r3
    have hsv3 := hsv1.keeps k13 (by simp)
    rw [ld_asm r3 hone.2, ld_asm hw3 hl.one.2]
    simp only [pureW_some]
    refine wc17 f3 (by omega) (OwnG.isSegs hsv3 f3) (hl3.isSegs f3) (by omega) fun A4 k4 n4 f4 => ?_
    have hC := fin A4 k4 (by omega) f4
    simp only [hlast, un_not, Bool.not_true, pureW_some, forkW_bool, Bool.false_eq_true, false_implies, true_implies, true_and]
    exact hC
  · have hlast' : ¬ k + 1 = (cutTo l tr ch m l.length).length := of_decide_eq_false hlast
    simp only [if_neg hlast'] at hsv1 r3
    obtain ⟨rfl, _⟩ := hsv1
    simp only [hlast, Bool.not_false, true_implies]
    simp only [fa_25_2, ld_23, cell_row r3.row, asmCells, cellOf, isTuple, cond_false, pureW_some, ln_23, bin_neq, forkW_bne, Nat.zero_add]
    refine ⟨⟨fun h => absurd rfl h, fun _ => fin A3 (.refl _ _) (by omega) f3⟩, fun h => Bool.noConfusion h⟩

/-- what is made ahead of a frame: a place for what is wanted, and one for the frame -/
theorem prep_ok {C : AW → Value → Value → Prop} {A : AW} {n1 : Nat} {ch tr : Int} {sv : Value} (h : Row1 A n1 (asmCells ch tr sv) 25) (ho : oneCell sv = true ∧ isTuple sv = false) (hf : Fine A) (hA : A.next + 10 ≤ maxId)
    (hk : ∀ B, Row1 B A.next (asmCells ch tr sv) 25 → Row1 B (A.next + 1) fr0.cells 45 → Keeps A B [] → B.next = A.next + 2 → Fine B → C B (.pointer (some ⟨A.next, 0, none⟩)) (.pointer (some ⟨A.next + 1, 0, none⟩))) :
    pureW (loadP Try.prog A 25 (.pointer (some ⟨n1, 0, none⟩))) fun b0 => pureW (buildA Try.prog 45 []) fun b1 => bothW (allocP Try.prog A 25) fun b2 B3 => bothW (allocP Try.prog B3 45) fun b4 B5 => effW (storeP Try.prog B5 25 b2 b0) fun B6 => effW (storeP Try.prog B6 45 b4 b1) fun B7 => C B7 b2 b4 := by
  have hb : buildA Try.prog 45 [] = some fr0.val := by kernel_rfl
  rw [ld_asm h ho.2, hb, pureW_some, pureW_some]
  refine allocP_made zt25 hf (by omega) rfl fun A1 m1 => ?_
  have n1e := m1.next
  refine allocP_made zero45 m1.fine (by omega) rfl fun A2 m2 => ?_
  have n2e := m2.next
  have k2 := m2.keeps m1.fine
  refine (m1.row1.keeps k2 (by simp)).store m2.fine (by omega) (st_25 _ _ _) rfl (by simp [asmVal, Value.cells]) (by simp only [asmVal, Value.cells, asmCells, List.all_cons, ho.1]; rfl) fun A3 r3 k3 n3e f3 => ?_
  have r3 : Row1 A3 A.next (asmCells ch tr sv) 25 := r3
  have r2 := (m2.row1).keeps k3 (by simp; omega)
  refine r2.store f3 (by omega) (st_45 _ _ _) rfl (by simp [Value.cells]) rfl fun A4 r4 k4 n4e f4 => ?_
  have r4 : Row1 A4 A1.next fr0.cells 45 := r4
  rw [n1e] at r4 ⊢
  exact hk A4 (r3.keeps k4 (by simp; omega)) r4 ((((m1.keeps hf).trans k2 (by simp)).trans k3 (by simp)).trans k4 (by simp; omega)) (by omega) f4
end
end Go.Proofs.Yteiiledpfhopdaa

namespace Go.Proofs.Yteiiledpfhopdaa
open Go Go.Abs

/-- v is the slice of these -/
def RdBools (A : AW) (v : Value) (l : List Bool) (F : List Nat) : Prop :=
  (l = [] ∧ F = [] ∧ ∃ o c, v = .slice o 0 c) ∨ ∃ r o c cs e f b ro, v = .slice (some ⟨r, o, none⟩) l.length c ∧ A.get r = some (.row cs e f b ro) ∧ f < A.next ∧ F = [f] ∧ ∀ i s, l[i]? = some s → cs[o + i]? = some (.bool s)
theorem RdBools.keeps {A A' : AW} {v : Value} {l : List Bool} {F S : List Nat} (h : RdBools A v l F) (k : Keeps A A' S) (hd : ∀ x ∈ F, x ∉ S) : RdBools A' v l F := by
  rcases h with h | ⟨r, o, c, cs, e, f, b, ro, h1, h2, h3, rfl, h4⟩
  · exact .inl h
  · exact .inr ⟨r, o, c, cs, e, f, b, ro, h1, k.get r _ h2 h3 (hd f (by simp)), Nat.lt_of_lt_of_le h3 k.next, rfl, h4⟩
theorem RdBools.len {A : AW} {v : Value} {l : List Bool} {F : List Nat} (h : RdBools A v l F) : lenA Try.prog A 53 v = some (.int .i64 l.length) := by
  rcases h with ⟨rfl, _, o, c, rfl⟩ | ⟨r, o, c, cs, e, f, b, ro, rfl, _⟩
  · exact ln_53 A o 0 c
  · exact ln_53 A _ _ _
theorem RdBools.at {A : AW} {v : Value} {l : List Bool} {F : List Nat} (h : RdBools A v l F) {i : Nat} {b : Bool} (hi : l[i]? = some b) : ∃ a, indexAddrA Try.prog 53 v (.int .i64 (i : Int)) = some (.pointer (some a)) ∧ loadP Try.prog A 54 (.pointer (some a)) = some (.bool b) := by
  rcases h with ⟨rfl, _⟩ | ⟨r, o, c, cs, e, fm, b2, ro, rfl, h2, h3, _, h4⟩
  · simp at hi
  · have hlt : i < l.length := (List.getElem?_eq_some_iff.1 hi).1
    refine ⟨⟨r, o + i * 1, none⟩, ?_, ?_⟩
    · show indexAddrA Try.prog 53 _ (.int .i64 (.ofNat i)) = _
      rw [ia_53, blt_true.2 hlt, cond_true, addA_eq]
    · rw [ld_54, cell_row h2]
      exact cellOf_get (by rw [Nat.mul_one]; exact h4 i b hi) isT_bool
theorem RdSegs.at {A : AW} {v : Value} {l : List Seg} {F : List Nat} (h : RdSegs A v l F) (hf : Fine A) {i : Nat} {s : Seg} (hi : l[i]? = some s) : ∃ r o, indexAddrA Try.prog 23 v (.int .i64 (i : Int)) = some (.pointer (some ⟨r, o, none⟩)) ∧ A.cell? ⟨r, o + 1, none⟩ = some (.string s.pay) := by
  obtain ⟨r, o, h1, _, h2, _⟩ := (h.isSegs hf).at hi
  exact ⟨r, o, h1, h2⟩
theorem total_take_le (l : List Seg) (i : Nat) : total (l.take i) ≤ total l := by
  have : total l = total (l.take i) + total (l.drop i) := by rw [← total_append, List.take_append_drop]
  omega
theorem total_snoc {l : List Seg} {i : Nat} {s : Seg} (h : l[i]? = some s) : total (l.take (i + 1)) = total (l.take i) + slen s.pay := by
  rw [List.take_add_one, h, total_append]
  simp [total]

/-- how far an assembly has been fed -/
def fedTo (F : List Fr) (i : Nat) : List Fr := if i = F.length then [] else F.take i

section
variable {W0 : World} {m0 : Inj Try.prog}
/-- the heap of GatherBack's last loop -/
structure Bk (A0 A : AW) (tv : Value) (tl : List Bool) (FT : List Nat) (n0 n1 : Nat) (chA trA : Int) (sA : Value) (lA : List Seg) (FsA : List Nat) (chB trB : Int) (sB : Value) (lB : List Seg) (FsB : List Nat) (fA : Value) (FfA : List Nat) (fB : Value) (FfB : List Nat) (g : Nat) (FP : List Nat) : Prop where
  tv : RdBools A tv tl FT
  r0 : Row1 A n0 (asmCells chA trA sA) 25
  r1 : Row1 A n1 (asmCells chB trB sB) 25
  sA : RdSegs A sA lA FsA
  sB : RdSegs A sB lB FsB
  fA : RdFr A fA (cutTo lA trA chA 2 lA.length) FfA
  fB : RdFr A fB (cutTo lB trB chB 3 lB.length) FfB
  fine : Fine A
  bP : ∀ x ∈ FP, A0.next ≤ x ∧ x ≠ n0 ∧ x ≠ n1 ∧ x ∉ FT ∧ x ∉ FsA ∧ x ∉ FsB ∧ x ∉ FfA ∧ x ∉ FfB
  small : ∀ x, x = n0 ∨ x = n1 ∨ x ∈ FT ∨ x ∈ FsA ∨ x ∈ FsB ∨ x ∈ FfA ∨ x ∈ FfB → x < A.next
theorem Bk.keeps {A0 A B : AW} {tv : Value} {tl : List Bool} {FT : List Nat} {n0 n1 : Nat} {chA trA : Int} {sA : Value} {lA : List Seg} {FsA : List Nat} {chB trB : Int} {sB : Value} {lB : List Seg} {FsB : List Nat} {fA : Value} {FfA : List Nat} {fB : Value} {FfB : List Nat} {g : Nat} {FP FP' S : List Nat}
    (h : Bk A0 A tv tl FT n0 n1 chA trA sA lA FsA chB trB sB lB FsB fA FfA fB FfB g FP) (k : Keeps A B S) (hS : ∀ x ∈ S, x ∈ FP ∨ A.next ≤ x) (hf : Fine B) (hP : ∀ x ∈ FP', x ∈ FP ∨ A.next ≤ x) (h0 : A0.next ≤ A.next) : Bk A0 B tv tl FT n0 n1 chA trA sA lA FsA chB trB sB lB FsB fA FfA fB FfB g FP' := by
  have key : ∀ x, x = n0 ∨ x = n1 ∨ x ∈ FT ∨ x ∈ FsA ∨ x ∈ FsB ∨ x ∈ FfA ∨ x ∈ FfB → x ∉ S := fun x hx hm => by
    rcases hS x hm with h1 | h1
    · obtain ⟨_, q1, q2, q3, q4, q5, q6, q7⟩ := h.bP x h1
      rcases hx with h2 | h2 | h2 | h2 | h2 | h2 | h2
      · exact q1 h2
      · exact q2 h2
      · exact q3 h2
      · exact q4 h2
      · exact q5 h2
      · exact q6 h2
      · exact q7 h2
    · have := h.small x hx; omega
  refine ⟨h.tv.keeps k fun x hx => key x (by simp [hx]), h.r0.keeps k (key n0 (by simp)), h.r1.keeps k (key n1 (by simp)), h.sA.keeps k fun x hx => key x (by simp [hx]), h.sB.keeps k fun x hx => key x (by simp [hx]), h.fA.keeps k fun x hx => key x (by simp [hx]), h.fB.keeps k fun x hx => key x (by simp [hx]), hf, fun x hx => ?_, fun x hx => Nat.lt_of_lt_of_le (h.small x hx) k.next⟩
  rcases hP x hx with h1 | h1
  · exact h.bP x h1
  · have sm := h.small
    refine ⟨by omega, ?_, ?_, ?_, ?_, ?_, ?_, ?_⟩
    · rintro rfl; have := sm x (by simp); omega
    · rintro rfl; have := sm x (by simp); omega
    · intro hm; have := sm x (by simp [hm]); omega
    · intro hm; have := sm x (by simp [hm]); omega
    · intro hm; have := sm x (by simp [hm]); omega
    · intro hm; have := sm x (by simp [hm]); omega
    · intro hm; have := sm x (by simp [hm]); omega

variable {A0 : AW} {tv : Value} {tl : List Bool} {FT : List Nat} {n0 n1 : Nat} {chA trA : Int} {sA : Value} {lA : List Seg} {FsA : List Nat} {chB trB : Int} {sB : Value} {lB : List Seg} {FsB : List Nat} {fA : Value} {FfA : List Nat} {fB : Value} {FfB : List Nat} {g : Nat}
/-- the loop's state -/
structure St (A0 A : AW) (tv : Value) (tl : List Bool) (FT : List Nat) (n0 n1 : Nat) (chA trA : Int) (sA : Value) (lA : List Seg) (FsA : List Nat) (chB trB : Int) (sB : Value) (lB : List Seg) (FsB : List Nat) (fA : Value) (FfA : List Nat) (fB : Value) (FfB : List Nat) (g i k : Nat) : Prop where
  st : ∃ (G : GI) (R : GR) (FP : List Nat), Bk A0 A tv tl FT n0 n1 chA trA sA lA FsA chB trB sB lB FsB fA FfA fB FfB g FP ∧ IsG A g G FP ∧ Sim G R ∧ R.dead = false ∧ R.L.length ≤ i + k ∧ opK R.L (chA, trA) = fedTo (cutTo lA trA chA 2 lA.length) i ∧ opK R.L (chB, trB) = fedTo (cutTo lB trB chB 3 lB.length) k ∧ ∀ j, j ≠ (chA, trA) → j ≠ (chB, trB) → opK R.L j = []
  kk : Keeps A0 A []
  nx : A.next ≤ A0.next + 121000 + 30 * (i + k)
  lo : A0.next ≤ A.next

theorem takeA_ok {S : Nat → List Value → AW → Prop} {Q : Value → AW → Prop} {d : Nat → Value} {A B : AW} {i k t nw nx : Nat} {chW trW : Int} {sW : Value} (hcA : chk trA lA = 0) (hchA : 0 ≤ chA ∧ chA < 65536) (hcB : chk trB lB = 0) (hne : (chA, trA) ≠ (chB, trB)) (hlA : (cutTo lA trA chA 2 lA.length).length ≤ 400) (hlB : (cutTo lB trB chB 3 lB.length).length ≤ 400)
    (e2 : d 2 = tv) (e3 : d 3 = .pointer (some ⟨n0, 0, none⟩)) (e4 : d 4 = .pointer (some ⟨n1, 0, none⟩)) (e10 : d 10 = fA) (e12 : d 12 = fB) (e14 : d 14 = .pointer (some ⟨g, 0, none⟩)) (e15 : d 15 = .int .i64 (i : Nat)) (e16 : d 16 = .int .i64 (k : Nat)) (e17 : d 17 = .int .i64 (t : Nat)) (ht : t < 10000)
    (hA0 : A0.next + 200000 ≤ maxId) (hs : St A0 A tv tl FT n0 n1 chA trA sA lA FsA chB trB sB lB FsB fA FfA fB FfB g i k) (hi : i < (cutTo lA trA chA 2 lA.length).length) (hk : k ≤ (cutTo lB trB chB 3 lB.length).length)
    (hnw : nw = A.next) (hnx : nx = A.next + 1) (hw : Row1 B nw (asmCells chW trW sW) 25) (hx : Row1 B nx fr0.cells 45) (kB : Keeps A B []) (nB : B.next = A.next + 2) (fB' : Fine B)
    (hS : ∀ C, St A0 C tv tl FT n0 n1 chA trA sA lA FsA chB trB sB lB FsB fA FfA fB FfB g (i + 1) k → S 4 [tv, .pointer (some ⟨n0, 0, none⟩), .pointer (some ⟨n1, 0, none⟩), fA, fB, .pointer (some ⟨g, 0, none⟩), .int .i64 ((i + 1 : Nat) : Int), .int .i64 (k : Nat), .int .i64 ((t + 1 : Nat) : Int)] C) :
    takeA W0 m0 S Q d B (.pointer (some ⟨nw, 0, none⟩)) (.pointer (some ⟨nx, 0, none⟩)) := by
  obtain ⟨⟨G, R, FP, hb, hG, hSm, hd, hl, hoA, hoB, hoj⟩, kk, hn, hlo⟩ := hs
  have lP := hG.lt
  have hbB := hb.keeps (FP' := FP) (g := g) kB (by simp) fB' (fun x hx => .inl hx) hlo
  obtain ⟨f, hf⟩ : ∃ f, (cutTo lA trA chA 2 lA.length)[i]? = some f := ⟨_, List.getElem?_eq_getElem hi⟩
  obtain ⟨r, o, g1, g2⟩ := hbB.fA.at hf
  have wi : IntKind.i64.wrap ((i : Int) + 1) = ((i + 1 : Nat) : Int) := by rw [wrap_i64 (by omega) (by omega)]; omega
  have wt : IntKind.i64.wrap ((t : Int) + 1) = ((t + 1 : Nat) : Int) := by rw [wrap_i64 (by omega) (by omega)]; omega
  unfold takeA
  simp only [e3, e10, e15, ld_asm hbB.r0 hbB.sA.one.2, g1, g2.ld, pureW_some]
  refine hw.store fB' (by omega) (st_25 _ _ _) rfl (by simp [asmVal, Value.cells, asmCells]) (by simp only [asmVal, Value.cells, asmCells, List.all_cons, hbB.sA.one.1]; rfl) fun B1 w1 k1 n1' f1 => ?_
  have w1 : Row1 B1 nw (asmCells chA trA sA) 25 := w1
  have hb1 := hb.keeps (FP' := FP) (g := g) (kB.trans k1 (by simp; omega)) (by simp) f1 (fun x hx => .inl hx) hlo
  have hx1 := hx.keeps k1 (by simp; omega)
  obtain ⟨r', o', g1', g2'⟩ := hb1.fA.at hf
  have hro : r' = r ∧ o' = o := by
    rw [g1] at g1'
    simp only [Option.some.injEq, Value.pointer.injEq, Addr.mk.injEq] at g1'
    exact ⟨g1'.1.symm, g1'.2.1.symm⟩
  obtain ⟨rfl, rfl⟩ := hro
  simp only [g2'.ld, pureW_some, eqW_self]
  refine hx1.store f1 (by omega) (st_45 _ _ _) rfl (by simp [Value.cells, Fr.cells]) rfl fun B2 x2 k2 n2' f2 => ?_
  have x2 : Row1 B2 nx f.cells 45 := x2
  have w2 := w1.keeps k2 (by simp; omega)
  have kB2 : Keeps A B2 [] := (kB.trans k1 (by simp; omega)).trans k2 (by simp; omega)
  have hb2 := hb.keeps (FP' := FP) (g := g) kB2 (by simp) f2 (fun x hx => .inl hx) hlo
  have hG2 := hG.keeps kB2 (by simp)
  have hbe : ((((i + 1 : Nat)) : Int) == (((cutTo lA trA chA 2 lA.length).length : Nat) : Int)) = decide (i + 1 = (cutTo lA trA chA 2 lA.length).length) := by
    rw [Bool.eq_iff_iff]; simp; omega
  simp only [bin_add, wi, hb2.fA.len, bin_eql, hbe, pureW_some, feedT_eq, e14]
  have hoA' : opK R.L (chA, trA) = (cutTo lA trA chA 2 lA.length).take i := by rw [hoA, fedTo, if_neg (by omega)]
  refine feedC_ok (m := 2) hG2 f2 (by omega) hSm (by omega) hcA (by omega) (by omega) hchA hd hf hoA' x2 w2 (fun hm => by have := lP _ hm; omega) hb2.sA (fun x hx hm => (hb.bP x hm).2.2.2.2.1 hx) fun C FP' G' R' hG' hS' hd' hl' ho' hj' sP' kC nC fC => ?_
  simp only [bin_add, e2, e3, e4, e10, e12, e14, e16, e17, wt, pureW_some]
  refine cutW_self.2 (hS C ⟨⟨G', R', FP', hb2.keeps (FP' := FP') (g := g) kC (fun x hx => .inl hx) fC sP' (by omega), hG', hS', hd', by omega, ?_, ?_, fun j hjA hjB => ?_⟩, (kk.trans kB2 (by simp)).trans kC (fun x hx => .inr (hb.bP x hx).1), by omega, by have := kC.next; omega⟩)
  · rw [ho', fedTo]
  · rw [hj' _ (Ne.symm hne), hoB]
  · rw [hj' _ hjA, hoj j hjA hjB]

theorem takeB_ok {S : Nat → List Value → AW → Prop} {Q : Value → AW → Prop} {d : Nat → Value} {A B : AW} {i k t nw nx : Nat} (hcA : chk trA lA = 0) (hchB : 0 ≤ chB ∧ chB < 65536) (hcB : chk trB lB = 0) (hne : (chA, trA) ≠ (chB, trB)) (hlA : (cutTo lA trA chA 2 lA.length).length ≤ 400) (hlB : (cutTo lB trB chB 3 lB.length).length ≤ 400)
    (e2 : d 2 = tv) (e3 : d 3 = .pointer (some ⟨n0, 0, none⟩)) (e4 : d 4 = .pointer (some ⟨n1, 0, none⟩)) (e10 : d 10 = fA) (e12 : d 12 = fB) (e14 : d 14 = .pointer (some ⟨g, 0, none⟩)) (e15 : d 15 = .int .i64 (i : Nat)) (e16 : d 16 = .int .i64 (k : Nat)) (e17 : d 17 = .int .i64 (t : Nat)) (ht : t < 10000)
    (hA0 : A0.next + 200000 ≤ maxId) (hs : St A0 A tv tl FT n0 n1 chA trA sA lA FsA chB trB sB lB FsB fA FfA fB FfB g i k) (hi : i ≤ (cutTo lA trA chA 2 lA.length).length) (hk : k < (cutTo lB trB chB 3 lB.length).length)
    (hnw : nw = A.next) (hnx : nx = A.next + 1) (hw : Row1 B nw (asmCells chB trB sB) 25) (hx : Row1 B nx fr0.cells 45) (kB : Keeps A B []) (nB : B.next = A.next + 2) (fB' : Fine B)
    (hS : ∀ C, St A0 C tv tl FT n0 n1 chA trA sA lA FsA chB trB sB lB FsB fA FfA fB FfB g i (k + 1) → S 4 [tv, .pointer (some ⟨n0, 0, none⟩), .pointer (some ⟨n1, 0, none⟩), fA, fB, .pointer (some ⟨g, 0, none⟩), .int .i64 (i : Nat), .int .i64 ((k + 1 : Nat) : Int), .int .i64 ((t + 1 : Nat) : Int)] C) :
    takeB W0 m0 S Q d B (.pointer (some ⟨nx, 0, none⟩)) (.pointer (some ⟨nw, 0, none⟩)) := by
  obtain ⟨⟨G, R, FP, hb, hG, hSm, hd, hl, hoA, hoB, hoj⟩, kk, hn, hlo⟩ := hs
  have lP := hG.lt
  have hbB := hb.keeps (FP' := FP) (g := g) kB (by simp) fB' (fun x hx => .inl hx) hlo
  obtain ⟨f, hf⟩ : ∃ f, (cutTo lB trB chB 3 lB.length)[k]? = some f := ⟨_, List.getElem?_eq_getElem hk⟩
  obtain ⟨r, o, g1, g2⟩ := hbB.fB.at hf
  have wk : IntKind.i64.wrap ((k : Int) + 1) = ((k + 1 : Nat) : Int) := by rw [wrap_i64 (by omega) (by omega)]; omega
  have wt : IntKind.i64.wrap ((t : Int) + 1) = ((t + 1 : Nat) : Int) := by rw [wrap_i64 (by omega) (by omega)]; omega
  unfold takeB
  simp only [e12, e16, g1, g2.ld, pureW_some]
  refine hx.store fB' (by omega) (st_45 _ _ _) rfl (by simp [Value.cells, Fr.cells]) rfl fun B2 x2 k2 n2' f2 => ?_
  have x2 : Row1 B2 nx f.cells 45 := x2
  have w2 := hw.keeps k2 (by simp; omega)
  have kB2 : Keeps A B2 [] := kB.trans k2 (by simp; omega)
  have hb2 := hb.keeps (FP' := FP) (g := g) kB2 (by simp) f2 (fun x hx => .inl hx) hlo
  have hG2 := hG.keeps kB2 (by simp)
  have hbe : ((((k + 1 : Nat)) : Int) == (((cutTo lB trB chB 3 lB.length).length : Nat) : Int)) = decide (k + 1 = (cutTo lB trB chB 3 lB.length).length) := by
    rw [Bool.eq_iff_iff]; simp; omega
  simp only [bin_add, wk, hb2.fB.len, bin_eql, hbe, pureW_some, feedT1_eq, e14]
  have hoB' : opK R.L (chB, trB) = (cutTo lB trB chB 3 lB.length).take k := by rw [hoB, fedTo, if_neg (by omega)]
  refine feedC_ok (m := 3) hG2 f2 (by omega) hSm (by omega) hcB (by omega) (by omega) hchB hd hf hoB' x2 w2 (fun hm => by have := lP _ hm; omega) hb2.sB (fun x hx hm => (hb.bP x hm).2.2.2.2.2.1 hx) fun C FP' G' R' hG' hS' hd' hl' ho' hj' sP' kC nC fC => ?_
  simp only [bin_add, e2, e3, e4, e10, e12, e14, e15, e17, wt, pureW_some]
  refine cutW_self.2 (hS C ⟨⟨G', R', FP', hb2.keeps (FP' := FP') (g := g) kC (fun x hx => .inl hx) fC sP' (by omega), hG', hS', hd', by omega, ?_, ?_, fun j hjA hjB => ?_⟩, (kk.trans kB2 (by simp)).trans kC (fun x hx => .inr (hb.bP x hx).1), by omega, by have := kC.next; omega⟩)
  · rw [hj' _ hne, hoA]
  · rw [ho', fedTo]
  · rw [hj' _ hjB, hoj j hjA hjB]
end
end Go.Proofs.Yteiiledpfhopdaa

namespace Go.Proofs.Yteiiledpfhopdaa
open Go Go.Abs

section
variable {W0 : World} {m0 : Inj Try.prog}
theorem chk0 {tr : Int} {l : List Seg} (h : chk tr l = 0) : l.length ≤ 3 ∧ total l ≤ 16384 := by
  unfold chk at h
  split at h
  · rename_i hh; exact ⟨(shape_tr hh.2).2.2.2.2, hh.1⟩
  · cases h
theorem wc5 {A : AW} {tv : Value} {tl : List Bool} {FT : List Nat} {chA trA : Int} {sA : Value} {lA : List Seg} {FsA : List Nat} {chB trB : Int} {sB : Value} {lB : List Seg} {FsB : List Nat} (hf : Fine A) (hA : A.next + 250000 ≤ maxId) (ht : RdBools A tv tl FT) (hsA : RdSegs A sA lA FsA) (hsB : RdSegs A sB lB FsB)
    (bT : ∀ x ∈ FT, x < A.next) (bA : ∀ x ∈ FsA, x < A.next) (bB : ∀ x ∈ FsB, x < A.next) (htyA : ∀ s ∈ lA, 0 ≤ s.ty) (htyB : ∀ s ∈ lB, 0 ≤ s.ty) (htrA : 0 ≤ trA) (htrB : 0 ≤ trB) (hchA : 0 ≤ chA ∧ chA < 65536) (hchB : 0 ≤ chB ∧ chB < 65536) (hK : KC.Holds Try.prog W0 m0 ⟨8, [], [.bool true]⟩) :
    Wc Try.prog theX W0 m0 5 [asmVal chA trA sA, asmVal chB trB sB, tv] A fun v _ => v = .bool true := by
  have hmax : maxId = 4194304 := rfl
  have hkn : ∀ A', knW Try.prog W0 m0 8 [] A' fun v _ => v = .bool true := fun A' => ⟨[.bool true], by decide, hK, rfl, fun v hv => by simpa using hv⟩
  let Pre : AW → Prop := fun A' => chk trA lA = 0 ∧ chk trB lB = 0 ∧ (chA, trA) ≠ (chB, trB) ∧ Keeps A A' [] ∧ Fine A' ∧ A.next + 2 ≤ A'.next ∧ A'.next ≤ A.next + 20 ∧ Row1 A' A.next (asmCells chA trA sA) 25 ∧ Row1 A' (A.next + 1) (asmCells chB trB sB) 25
  let I : Nat → Nat → List Value → AW → Prop := fun gg id vals A' =>
    (id = 0 ∧ ∃ i : Nat, vals = [tv, .pointer (some ⟨A.next, 0, none⟩), .pointer (some ⟨A.next + 1, 0, none⟩), .int .i64 (total (lA.take i) : Nat), .int .i64 (i : Nat)] ∧ i ≤ lA.length ∧ Pre A' ∧ gg = 4000 - i) ∨
    (id = 2 ∧ ∃ i : Nat, vals = [tv, .pointer (some ⟨A.next, 0, none⟩), .pointer (some ⟨A.next + 1, 0, none⟩), .int .i64 (total lA + total (lB.take i) : Nat), .int .i64 (i : Nat)] ∧ i ≤ lB.length ∧ Pre A' ∧ gg = 3000 - i) ∨
    (id = 4 ∧ ∃ (i k g : Nat) (fA fB : Value) (FfA FfB : List Nat), vals = [tv, .pointer (some ⟨A.next, 0, none⟩), .pointer (some ⟨A.next + 1, 0, none⟩), fA, fB, .pointer (some ⟨g, 0, none⟩), .int .i64 (i : Nat), .int .i64 (k : Nat), .int .i64 ((i + k : Nat) : Int)] ∧
      i ≤ (cutTo lA trA chA 2 lA.length).length ∧ k ≤ (cutTo lB trB chB 3 lB.length).length ∧ (cutTo lA trA chA 2 lA.length).length ≤ 400 ∧ (cutTo lB trB chB 3 lB.length).length ≤ 400 ∧ chk trA lA = 0 ∧ chk trB lB = 0 ∧ (chA, trA) ≠ (chB, trB) ∧
      St A A' tv tl FT A.next (A.next + 1) chA trA sA lA FsA chB trB sB lB FsB fA FfA fB FfB g i k ∧ gg = 2000 - (i + k))
  refine w5 _ _ _ _ (c5 (I := I) ?_) ?_
  · rintro gg id vals A' d hI hd
    rcases hI with ⟨rfl, i, rfl, hi, ⟨hcA, hcB, hne, kk, hf', hlo, hnx, r0, r1⟩, rfl⟩ | ⟨rfl, i, rfl, hi, ⟨hcA, hcB, hne, kk, hf', hlo, hnx, r0, r1⟩, rfl⟩ | ⟨rfl, i, k, g, fA, fB, FfA, FfB, rfl, hi, hk, hlA, hlB, hcA, hcB, hne, hst, rfl⟩
    · have e2 : d 2 = tv := by have := hd; simp only [L5, List.map_cons, List.cons.injEq] at this; exact this.1
      have e3 : d 3 = .pointer (some ⟨A.next, 0, none⟩) := by have := hd; simp only [L5, List.map_cons, List.cons.injEq] at this; exact this.2.1
      have e4 : d 4 = .pointer (some ⟨A.next + 1, 0, none⟩) := by have := hd; simp only [L5, List.map_cons, List.cons.injEq] at this; exact this.2.2.1
      have e7 : d 7 = .int .i64 (total (lA.take i) : Nat) := by have := hd; simp only [L5, List.map_cons, List.cons.injEq] at this; exact this.2.2.2.1
      have e8 : d 8 = .int .i64 (i : Nat) := by have := hd; simp only [L5, List.map_cons, List.cons.injEq] at this; exact this.2.2.2.2.1
      have hsA' := hsA.keeps kk (by simp)
      have h3 := chk0 hcA
      have ht1 := total_take_le lA i
      have ht2 := total_take_le lA (i + 1)
      rw [l5_0]
      simp only [e2, e3, e4, e7, e8, fa_25_2, ld_23, cell_row r0.row, asmCells, cellOf, hsA.one.2, isT_int, cond_false, pureW_some, (hsA'.isSegs hf').len, bin_lss, forkW_dec, Nat.zero_add]
      refine ⟨fun hlt => ?_, fun hge => ?_⟩
      · have hlt : i < lA.length := by omega
        obtain ⟨s, hs⟩ : ∃ s, lA[i]? = some s := ⟨_, List.getElem?_eq_getElem hlt⟩
        obtain ⟨r, o, g1, g2⟩ := hsA'.at hf' hs
        have hts := total_snoc hs
        have hsl : slen s.pay = s.pay.data.toList.length := rfl
        have wi : IntKind.i64.wrap ((i : Int) + 1) = ((i + 1 : Nat) : Int) := by rw [wrap_i64 (by omega) (by omega)]; omega
        have wn : IntKind.i64.wrap (((total (lA.take i) : Nat) : Int) + ((s.pay.data.toList.length : Nat) : Int)) = ((total (lA.take (i + 1)) : Nat) : Int) := by rw [wrap_i64 (by omega) (by omega)]; omega
        simp only [g1, g2, fa_28_1, ld_9, ln_9, pureW_some, bin_add, wi, wn]
        exact cutW_self.2 ⟨4000 - (i + 1), by omega, .inl ⟨rfl, i + 1, rfl, by omega, ⟨hcA, hcB, hne, kk, hf', hlo, hnx, r0, r1⟩, rfl⟩⟩
      · have hi : i = lA.length := by omega
        subst hi
        rw [List.take_length]
        refine cutW_self.2 ⟨3000 - 0, by omega, .inr (.inl ⟨rfl, 0, ?_, Nat.zero_le _, ⟨hcA, hcB, hne, kk, hf', hlo, hnx, r0, r1⟩, rfl⟩)⟩
        have : total lA + total (lB.take 0) = total lA := by simp [total]
        rw [this]; rfl
    · have e2 : d 2 = tv := by have := hd; simp only [L5, List.map_cons, List.cons.injEq] at this; exact this.1
      have e3 : d 3 = .pointer (some ⟨A.next, 0, none⟩) := by have := hd; simp only [L5, List.map_cons, List.cons.injEq] at this; exact this.2.1
      have e4 : d 4 = .pointer (some ⟨A.next + 1, 0, none⟩) := by have := hd; simp only [L5, List.map_cons, List.cons.injEq] at this; exact this.2.2.1
      have e7 : d 7 = .int .i64 (total lA + total (lB.take i) : Nat) := by have := hd; simp only [L5, List.map_cons, List.cons.injEq] at this; exact this.2.2.2.1
      have e9 : d 9 = .int .i64 (i : Nat) := by have := hd; simp only [L5, List.map_cons, List.cons.injEq] at this; exact this.2.2.2.2.1
      have hsA' := hsA.keeps kk (by simp)
      have hsB' := hsB.keeps kk (by simp)
      have h3 := chk0 hcA
      have h4 := chk0 hcB
      have ht1 := total_take_le lB i
      have ht2 := total_take_le lB (i + 1)
      rw [l5_2]
      simp only [e2, e3, e4, e7, e9, fa_25_2, ld_23, cell_row r1.row, asmCells, cellOf, hsB.one.2, isT_int, cond_false, pureW_some, (hsB'.isSegs hf').len, bin_lss, forkW_dec, Nat.zero_add]
      refine ⟨fun hlt => ?_, fun hge => ?_⟩
      · have hlt : i < lB.length := by omega
        obtain ⟨s, hs⟩ : ∃ s, lB[i]? = some s := ⟨_, List.getElem?_eq_getElem hlt⟩
        obtain ⟨r, o, g1, g2⟩ := hsB'.at hf' hs
        have hts := total_snoc hs
        have hsl : slen s.pay = s.pay.data.toList.length := rfl
        have wi : IntKind.i64.wrap ((i : Int) + 1) = ((i + 1 : Nat) : Int) := by rw [wrap_i64 (by omega) (by omega)]; omega
        have wn : IntKind.i64.wrap (((total lA + total (lB.take i) : Nat) : Int) + ((s.pay.data.toList.length : Nat) : Int)) = ((total lA + total (lB.take (i + 1)) : Nat) : Int) := by rw [wrap_i64 (by omega) (by omega)]; omega
        simp only [g1, g2, fa_28_1, ld_9, ln_9, pureW_some, bin_add, wi, wn]
        exact cutW_self.2 ⟨3000 - (i + 1), by omega, .inr (.inl ⟨rfl, i + 1, rfl, by omega, ⟨hcA, hcB, hne, kk, hf', hlo, hnx, r0, r1⟩, rfl⟩)⟩
      · have hi : i = lB.length := by omega
        subst hi
        rw [List.take_length]
        simp only [bin_gtr, forkW_dec, pureW_some]
        refine ⟨fun _ => hkn A', fun hle => ?_⟩
        have hle : total lA + total lB ≤ 300 := by omega
        have hcutA := cutTo_length (l := lA) (tr := trA) (ch := chA) (m := 2) (by omega) lA.length (Nat.le_refl _)
        have hcutB := cutTo_length (l := lB) (tr := trB) (ch := chB) (m := 3) (by omega) lB.length (Nat.le_refl _)
        rw [List.take_length] at hcutA hcutB
        rw [ld_asm r0 hsA.one.2, pureW_some]
        refine wc9 (m := 2) hf' (by omega) (hsA'.isSegs hf') (by omega) htrA (by omega) (by omega) hcA fun A1 fA x1 f1 n1 hfA => ?_
        have k1 := x1.keeps hf'
        obtain ⟨FfA, hfA, bFA⟩ := OwnS.ownG hfA
        have r11 := r1.keeps k1 (by simp)
        have hsB1 := hsB'.keeps k1 (by simp)
        have hk1n := k1.next
        simp only [extractP, List.getElem?_cons_zero, List.getElem?_cons_succ, pureW_some, ld_asm r11 hsB.one.2]
        refine wc9 (m := 3) f1 (by omega) (hsB1.isSegs f1) (by omega) htrB (by omega) (by omega) hcB fun A2 fB x2 f2 n2 hfB => ?_
        have k2 := x2.keeps f1
        obtain ⟨FfB, hfB, bFB⟩ := OwnS.ownG hfB
        have hk2n := k2.next
        simp only [extractP, List.getElem?_cons_zero, List.getElem?_cons_succ, pureW_some, bin_neq, bne_self_eq_false, forkW_bool, Bool.false_eq_true, false_implies, true_implies, true_and]
        refine wc14 f2 (by omega) fun A3 hG3 k3 n3 f3 => ?_
        have k13 : Keeps A A3 [] := ((kk.trans k1 (by simp)).trans k2 (by simp)).trans k3 (by simp)
        have k'3 : Keeps A' A3 [] := (k1.trans k2 (by simp)).trans k3 (by simp)
        have hfA3 := (hfA.keeps k2 (by simp)).keeps k3 (by simp)
        have hfB3 := hfB.keeps k3 (by simp)
        have lfA := hfA.lt
        have lfB := hfB.lt
        refine cutW_self.2 ⟨2000 - (0 + 0), by omega, .inr (.inr ⟨rfl, 0, 0, A2.next + 1, fA, fB, FfA, FfB, rfl, Nat.zero_le _, Nat.zero_le _, by omega, by omega, hcA, hcB, hne, ⟨⟨⟨[], false⟩, ⟨[], false⟩, [A2.next + 1, A2.next], ⟨ht.keeps k13 (by simp), r0.keeps k'3 (by simp), r1.keeps k'3 (by simp), hsA.keeps k13 (by simp), hsB.keeps k13 (by simp), OwnG.rdFr hfA3, OwnG.rdFr hfB3, f3, fun x hx => ?_, fun x hx => ?_⟩, hG3, .empty, rfl, Nat.zero_le _, ?_, ?_, fun j _ _ => rfl⟩, k13, by omega, by omega⟩, rfl⟩)⟩
        · have hx : x = A2.next + 1 ∨ x = A2.next := by simpa using hx
          refine ⟨by omega, by omega, by omega, fun hm => ?_, fun hm => ?_, fun hm => ?_, fun hm => ?_, fun hm => ?_⟩
          · have := bT x hm; omega
          · have := bA x hm; omega
          · have := bB x hm; omega
          · have := lfA x hm; omega
          · have := lfB x hm; omega
        · rcases hx with h | h | h | h | h | h | h
          · omega
          · omega
          · have := bT x h; omega
          · have := bA x h; omega
          · have := bB x h; omega
          · have := lfA x h; omega
          · have := lfB x h; omega
        · unfold fedTo; split <;> rfl
        · unfold fedTo; split <;> rfl
    · have e2 : d 2 = tv := by have := hd; simp only [L5, List.map_cons, List.cons.injEq] at this; exact this.1
      have e3 : d 3 = .pointer (some ⟨A.next, 0, none⟩) := by have := hd; simp only [L5, List.map_cons, List.cons.injEq] at this; exact this.2.1
      have e4 : d 4 = .pointer (some ⟨A.next + 1, 0, none⟩) := by have := hd; simp only [L5, List.map_cons, List.cons.injEq] at this; exact this.2.2.1
      have e10 : d 10 = fA := by have := hd; simp only [L5, List.map_cons, List.cons.injEq] at this; exact this.2.2.2.1
      have e12 : d 12 = fB := by have := hd; simp only [L5, List.map_cons, List.cons.injEq] at this; exact this.2.2.2.2.1
      have e14 : d 14 = .pointer (some ⟨g, 0, none⟩) := by have := hd; simp only [L5, List.map_cons, List.cons.injEq] at this; exact this.2.2.2.2.2.1
      have e15 : d 15 = .int .i64 (i : Nat) := by have := hd; simp only [L5, List.map_cons, List.cons.injEq] at this; exact this.2.2.2.2.2.2.1
      have e16 : d 16 = .int .i64 (k : Nat) := by have := hd; simp only [L5, List.map_cons, List.cons.injEq] at this; exact this.2.2.2.2.2.2.2.1
      have e17 : d 17 = .int .i64 ((i + k : Nat) : Int) := by have := hd; simp only [L5, List.map_cons, List.cons.injEq] at this; exact this.2.2.2.2.2.2.2.2.1
      have hst' := hst
      obtain ⟨⟨G, R, FP, hb, hG, hSm, hdd, hl, hoA, hoB, hoj⟩, kk, hnx, hlo⟩ := hst'
      have nextA : ∀ C, St A C tv tl FT A.next (A.next + 1) chA trA sA lA FsA chB trB sB lB FsB fA FfA fB FfB g (i + 1) k → i < (cutTo lA trA chA 2 lA.length).length →
          ∃ g', g' < 2000 - (i + k) ∧ I g' 4 [tv, .pointer (some ⟨A.next, 0, none⟩), .pointer (some ⟨A.next + 1, 0, none⟩), fA, fB, .pointer (some ⟨g, 0, none⟩), .int .i64 ((i + 1 : Nat) : Int), .int .i64 (k : Nat), .int .i64 ((i + k + 1 : Nat) : Int)] C := fun C hC hi =>
        ⟨2000 - (i + 1 + k), by omega, .inr (.inr ⟨rfl, i + 1, k, g, fA, fB, FfA, FfB, by rw [show i + k + 1 = i + 1 + k by omega], by omega, hk, hlA, hlB, hcA, hcB, hne, hC, rfl⟩)⟩
      have nextB : ∀ C, St A C tv tl FT A.next (A.next + 1) chA trA sA lA FsA chB trB sB lB FsB fA FfA fB FfB g i (k + 1) → k < (cutTo lB trB chB 3 lB.length).length →
          ∃ g', g' < 2000 - (i + k) ∧ I g' 4 [tv, .pointer (some ⟨A.next, 0, none⟩), .pointer (some ⟨A.next + 1, 0, none⟩), fA, fB, .pointer (some ⟨g, 0, none⟩), .int .i64 (i : Nat), .int .i64 ((k + 1 : Nat) : Int), .int .i64 ((i + k + 1 : Nat) : Int)] C := fun C hC hk =>
        ⟨2000 - (i + (k + 1)), by omega, .inr (.inr ⟨rfl, i, k + 1, g, fA, fB, FfA, FfB, by rw [show i + k + 1 = i + (k + 1) by omega], hi, by omega, hlA, hlB, hcA, hcB, hne, hC, rfl⟩)⟩
      have goA : i < (cutTo lA trA chA 2 lA.length).length → prep W0 m0 (fun id' v' A' => ∃ g', g' < 2000 - (i + k) ∧ I g' id' v' A') (fun v _ => v = .bool true) d A' := by
        intro hi
        unfold prep
        rw [e4]
        exact prep_ok (C := fun B w x => takeA W0 m0 _ _ d B w x) hb.r1 hb.sB.one hb.fine (by omega) fun B w x kB nB fB' => takeA_ok hcA hchA hcB hne hlA hlB e2 e3 e4 e10 e12 e14 e15 e16 e17 (by omega) (by omega) hst hi hk rfl rfl w x kB nB fB' fun C hC => nextA C hC hi
      have goB : k < (cutTo lB trB chB 3 lB.length).length → prep1 W0 m0 (fun id' v' A' => ∃ g', g' < 2000 - (i + k) ∧ I g' id' v' A') (fun v _ => v = .bool true) d A' := by
        intro hk
        unfold prep1
        rw [e4]
        exact prep_ok (C := fun B w x => takeB W0 m0 _ _ d B x w) hb.r1 hb.sB.one hb.fine (by omega) fun B w x kB nB fB' => takeB_ok hcA hchB hcB hne hlA hlB e2 e3 e4 e10 e12 e14 e15 e16 e17 (by omega) (by omega) hst hi hk rfl rfl w x kB nB fB' fun C hC => nextB C hC hk
      have goAB : i < (cutTo lA trA chA 2 lA.length).length → k < (cutTo lB trB chB 3 lB.length).length → ∀ b, prep2 W0 m0 (fun id' v' A' => ∃ g', g' < 2000 - (i + k) ∧ I g' id' v' A') (fun v _ => v = .bool true) d A' (.bool b) := by
        intro hi hk b
        unfold prep2
        rw [e4]
        refine prep_ok (C := fun B w x => forkW (.bool b) (takeA W0 m0 _ _ d B w x) (takeB W0 m0 _ _ d B x w)) hb.r1 hb.sB.one hb.fine (by omega) fun B w x kB nB fB' => ?_
        exact forkW_bool.2 ⟨fun _ => takeA_ok hcA hchA hcB hne hlA hlB e2 e3 e4 e10 e12 e14 e15 e16 e17 (by omega) (by omega) hst hi (by omega) rfl rfl w x kB nB fB' fun C hC => nextA C hC hi,
          fun _ => takeB_ok hcA hchB hcB hne hlA hlB e2 e3 e4 e10 e12 e14 e15 e16 e17 (by omega) (by omega) hst (by omega) hk rfl rfl w x kB nB fB' fun C hC => nextB C hC hk⟩
      rw [l5_4r]
      simp only [e2, e10, e12, e14, e15, e16, e17, hb.fA.len, hb.fB.len, hb.tv.len, pureW_some, bin_lss, bin_eql, forkW_dec, forkW_beq]
      have inTl : ((i + k : Nat) : Int) < ((tl.length : Nat) : Int) → ∃ b a, indexAddrA Try.prog 53 tv (.int .i64 ((i + k : Nat) : Int)) = some (.pointer (some a)) ∧ loadP Try.prog A' 54 (.pointer (some a)) = some (.bool b) := by
        intro h
        have h : i + k < tl.length := by omega
        obtain ⟨b, hb2⟩ : ∃ b, tl[i + k]? = some b := ⟨_, List.getElem?_eq_getElem h⟩
        obtain ⟨a, g1, g2⟩ := hb.tv.at hb2
        exact ⟨b, a, g1, g2⟩
      refine ⟨fun hil => ?_, fun hil => ⟨fun hkl => ?_, fun hkl => ?_⟩⟩
      · have hi : i < (cutTo lA trA chA 2 lA.length).length := by omega
        refine ⟨fun htl => ?_, fun _ => ⟨fun h => absurd h (by omega), fun _ => ⟨fun _ => goA hi, fun h => goB (by omega)⟩⟩⟩
        obtain ⟨b, a, g1, g2⟩ := inTl htl
        simp only [g1, g2, pureW_some, forkW_beq]
        exact ⟨fun h => absurd h (by omega), fun _ => ⟨fun _ => goA hi, fun h => goAB hi (by omega) b⟩⟩
      · have hk : k < (cutTo lB trB chB 3 lB.length).length := by omega
        refine ⟨fun htl => ?_, fun _ => ⟨fun _ => ⟨fun h => absurd h (by omega), fun _ => goB hk⟩, fun h => absurd h (by omega)⟩⟩
        obtain ⟨b, a, g1, g2⟩ := inTl htl
        simp only [g1, g2, pureW_some, forkW_beq]
        exact ⟨fun _ => ⟨fun h => absurd h (by omega), fun _ => goB hk⟩, fun h => absurd h (by omega)⟩
      · have hi : i = (cutTo lA trA chA 2 lA.length).length := by omega
        have hk : k = (cutTo lB trB chB 3 lB.length).length := by omega
        refine wc18 hG ?_
        have hnil : R.L = [] := opK_nil_of fun j => by
          by_cases h1 : j = (chA, trA)
          · rw [h1, hoA, fedTo, if_pos hi]
          · by_cases h2 : j = (chB, trB)
            · rw [h2, hoB, fedTo, if_pos hk]
            · exact hoj j h1 h2
        have hz : G.m.length = 0 := by rw [← hSm.open, hnil]; rfl
        simp only [hz, bin_eql, pureW_some, forkW_beq]
        exact ⟨fun _ => hkn A', fun h => absurd rfl h⟩
  · rw [e5]
    refine newP_made hf (by omega) (by simp only [asmVal, Value.cells, asmCells, List.all_cons, hsA.one.1]; rfl) fun A1 m1 => ?_
    have n1e := m1.next
    have k1 := m1.keeps hf
    refine newP_made m1.fine (by omega) (by simp only [asmVal, Value.cells, asmCells, List.all_cons, hsB.one.1]; rfl) fun A2 m2 => ?_
    have n2e := m2.next
    have k2 := m2.keeps m1.fine
    have r0 : Row1 A2 A.next (asmCells chA trA sA) 25 := m1.row1.keeps k2 (by simp)
    have r1 : Row1 A2 A1.next (asmCells chB trB sB) 25 := m2.row1
    rw [n1e] at r1 ⊢
    have k12 : Keeps A A2 [] := k1.trans k2 (by simp)
    rw [ld_asm r0 hsA.one.2, pureW_some]
    refine wc12t m2.fine (by omega) ((hsA.keeps k12 (by simp)).isSegs m2.fine) htyA htrA fun A3 x3 f3 n3 => ?_
    have k3 := x3.keeps m2.fine
    have hk3 := k3.next
    have r0 := r0.keeps k3 (by simp)
    have r1 := r1.keeps k3 (by simp)
    have k13 : Keeps A A3 [] := k12.trans k3 (by simp)
    simp only [bin_neq, pureW_some, forkW_bne]
    refine ⟨fun _ => hkn A3, fun hcA => ?_⟩
    rw [ld_asm r1 hsB.one.2, pureW_some]
    refine wc12t f3 (by omega) ((hsB.keeps k13 (by simp)).isSegs f3) htyB htrB fun A4 x4 f4 n4 => ?_
    have k4 := x4.keeps f3
    have hk4 := k4.next
    have r0 := r0.keeps k4 (by simp)
    have r1 := r1.keeps k4 (by simp)
    have k14 : Keeps A A4 [] := k13.trans k4 (by simp)
    simp only [bin_neq, pureW_some, forkW_bne]
    refine ⟨fun _ => hkn A4, fun hcB => ?_⟩
    have next : (chA, trA) ≠ (chB, trB) → cutW (T5 0) (T5 0) (∃ g, I g 0 [tv, .pointer (some ⟨A.next, 0, none⟩), .pointer (some ⟨A.next + 1, 0, none⟩), .int .i64 0, .int .i64 0] A4) := fun hne =>
      cutW_self.2 ⟨4000 - 0, .inl ⟨rfl, 0, rfl, Nat.zero_le _, ⟨hcA, hcB, hne, k14, f4, by omega, by omega, r0, r1⟩, rfl⟩⟩
    simp only [fa_25_0, fa_25_1, ld_22, ld_5, cell_row r0.row, cell_row r1.row, asmCells, cellOf, isT_int, cond_false, pureW_some, bin_eql, forkW_beq, Nat.zero_add]
    exact ⟨fun h1 => ⟨fun _ => hkn A4, fun h2 => next fun h => h2 (Prod.ext_iff.1 h).2⟩, fun h1 => next fun h => h1 (Prod.ext_iff.1 h).1⟩
end
end Go.Proofs.Yteiiledpfhopdaa
