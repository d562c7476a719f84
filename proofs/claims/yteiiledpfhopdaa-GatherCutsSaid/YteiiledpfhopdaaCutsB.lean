/-
  The document's Cut answers the same, and the law answers true, in the abstract machine. Conditions: those of each theorem.
-/
import Derived.Test.YteiiledpfhopdaaCutsA
import Derived.Test.YteiiledpfhopdaaAbsH
import Derived.Test.YteiiledpfhopdaaRows
import Derived.Lib.SmallJoins
import Derived.Carry

namespace Go.Proofs.Yteiiledpfhopdaa
open Go.Abs

theorem build45b (b0 b1 b2 b3 : Bool) (ty tr ch : Int) (s : ByteArray) : buildA Try.prog 45 [(0, .bool b0), (1, .bool b1), (2, .bool b2), (3, .bool b3), (4, .int .u8 ty), (5, .int .u8 tr), (6, .int .u16 ch), (7, .string s)] = some (.agg ⟨[.bool b0, .bool b1, .bool b2, .bool b3, .int .u8 ty, .int .u8 tr, .int .u16 ch, .string s]⟩) := by kernel_rfl
theorem fresh45 (f : Fr) : freshOf Try.prog (evalT (Tm.fill ⟨1, .nil⟩ 0 [f.val])) (.buildSlice 29 1 #[(0, .tmp 0)]) = some (.slice f.cells 45 1) := by kernel_rfl
theorem frame_same (f : Fr) : sameL (sameV 6) f.cells f.cells = true := by
  simp only [Fr.cells, sameL, same_bool, same_int, same_string, Bool.and_self]
theorem freshW_frame {f : Fr} {A : AW} {b : Nat} {p : Prop} (h : A.get b = some (.row f.cells 45 b 0 false)) (hp : p) : freshW (freshOf Try.prog (evalT (Tm.fill ⟨1, .nil⟩ 0 [f.val])) (.buildSlice 29 1 #[(0, .tmp 0)])) A (.slice (some ⟨b, 0, none⟩) 1 1) p := by
  refine ⟨⟨_, fresh45 f, ?_⟩, hp⟩
  simp only [stillFresh, rowHas, h, frame_same, Option.isNone_none, Bool.true_and, Nat.beq_refl, Bool.and_self]
theorem str_mid (A : AW) (s : ByteArray) (x y : Nat) (h1 : x ≤ y) (h2 : y ≤ s.data.toList.length) : sliceA Try.prog A 9 (.string s) (some (.int .i64 (x : Int))) (some (.int .i64 (y : Int))) none = some (.string ⟨⟨(s.data.toList.take y).drop x⟩⟩) := by
  show sliceA Try.prog A 9 (.string s) (some (.int .i64 (.ofNat x))) (some (.int .i64 (.ofNat y))) none = _
  unfold sliceA
  rw [Try.underlying9]
  simp only [bounds, okMax, boundA, ble_true.2 h1, ble_true.2 h2, Option.isSome_some, Option.isSome_none, Bool.not_false, Bool.or_true, cond_true]
theorem chunk_seg {first last : Bool} {ty tr ch : Int} {m F : Nat} {beg : Bool} {pay : List UInt8} (hm : 0 < m) (hF : F ≤ pay.length) :
    segFr first last ty tr ch m beg (pay.drop F) = ⟨first, last, beg, (min (F + m) pay.length == pay.length), ty, tr, ch, ⟨⟨(pay.take (min (F + m) pay.length)).drop F⟩⟩⟩ :: (if pay.length ≤ F + m then [] else segFr first last ty tr ch m false (pay.drop (F + m))) := by
  rcases Nat.lt_or_ge (F + m) pay.length with h | h
  · rw [segFr_more (by rw [List.length_drop]; omega) hm, if_neg (by omega), List.drop_drop]
    have e1 : min (F + m) pay.length = F + m := by omega
    have e2 : (F + m == pay.length) = false := by simp; omega
    have e3 : (pay.take (F + m)).drop F = (pay.drop F).take m := by rw [List.drop_take]; congr 1; omega
    rw [e1, e2, e3]
  · rw [segFr_one (by rw [List.length_drop]; omega), if_pos h]
    have e1 : min (F + m) pay.length = pay.length := by omega
    rw [e1, List.take_length]
    simp

section
variable {W0 : World} {m0 : Inj Try.prog}
/-- the document's Cut, where Check lets the assembly be -/
theorem wc10 {ch tr : Int} {sv : Value} {l : List Seg} {m : Nat} {A : AW} {K : Value → AW → Prop} (hf : Fine A) (hA : A.next + 70000 ≤ maxId) (hl : IsSegs A sv l) (hn : l.length ≤ 1000) (htr : 0 ≤ tr) (hm : 0 < m) (hm2 : m ≤ 4084) (hok : chk tr l = 0)
    (hk : ∀ A' v, Ext A A' → Fine A' → A'.next ≤ A.next + 60000 → OwnS A.next A' 45 8 v (cutTo l tr ch m l.length).length (frCells (cutTo l tr ch m l.length)) → K (.tuple ⟨[v, .int .i64 0]⟩) A') :
    Wc Try.prog theX W0 m0 10 [asmVal ch tr sv, .int .i64 m] A K := by
  have hmax : maxId = 4194304 := rfl
  have hroom : room = 68719476736 := rfl
  have htot : total l ≤ 16384 := by
    unfold chk at hok
    split at hok
    · rename_i h; exact h.1
    · cases hok
  let I : Nat → Nat → List Value → AW → Prop := fun g id vals A' =>
    (id = 0 ∧ ∃ (i : Nat) (v : Value), vals = [.int .i64 m, .pointer (some ⟨A.next, 0, none⟩), v, .int .i64 i] ∧ i ≤ l.length ∧ Ext A A' ∧ Fine A' ∧ A.next < A'.next ∧
      A'.get A.next = some (.row (asmCells ch tr sv) 25 A.next 0 false) ∧ OwnS (A.next + 1) A' 45 8 v (cutTo l tr ch m i).length (frCells (cutTo l tr ch m i)) ∧
      A'.next ≤ A.next + 3 + 2 * (cutTo l tr ch m i).length ∧ g = (l.length - i) * 50000) ∨
    (id = 2 ∧ ∃ (i F : Nat) (v : Value) (s : Seg) (done : List Fr), vals = [.int .i64 m, .pointer (some ⟨A.next, 0, none⟩), v, .int .i64 i, .string s.pay, .int .i64 F] ∧
      l[i]? = some s ∧ Ext A A' ∧ Fine A' ∧ A.next < A'.next ∧ A'.get A.next = some (.row (asmCells ch tr sv) 25 A.next 0 false) ∧
      OwnS (A.next + 1) A' 45 8 v (cutTo l tr ch m i ++ done).length (frCells (cutTo l tr ch m i ++ done)) ∧
      done ++ (if F = 0 ∨ F < slen s.pay then segFr (i == 0) (i + 1 == l.length) s.ty tr ch m (F == 0) (s.pay.data.toList.drop F) else []) = segAt l tr ch m i ∧ done.length ≤ F ∧ F ≤ slen s.pay + m ∧
      A'.next ≤ A.next + 3 + 2 * (cutTo l tr ch m i ++ done).length ∧ g = (l.length - i - 1) * 50000 + (30000 - F) + 1)
  refine w10 _ _ _ (c10 (I := I) ?_) ?_
  · rintro g id vals A' d (⟨rfl, i, v, rfl, hi, hx, hf', hlt0, hg, hv, hnx, rfl⟩ | ⟨rfl, i, F, v, s, done, rfl, hs, hx, hf', hlt0, hg, hv, hdone, hle, hFm, hnx, rfl⟩) hd
    · rw [l10_0]
      have h1 : d 1 = .int .i64 (m : Nat) := by simp [L10] at hd; exact hd.1
      have h2 : d 2 = .pointer (some ⟨A.next, 0, none⟩) := by simp [L10] at hd; exact hd.2.1
      have h6 : d 6 = v := by simp [L10] at hd; exact hd.2.2.1
      have h7 : d 7 = .int .i64 (i : Nat) := by simp [L10] at hd; exact hd.2.2.2
      have hct := cutTo_length (l := l) (tr := tr) (ch := ch) hm i hi
      have htt : total (l.take i) ≤ total l := by
        have : total l = total (l.take i) + total (l.drop i) := by
          conv => lhs; rw [← List.take_append_drop i l]
          exact total_append _ _
        omega
      have hl' := hl.ext hx
      simp only [h1, h2, h6, h7, fa_25_2, ld_23, cell_row hg, asmCells, cellOf, hl.one.2, isT_int, cond_false, pureW_some, hl'.len, bin_lss, forkW_dec, Nat.zero_add]
      refine ⟨fun hlt => ?_, fun hge => ?_⟩
      · have hlt : i < l.length := by omega
        obtain ⟨s, hs⟩ : ∃ s, l[i]? = some s := ⟨l[i], List.getElem?_eq_getElem hlt⟩
        obtain ⟨r, o, g1, g2, g3, g4, g5⟩ := hl'.at hs
        simp only [g1, pureW_some, fa_28_1, ld_9, g3]
        refine cutW_self.2 ⟨(l.length - i - 1) * 50000 + (30000 - 0) + 1, by omega, .inr ⟨rfl, i, 0, v, s, [], rfl, hs, hx, hf', hlt0, hg, by rw [List.append_nil]; exact hv, ?_, Nat.le_refl _, Nat.zero_le _, by rw [List.append_nil]; exact hnx, rfl⟩⟩
        rw [if_pos (.inl rfl), List.nil_append, List.drop_zero]
        unfold segAt
        rw [hs]
        rfl
      · have hi : i = l.length := by omega
        subst hi
        exact hk A' v hx hf' (by omega) (hv.low (by omega))
    · rw [l10_2]
      have h1 : d 1 = .int .i64 (m : Nat) := by simp [L10] at hd; exact hd.1
      have h2 : d 2 = .pointer (some ⟨A.next, 0, none⟩) := by simp [L10] at hd; exact hd.2.1
      have h6 : d 6 = v := by simp [L10] at hd; exact hd.2.2.1
      have h7 : d 7 = .int .i64 (i : Nat) := by simp [L10] at hd; exact hd.2.2.2.1
      have h8 : d 8 = .string s.pay := by simp [L10] at hd; exact hd.2.2.2.2.1
      have h9 : d 9 = .int .i64 (F : Nat) := by simp [L10] at hd; exact hd.2.2.2.2.2
      have hlt : i < l.length := (List.getElem?_eq_some_iff.1 hs).1
      have hct := cutTo_length (l := l) (tr := tr) (ch := ch) hm i (by omega)
      have htm := total_mem hs
      have hl' := hl.ext hx
      obtain ⟨r, o, g1, g2, g3, g4, g5⟩ := hl'.at hs
      have hpl : s.pay.data.toList.length = slen s.pay := rfl
      have hmin : (if (slen s.pay : Int) < ((F : Int) + (m : Int)) then (slen s.pay : Int) else ((F : Int) + (m : Int))) = ((min (F + m) (slen s.pay) : Nat) : Int) := by
        split <;> omega
      have e9 : IntKind.i64.wrap ((l.length : Int) - 1) = (l.length : Int) - 1 := wrap_i64 (by omega) (by omega)
      have eF : IntKind.i64.wrap ((F : Int) + (m : Int)) = (F : Int) + (m : Int) := wrap_i64 (by omega) (by omega)
      have eb1 : (((min (F + m) (slen s.pay) : Nat) : Int) == (slen s.pay : Int)) = (min (F + m) (slen s.pay) == slen s.pay) := by rw [Bool.eq_iff_iff]; simp; omega
      have hl0 : A'.next + 10 < maxId := by rw [List.length_append] at hnx; omega
      simp only [h9, bin_eql, pureW_some, forkW_beq]
      refine ⟨fun hF0 => ?_, fun hF0 => ?_⟩
      · have hF0 : F = 0 := by omega
        have hmid : ∀ B : AW, sliceA Try.prog B 9 (.string s.pay) (some (.int .i64 (F : Int))) (some (.int .i64 ((min (F + m) (slen s.pay) : Nat) : Int))) none = some (.string ⟨⟨(s.pay.data.toList.take (min (F + m) (slen s.pay))).drop F⟩⟩) := fun B => str_mid B s.pay F _ (by omega) (by rw [hpl]; omega)
        simp only [h1, h2, h6, h7, h8, h9, bin_add, eF, pureW_some, ln_9, hpl, min_two, hmin, bin_eql, fa_25_0, fa_25_1, fa_25_2, ld_23, ld_22, ld_5, cell_row hg, asmCells, cellOf, hl.one.2, isT_int, cond_false, hl'.len, bin_sub, e9, g1, fa_28_0, g2, hmid, beq_cast0, beq_castL, eb1, build45b, Nat.zero_add]
        refine bslice_made (f := ⟨i == 0, i + 1 == l.length, F == 0, min (F + m) (slen s.pay) == slen s.pay, s.ty, tr, ch, ⟨⟨(s.pay.data.toList.take (min (F + m) (slen s.pay))).drop F⟩⟩⟩) hf' (by omega) fun A7 m7 => ?_
        have hg7 : A7.get A.next = some (.row (asmCells ch tr sv) 25 A.next 0 false) := by rw [m7.ext.get _ hlt0]; exact hg
        have hx7 := hx.trans m7.ext
        have hl7 := hl.ext hx7
        have g27 : A7.cell? ⟨r, o, none⟩ = some (.int .u8 s.ty) := by rw [cell_ext m7.ext g5]; exact g2
        refine freshW_frame m7.row ?_
        simp only [fa_25_0, fa_25_1, fa_25_2, ld_23, ld_22, ld_5, cell_row hg7, asmCells, cellOf, hl.one.2, isT_int, cond_false, pureW_some, hl7.len, ln_9, hpl, eqW_self, g1, fa_28_0, g27, hmid, beq_cast0, beq_castL, eb1, Nat.zero_add]
        generalize hfr : (⟨i == 0, i + 1 == l.length, F == 0, min (F + m) (slen s.pay) == slen s.pay, s.ty, tr, ch, ⟨⟨(s.pay.data.toList.take (min (F + m) (slen s.pay))).drop F⟩⟩⟩ : Fr) = fr at m7 ⊢
        have hv7 := hv.made hf' m7
        have hsrc : sourceZ Try.prog A7 45 29 (7 + 1) (.slice (some ⟨A'.next, 0, none⟩) 1 1) = some (0 + 1, fr.cells) := by
          rw [src29, cells_row m7.row]; rfl
        have hlen : (cutTo l tr ch m i ++ done).length ≤ 40000 := by
          rw [List.length_append]; omega
        obtain ⟨v', A8, e8, ap⟩ := append_own (P := Try.prog) sl29 sz45 by45 hz45 hsrc rfl rfl hv7 m7.fine (by rw [m7.next]; omega) (by rw [m7.next]; omega) (by rw [hroom]; omega) (by rw [hroom]; omega)
        rw [e8]
        refine bothW_ok.2 ?_
        have hcat : frCells (cutTo l tr ch m i ++ done) ++ fr.cells = frCells (cutTo l tr ch m i ++ (done ++ [fr])) := by
          rw [← List.append_assoc, frCells_append (cutTo l tr ch m i ++ done)]; simp [frCells]
        have hcl : (cutTo l tr ch m i ++ done).length + (0 + 1) = (cutTo l tr ch m i ++ (done ++ [fr])).length := by simp; omega
        have hn7 : A7.next = A'.next + 1 := m7.next
        have hx8 : Ext A A8 := ⟨by rw [ap.next]; have := hx7.next; omega, fun j hj => by rw [ap.get j (by omega) fun b' f hvv ho hi' => by have := (ho.mem j hi').1; omega]; exact hx7.get j hj,
          fun g hg => by rw [ap.mem g (by omega) fun b' f hvv ho => by have := ho.lof; omega]; exact hx7.mem g hg⟩
        have hg8 : A8.get A.next = some (.row (asmCells ch tr sv) 25 A.next 0 false) := by
          rw [ap.get _ (by omega) fun b' f hvv ho hi' => by have := (ho.mem _ hi').1; omega]
          exact hg7
        have hv8 := ap.own
        rw [hcat, hcl] at hv8
        have hl9 : (cutTo l tr ch m i ++ (done ++ [fr])).length = (cutTo l tr ch m i ++ done).length + 1 := by simp; omega
        have hcs := chunk_seg (first := i == 0) (last := i + 1 == l.length) (ty := s.ty) (tr := tr) (ch := ch) (beg := F == 0) (pay := s.pay.data.toList) hm (F := F) (by rw [hpl]; omega)
        rw [hpl, hfr] at hcs
        rw [if_pos (.inl hF0), hcs] at hdone
        refine cutW_self.2 ⟨(l.length - i - 1) * 50000 + (30000 - (F + m)) + 1, by omega, .inr ⟨rfl, i, F + m, v', s, done ++ [fr], by simp, hs, hx8, ap.fine, by rw [ap.next]; omega, hg8, hv8, ?_, by simp; omega, by omega, by rw [ap.next, hl9]; omega, rfl⟩⟩
        rw [← hdone, List.append_assoc]
        congr 1
        rw [List.singleton_append]
        congr 1
        have e0 : (F + m == 0) = false := by simp; omega
        rcases Nat.lt_or_ge (F + m) (slen s.pay) with h | h
        · rw [if_pos (.inr h), if_neg (by omega), e0]
        · rw [if_neg (by omega), if_pos h]
      · have hF0 : F ≠ 0 := by omega
        simp only [h8, h9, ln_9, hpl, bin_lss, pureW_some, forkW_dec]
        refine ⟨fun hFl => ?_, fun hFl => ?_⟩
        · have hFl : F < slen s.pay := by omega
          have hmid : ∀ B : AW, sliceA Try.prog B 9 (.string s.pay) (some (.int .i64 (F : Int))) (some (.int .i64 ((min (F + m) (slen s.pay) : Nat) : Int))) none = some (.string ⟨⟨(s.pay.data.toList.take (min (F + m) (slen s.pay))).drop F⟩⟩) := fun B => str_mid B s.pay F _ (by omega) (by rw [hpl]; omega)
          simp only [h1, h2, h6, h7, h8, h9, bin_add, eF, pureW_some, ln_9, hpl, min_two, hmin, bin_eql, fa_25_0, fa_25_1, fa_25_2, ld_23, ld_22, ld_5, cell_row hg, asmCells, cellOf, hl.one.2, isT_int, cond_false, hl'.len, bin_sub, e9, g1, fa_28_0, g2, hmid, beq_cast0, beq_castL, eb1, build45b, Nat.zero_add]
          refine bslice_made (f := ⟨i == 0, i + 1 == l.length, F == 0, min (F + m) (slen s.pay) == slen s.pay, s.ty, tr, ch, ⟨⟨(s.pay.data.toList.take (min (F + m) (slen s.pay))).drop F⟩⟩⟩) hf' (by omega) fun A7 m7 => ?_
          have hg7 : A7.get A.next = some (.row (asmCells ch tr sv) 25 A.next 0 false) := by rw [m7.ext.get _ hlt0]; exact hg
          have hx7 := hx.trans m7.ext
          have hl7 := hl.ext hx7
          have g27 : A7.cell? ⟨r, o, none⟩ = some (.int .u8 s.ty) := by rw [cell_ext m7.ext g5]; exact g2
          refine freshW_frame m7.row ?_
          simp only [fa_25_0, fa_25_1, fa_25_2, ld_23, ld_22, ld_5, cell_row hg7, asmCells, cellOf, hl.one.2, isT_int, cond_false, pureW_some, hl7.len, ln_9, hpl, eqW_self, g1, fa_28_0, g27, hmid, beq_cast0, beq_castL, eb1, Nat.zero_add]
          generalize hfr : (⟨i == 0, i + 1 == l.length, F == 0, min (F + m) (slen s.pay) == slen s.pay, s.ty, tr, ch, ⟨⟨(s.pay.data.toList.take (min (F + m) (slen s.pay))).drop F⟩⟩⟩ : Fr) = fr at m7 ⊢
          have hv7 := hv.made hf' m7
          have hsrc : sourceZ Try.prog A7 45 29 (7 + 1) (.slice (some ⟨A'.next, 0, none⟩) 1 1) = some (0 + 1, fr.cells) := by
            rw [src29, cells_row m7.row]; rfl
          have hlen : (cutTo l tr ch m i ++ done).length ≤ 40000 := by
            rw [List.length_append]; omega
          obtain ⟨v', A8, e8, ap⟩ := append_own (P := Try.prog) sl29 sz45 by45 hz45 hsrc rfl rfl hv7 m7.fine (by rw [m7.next]; omega) (by rw [m7.next]; omega) (by rw [hroom]; omega) (by rw [hroom]; omega)
          rw [e8]
          refine bothW_ok.2 ?_
          have hcat : frCells (cutTo l tr ch m i ++ done) ++ fr.cells = frCells (cutTo l tr ch m i ++ (done ++ [fr])) := by
            rw [← List.append_assoc, frCells_append (cutTo l tr ch m i ++ done)]; simp [frCells]
          have hcl : (cutTo l tr ch m i ++ done).length + (0 + 1) = (cutTo l tr ch m i ++ (done ++ [fr])).length := by simp; omega
          have hn7 : A7.next = A'.next + 1 := m7.next
          have hx8 : Ext A A8 := ⟨by rw [ap.next]; have := hx7.next; omega, fun j hj => by rw [ap.get j (by omega) fun b' f hvv ho hi' => by have := (ho.mem j hi').1; omega]; exact hx7.get j hj,
            fun g hg => by rw [ap.mem g (by omega) fun b' f hvv ho => by have := ho.lof; omega]; exact hx7.mem g hg⟩
          have hg8 : A8.get A.next = some (.row (asmCells ch tr sv) 25 A.next 0 false) := by
            rw [ap.get _ (by omega) fun b' f hvv ho hi' => by have := (ho.mem _ hi').1; omega]
            exact hg7
          have hv8 := ap.own
          rw [hcat, hcl] at hv8
          have hl9 : (cutTo l tr ch m i ++ (done ++ [fr])).length = (cutTo l tr ch m i ++ done).length + 1 := by simp; omega
          have hcs := chunk_seg (first := i == 0) (last := i + 1 == l.length) (ty := s.ty) (tr := tr) (ch := ch) (beg := F == 0) (pay := s.pay.data.toList) hm (F := F) (by rw [hpl]; omega)
          rw [hpl, hfr] at hcs
          rw [if_pos (.inr hFl), hcs] at hdone
          refine cutW_self.2 ⟨(l.length - i - 1) * 50000 + (30000 - (F + m)) + 1, by omega, .inr ⟨rfl, i, F + m, v', s, done ++ [fr], by simp, hs, hx8, ap.fine, by rw [ap.next]; omega, hg8, hv8, ?_, by simp; omega, by omega, by rw [ap.next, hl9]; omega, rfl⟩⟩
          rw [← hdone, List.append_assoc]
          congr 1
          rw [List.singleton_append]
          congr 1
          have e0 : (F + m == 0) = false := by simp; omega
          rcases Nat.lt_or_ge (F + m) (slen s.pay) with h | h
          · rw [if_pos (.inr h), if_neg (by omega), e0]
          · rw [if_neg (by omega), if_pos h]
        · have hFl : slen s.pay ≤ F := by omega
          rw [if_neg (by omega), List.append_nil] at hdone
          simp only [h1, h2, h6, h7, bin_add, pureW_some]
          rw [wrap_i64 (by omega) (by omega)]
          refine cutW_self.2 ⟨(l.length - (i + 1)) * 50000, by omega, .inl ⟨rfl, i + 1, v, rfl, by omega, hx, hf', hlt0, hg, ?_, ?_, rfl⟩⟩
          · rw [hdone] at hv; exact hv
          · rw [hdone] at hnx; exact hnx
  · rw [e10]
    have hone : (Value.cells (asmVal ch tr sv)).toList.all oneCell = true := by simp [asmVal, asmCells, Value.cells, one_int, hl.one.1]
    refine newP_made hf (by omega) hone fun A1 m1 => ?_
    have hg : A1.get A.next = some (.row (asmCells ch tr sv) 25 A.next 0 false) := m1.row
    have hld : loadP Try.prog A1 25 (.pointer (some ⟨A.next, 0, none⟩)) = some (asmVal ch tr sv) := by
      rw [ld_25, cells_row hg]
      simp [asmCells, takeCells, isT_int, hl.one.2, asmVal]
    simp only [bin_lss, bin_gtr, forkW_dec, hld, pureW_some]
    refine ⟨fun h => by omega, fun _ => ⟨fun h => by omega, fun _ => ?_⟩⟩
    refine wc13 m1.fine (by rw [m1.next]; omega) (hl.ext m1.ext) (by omega) fun A2 hx2 hf2 hn2 => ?_
    rw [hok]
    have hg2 : A2.get A.next = some (.row (asmCells ch tr sv) 25 A.next 0 false) := by rw [hx2.get _ (by rw [m1.next]; omega)]; exact hg
    have hx2' := m1.ext.trans hx2
    simp only [bin_neq, pureW_some, forkW_bne]
    refine ⟨fun h => absurd rfl h, fun _ => cutW_self.2 ⟨_, .inl ⟨rfl, 0, .slice none 0 0, rfl, Nat.zero_le _, hx2', hf2, by have := hx2.next; rw [m1.next] at this; omega, hg2, .inl ⟨rfl, rfl, rfl⟩, by rw [m1.next] at hn2; simp only [cutTo, List.length_nil]; omega, rfl⟩⟩⟩
end
end Go.Proofs.Yteiiledpfhopdaa

namespace Go.Proofs.Yteiiledpfhopdaa
open Go.Abs

/-- what a cut answers -/
def cutE (tr : Int) (l : List Seg) (most : Int) : Int := if most < 1 ∨ 4084 < most then 2 else chk tr l
def cutL (ch tr : Int) (l : List Seg) (most : Int) : List Fr := if cutE tr l most = 0 then cutTo l tr ch most.toNat l.length else []
theorem chk_cases (tr : Int) (l : List Seg) : chk tr l = 0 ∨ chk tr l = 70 := by unfold chk; split <;> simp

section
variable {W0 : World} {m0 : Inj Try.prog}
theorem wc9g {ch tr most : Int} {sv : Value} {l : List Seg} {A : AW} {K : Value → AW → Prop} (hf : Fine A) (hA : A.next + 70000 ≤ maxId) (hl : IsSegs A sv l) (hn : l.length ≤ 1000) (htr : 0 ≤ tr)
    (hk : ∀ A' v, Ext A A' → Fine A' → A'.next ≤ A.next + 60000 → OwnS A.next A' 45 8 v (cutL ch tr l most).length (frCells (cutL ch tr l most)) → K (.tuple ⟨[v, .int .i64 (cutE tr l most)]⟩) A') :
    Wc Try.prog theX W0 m0 9 [asmVal ch tr sv, .int .i64 most] A K := by
  have hmax : maxId = 4194304 := rfl
  by_cases hr : most < 1 ∨ 4084 < most
  · have he : cutE tr l most = 2 := by unfold cutE; rw [if_pos hr]
    have hcl : cutL ch tr l most = [] := by unfold cutL; rw [he]; rfl
    rw [he, hcl] at hk
    refine w9 _ _ _ (cuts_none (S := fun _ _ _ => False) fun _ _ _ h => h) ?_
    rw [e9]
    refine newP_made hf (by omega) (by simp [asmVal, asmCells, Value.cells, one_int, hl.one.1]) fun A1 m1 => ?_
    have := hk A1 (.slice none 0 0) m1.ext m1.fine (by rw [m1.next]; omega) (.inl ⟨rfl, rfl, rfl⟩)
    simp only [bin_lss, bin_gtr, forkW_dec, pureW_some]
    refine ⟨fun _ => this, fun h1 => ⟨fun _ => this, fun h2 => by omega⟩⟩
  · obtain ⟨m, rfl⟩ : ∃ m : Nat, most = m := ⟨most.toNat, by omega⟩
    have he : cutE tr l m = chk tr l := by unfold cutE; rw [if_neg hr]
    rcases chk_cases tr l with hc | hc
    · have hcl : cutL ch tr l m = cutTo l tr ch m l.length := by unfold cutL; rw [he, hc]; rfl
      rw [he, hcl, hc] at hk
      exact wc9 hf hA hl hn htr (by omega) (by omega) hc hk
    · have hcl : cutL ch tr l m = [] := by unfold cutL; rw [he, hc]; rfl
      rw [he, hcl, hc] at hk
      refine w9 _ _ _ (cuts_none (S := fun _ _ _ => False) fun _ _ _ h => h) ?_
      rw [e9]
      refine newP_made hf (by omega) (by simp [asmVal, asmCells, Value.cells, one_int, hl.one.1]) fun A1 m1 => ?_
      have hg : A1.get A.next = some (.row (asmCells ch tr sv) 25 A.next 0 false) := m1.row
      have hld : loadP Try.prog A1 25 (.pointer (some ⟨A.next, 0, none⟩)) = some (asmVal ch tr sv) := by
        rw [ld_25, cells_row hg]
        simp [asmCells, takeCells, isT_int, hl.one.2, asmVal]
      simp only [bin_lss, bin_gtr, forkW_dec, hld, pureW_some]
      refine ⟨fun h => by omega, fun _ => ⟨fun h => by omega, fun _ => ?_⟩⟩
      refine wc12 m1.fine (by rw [m1.next]; omega) (hl.ext m1.ext) (by omega) htr fun A2 hx2 hf2 hn2 => ?_
      rw [hc]
      simp only [bin_neq, pureW_some, forkW_bne]
      refine ⟨fun _ => hk A2 (.slice none 0 0) (m1.ext.trans hx2) hf2 (by rw [m1.next] at hn2; omega) (.inl ⟨rfl, rfl, rfl⟩), fun h => by omega⟩

theorem wc10g {ch tr most : Int} {sv : Value} {l : List Seg} {A : AW} {K : Value → AW → Prop} (hf : Fine A) (hA : A.next + 70000 ≤ maxId) (hl : IsSegs A sv l) (hn : l.length ≤ 1000) (htr : 0 ≤ tr)
    (hk : ∀ A' v, Ext A A' → Fine A' → A'.next ≤ A.next + 60000 → OwnS A.next A' 45 8 v (cutL ch tr l most).length (frCells (cutL ch tr l most)) → K (.tuple ⟨[v, .int .i64 (cutE tr l most)]⟩) A') :
    Wc Try.prog theX W0 m0 10 [asmVal ch tr sv, .int .i64 most] A K := by
  have hmax : maxId = 4194304 := rfl
  by_cases hr : most < 1 ∨ 4084 < most
  · have he : cutE tr l most = 2 := by unfold cutE; rw [if_pos hr]
    have hcl : cutL ch tr l most = [] := by unfold cutL; rw [he]; rfl
    rw [he, hcl] at hk
    refine w10 _ _ _ (cuts_none (S := fun _ _ _ => False) fun _ _ _ h => h) ?_
    rw [e10]
    refine newP_made hf (by omega) (by simp [asmVal, asmCells, Value.cells, one_int, hl.one.1]) fun A1 m1 => ?_
    have := hk A1 (.slice none 0 0) m1.ext m1.fine (by rw [m1.next]; omega) (.inl ⟨rfl, rfl, rfl⟩)
    simp only [bin_lss, bin_gtr, forkW_dec, pureW_some]
    refine ⟨fun _ => this, fun h1 => ⟨fun _ => this, fun h2 => by omega⟩⟩
  · obtain ⟨m, rfl⟩ : ∃ m : Nat, most = m := ⟨most.toNat, by omega⟩
    have he : cutE tr l m = chk tr l := by unfold cutE; rw [if_neg hr]
    rcases chk_cases tr l with hc | hc
    · have hcl : cutL ch tr l m = cutTo l tr ch m l.length := by unfold cutL; rw [he, hc]; rfl
      rw [he, hcl, hc] at hk
      exact wc10 hf hA hl hn htr (by omega) (by omega) hc hk
    · have hcl : cutL ch tr l m = [] := by unfold cutL; rw [he, hc]; rfl
      rw [he, hcl, hc] at hk
      refine w10 _ _ _ (cuts_none (S := fun _ _ _ => False) fun _ _ _ h => h) ?_
      rw [e10]
      refine newP_made hf (by omega) (by simp [asmVal, asmCells, Value.cells, one_int, hl.one.1]) fun A1 m1 => ?_
      have hg : A1.get A.next = some (.row (asmCells ch tr sv) 25 A.next 0 false) := m1.row
      have hld : loadP Try.prog A1 25 (.pointer (some ⟨A.next, 0, none⟩)) = some (asmVal ch tr sv) := by
        rw [ld_25, cells_row hg]
        simp [asmCells, takeCells, isT_int, hl.one.2, asmVal]
      simp only [bin_lss, bin_gtr, forkW_dec, hld, pureW_some]
      refine ⟨fun h => by omega, fun _ => ⟨fun h => by omega, fun _ => ?_⟩⟩
      refine wc13 m1.fine (by rw [m1.next]; omega) (hl.ext m1.ext) (by omega) fun A2 hx2 hf2 hn2 => ?_
      rw [hc]
      simp only [bin_neq, pureW_some, forkW_bne]
      refine ⟨fun _ => hk A2 (.slice none 0 0) (m1.ext.trans hx2) hf2 (by rw [m1.next] at hn2; omega) (.inl ⟨rfl, rfl, rfl⟩), fun h => by omega⟩
end
end Go.Proofs.Yteiiledpfhopdaa

namespace Go.Proofs.Yteiiledpfhopdaa
open Go.Abs

/-- v is a slice of these frames -/
def IsFrames (A : AW) (v : Value) (l : List Fr) : Prop :=
  (l = [] ∧ v = .slice none 0 0) ∨ ∃ r c f b ro, v = .slice (some ⟨r, 0, none⟩) l.length c ∧ A.get r = some (.row (frCells l) 45 f b ro) ∧ r < A.next
theorem IsFrames.ext {A A' : AW} {v : Value} {l : List Fr} (h : IsFrames A v l) (hx : Ext A A') : IsFrames A' v l := by
  rcases h with h | ⟨r, c, f, b, ro, h1, h2, h3⟩
  · exact .inl h
  · exact .inr ⟨r, c, f, b, ro, h1, by rw [hx.get r h3]; exact h2, Nat.lt_of_lt_of_le h3 hx.next⟩
theorem OwnS.frames {lo : Nat} {A : AW} {v : Value} {l : List Fr} (h : OwnS lo A 45 8 v l.length (frCells l)) (hf : Fine A) : IsFrames A v l := by
  rcases h with ⟨h1, h2, h3⟩ | ⟨b, f, h1, h2⟩
  · exact .inl ⟨List.length_eq_zero_iff.1 h2, h1⟩
  · exact .inr ⟨b, _, f, 0, false, h1, h2.row, hf.lt h2.row⟩
theorem IsFrames.len {A : AW} {v : Value} {l : List Fr} (h : IsFrames A v l) : lenA Try.prog A 29 v = some (.int .i64 l.length) := by
  rcases h with ⟨rfl, rfl⟩ | ⟨r, c, f, b, ro, rfl, _⟩
  · exact ln_29 A none 0 0
  · exact ln_29 A _ _ _
theorem frCells_drop : ∀ (l : List Fr) (i : Nat) (f : Fr), l[i]? = some f → ∃ r, (frCells l).drop (i * 8) = f.cells ++ r
  | [], i, f, h => by simp at h
  | x :: l, 0, f, h => by
    simp at h
    subst h
    exact ⟨frCells l, by simp [frCells]⟩
  | x :: l, i + 1, f, h => by
    obtain ⟨r, hr⟩ := frCells_drop l i f (by simpa using h)
    refine ⟨r, ?_⟩
    rw [← hr]
    have : (frCells (x :: l)) = x.cells ++ frCells l := by simp [frCells]
    rw [this, show (i + 1) * 8 = x.cells.length + i * 8 by show _ = 8 + _; omega, ← List.drop_drop, List.drop_left]
theorem takeCells_frame (f : Fr) (r : List Value) : takeCells (f.cells ++ r) 8 = some f.cells := by
  simp [Fr.cells, takeCells, isT_bool, isT_int, isT_string]
theorem IsFrames.at {A : AW} {v : Value} {l : List Fr} (h : IsFrames A v l) {i : Nat} {f : Fr} (hi : l[i]? = some f) : ∃ r o, indexAddrA Try.prog 29 v (.int .i64 (i : Int)) = some (.pointer (some ⟨r, o, none⟩)) ∧ loadP Try.prog A 45 (.pointer (some ⟨r, o, none⟩)) = some f.val := by
  rcases h with ⟨rfl, rfl⟩ | ⟨r, c, fm, b, ro, rfl, h2, h3⟩
  · simp at hi
  · have hlt : i < l.length := (List.getElem?_eq_some_iff.1 hi).1
    refine ⟨r, i * 8, ?_, ?_⟩
    · show indexAddrA Try.prog 29 _ (.int .i64 (.ofNat i)) = _
      rw [ia_29, blt_true.2 hlt, cond_true]
      unfold addA
      cases hb : Nat.beq (i * 8) 0 with
      | true => rw [cond_true, Nat.eq_of_beq_eq_true hb]
      | false => simp only [cond_false, Nat.zero_add]
    · rw [ld_45, cells_row h2]
      obtain ⟨r', hr⟩ := frCells_drop l i f hi
      rw [hr, takeCells_frame]
      rfl
theorem ft45 : quiet Try.prog (underlying 45) = some (.struct (Try.prog.fieldsOf 45)) := by kernel_rfl
noncomputable def F45 (i : Nat) : Field := (Try.prog.fieldsOf 45).toList.getD i default
theorem fs45 : (Try.prog.fieldsOf 45).toList = [F45 0, F45 1, F45 2, F45 3, F45 4, F45 5, F45 6, F45 7] := by kernel_rfl
theorem pt45_0 (f : Fr) : quiet Try.prog (part (F45 0).type ⟨f.cells⟩ (F45 0).offset) = some (.bool f.first) := by kernel_rfl
theorem pt45_1 (f : Fr) : quiet Try.prog (part (F45 1).type ⟨f.cells⟩ (F45 1).offset) = some (.bool f.last) := by kernel_rfl
theorem pt45_2 (f : Fr) : quiet Try.prog (part (F45 2).type ⟨f.cells⟩ (F45 2).offset) = some (.bool f.beg) := by kernel_rfl
theorem pt45_3 (f : Fr) : quiet Try.prog (part (F45 3).type ⟨f.cells⟩ (F45 3).offset) = some (.bool f.fin) := by kernel_rfl
theorem pt45_4 (f : Fr) : quiet Try.prog (part (F45 4).type ⟨f.cells⟩ (F45 4).offset) = some (.int .u8 f.ty) := by kernel_rfl
theorem pt45_5 (f : Fr) : quiet Try.prog (part (F45 5).type ⟨f.cells⟩ (F45 5).offset) = some (.int .u8 f.tr) := by kernel_rfl
theorem pt45_6 (f : Fr) : quiet Try.prog (part (F45 6).type ⟨f.cells⟩ (F45 6).offset) = some (.int .u16 f.ch) := by kernel_rfl
theorem pt45_7 (f : Fr) : quiet Try.prog (part (F45 7).type ⟨f.cells⟩ (F45 7).offset) = some (.string f.pay) := by kernel_rfl
theorem ut4 : quiet Try.prog (underlying 4) = some .bool := by kernel_rfl
theorem ut5 : quiet Try.prog (underlying 5) = some (.int .u8) := by kernel_rfl
theorem ut22 : quiet Try.prog (underlying 22) = some (.int .u16) := by kernel_rfl
theorem ut9 : quiet Try.prog (underlying 9) = some .string := by kernel_rfl
theorem ty45_0 : (F45 0).type = 4 := by kernel_rfl
theorem ty45_1 : (F45 1).type = 4 := by kernel_rfl
theorem ty45_2 : (F45 2).type = 4 := by kernel_rfl
theorem ty45_3 : (F45 3).type = 4 := by kernel_rfl
theorem ty45_4 : (F45 4).type = 5 := by kernel_rfl
theorem ty45_5 : (F45 5).type = 5 := by kernel_rfl
theorem ty45_6 : (F45 6).type = 22 := by kernel_rfl
theorem ty45_7 : (F45 7).type = 9 := by kernel_rfl
theorem quiet45 (f : Fr) : quiet Try.prog (Op.equal 45 f.val f.val) = some true := by
  show quiet Try.prog (Op.equalIn (9999 + 1) 45 (.agg ⟨f.cells⟩) (.agg ⟨f.cells⟩)) = _
  rw [quiet_struct 9999 45 _ _ ft45 (by kernel_rfl), fs45]
  rw [quiet_field (pt45_0 f) (pt45_0 f) (by rw [ty45_0, quiet_eq_bool 9998 4 _ _ ut4]; simp)]
  rw [quiet_field (pt45_1 f) (pt45_1 f) (by rw [ty45_1, quiet_eq_bool 9998 4 _ _ ut4]; simp)]
  rw [quiet_field (pt45_2 f) (pt45_2 f) (by rw [ty45_2, quiet_eq_bool 9998 4 _ _ ut4]; simp)]
  rw [quiet_field (pt45_3 f) (pt45_3 f) (by rw [ty45_3, quiet_eq_bool 9998 4 _ _ ut4]; simp)]
  rw [quiet_field (pt45_4 f) (pt45_4 f) (by rw [ty45_4, quiet_eq_int 9998 5 _ _ _ _ ut5]; simp)]
  rw [quiet_field (pt45_5 f) (pt45_5 f) (by rw [ty45_5, quiet_eq_int 9998 5 _ _ _ _ ut5]; simp)]
  rw [quiet_field (pt45_6 f) (pt45_6 f) (by rw [ty45_6, quiet_eq_int 9998 22 _ _ _ _ ut22]; simp)]
  rw [quiet_field (pt45_7 f) (pt45_7 f) (by rw [ty45_7, quiet_eq_string 9998 9 _ _ ut9, beq_toListBytes]; simp)]
  rfl
theorem neq45 (f : Fr) (x y : Operand) : binA Try.prog .neq 45 x y f.val f.val = some (.bool false) := by
  have hg : eqGuardA Try.prog 45 x y f.val f.val = true := by
    show (!Try.prog.eqGuardType Try.prog.depth 45) = true
    kernel_rfl
  show (bif eqGuardA Try.prog 45 x y f.val f.val then (match eqA Try.prog 45 f.val f.val with | some b => some (Value.bool !b) | none => none) else none) = _
  rw [hg, cond_true]
  have he : eqA Try.prog 45 f.val f.val = some true := by
    unfold eqA
    have hc : (closedV 4 f.val && closedV 4 f.val) = true := rfl
    rw [hc, cond_true]
    exact quiet45 f
  rw [he]
  rfl
end Go.Proofs.Yteiiledpfhopdaa

namespace Go.Proofs.Yteiiledpfhopdaa
open Go.Abs

section
variable {W0 : World} {m0 : Inj Try.prog}
/-- Same, of the same -/
theorem wc11 {v1 v2 : Value} {l : List Fr} {A : AW} {K : Value → AW → Prop} (h1 : IsFrames A v1 l) (h2 : IsFrames A v2 l) (hn : l.length < 1000000) (hk : K (.bool true) A) : Wc Try.prog theX W0 m0 11 [v1, v2] A K := by
  let I : Nat → Nat → List Value → AW → Prop := fun g id vals A' => id = 0 ∧ ∃ i : Nat, vals = [v1, v2, .int .i64 i] ∧ i ≤ l.length ∧ A' = A ∧ g = l.length - i
  refine w11 _ _ _ (c11 (I := I) ?_) ?_
  · rintro g id vals A' d ⟨rfl, i, rfl, hi, rfl, rfl⟩ hd
    rw [l11_0]
    have e0 : d 0 = v1 := by simp [L11] at hd; exact hd.1
    have e1 : d 1 = v2 := by simp [L11] at hd; exact hd.2.1
    have e5 : d 5 = .int .i64 (i : Nat) := by simp [L11] at hd; exact hd.2.2
    simp only [e0, e1, e5, h1.len, pureW_some, bin_lss, forkW_dec]
    refine ⟨fun hlt => ?_, fun hge => hk⟩
    have hlt : i < l.length := by omega
    obtain ⟨f, hf⟩ : ∃ f, l[i]? = some f := ⟨l[i], List.getElem?_eq_getElem hlt⟩
    obtain ⟨r1, o1, g1, g2⟩ := h1.at hf
    obtain ⟨r2, o2, g3, g4⟩ := h2.at hf
    simp only [g1, g2, g3, g4, pureW_some, neq45, forkW_bool, bin_add]
    refine ⟨(fun h => Bool.noConfusion h), fun _ => ?_⟩
    rw [wrap_i64 (by omega) (by omega)]
    exact cutW_self.2 ⟨l.length - (i + 1), by omega, rfl, i + 1, rfl, by omega, rfl, rfl⟩
  · rw [e11]
    simp only [h1.len, h2.len, pureW_some, bin_neq, forkW_bne]
    refine ⟨fun h => absurd rfl h, fun _ => cutW_self.2 ⟨l.length, rfl, 0, rfl, Nat.zero_le _, rfl, rfl⟩⟩

/-- the law, where its own examples are known to answer true -/
theorem wc3 {ch tr most : Int} {sv : Value} {l : List Seg} {A : AW} (hf : Fine A) (hA : A.next + 400000 ≤ maxId) (hl : IsSegs A sv l) (htr : 0 ≤ tr) (hK : KC.Holds Try.prog W0 m0 ⟨8, [], [.bool true]⟩) :
    Wc Try.prog theX W0 m0 3 [asmVal ch tr sv, .int .i64 most] A fun v _ => v = .bool true := by
  have hmax : maxId = 4194304 := rfl
  have hkn : ∀ A', knW Try.prog W0 m0 8 [] A' fun v _ => v = .bool true := fun A' => ⟨[.bool true], by decide, hK, rfl, fun v hv => by simpa using hv⟩
  let I : Nat → Nat → List Value → AW → Prop := fun g id vals A' => id = 0 ∧ ∃ i : Nat, vals = [.int .i64 most, .pointer (some ⟨A.next, 0, none⟩), .int .i64 i] ∧ i ≤ l.length ∧ l.length ≤ 10 ∧ Ext A A' ∧ Fine A' ∧ A'.next = A.next + 1 ∧
    A'.get A.next = some (.row (asmCells ch tr sv) 25 A.next 0 false) ∧ g = l.length - i
  refine w3 _ _ _ (c3 (I := I) ?_) ?_
  · rintro g id vals A' d ⟨rfl, i, rfl, hi, hn, hx, hf', hnx, hg, rfl⟩ hd
    rw [l3_0]
    have h1 : d 1 = .int .i64 most := by simp [L3] at hd; exact hd.1
    have h2 : d 2 = .pointer (some ⟨A.next, 0, none⟩) := by simp [L3] at hd; exact hd.2.1
    have h5 : d 5 = .int .i64 (i : Nat) := by simp [L3] at hd; exact hd.2.2
    have hl' := hl.ext hx
    have hld : ∀ B : AW, B.get A.next = some (.row (asmCells ch tr sv) 25 A.next 0 false) → loadP Try.prog B 25 (.pointer (some ⟨A.next, 0, none⟩)) = some (asmVal ch tr sv) := by
      intro B hB
      rw [ld_25, cells_row hB]
      simp [asmCells, takeCells, isT_int, hl.one.2, asmVal]
    simp only [h1, h2, h5, fa_25_2, ld_23, cell_row hg, asmCells, cellOf, hl.one.2, isT_int, cond_false, pureW_some, hl'.len, bin_lss, forkW_dec, Nat.zero_add]
    refine ⟨fun hlt => ?_, fun hge => ?_⟩
    · have hlt : i < l.length := by omega
      obtain ⟨s, hs⟩ : ∃ s, l[i]? = some s := ⟨l[i], List.getElem?_eq_getElem hlt⟩
      obtain ⟨r, o, g1, g2, g3, g4, g5⟩ := hl'.at hs
      have next : cutW (T3 0) (T3 0) (∃ g', g' < l.length - i ∧ I g' 0 [.int .i64 most, .pointer (some ⟨A.next, 0, none⟩), .int .i64 (IntKind.i64.wrap ((i : Int) + 1))] A') := by
        rw [wrap_i64 (by omega) (by omega)]
        exact cutW_self.2 ⟨l.length - (i + 1), by omega, rfl, i + 1, rfl, by omega, hn, hx, hf', hnx, hg, rfl⟩
      simp only [g1, g3, fa_28_1, ld_9, ln_9, pureW_some, bin_gtr, bin_add, bin_lss, forkW_dec]
      exact ⟨fun _ => ⟨fun _ => ⟨fun _ => hkn A', fun _ => next⟩, fun _ => next⟩, fun _ => next⟩
    · rw [hld A' hg]
      refine pureW_some.2 ?_
      refine wc9g hf' (by omega) hl' (by omega) htr fun A2 v2 hx2 hf2 hn2 hv2 => ?_
      have hg2 : A2.get A.next = some (.row (asmCells ch tr sv) 25 A.next 0 false) := by rw [hx2.get _ (by omega)]; exact hg
      have hl2 := hl'.ext hx2
      refine pureW_of (v := v2) rfl (pureW_of (v := .int .i64 (cutE tr l most)) rfl ?_)
      rw [hld A2 hg2]
      refine pureW_some.2 ?_
      refine wc10g hf2 (by omega) hl2 (by omega) htr fun A3 v3 hx3 hf3 hn3 hv3 => ?_
      have hg3 : A3.get A.next = some (.row (asmCells ch tr sv) 25 A.next 0 false) := by rw [hx3.get _ (by have := hx2.next; omega)]; exact hg2
      have hl3 := hl2.ext hx3
      refine pureW_of (v := v3) rfl (pureW_of (v := .int .i64 (cutE tr l most)) rfl ?_)
      have hcl : (cutL ch tr l most).length < 1000000 := by
        unfold cutL
        split
        · rename_i h0
          have hr : ¬ (most < 1 ∨ 4084 < most) := by
            intro hr; unfold cutE at h0; rw [if_pos hr] at h0; cases h0
          have hc : chk tr l = 0 := by unfold cutE at h0; rwa [if_neg hr] at h0
          have htot : total l ≤ 16384 := by
            unfold chk at hc
            split at hc
            · rename_i h; exact h.1
            · cases hc
          have := cutTo_length (l := l) (tr := tr) (ch := ch) (m := most.toNat) (by omega) l.length (Nat.le_refl _)
          rw [List.take_length] at this
          omega
        · simp
      refine wc11 ((OwnS.frames hv2 hf2).ext hx3) (OwnS.frames hv3 hf3) hcl ?_
      refine forkW_bool.2 ⟨fun _ => ?_, (fun h => Bool.noConfusion h)⟩
      simp only [bin_eql, pureW_some, forkW_beq]
      refine ⟨fun _ => ?_, fun h => absurd rfl h⟩
      rw [hld A3 hg3]
      refine pureW_some.2 (pureW_some.2 ?_)
      refine wc12 hf3 (by omega) hl3 (by omega) htr fun A4 hx4 hf4 hn4 => ?_
      have hg4 : A4.get A.next = some (.row (asmCells ch tr sv) 25 A.next 0 false) := by rw [hx4.get _ (by have := hx2.next; have := hx3.next; omega)]; exact hg3
      rw [hld A4 hg4]
      refine pureW_some.2 (eqW_self.2 ?_)
      refine wc13 hf4 (by omega) (hl3.ext hx4) (by omega) fun A5 hx5 hf5 hn5 => ?_
      simp only [bin_eql, pureW_some, forkW_beq]
      exact ⟨fun _ => hkn A5, fun h => absurd rfl h⟩
  · rw [e3]
    refine newP_made hf (by omega) (by simp [asmVal, asmCells, Value.cells, one_int, hl.one.1]) fun A1 m1 => ?_
    have hg : A1.get A.next = some (.row (asmCells ch tr sv) 25 A.next 0 false) := m1.row
    simp only [fa_25_2, ld_23, cell_row hg, asmCells, cellOf, hl.one.2, isT_int, cond_false, pureW_some, (hl.ext m1.ext).len, bin_gtr, forkW_dec, Nat.zero_add]
    refine ⟨fun _ => hkn A1, fun h => cutW_self.2 ⟨l.length, rfl, 0, rfl, Nat.zero_le _, by omega, m1.ext, m1.fine, m1.next, hg, rfl⟩⟩
end
end Go.Proofs.Yteiiledpfhopdaa

namespace Go.Proofs.Yteiiledpfhopdaa
open Go.Abs Go.ChangeShapes Go.WideShapes Go.ChangeAt Go.RowKit Go.Joins Go.Deep

/-! the law's own examples, by a run -/
def headX : XNames := { clone := [], noEscape := [], noZero := [] }
theorem headXok : XOk Try.prog headX := ⟨fun f h => by simp [headX, memN] at h, fun f h => by simp [headX, memN] at h, fun f h => by simp [headX, memN] at h⟩
theorem head_run : runOk Try.prog headX [] (fun _ => []) isT 20000 ⟨frOf Try.prog 8 [], [], wG 0 []⟩ = some (true, []) := by kernel_rfl
theorem nG : Try.prog.globals.size = 0 := by kernel_rfl
theorem head_calls (W : World) (hW : Holds W []) : Calls Try.prog 8 #[] W fun e W' => e = .returned (.bool true) ∧ Below W.heap.size W W' := by
  refine calls_true (X := headX) (l := []) (args := []) gP (by kernel_rfl) rfl (by kernel_rfl) W hW ?_
  rw [nG]
  exact answers_of_run headXok gP head_run fun k hk => by cases hk
theorem head_kc (W : World) (m : Inj Try.prog) : KC.Holds Try.prog W m ⟨8, [], [.bool true]⟩ := kc_true (rows := []) (by decide) head_calls (fun x hx => by cases hx) m

/-! a slice of segments that came in -/
/-- the segments of a slice in memory -/
def ArgSegs (W : World) (s : Value) (l : List Seg) : Prop :=
  (l = [] ∧ IsSlice s ∧ ∃ o c, s = .slice o 0 c) ∨ ∃ (a : Addr) (c : Nat) (cs : Array Value) (e : TypeId) (fr : Nat × Nat), s = .slice (some a) l.length c ∧ l.length ≤ c ∧ c < capU ∧ a.spot = none ∧ 0 < l.length ∧ W.heap[a.block]? = some (.cells cs e fr) ∧
    ∀ i s, l[i]? = some s → cs[a.off + i * 2]? = some (.int .u8 s.ty) ∧ cs[a.off + i * 2 + 1]? = some (.string s.pay)

/-- a heap with one row that came in -/
def aRow (cs : List Value) (e : TypeId) : AW := ⟨.node (some (.row cs e 1 0 true)) .nil .nil, 2, .node none (.node (some [0]) .nil .nil) .nil⟩
theorem aRow_get (cs : List Value) (e : TypeId) (i : Nat) : (aRow cs e).get i = if i = 0 then some (.row cs e 1 0 true) else none := by
  by_cases h : i = 0
  · subst h; rfl
  · rw [if_neg h]
    unfold aRow AW.get Trie.get?
    have : Nat.beq i 0 = false := beq_false.2 h
    simp only [this, cond_false]
    cases Nat.beq (i % 2) 1 <;> simp [Trie.get?]
theorem aRow_fams (cs : List Value) (e : TypeId) (i : Nat) (h : 2 ≤ i) : (aRow cs e).fams.get? i = none := by
  unfold aRow
  simp only [Trie.get?]
  have h0 : Nat.beq i 0 = false := beq_false.2 (by omega)
  simp only [h0, cond_false]
  cases h1 : Nat.beq (i % 2) 1 with
  | false => simp [Trie.get?]
  | true =>
    have h2 : Nat.beq (i / 2) 0 = false := beq_false.2 (by omega)
    simp only [cond_true, Trie.get?, h2, cond_false]
    cases Nat.beq (i / 2 % 2) 1 <;> rfl
theorem aRow_fine (cs : List Value) (e : TypeId) : Fine (aRow cs e) :=
  ⟨fun i hi => aRow_fams cs e i hi, fun i hi => by rw [aRow_get, if_neg (by have : 2 ≤ i := hi; omega)]⟩

/-- where it lies: at an address -/
def mRow (P : Program) (a : Addr) : Inj P := ⟨fun i => if i = 0 then some (a.block, a.off) else none, fun _ => 0, fun _ => 0, fun _ => 0, fun _ h => absurd rfl h⟩
theorem relRow {P : Program} {W : World} {a : Addr} {cs : List Value} {cs' : Array Value} {e : TypeId} {fr : Nat × Nat} (hc : W.heap[a.block]? = some (.cells cs' e fr)) (ha : a.off ≤ cs'.size)
    (h : ∀ i v, cs[i]? = some v → cs'[a.off + i]? = some v ∧ closedV 4 v = true) : Rel (mRow P a) (aRow cs e) W := by
  have hm : ∀ i c d, mRow P a i = some (c, d) → i = 0 ∧ c = a.block ∧ d = a.off := by
    intro i c d hi
    have hi : (if i = 0 then some (a.block, a.off) else none) = some (c, d) := hi
    split at hi
    · rename_i h0
      simp only [Option.some.injEq, Prod.mk.injEq] at hi
      exact ⟨h0, hi.1.symm, hi.2.symm⟩
    · cases hi
  have hg : ∀ i o, (aRow cs e).get i = some o → i = 0 ∧ o = .row cs e 1 0 true := by
    intro i o hi
    rw [aRow_get] at hi
    split at hi
    · rename_i h0; cases hi; exact ⟨h0, rfl⟩
    · cases hi
  refine ⟨?_, ?_, ?_, ?_, ?_, by show 2 ≤ maxId; decide, ?_⟩
  · intro i o c d hi hmi
    obtain ⟨rfl, rfl⟩ := hg i o hi
    obtain ⟨_, rfl, rfl⟩ := hm _ _ _ hmi
    exact ⟨_, hc, cs', fr, rfl, fun i v hv => ⟨v, (h i v hv).1, fun _ => closedV_rel 4 v (h i v hv).2, fun h => by cases h⟩⟩
  · intro i cs2 e2 b ro hi c d hmi
    obtain ⟨rfl, h2⟩ := hg i _ hi
    cases h2
  · intro i j oi oj c di dj hij hi hj _ _
    obtain ⟨rfl, _⟩ := hg i oi hi
    obtain ⟨rfl, _⟩ := hg j oj hj
    exact absurd rfl hij
  · intro i o f b hi hf
    obtain ⟨rfl, rfl⟩ := hg i o hi
    simp only [AO.fam, Option.some.injEq, Prod.mk.injEq] at hf
    obtain ⟨rfl, rfl⟩ := hf
    exact ⟨by show 0 ∈ [0]; simp, by show 1 < 2; decide⟩
  · intro i hi
    have hi : 2 ≤ i := hi
    refine ⟨(aRow_fine cs e).get i hi, ?_, aRow_fams cs e i hi⟩
    show (if i = 0 then some (a.block, a.off) else none) = none
    rw [if_neg (by omega)]
  · intro i cs2 e2 f b ro c d hi hmi
    obtain ⟨rfl, h2⟩ := hg i _ hi
    cases h2
    obtain ⟨_, rfl, rfl⟩ := hm _ _ _ hmi
    exact ⟨fun h => absurd rfl h, cs', e, fr, hc, ha, fun h => by cases h⟩
theorem ownRow {P : Program} {a : Addr} {cs : List Value} {e : TypeId} (c : Nat) : ¬ Own (mRow P a) (aRow cs e) c := by
  rintro ⟨i, o, d, hi, hro, _⟩
  rw [aRow_get] at hi
  split at hi
  · cases hi; cases hro
  · cases hi
end Go.Proofs.Yteiiledpfhopdaa
