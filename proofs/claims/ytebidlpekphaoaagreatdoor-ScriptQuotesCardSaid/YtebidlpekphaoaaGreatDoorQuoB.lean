/-
  A word read, by the program. Conditions: those of each theorem.
-/
import Derived.Test.YtebidlpekphaoaaGreatDoorQuoA

namespace Go.Proofs.YtebidlpekphaoaaGreatDoor
open Go.Abs

noncomputable def chkShl (n : Nat) : Bool := match binA Tryz.prog .shl 3 (.tmp 0) (.tmp 0) (.int .i64 (digI n)) (.int .u64 4) with
  | some (.int .i64 k) => decide (k = digI n * 16)
  | _ => false
theorem chkShl_all : ((List.range 256).all chkShl) = true := by kernel_rfl
theorem shl4 (b : UInt8) (xo yo : Operand) : binA Tryz.prog .shl 3 xo yo (.int .i64 (digI b.toNat)) (.int .u64 4) = some (.int .i64 (digI b.toNat * 16)) := by
  have h := List.all_eq_true.1 chkShl_all b.toNat (List.mem_range.2 b.toNat_lt)
  unfold chkShl at h
  show binA Tryz.prog .shl 3 (.tmp 0) (.tmp 0) (.int .i64 (digI b.toNat)) (.int .u64 4) = _
  split at h
  · rename_i k hk
    rw [hk, of_decide_eq_true h]
  · cases h
theorem digI_bound (n : Nat) : -1 ≤ digI n ∧ digI n ≤ 15 := by
  unfold digI
  split
  · omega
  · split <;> omega
theorem byte2_nat (x y : UInt8) : ((byte2 x y).toNat : Int) = (digI x.toNat * 16 + digI y.toNat) % 256 := by
  unfold byte2
  rw [UInt8.toNat_ofNat']
  omega
theorem decP_short {c : UInt8} {r : List UInt8} (h : c.toNat = 37) (hr : r.length < 2) : decP (c :: r) = none := by
  match r, hr with
  | [], _ => simp only [decP]; exact if_pos h
  | [_], _ => simp only [decP]; exact if_pos h
theorem decR_short {c : UInt8} {r : List UInt8} (h : c.toNat = 37) (hr : r.length < 2) : decR (c :: r) = none := by
  match r, hr with
  | [], _ => simp only [decR]; exact if_pos h
  | [_], _ => simp only [decR]; exact if_pos h
theorem u8_37 {c : UInt8} (h : c.toNat = 37) : c = 37 := by
  have := UInt8.toNat_inj.1 (show c.toNat = (37 : UInt8).toNat from h)
  exact this
theorem drop_one {l : List UInt8} {i : Nat} {c : UInt8} (h : l[i]? = some c) : l.drop i = c :: l.drop (i + 1) := by
  obtain ⟨hi, e⟩ := List.getElem?_eq_some_iff.1 h
  rw [← e]; exact List.drop_eq_getElem_cons hi
theorem map_app {o : List UInt8} {x : Option (List UInt8)} {c : UInt8} : (x.map (c :: ·)).map (o ++ ·) = x.map ((o ++ [c]) ++ ·) := by
  cases x <;> simp
section
variable {W0 : World} {m0 : Inj Tryz.prog}
set_option maxRecDepth 100000 in
set_option maxHeartbeats 1000000 in
theorem wc9 {s : ByteArray} {A : AW} {K : Value → AW → Prop} (hl : s.data.toList.length < 50000) (hf : Fine A) (hA : A.next + 200 + 20 * s.data.toList.length < maxId)
    (hY : ∀ A' l, Grow A A' (30 + 12 * s.data.toList.length) → quoteB l = s.data.toList → K (.tuple ⟨[.string ⟨⟨l⟩⟩, .int .i64 0]⟩) A') (hN : ∀ A', Grow A A' (30 + 12 * s.data.toList.length) → (∀ l, quoteB l ≠ s.data.toList) → K (.tuple ⟨[.string ⟨⟨[]⟩⟩, .int .i64 310]⟩) A') :
    Wc Tryz.prog theX W0 m0 9 [.string s] A K := by
  have hroom : room = 68719476736 := rfl
  let I : Nat → Nat → List Value → AW → Prop := fun g id vals A' => id = 0 ∧ s.data.toList ≠ [37] ∧ ∃ (i : Nat) (v : Value) (o : List UInt8) (F : List Nat), vals = [.string s, v, .int .i64 (i : Int)] ∧ i ≤ s.data.toList.length ∧ o.length ≤ i ∧ Buf 5 A' v o F ∧ (∀ x ∈ F, A.next ≤ x) ∧
      decP s.data.toList = (decP (s.data.toList.drop i)).map (o ++ ·) ∧ Grow A A' (2 * i) ∧ g = s.data.toList.length - i
  refine w9 _ _ (c9 (I := I) ?_) ?_
  · rintro g id vals A' d ⟨rfl, hne, i, v, o, F, rfl, hi, hoi, hB, hF, hdec, gr, rfl⟩ hd
    rw [l9_0]
    simp only [L9, List.map_cons, List.map_nil, List.cons.injEq, and_true] at hd
    obtain ⟨d0, d4, d5⟩ := hd
    have nx := gr.next
    have le := gr.le
    simp only [d0, d4, d5, ln_9, bin_lss, pureW_some, forkW_dec]
    refine ⟨fun hlt => ?_, fun hge => ?_⟩
    · have hlt : i < s.data.toList.length := by omega
      have hp := List.getElem?_eq_getElem hlt
      generalize hbb : s.data.toList[i] = c at hp
      have hdr := drop_one hp
      have hi1 : IntKind.i64.wrap ((i : Int) + 1) = ((i + 1 : Nat) : Int) := wrap_i64 (by omega) (by omega)
      have hi2 : IntKind.i64.wrap ((i : Int) + 2) = ((i + 2 : Nat) : Int) := wrap_i64 (by omega) (by omega)
      have hi3 : IntKind.i64.wrap (((i + 2 : Nat) : Int) + 1) = ((i + 3 : Nat) : Int) := wrap_i64 (by omega) (by omega)
      simp only [ix9 (k := .i64) hp, bin_neq, bin_add, bin_geq, hi1, hi2, hi3, pureW_some, forkW_bne, forkW_dec]
      refine ⟨fun hc => ?_, fun hc => ⟨fun hsh => ?_, fun hlg => ?_⟩⟩
      · have hc : c.toNat ≠ 37 := by omega
        refine new1 gr.fine (by omega) fun A2 m2 => ?_
        have n2 := m2.next
        have k2 := m2.keeps gr.fine
        refine appendBuf bt33 (hB.keeps k2 (by simp)) (src_slice bt33 (Made.rdB (c := 1) m2)) m2.fine (by omega) (by simp; omega) fun v' A3 F' v3 k3 hF3 n3 f3 => ?_
        refine cutW_self.2 ⟨s.data.toList.length - (i + 1), by omega, rfl, hne, i + 1, v', o ++ [c], F', rfl, by omega, by simp; omega, v3, fun x hx => ?_, ?_, ⟨(gr.keeps.trans k2 (by simp)).trans k3 (fun x hx => .inr (hF x hx)), f3, by omega⟩, rfl⟩
        · rcases hF3 x hx with h | h
          · exact hF x h
          · omega
        · rw [hdec, hdr, decP_other _ hc, map_app]
      · have hc : c.toNat = 37 := by omega
        refine hN A' (gr.more (by omega)) (word_Pn hne ?_)
        rw [hdec, hdr, decP_short hc (by rw [List.length_drop]; omega)]; rfl
      · have hc : c.toNat = 37 := by omega
        have hc := u8_37 hc
        subst hc
        have hp1 := List.getElem?_eq_getElem (show i + 1 < s.data.toList.length by omega)
        generalize hx : s.data.toList[i + 1]'(show i + 1 < s.data.toList.length by omega) = x at hp1
        have hp2 := List.getElem?_eq_getElem (show i + 2 < s.data.toList.length by omega)
        generalize hy : s.data.toList[i + 2]'(show i + 2 < s.data.toList.length by omega) = y at hp2
        have hdig : (Value.string ⟨⟨[48, 49, 50, 51, 52, 53, 54, 55, 56, 57, 97, 98, 99, 100, 101, 102]⟩⟩) = .string digS := rfl
        rw [hdig]
        have bx := digI_bound x.toNat
        have by' := digI_bound y.toNat
        have hsum : IntKind.i64.wrap (digI x.toNat * 16 + digI y.toNat) = digI x.toNat * 16 + digI y.toNat := wrap_i64 (by omega) (by omega)
        have h8 : IntKind.u8.wrap (digI x.toNat * 16 + digI y.toNat) = ((byte2 x y).toNat : Int) := by rw [wrap_u8, byte2_nat]
        simp only [ix9 (k := .i64) hp1, ix9 (k := .i64) hp2, pureW_some]
        refine wc24 ?_
        simp only [eqW_self, shl4, pureW_some]
        refine wc24 ?_
        simp only [eqW_self, bin_add, pureW_some, hsum, cv_3_5, h8, bothW_ok]
        refine new1 gr.fine (by omega) fun A2 m2 => ?_
        have n2 := m2.next
        have k2 := m2.keeps gr.fine
        refine freshW_33 m2.row ?_
        refine appendBuf bt33 (hB.keeps k2 (by simp)) (src_slice bt33 (Made.rdB (c := 1) m2)) m2.fine (by omega) (by simp; omega) fun v' A3 F' v3 k3 hF3 n3 f3 => ?_
        refine cutW_self.2 ⟨s.data.toList.length - (i + 3), by omega, rfl, hne, i + 3, v', o ++ [byte2 x y], F', rfl, by omega, by simp; omega, v3, fun z hz => ?_, ?_, ⟨(gr.keeps.trans k2 (by simp)).trans k3 (fun x hx => .inr (hF x hx)), f3, by omega⟩, rfl⟩
        · rcases hF3 z hz with h | h
          · exact hF z h
          · omega
        · rw [hdec, hdr, drop_one hp1, drop_one hp2, decP_pct, map_app]
    · have hil : i = s.data.toList.length := by omega
      have hdo : decP s.data.toList = some o := by
        rw [hdec, hil, List.drop_length, decP]; simp
      rw [hB.rd.str bt33]
      refine bothW_ok.2 ?_
      refine wc8 (by show o.length < _; omega) gr.fine (by show A'.next + 100 + 10 * o.length < _; omega) fun A2 g2 => ?_
      have n2 : A2.next ≤ A'.next + (20 + 10 * o.length) := g2.next
      rw [bin_strneq]
      simp only [pureW_some]
      have G2 : Grow A A2 (30 + 12 * s.data.toList.length) := (gr.trans g2).more (by show 2 * i + (20 + 10 * o.length) ≤ _; omega)
      refine forkW_bool.2 ⟨fun h => ?_, fun h => ?_⟩
      · have h2 : quoteB o ≠ s.data.toList := by simpa using h
        exact hN A2 G2 (word_P hne hdo h2)
      · have h2 : quoteB o = s.data.toList := by simpa using h
        rw [(hB.keeps g2.keeps (by simp)).rd.str bt33]
        exact bothW_ok.2 (hY A2 o G2 h2)
  · rw [e9, bin_streq]
    simp only [pureW_some]
    refine forkW_bool.2 ⟨fun h => ?_, fun h => ?_⟩
    · have h0 : s.data.toList = [37] := by simpa using h
      exact hY A [] ((Grow.refl hf).more (by omega)) (by rw [h0]; rfl)
    · have h0 : s.data.toList ≠ [37] := by simpa using h
      exact cutW_self.2 ⟨s.data.toList.length, rfl, h0, 0, .slice none 0 0, [], [], rfl, by omega, by simp, .nil _ _, by simp, by simp, (Grow.refl hf).more (by omega), rfl⟩
end
end Go.Proofs.YtebidlpekphaoaaGreatDoor


namespace Go.Proofs.YtebidlpekphaoaaGreatDoor
open Go.Abs
section
variable {W0 : World} {m0 : Inj Tryz.prog}
set_option maxRecDepth 100000 in
set_option maxHeartbeats 1000000 in
theorem wc10 {s : ByteArray} {A : AW} {K : Value → AW → Prop} (hl : s.data.toList.length < 50000) (hf : Fine A) (hA : A.next + 200 + 20 * s.data.toList.length < maxId)
    (hY : ∀ A' l, Grow A A' (30 + 12 * s.data.toList.length) → quoteB l = s.data.toList → K (.tuple ⟨[.string ⟨⟨l⟩⟩, .int .i64 0]⟩) A') (hN : ∀ A', Grow A A' (30 + 12 * s.data.toList.length) → (∀ l, quoteB l ≠ s.data.toList) → K (.tuple ⟨[.string ⟨⟨[]⟩⟩, .int .i64 310]⟩) A') :
    Wc Tryz.prog theX W0 m0 10 [.string s] A K := by
  have hroom : room = 68719476736 := rfl
  by_cases hne : s.data.toList = [37]
  · let I : Nat → Nat → List Value → AW → Prop := fun g id vals A' => id = 0 ∧ A' = A ∧ vals = [.string s, .slice none 0 0, .int .i64 0]
    refine w10 _ _ (c10 (I := I) ?_) ?_
    · rintro g id vals A' d ⟨rfl, rfl, rfl⟩ hd
      rw [l10_0]
      simp only [L10, List.map_cons, List.map_nil, List.cons.injEq, and_true] at hd
      obtain ⟨d0, d4, d5⟩ := hd
      have h0 : decide ((0 : Int) < ((s.data.toList.length : Nat) : Int)) = true := decide_eq_true (by rw [hne]; decide)
      have h1 : (s.data.toList == [37]) = true := by rw [hne]; rfl
      have hr : RdB A' (.slice none 0 0) [] [] := .inl ⟨rfl, rfl, none, 0, rfl⟩
      simp only [d0, d4, d5, ln_9, bin_lss, pureW_some, h0, bin_strneq, h1, Bool.not_true, hr.str bt33]
      refine forkW_bool.2 ⟨fun _ => forkW_bool.2 ⟨fun h => (by cases h), fun _ => ?_⟩, fun h => (by cases h)⟩
      refine bothW_ok.2 ?_
      refine wc11 (by show 0 < _; decide) hf (by show A'.next + 0 < _; omega) fun A2 g2 => ?_
      have n2 : A2.next ≤ A'.next + 0 := g2.next
      have h2 : (quoteB [] == s.data.toList) = true := by rw [hne]; rfl
      rw [bin_strneq]
      simp only [h2, pureW_some, Bool.not_true, hr.str bt33]
      refine forkW_bool.2 ⟨fun h => (by cases h), fun _ => ?_⟩
      have hr2 : RdB A2 (.slice none 0 0) [] [] := .inl ⟨rfl, rfl, none, 0, rfl⟩
      rw [hr2.str bt33]
      exact bothW_ok.2 (hY A2 [] (g2.more (Nat.zero_le _)) (by rw [hne]; rfl))
    · rw [e10]
      exact cutW_self.2 ⟨0, rfl, rfl, rfl⟩
  · let I : Nat → Nat → List Value → AW → Prop := fun g id vals A' => id = 0 ∧ ∃ (i : Nat) (v : Value) (o : List UInt8) (F : List Nat), vals = [.string s, v, .int .i64 (i : Int)] ∧ i ≤ s.data.toList.length ∧ o.length ≤ i ∧ Buf 5 A' v o F ∧ (∀ x ∈ F, A.next ≤ x) ∧
        decR s.data.toList = (decR (s.data.toList.drop i)).map (o ++ ·) ∧ Grow A A' (2 * i) ∧ g = s.data.toList.length - i
    refine w10 _ _ (c10 (I := I) ?_) ?_
    · rintro g id vals A' d ⟨rfl, i, v, o, F, rfl, hi, hoi, hB, hF, hdec, gr, rfl⟩ hd
      rw [l10_0]
      simp only [L10, List.map_cons, List.map_nil, List.cons.injEq, and_true] at hd
      obtain ⟨d0, d4, d5⟩ := hd
      have nx := gr.next
      have le := gr.le
      have h37 : (s.data.toList == [37]) = false := by simpa using hne
      simp only [d0, d4, d5, ln_9, bin_lss, pureW_some, forkW_dec, bin_strneq, h37, Bool.not_false]
      refine ⟨fun hlt => forkW_bool.2 ⟨fun _ => ?_, fun h => (by cases h)⟩, fun hge => ?_⟩
      · have hlt : i < s.data.toList.length := by omega
        have hp := List.getElem?_eq_getElem hlt
        generalize hbb : s.data.toList[i] = c at hp
        have hdr := drop_one hp
        have hi1 : IntKind.i64.wrap ((i : Int) + 1) = ((i + 1 : Nat) : Int) := wrap_i64 (by omega) (by omega)
        have hi2 : IntKind.i64.wrap ((i : Int) + 2) = ((i + 2 : Nat) : Int) := wrap_i64 (by omega) (by omega)
        have hi3 : IntKind.i64.wrap (((i + 2 : Nat) : Int) + 1) = ((i + 3 : Nat) : Int) := wrap_i64 (by omega) (by omega)
        simp only [ix9 (k := .i64) hp, bin_eql, bin_add, bin_geq, hi1, hi2, hi3, pureW_some, forkW_beq, forkW_dec]
        refine ⟨fun hc => ⟨fun hsh => ?_, fun hlg => ?_⟩, fun hc => ?_⟩
        · have hc : c.toNat = 37 := by omega
          refine hN A' (gr.more (by omega)) (word_Rn hne ?_)
          rw [hdec, hdr, decR_short hc (by rw [List.length_drop]; omega)]; rfl
        · have hc : c.toNat = 37 := by omega
          have hc := u8_37 hc
          subst hc
          have hp1 := List.getElem?_eq_getElem (show i + 1 < s.data.toList.length by omega)
          generalize hx : s.data.toList[i + 1]'(show i + 1 < s.data.toList.length by omega) = x at hp1
          have hp2 := List.getElem?_eq_getElem (show i + 2 < s.data.toList.length by omega)
          generalize hy : s.data.toList[i + 2]'(show i + 2 < s.data.toList.length by omega) = y at hp2
          have bx := digI_bound x.toNat
          have by' := digI_bound y.toNat
          have hmul : IntKind.i64.wrap (16 * digI x.toNat) = digI x.toNat * 16 := by rw [wrap_i64 (by omega) (by omega)]; omega
          have hsum : IntKind.i64.wrap (digI x.toNat * 16 + digI y.toNat) = digI x.toNat * 16 + digI y.toNat := wrap_i64 (by omega) (by omega)
          have h8 : IntKind.u8.wrap (digI x.toNat * 16 + digI y.toNat) = ((byte2 x y).toNat : Int) := by rw [wrap_u8, byte2_nat]
          have hbad : digI x.toNat < 0 ∨ digI y.toNat < 0 → ∀ l, quoteB l ≠ s.data.toList := fun h => word_Rn hne (by rw [hdec, hdr, drop_one hp1, drop_one hp2, decR_pct, if_pos h]; rfl)
          simp only [ix9 (k := .i64) hp1, ix9 (k := .i64) hp2, pureW_some]
          refine wc25 ?_
          simp only [bin_lss, pureW_some, forkW_dec]
          refine ⟨fun h => hN A' (gr.more (by omega)) (hbad (.inl h)), fun hx0 => ?_⟩
          refine wc25 ?_
          simp only [bin_lss, pureW_some, forkW_dec]
          refine ⟨fun h => hN A' (gr.more (by omega)) (hbad (.inr h)), fun hy0 => ?_⟩
          refine wc25 ?_
          simp only [eqW_self, bin_mul, hmul, pureW_some]
          refine wc25 ?_
          simp only [eqW_self, bin_add, pureW_some, hsum, cv_3_5, h8, bothW_ok]
          refine new1 gr.fine (by omega) fun A2 m2 => ?_
          have n2 := m2.next
          have k2 := m2.keeps gr.fine
          refine appendBuf bt33 (hB.keeps k2 (by simp)) (src_slice bt33 (Made.rdB (c := 1) m2)) m2.fine (by omega) (by simp; omega) fun v' A3 F' v3 k3 hF3 n3 f3 => ?_
          refine cutW_self.2 ⟨s.data.toList.length - (i + 3), by omega, rfl, i + 3, v', o ++ [byte2 x y], F', rfl, by omega, by simp; omega, v3, fun z hz => ?_, ?_, ⟨(gr.keeps.trans k2 (by simp)).trans k3 (fun x hx => .inr (hF x hx)), f3, by omega⟩, rfl⟩
          · rcases hF3 z hz with h | h
            · exact hF z h
            · omega
          · rw [hdec, hdr, drop_one hp1, drop_one hp2, decR_pct, if_neg (by omega), map_app]
        · have hc : c.toNat ≠ 37 := by omega
          refine new1 gr.fine (by omega) fun A2 m2 => ?_
          have n2 := m2.next
          have k2 := m2.keeps gr.fine
          refine appendBuf bt33 (hB.keeps k2 (by simp)) (src_slice bt33 (Made.rdB (c := 1) m2)) m2.fine (by omega) (by simp; omega) fun v' A3 F' v3 k3 hF3 n3 f3 => ?_
          refine cutW_self.2 ⟨s.data.toList.length - (i + 1), by omega, rfl, i + 1, v', o ++ [c], F', rfl, by omega, by simp; omega, v3, fun x hx => ?_, ?_, ⟨(gr.keeps.trans k2 (by simp)).trans k3 (fun x hx => .inr (hF x hx)), f3, by omega⟩, rfl⟩
          · rcases hF3 x hx with h | h
            · exact hF x h
            · omega
          · rw [hdec, hdr, decR_other _ hc, map_app]
      · have hil : i = s.data.toList.length := by omega
        have hdo : decR s.data.toList = some o := by
          rw [hdec, hil, List.drop_length, decR]; simp
        rw [hB.rd.str bt33]
        refine bothW_ok.2 ?_
        refine wc11 (by show o.length < _; omega) gr.fine (by show A'.next + o.length < _; omega) fun A2 g2 => ?_
        have n2 : A2.next ≤ A'.next + o.length := g2.next
        rw [bin_strneq]
        simp only [pureW_some]
        have G2 : Grow A A2 (30 + 12 * s.data.toList.length) := (gr.trans g2).more (by show 2 * i + o.length ≤ _; omega)
        refine forkW_bool.2 ⟨fun h => ?_, fun h => ?_⟩
        · have h2 : quoteB o ≠ s.data.toList := by simpa using h
          exact hN A2 G2 (word_R hne hdo h2)
        · have h2 : quoteB o = s.data.toList := by simpa using h
          rw [(hB.keeps g2.keeps (by simp)).rd.str bt33]
          exact bothW_ok.2 (hY A2 o G2 h2)
    · rw [e10]
      exact cutW_self.2 ⟨s.data.toList.length, rfl, 0, .slice none 0 0, [], [], rfl, by omega, by simp, .nil _ _, by simp, by simp, (Grow.refl hf).more (by omega), rfl⟩
end
end Go.Proofs.YtebidlpekphaoaaGreatDoor


namespace Go.Proofs.YtebidlpekphaoaaGreatDoor
open Go.Abs
/-- what a word is read as -/
def WordIs (w u : List UInt8) (e : Int) : Prop := (quoteB u = w ∧ e = 0) ∨ ((∀ l, quoteB l ≠ w) ∧ u = [] ∧ e = 310)
theorem word_ex (w : List UInt8) : ∃ u e, WordIs w u e := by
  by_cases h : ∃ l, quoteB l = w
  · obtain ⟨l, hl⟩ := h
    exact ⟨l, 0, .inl ⟨hl, rfl⟩⟩
  · exact ⟨[], 310, .inr ⟨fun l hl => h ⟨l, hl⟩, rfl, rfl⟩⟩
section
variable {W0 : World} {m0 : Inj Tryz.prog}
theorem head_kn (hhd : KC.Holds Tryz.prog W0 m0 ⟨7, [], [.bool true]⟩) (A' : AW) {K : Value → AW → Prop} (hk : K (.bool true) A') : knW Tryz.prog W0 m0 7 [] A' K := .inl ⟨[.bool true], by decide, hhd, rfl, fun v hv => by
  obtain rfl : v = .bool true := by simpa using hv
  exact hk⟩
theorem wc9w {s : ByteArray} {u : List UInt8} {e : Int} {A : AW} {K : Value → AW → Prop} (hw : WordIs s.data.toList u e) (hl : s.data.toList.length < 50000) (hf : Fine A) (hA : A.next + 200 + 20 * s.data.toList.length < maxId)
    (hk : ∀ A', Grow A A' (30 + 12 * s.data.toList.length) → K (.tuple ⟨[.string ⟨⟨u⟩⟩, .int .i64 e]⟩) A') : Wc Tryz.prog theX W0 m0 9 [.string s] A K := by
  refine wc9 hl hf hA (fun A' l g h => ?_) fun A' g h => ?_
  · rcases hw with ⟨h1, rfl⟩ | ⟨h1, _⟩
    · rw [quoteB_inj (h.trans h1.symm)]; exact hk A' g
    · exact absurd h (h1 l)
  · rcases hw with ⟨h1, _⟩ | ⟨_, rfl, rfl⟩
    · exact absurd h1 (h u)
    · exact hk A' g
theorem wc10w {s : ByteArray} {u : List UInt8} {e : Int} {A : AW} {K : Value → AW → Prop} (hw : WordIs s.data.toList u e) (hl : s.data.toList.length < 50000) (hf : Fine A) (hA : A.next + 200 + 20 * s.data.toList.length < maxId)
    (hk : ∀ A', Grow A A' (30 + 12 * s.data.toList.length) → K (.tuple ⟨[.string ⟨⟨u⟩⟩, .int .i64 e]⟩) A') : Wc Tryz.prog theX W0 m0 10 [.string s] A K := by
  refine wc10 hl hf hA (fun A' l g h => ?_) fun A' g h => ?_
  · rcases hw with ⟨h1, rfl⟩ | ⟨h1, _⟩
    · rw [quoteB_inj (h.trans h1.symm)]; exact hk A' g
    · exact absurd h (h1 l)
  · rcases hw with ⟨h1, _⟩ | ⟨_, rfl, rfl⟩
    · exact absurd h1 (h u)
    · exact hk A' g
theorem quoteB_len (l : List UInt8) : (quoteB l).length ≤ 3 * l.length + 1 := by
  unfold quoteB
  split
  · simp
  · have := escL_len l; omega
theorem wc3 {s w : ByteArray} {A : AW} (hhd : KC.Holds Tryz.prog W0 m0 ⟨7, [], [.bool true]⟩) (hf : Fine A) (hA : A.next + 1000000 < maxId) : Wc Tryz.prog theX W0 m0 3 [.string s, .string w] A fun r _ => r = .bool true := by
  refine w3 _ _ _ (cuts_none (S := fun _ _ _ => False) fun _ _ _ h => h) ?_
  rw [e3]
  simp only [ln_9, pureW_some, bin_gtr, forkW_dec]
  refine ⟨fun _ => head_kn hhd _ rfl, fun h1 => ⟨fun _ => head_kn hhd _ rfl, fun h2 => ?_⟩⟩
  have h1 : s.data.toList.length ≤ 3000 := by omega
  have h2 : w.data.toList.length ≤ 3000 := by omega
  obtain ⟨u, e, hw⟩ := word_ex w.data.toList
  have hq := quoteB_len s.data.toList
  refine wc8 (by omega) hf (by omega) fun A1 g1 => ?_
  have n1 := g1.next
  refine wc9w hw (by omega) g1.fine (by omega) fun A2 g2 => ?_
  have n2 := g2.next
  simp only [ex2_0, ex2_1, pureW_some]
  refine wc10w hw (by omega) g2.fine (by omega) fun A3 g3 => ?_
  have n3 := g3.next
  simp only [ex2_0, ex2_1, pureW_some]
  refine wc9w (s := ⟨⟨quoteB s.data.toList⟩⟩) (u := s.data.toList) (e := 0) (.inl ⟨rfl, rfl⟩) (by show (quoteB _).length < _; omega) g3.fine (by show A3.next + 200 + 20 * (quoteB _).length < _; omega) fun A4 g4 => ?_
  have n4 : A4.next ≤ A3.next + (30 + 12 * (quoteB s.data.toList).length) := g4.next
  simp only [ex2_0, ex2_1, pureW_some]
  refine wc11 (by omega) g4.fine (by omega) fun A5 g5 => ?_
  have r1 : ((quoteB s.data.toList) == (quoteB s.data.toList)) = true := by simp
  have r2 : (u == u) = true := by simp
  have r3 : (s.data.toList == s.data.toList) = true := by simp
  have q1 : binA Tryz.prog .eql 9 (.tmp 38) (.tmp 40) (.string ⟨⟨quoteB s.data.toList⟩⟩) (.string ⟨⟨quoteB s.data.toList⟩⟩) = some (.bool true) := by rw [bin_streq, r1]
  have q2 : binA Tryz.prog .eql 9 (.tmp 43) (.tmp 44) (.string ⟨⟨u⟩⟩) (.string ⟨⟨u⟩⟩) = some (.bool true) := by rw [bin_streq, r2]
  have q3 : binA Tryz.prog .eql 9 (.tmp 53) (.tmp 54) (.string ⟨⟨s.data.toList⟩⟩) (.string s) = some (.bool true) := by rw [bin_streq, r3]
  simp only [q1, q2, q3, bin_eql, pureW_some, forkW_beq]
  refine forkW_bool.2 ⟨fun _ => forkW_bool.2 ⟨fun _ => ⟨fun _ => forkW_bool.2 ⟨fun _ => ⟨fun _ => head_kn hhd _ rfl, fun h => absurd rfl h⟩, fun h => (by cases h)⟩, fun h => absurd rfl h⟩, fun h => (by cases h)⟩, fun h => (by cases h)⟩
end
end Go.Proofs.YtebidlpekphaoaaGreatDoor
