/-
  The plain law: both readers tell the same, and what is told is written as it was. Conditions: those of each theorem.
-/
import Derived.Test.YteooonkpannpbaaGreatDoorGetsB

namespace Go.Proofs.YteooonkpannpbaaGreatDoor
open Go.Abs

theorem tk_good {n : Nat} {s : St} (h : (tk n s).2.2 = false) : s.2 = false ∧ n ≤ s.1.length ∧ tk n s = (s.1.take n, (s.1.drop n, false)) := by
  unfold tk at h ⊢
  split at h
  · cases h
  · next hc =>
    rw [if_neg hc]
    have : ¬ s.2 = true := fun h => hc (.inl h)
    exact ⟨by simpa using this, by omega, rfl⟩
theorem nm_good {n : Nat} {s : St} (h : (nm n s).2.2 = false) : s.2 = false ∧ n ≤ s.1.length ∧ nm n s = (beval (s.1.take n), (s.1.drop n, false)) := by
  obtain ⟨h1, h2, h3⟩ := tk_good h
  refine ⟨h1, h2, ?_⟩
  unfold nm
  rw [h3]
theorem tx1_good {s : St} (h : (tx1 s).2.2 = false) : s.2 = false ∧ ∃ c rest, s.1 = c :: rest ∧ c.toNat ≤ rest.length ∧ tx1 s = (rest.take c.toNat, (rest.drop c.toNat, false)) := by
  unfold tx1 at h ⊢
  split at h
  · cases h
  · next hc =>
    rw [if_neg hc]
    have h1 : (nm 1 s).2.2 = false := by
      have : ¬ (nm 1 s).2.2 = true := fun h => hc (.inl h)
      simpa using this
    obtain ⟨a1, a2, a3⟩ := nm_good h1
    rw [a3] at hc ⊢
    match hs : s.1, a2 with
    | c :: rest, _ =>
      have e : beval ((c :: rest).take 1) = c.toNat := by simp [beval]
      rw [hs, e] at hc
      rw [e]
      refine ⟨a1, c, rest, rfl, by simp at hc; omega, rfl⟩
theorem rnS_good {s : St} (h : (rnS s).2 = false) : s.2 = false ∧ ∃ k, 4 ≤ k ∧ k ≤ s.1.length ∧ (rnS s).1 = s.1.drop k := by
  unfold rnS at h ⊢
  obtain ⟨h1, c, r, e1, e2, e3⟩ := tx1_good h
  obtain ⟨h2, c', r', e1', e2', e3'⟩ := tx1_good h1
  obtain ⟨h3, h4, e4⟩ := nm_good h2
  rw [e3]
  rw [e3'] at e1
  rw [e4] at e1'
  have e1 : r'.drop c'.toNat = c :: r := e1
  have e1' : s.1.drop 4 = c' :: r' := e1'
  have l1 : (s.1.drop 4).length = r'.length + 1 := by rw [e1']; rfl
  have l2 : (r'.drop c'.toNat).length = r.length + 1 := by rw [e1]; rfl
  rw [List.length_drop] at l1 l2
  refine ⟨h3, 4 + 1 + c'.toNat + 1 + c.toNat, by omega, by omega, ?_⟩
  have a : r' = (s.1.drop 4).drop 1 := by rw [e1']; rfl
  have b : r = (r'.drop c'.toNat).drop 1 := by rw [e1]; rfl
  show r.drop c.toNat = _
  rw [b, a]
  rw [List.drop_drop, List.drop_drop, List.drop_drop, List.drop_drop]
  exact congrArg (fun n => s.1.drop n) (by omega)
theorem rnS_eta {s : St} (h : s.2 = false) : (s.1, false) = s := by rw [← h]
theorem take_name {l : List UInt8} (h : (rnS (l, false)).2 = false) : tk (xgN l) (l, false) = (l.take (xgN l), (rnS (l, false))) := by
  obtain ⟨_, k, k4, kl, e⟩ := rnS_good h
  have hk : xgN l = k := by
    unfold xgN
    rw [e, List.length_drop]
    have kl : k ≤ l.length := kl
    show l.length - (l.length - k) = k
    omega
  unfold tk
  rw [hk, if_neg (by simp; exact kl)]
  have : rnS (l, false) = (l.drop k, false) := Prod.ext e h
  rw [this]
theorem ps_bad : ∀ (k : Nat) (s : St) (acc : List Pt), s.2 = true → (ps k s acc).2.2 = true
  | 0, s, acc, h => h
  | k + 1, s, acc, h => by rw [ps, if_pos h]; exact h
theorem ps_sub : ∀ (k : Nat) (s : St) (acc : List Pt), ∃ l, (ps k s acc).1 = acc ++ l
  | 0, s, acc => ⟨[], by simp [ps]⟩
  | k + 1, s, acc => by
    rw [ps]; split
    · exact ⟨[], by simp⟩
    · obtain ⟨l, h⟩ := ps_sub k (rnS (nm 1 s).2) (acc ++ [pt s])
      exact ⟨pt s :: l, by rw [h]; simp⟩
theorem xgE_zero {l : List UInt8} : xgE l = 0 ↔ (rnS (l, false)).2 = false ∧ xchk ⟨⟨rnG (l, false)⟩⟩ ⟨⟨rnB (l, false)⟩⟩ = 0 := by
  unfold xgE
  cases (rnS (l, false)).2 <;> simp
theorem rps_of_ps : ∀ (k : Nat) (s : St) (acc : List Pt), (ps k s acc).2.2 = false → (∀ p ∈ (ps k s acc).1, xchk p.g p.b = 0) → rps k s acc = some (ps k s acc)
  | 0, s, acc, _, _ => rfl
  | k + 1, s, acc, h, hx => by
    rw [ps] at h hx ⊢
    split at h
    · next hb => rw [hb] at h; cases h
    · next hb =>
      rw [if_neg hb] at hx ⊢
      have h1 : (rnS (nm 1 s).2).2 = false := by
        cases hq : (rnS (nm 1 s).2).2 with
        | false => rfl
        | true => rw [ps_bad k _ _ hq] at h; cases h
      obtain ⟨h2, _⟩ := rnS_good h1
      have e := rnS_eta h2
      obtain ⟨l, hl⟩ := ps_sub k (rnS (nm 1 s).2) (acc ++ [pt s])
      have hp : xchk (pt s).g (pt s).b = 0 := hx _ (by rw [hl]; simp)
      have ep : pt' s = pt s := by unfold pt' pt; rw [e]
      have ex : xgE (nm 1 s).2.1 = 0 := by
        rw [xgE_zero, e]
        exact ⟨h1, hp⟩
      rw [rps, if_pos ex, ep]
      have et := take_name (l := (nm 1 s).2.1) (by rw [e]; exact h1)
      rw [e] at et
      rw [et]
      exact rps_of_ps k _ _ h hx
theorem ps_of_rps : ∀ (k : Nat) (s : St) (acc : List Pt) (r : List Pt × St), rps k s acc = some r → (s.2 = true → s.1 = []) → ps k s acc = r
  | 0, s, acc, r, h, _ => by rw [rps] at h; cases h; rfl
  | k + 1, s, acc, r, h, hs => by
    rw [rps] at h
    split at h
    · next hx =>
      obtain ⟨h1, h2⟩ := xgE_zero.1 hx
      obtain ⟨_, j, j4, jl, _⟩ := rnS_good h1
      have jl : j ≤ (nm 1 s).2.1.length := jl
      have hb : (nm 1 s).2.2 = false := by
        cases hq : (nm 1 s).2.2 with
        | false => rfl
        | true => have := tk_bad (n := 1) (s := s) hq; rw [show (nm 1 s).2.1 = [] from this] at jl; simp at jl; omega
      have e := rnS_eta hb
      obtain ⟨hs2, _⟩ := nm_good hb
      have et := take_name (l := (nm 1 s).2.1) h1
      rw [e] at et
      rw [et] at h
      have ep : pt' s = pt s := by unfold pt' pt; rw [e]
      rw [ep] at h
      rw [ps, if_neg (by simp [hs2])]
      refine ps_of_rps k _ _ r h fun hb' => ?_
      rw [e] at h1
      rw [h1] at hb'
      cases hb'
    · cases h

/-- both readers tell the same -/
theorem tOk_gok (l : List UInt8) (ps' : List Pt) (N : Nat) : (tOk l = some (ps', N) ∧ N ≠ 0 ∧ N = l.length) → gok l = true ∧ ps' = dcP (l, false) := by
  rintro ⟨h, hN, hl⟩
  unfold tOk at h
  cases hr : rtk l with
  | none => rw [hr] at h; cases h
  | some r =>
    rw [hr] at h
    have h : tDone l r = some (ps', N) := h
    unfold tDone at h
    split at h
    · next hc =>
      cases h
      unfold rtk at hr
      split at hr
      · next hx =>
        split at hr
        · next hm =>
          obtain ⟨x1, x2⟩ := xgE_zero.1 hx
          have eN : rN l = rnS (l, false) := by unfold rN; rw [take_name x1]
          rw [eN] at hr hm
          obtain ⟨q1, q2⟩ := rps_le _ _ _ _ hr
          have e := ps_of_rps _ _ _ _ hr (fun hb => tk_bad hb)
          have q3 := nm_shrink 1 (rnS (l, false))
          have q4 := rnS_shrink (l, false)
          have q4 : (rnS (l, false)).1.length ≤ l.length := q4
          have eP : dcP (l, false) = r.1 := by unfold dcP; rw [e]
          have eS : dcS (l, false) = r.2 := by unfold dcS; rw [e]
          refine ⟨?_, eP.symm⟩
          unfold gok dcOk okD
          rw [eP, eS, hc.1, hc.2]
          have : r.2.1.length = 0 := by omega
          rw [this]
          rfl
        · cases hr
      · cases hr
    · cases h
theorem dchk_one {f : Nat} {g b : ByteArray} {l : List Pt} (h : dchk f g b l = 0) : 1 ≤ l.length := by
  unfold dchk at h
  split at h
  · next hh => exact hh.2.2.1
  · cases h
theorem gok_facts {l : List UInt8} (h : gok l = true) : (dcS (l, false)).2 = false ∧ (dcS (l, false)).1 = [] ∧ dchk (rnF (l, false)) ⟨⟨rnG (l, false)⟩⟩ ⟨⟨rnB (l, false)⟩⟩ (dcP (l, false)) = 0 ∧ (rnS (l, false)).2 = false ∧ rps (nm 1 (rnS (l, false))).1 (nm 1 (rnS (l, false))).2 [] = some (dcP (l, false), dcS (l, false)) ∧ (nm 1 (rnS (l, false))).2.2 = false := by
  unfold gok dcOk okD at h
  simp only [Bool.and_eq_true, Bool.not_eq_true', beq_iff_eq] at h
  obtain ⟨⟨h1, h2⟩, h3⟩ := h
  have h3 := List.eq_nil_of_length_eq_zero h3
  have e : ps (nm 1 (rnS (l, false))).1 (nm 1 (rnS (l, false))).2 [] = (dcP (l, false), dcS (l, false)) := rfl
  have hn : (nm 1 (rnS (l, false))).2.2 = false := by
    cases hq : (nm 1 (rnS (l, false))).2.2 with
    | false => rfl
    | true => have := ps_bad (nm 1 (rnS (l, false))).1 _ [] hq; rw [e] at this; rw [h1] at this; cases this
  refine ⟨h1, h3, h2, (nm_good hn).1, ?_, hn⟩
  rw [← e]
  refine rps_of_ps _ _ _ (by rw [e]; exact h1) ?_
  rw [e]
  exact (dchk_zero h2).2.2
theorem gok_tOk {l : List UInt8} (h : gok l = true) : tOk l = some (dcP (l, false), l.length) ∧ l.length ≠ 0 := by
  obtain ⟨h1, h2, h3, h4, h5, h6⟩ := gok_facts h
  obtain ⟨z1, z2, z3⟩ := dchk_zero h3
  have z4 := dchk_one h3
  have hx : xgE l = 0 := xgE_zero.2 ⟨h4, z1⟩
  have eN : rN l = rnS (l, false) := by unfold rN; rw [take_name h4]
  obtain ⟨q1, q2⟩ := rps_le _ _ _ _ h5
  have q2 : (dcP (l, false)).length = 0 + (nm 1 (rnS (l, false))).1 := q2
  obtain ⟨_, k, k4, kl, _⟩ := rnS_good h4
  have kl : k ≤ l.length := kl
  refine ⟨?_, by omega⟩
  unfold tOk rtk
  rw [if_pos hx, eN, if_pos ⟨by omega, by omega⟩, h5]
  show tDone l (dcP (l, false), dcS (l, false)) = _
  unfold tDone
  rw [if_pos ⟨h1, h3⟩, h2]
  rfl

/-! what is told is written as it was -/
theorem be_add (c m : Nat) : ∀ (j k : Nat), j ≤ k → be (c * 256 ^ k + m) j = be m j
  | 0, _, _ => rfl
  | j + 1, k, h => by
    rw [be, be, be_add c m j k (by omega)]
    congr 1
    apply UInt8.toNat_inj.1
    rw [UInt8.toNat_ofNat', UInt8.toNat_ofNat']
    obtain ⟨d, rfl⟩ : ∃ d, k = j + (d + 1) := ⟨k - j - 1, by omega⟩
    have e : c * 256 ^ (j + (d + 1)) = 256 ^ j * (c * 256 ^ d * 256) := by
      rw [Nat.pow_add, Nat.pow_succ]
      simp only [Nat.mul_comm, Nat.mul_left_comm, Nat.mul_assoc]
    rw [e, Nat.mul_add_div (Nat.pow_pos (by decide))]
    show (c * 256 ^ d * 256 + m / 256 ^ j) % 256 = m / 256 ^ j % 256
    omega
theorem beval_foldl (r : List UInt8) : ∀ a, r.foldl (fun a c => a * 256 + c.toNat) a = a * 256 ^ r.length + beval r := by
  induction r with
  | nil => intro a; simp [beval]
  | cons c r ih =>
    intro a
    have hb : beval (c :: r) = c.toNat * 256 ^ r.length + beval r := by
      show List.foldl _ (0 * 256 + c.toNat) r = _
      rw [ih, Nat.zero_mul, Nat.zero_add]
    rw [List.foldl_cons, ih, hb, List.length_cons, Nat.pow_succ, Nat.add_mul, Nat.mul_assoc a 256, Nat.mul_comm 256 (256 ^ r.length), Nat.add_assoc]
theorem beval_cons (c : UInt8) (r : List UInt8) : beval (c :: r) = c.toNat * 256 ^ r.length + beval r := by
  rw [beval, List.foldl_cons, beval_foldl, Nat.zero_mul, Nat.zero_add]
theorem be_beval : ∀ x : List UInt8, be (beval x) x.length = x
  | [] => rfl
  | c :: r => by
    rw [beval_cons, List.length_cons, be, be_add _ _ _ _ (Nat.le_refl _), be_beval r]
    congr 1
    apply UInt8.toNat_inj.1
    rw [UInt8.toNat_ofNat', Nat.mul_comm, Nat.mul_add_div (Nat.pow_pos (by decide)), Nat.div_eq_of_lt (beval_lt r), Nat.add_zero]
    have := c.toNat_lt
    omega
theorem nm_back {n : Nat} {s : St} (h : (nm n s).2.2 = false) : s.1 = be (nm n s).1 n ++ (nm n s).2.1 := by
  obtain ⟨_, h2, h3⟩ := nm_good h
  rw [h3]
  show s.1 = be (beval (s.1.take n)) n ++ s.1.drop n
  have hl : (s.1.take n).length = n := by rw [List.length_take]; omega
  have := be_beval (s.1.take n)
  rw [hl] at this
  rw [this, List.take_append_drop]
theorem tx1_back {s : St} (h : (tx1 s).2.2 = false) : s.1 = tx ⟨⟨(tx1 s).1⟩⟩ ++ (tx1 s).2.1 := by
  obtain ⟨_, c, r, e1, e2, e3⟩ := tx1_good h
  rw [e3]
  have hl : slen ⟨⟨r.take c.toNat⟩⟩ = c.toNat := by unfold slen; rw [List.length_take]; omega
  unfold tx
  rw [hl, one_be, e1]
  show c :: r = [UInt8.ofNat c.toNat] ++ r.take c.toNat ++ r.drop c.toNat
  rw [List.append_assoc, List.take_append_drop, UInt8.ofNat_toNat]
  rfl
theorem rn_back {s : St} (h : (rnS s).2 = false) : s.1 = xb (rnF s) ⟨⟨rnG s⟩⟩ ⟨⟨rnB s⟩⟩ ++ (rnS s).1 := by
  unfold rnS at h ⊢
  have b3 := tx1_back h
  obtain ⟨h2, _⟩ := tx1_good h
  have b2 := tx1_back h2
  obtain ⟨h1, _⟩ := tx1_good h2
  have b1 := nm_back h1
  unfold xb rnF rnG rnB
  rw [List.append_assoc, ← b3, List.append_assoc, ← b2, ← b1]
theorem ps_back : ∀ (k : Nat) (s : St) (acc : List Pt), (ps k s acc).2.2 = false → ∃ l, (ps k s acc).1 = acc ++ l ∧ s.1 = pb l ++ (ps k s acc).2.1
  | 0, s, acc, _ => ⟨[], by simp [ps], by simp [ps, pb]⟩
  | k + 1, s, acc, h => by
    rw [ps] at h ⊢
    split at h
    · next hb => rw [hb] at h; cases h
    · next hb =>
      rw [if_neg hb]
      obtain ⟨l, h1, h2⟩ := ps_back k _ _ h
      have hr : (rnS (nm 1 s).2).2 = false := by
        cases hq : (rnS (nm 1 s).2).2 with
        | false => rfl
        | true => rw [ps_bad k _ _ hq] at h; cases h
      obtain ⟨hn, _⟩ := rnS_good hr
      refine ⟨pt s :: l, by rw [h1]; simp, ?_⟩
      have b1 := nm_back hn
      have b2 := rn_back hr
      have ep : pb (pt s :: l) = ([UInt8.ofNat (pt s).node] ++ xb (pt s).f (pt s).g (pt s).b) ++ pb l := by simp [pb]
      rw [ep, List.append_assoc, ← h2, List.append_assoc]
      rw [b2, one_be] at b1
      exact b1
theorem gok_back {l : List UInt8} (h : gok l = true) : db (rnF (l, false)) ⟨⟨rnG (l, false)⟩⟩ ⟨⟨rnB (l, false)⟩⟩ (dcP (l, false)) (dcP (l, false)) = l := by
  obtain ⟨h1, h2, h3, h4, h5, h6⟩ := gok_facts h
  obtain ⟨q1, q2⟩ := rps_le _ _ _ _ h5
  have q2 : (dcP (l, false)).length = 0 + (nm 1 (rnS (l, false))).1 := q2
  have b1 := rn_back h4
  have b2 := nm_back h6
  obtain ⟨l', e1, e2⟩ := ps_back (nm 1 (rnS (l, false))).1 (nm 1 (rnS (l, false))).2 [] h1
  have e1 : dcP (l, false) = l' := by
    rw [List.nil_append] at e1
    exact e1
  have e2 : (nm 1 (rnS (l, false))).2.1 = pb l' ++ (dcS (l, false)).1 := e2
  rw [h2, List.append_nil] at e2
  unfold db
  rw [q2, Nat.zero_add, e1, ← e2, ← one_be, List.append_assoc, ← b2, ← b1]
/-- the parts that are told may stand in a part's memory -/
theorem pt_wf (s : St) : (pt s).wf := ⟨nm_lt 1 s, nm_lt 4 _, by show 0 < 256; decide⟩
theorem ps_wf : ∀ (k : Nat) (s : St) (acc : List Pt), (∀ p ∈ acc, p.wf) → ∀ p ∈ (ps k s acc).1, p.wf
  | 0, s, acc, h => h
  | k + 1, s, acc, h => by
    rw [ps]; split
    · exact h
    · refine ps_wf k _ _ fun p hp => ?_
      rcases List.mem_append.1 hp with hp | hp
      · exact h p hp
      · rw [List.mem_singleton.1 hp]; exact pt_wf s
end Go.Proofs.YteooonkpannpbaaGreatDoor


namespace Go.Proofs.YteooonkpannpbaaGreatDoor
open Go.Abs

/-! parts and names that are the same -/
theorem ut5 : quiet Tryz.prog (underlying 5) = some (.int .u8) := by kernel_rfl
theorem ut48 : quiet Tryz.prog (underlying 48) = some (.int .u8) := by kernel_rfl
theorem ft50 : quiet Tryz.prog (underlying 50) = some (.struct (Tryz.prog.fieldsOf 50)) := by kernel_rfl
noncomputable def F50 (i : Nat) : Field := (Tryz.prog.fieldsOf 50).toList.getD i default
theorem fs50 : (Tryz.prog.fieldsOf 50).toList = [F50 0, F50 1, F50 2] := by kernel_rfl
theorem pt50_0 (n f st : Int) (g b : ByteArray) : quiet Tryz.prog (part (F50 0).type ⟨[.int .u8 n, .int .u32 f, .string g, .string b, .int .u8 st]⟩ (F50 0).offset) = some (.int .u8 n) := by kernel_rfl
theorem pt50_1 (n f st : Int) (g b : ByteArray) : quiet Tryz.prog (part (F50 1).type ⟨[.int .u8 n, .int .u32 f, .string g, .string b, .int .u8 st]⟩ (F50 1).offset) = some (.agg ⟨[.int .u32 f, .string g, .string b]⟩) := by kernel_rfl
theorem pt50_2 (n f st : Int) (g b : ByteArray) : quiet Tryz.prog (part (F50 2).type ⟨[.int .u8 n, .int .u32 f, .string g, .string b, .int .u8 st]⟩ (F50 2).offset) = some (.int .u8 st) := by kernel_rfl
theorem ty50_0 : (F50 0).type = 5 := by kernel_rfl
theorem ty50_1 : (F50 1).type = 24 := by kernel_rfl
theorem ty50_2 : (F50 2).type = 48 := by kernel_rfl
theorem same24 (f : Int) (g b : ByteArray) : quiet Tryz.prog (Op.equalIn (9998 + 1) 24 (.agg ⟨[.int .u32 f, .string g, .string b]⟩) (.agg ⟨[.int .u32 f, .string g, .string b]⟩)) = some true := by
  rw [quiet_struct 9998 24 _ _ ft24 (by kernel_rfl), fs24]
  rw [quiet_field (pt24_0 f g b) (pt24_0 f g b) (by rw [ty24_0]; rw [quiet_eq_int 9997 22 _ _ _ _ ut22]; simp)]
  rw [quiet_field (pt24_1 f g b) (pt24_1 f g b) (by rw [ty24_1]; rw [quiet_eqs ut9]; simp)]
  rw [quiet_field (pt24_2 f g b) (pt24_2 f g b) (by rw [ty24_2]; rw [quiet_eqs ut9]; simp)]
  rfl
theorem same50 (p : Pt) : quiet Tryz.prog (Op.equal 50 (.agg ⟨p.cells⟩) (.agg ⟨p.cells⟩)) = some true := by
  show quiet Tryz.prog (Op.equalIn (9999 + 1) 50 _ _) = _
  unfold Pt.cells
  rw [quiet_struct 9999 50 _ _ ft50 (by kernel_rfl), fs50]
  rw [quiet_field (pt50_0 _ _ _ _ _) (pt50_0 _ _ _ _ _) (by rw [ty50_0]; rw [quiet_eq_int 9998 5 _ _ _ _ ut5]; simp)]
  rw [quiet_field (pt50_1 _ _ _ _ _) (pt50_1 _ _ _ _ _) (by rw [ty50_1]; exact same24 _ _ _)]
  rw [quiet_field (pt50_2 _ _ _ _ _) (pt50_2 _ _ _ _ _) (by rw [ty50_2]; rw [quiet_eq_int 9998 48 _ _ _ _ ut48]; simp)]
  rfl
set_option maxRecDepth 100000 in
theorem neq50 (p : Pt) (x y : Operand) : binA Tryz.prog .neq 50 x y (.agg ⟨p.cells⟩) (.agg ⟨p.cells⟩) = some (.bool false) := by
  have hg : eqGuardA Tryz.prog 50 x y (.agg ⟨p.cells⟩) (.agg ⟨p.cells⟩) = true := by
    show (!Tryz.prog.eqGuardType Tryz.prog.depth 50) = true
    kernel_rfl
  show (bif eqGuardA Tryz.prog 50 x y (.agg ⟨p.cells⟩) (.agg ⟨p.cells⟩) then (match eqA Tryz.prog 50 (.agg ⟨p.cells⟩) (.agg ⟨p.cells⟩) with | some b => some (Value.bool !b) | none => none) else none) = _
  rw [hg, cond_true]
  have he : eqA Tryz.prog 50 (.agg ⟨p.cells⟩) (.agg ⟨p.cells⟩) = some true := by
    unfold eqA
    have hc : (closedV 4 (.agg ⟨p.cells⟩) && closedV 4 (.agg ⟨p.cells⟩)) = true := rfl
    rw [hc, cond_true]
    exact same50 p
  simp only [he]
  rfl
set_option maxRecDepth 100000 in
theorem neq24 (f : Int) (g b : ByteArray) (x y : Operand) : binA Tryz.prog .neq 24 x y (.agg ⟨[.int .u32 f, .string g, .string b]⟩) (.agg ⟨[.int .u32 f, .string g, .string b]⟩) = some (.bool false) := by
  have hg : eqGuardA Tryz.prog 24 x y (.agg ⟨[.int .u32 f, .string g, .string b]⟩) (.agg ⟨[.int .u32 f, .string g, .string b]⟩) = true := by
    show (!Tryz.prog.eqGuardType Tryz.prog.depth 24) = true
    kernel_rfl
  show (bif eqGuardA Tryz.prog 24 x y (.agg ⟨[.int .u32 f, .string g, .string b]⟩) (.agg ⟨[.int .u32 f, .string g, .string b]⟩) then (match eqA Tryz.prog 24 (.agg ⟨[.int .u32 f, .string g, .string b]⟩) (.agg ⟨[.int .u32 f, .string g, .string b]⟩) with | some b => some (Value.bool !b) | none => none) else none) = _
  rw [hg, cond_true]
  have he : eqA Tryz.prog 24 (.agg ⟨[.int .u32 f, .string g, .string b]⟩) (.agg ⟨[.int .u32 f, .string g, .string b]⟩) = some true := by
    unfold eqA
    have hc : (closedV 4 (.agg ⟨[.int .u32 f, .string g, .string b]⟩) && closedV 4 (.agg ⟨[.int .u32 f, .string g, .string b]⟩)) = true := rfl
    rw [hc, cond_true]
    have := quiet24 f f g g b b
    unfold xidV sameX at this
    simpa using this
  simp only [he]
  rfl
theorem bs41 (A : AW) (f : Int) (g b : ByteArray) (o : Option Addr) (n c : Nat) : buildSliceA Tryz.prog A 41 1 [(0, .agg ⟨[.int .u32 f, .string g, .string b, .slice o n c]⟩)] = (match A.newRow [.int .u32 f, .string g, .string b, .slice o n c] 27 with | some (a, w') => .ok (.slice (some a) 1 1) w' | none => .fail "buildSlice new") := by kernel_rfl
theorem ia41 (b : Nat) : indexAddrA Tryz.prog 41 (.slice (some ⟨b, 0, none⟩) 1 1) (.int .i64 0) = some (.pointer (some ⟨b, 0, none⟩)) := by
  show indexAddrA Tryz.prog 41 _ (.int .i64 (.ofNat 0)) = _
  rw [ia_41]
  rfl
theorem RdPt.slice {A : AW} {v : Value} {l : List Pt} {F : List Nat} (h : RdPt A v l F) : ∃ o n c, v = .slice o n c := by
  rcases h with ⟨_, _, o, c, rfl⟩ | ⟨r, o, c, cs, e, f, b, ro, rfl, _⟩ <;> exact ⟨_, _, _, rfl⟩
theorem bslice41 {A : AW} {f : Nat} {g b : ByteArray} {sv : Value} {l : List Pt} {F : List Nat} {K : Value → AW → Prop} (hs : RdPt A sv l F) (hf : Fine A) (h : A.next < maxId) (hk : ∀ A', Made A A' (decCells f g b sv) 27 → K (.slice (some ⟨A.next, 0, none⟩) 1 1) A') : bothW (buildSliceA Tryz.prog A 41 1 [(0, decV f g b sv)]) K := by
  obtain ⟨o, n, c, rfl⟩ := hs.slice
  unfold decV decCells
  rw [bs41]
  unfold AW.newRow AW.new
  have hc : ([Value.int .u32 (f : Int), .string g, .string b, .slice o n c]).all oneCell = true := rfl
  simp only [hc, cond_true, blt_true.2 h]
  exact bothW_ok.2 (hk (A.push (.row (decCells f g b (.slice o n c)) 27 A.next 0 false)) ⟨AW.push_ext _ h, rfl, by rw [AW.push_get _ h, if_pos rfl], hf.alone (Nat.le_refl _), hf.push _ h⟩)

section
variable {W0 : World} {m0 : Inj Tryz.prog}
theorem wc29 {A : AW} {v1 v2 : Value} {l : List Pt} {F1 F2 : List Nat} {K : Value → AW → Prop} (h1 : RdPt A v1 l F1) (h2 : RdPt A v2 l F2) (hl : l.length < 1000000) (hk : K (.bool true) A) : Wc Tryz.prog theX W0 m0 29 [v1, v2] A K := by
  let I : Nat → Nat → List Value → AW → Prop := fun g' id vals A' => id = 0 ∧ A' = A ∧ ∃ i : Nat, vals = [v1, v2, .int .i64 (i : Int)] ∧ i ≤ l.length ∧ g' = l.length - i
  refine w29 _ _ _ (c29 (I := I) ?_) ?_
  · rintro g' id vals A' d ⟨rfl, rfl, i, rfl, hi, rfl⟩ hd
    rw [l29_0]
    simp only [L29, List.map_cons, List.map_nil, List.cons.injEq, and_true] at hd
    obtain ⟨h0, h1', h5⟩ := hd
    simp only [h0, h1', h5, h1.len, bin_lss, pureW_some, forkW_dec]
    refine ⟨fun hlt => ?_, fun _ => hk⟩
    have hlt : i < l.length := by omega
    obtain ⟨p, hp⟩ : ∃ p, l[i]? = some p := ⟨l[i], List.getElem?_eq_getElem hlt⟩
    obtain ⟨r, o, a1, a2, _⟩ := h1.at hp
    obtain ⟨r', o', b1, b2, _⟩ := h2.at hp
    simp only [a1, b1, ld_50, a2, b2, neq50, bin_add, pureW_some]
    refine forkW_bool.2 ⟨fun h => by simp at h, fun _ => ?_⟩
    rw [wrap_i64 (by omega) (by omega)]
    exact cutW_self.2 ⟨l.length - (i + 1), by omega, rfl, rfl, i + 1, rfl, by omega, rfl⟩
  · rw [e29]
    simp only [h1.len, h2.len, bin_neq, pureW_some, forkW_bne]
    exact ⟨fun h => absurd rfl h, fun _ => cutW_self.2 ⟨l.length, rfl, rfl, 0, rfl, Nat.zero_le _, rfl⟩⟩

theorem wc11 {A : AW} {b1 b2 : Nat} {f : Nat} {g b : ByteArray} {v1 v2 : Value} {l : List Pt} {F1 F2 : List Nat} {K : Value → AW → Prop} (r1 : Row1 A b1 (decCells f g b v1) 27) (r2 : Row1 A b2 (decCells f g b v2) 27) (h1 : RdPt A v1 l F1) (h2 : RdPt A v2 l F2) (hl : l.length < 1000000) (hk : K (.bool true) A) : Wc Tryz.prog theX W0 m0 11 [.slice (some ⟨b1, 0, none⟩) 1 1, .slice (some ⟨b2, 0, none⟩) 1 1] A K := by
  let I : Nat → Nat → List Value → AW → Prop := fun g' id vals A' => id = 0 ∧ A' = A ∧ ∃ i : Nat, vals = [.slice (some ⟨b1, 0, none⟩) 1 1, .slice (some ⟨b2, 0, none⟩) 1 1, .int .i64 (i : Int)] ∧ i ≤ 1 ∧ g' = 1 - i
  refine w11 _ _ _ (c11 (I := I) ?_) ?_
  · rintro g' id vals A' d ⟨rfl, rfl, i, rfl, hi, rfl⟩ hd
    rw [l11_0]
    simp only [L11, List.map_cons, List.map_nil, List.cons.injEq, and_true] at hd
    obtain ⟨h0, h1', h5⟩ := hd
    simp only [h0, h1', h5, ln_41, bin_lss, pureW_some, forkW_dec]
    refine ⟨fun hlt => ?_, fun _ => hk⟩
    obtain rfl : i = 0 := by omega
    have t1 : A'.cells? ⟨b1, 0, none⟩ 3 = some [.int .u32 (f : Int), .string g, .string b] := by rw [cells_row r1.row]; rfl
    have t2 : A'.cells? ⟨b2, 0, none⟩ 3 = some [.int .u32 (f : Int), .string g, .string b] := by rw [cells_row r2.row]; rfl
    have ei1 : indexAddrA Tryz.prog 41 (.slice (some ⟨b1, 0, none⟩) 1 1) (.int .i64 ((0 : Nat) : Int)) = _ := ia41 b1
    have ei2 : indexAddrA Tryz.prog 41 (.slice (some ⟨b2, 0, none⟩) 1 1) (.int .i64 ((0 : Nat) : Int)) = _ := ia41 b2
    simp only [ei1, ei2, fa_27_0, fa_27_1, ld_24, ld_25, t1, t2, neq24, cell_row r1.row, cell_row r2.row, decCells, cellOf, isT_int, isT_string, h1.one.2, h2.one.2, cond_false, pureW_some, Nat.zero_add]
    refine forkW_bool.2 ⟨fun h => by simp at h, fun _ => ?_⟩
    refine wc29 h1 h2 hl ?_
    simp only [un_not, bin_add, pureW_some]
    refine forkW_bool.2 ⟨fun h => by simp at h, fun _ => ?_⟩
    rw [wrap_i64 (by omega) (by omega)]
    exact cutW_self.2 ⟨0, by omega, rfl, rfl, 1, rfl, by omega, rfl⟩
  · rw [e11]
    simp only [ln_41, bin_neq, pureW_some, forkW_bne]
    exact ⟨fun h => absurd rfl h, fun _ => cutW_self.2 ⟨1, rfl, rfl, 0, rfl, by omega, rfl⟩⟩

theorem wc10 {s : ByteArray} {A : AW} {K : Value → AW → Prop} (hf : Fine A) (hA : A.next + 2000 < maxId) (hs : s.data.toList.length < 1000000)
    (hk : ∀ A' sv Fp, RdPt A' sv (gPs s.data.toList) Fp → (∀ y ∈ Fp, A.next ≤ y) → Keeps A A' [] → A'.next ≤ A.next + 1000 → Fine A' → K (.tuple ⟨[decV (gF s.data.toList) ⟨⟨gG s.data.toList⟩⟩ ⟨⟨gB s.data.toList⟩⟩ sv, .int .i64 (gE s.data.toList)]⟩) A') : Wc Tryz.prog theX W0 m0 10 [.string s] A K := by
  have bad : ∀ A' , gok s.data.toList = false → Grow A A' 610 → K (.tuple ⟨[nilV, .int .i64 260]⟩) A' := fun A' hb k => by
    have := hk A' (.slice none 0 0) [] (by unfold gPs; rw [hb]; exact .nil _) (by simp) k.keeps (by have := k.next; omega) k.fine
    unfold gF gG gB gE at this
    rw [hb] at this
    exact this
  refine w10 _ _ (cuts_none (S := fun _ _ _ => False) fun _ _ _ h => h) ?_
  rw [e10]
  refine allocP_made zero27 hf (by omega) rfl fun A1 m1 => ?_
  have n1 := m1.next
  have fail260 : ∀ (A6 : AW) (zs : List Value), Row1 A6 A.next zs 27 → zs.length = 4 → Grow A A6 610 → gok s.data.toList = false → (pureW (buildA Tryz.prog 27 []) fun t119 => effW (storeP Tryz.prog A6 27 (.pointer (some ⟨A.next, 0, none⟩)) t119) fun At120 => pureW (loadP Tryz.prog At120 27 (.pointer (some ⟨A.next, 0, none⟩))) fun t121 => K (.tuple ⟨[t121, (.int .i64 260)]⟩) At120) := by
    intro A6 zs ht hz g6 hb
    have n6 := g6.next
    rw [ba27n]
    simp only [pureW_some]
    refine store27 ht hz rfl g6.fine (by omega) fun A2 t2 k2 n2 f2 => ?_
    rw [load27 t2 rfl]
    simp only [pureW_some]
    exact bad A2 hb (g6.own k2 (by simp) (m := 0) (by omega) f2)
  refine wc28 (s := s) m1.fine (by omega) hs (fun A2 h2 g2 => ?_) (fun A2 ps N sv Fp h2 p2 hp2 g2 => ?_)
  · have hb : gok s.data.toList = false := by
      cases hq : gok s.data.toList with
      | false => rfl
      | true => rw [(gok_tOk hq).1] at h2; cases h2
    have n2 := g2.next
    have l2 := g2.le
    simp only [extractP, List.getElem?_cons_zero, List.getElem?_cons_succ, pureW_some]
    refine allocP_made zero27 g2.fine (by omega) rfl fun A3 m3 => ?_
    have n3 := m3.next
    refine store27 m3.row1 rfl rfl m3.fine (by omega) fun A4 t4 k4 n4 f4 => ?_
    have g4 : Grow A A4 610 := ((((Grow.made m1 hf).trans g2).trans (.made m3 g2.fine)).own k4 (by simp; omega) (m := 0) (by omega) f4).more (by omega)
    have R4 := ((m1.row1.keeps g2.keeps (by simp)).keeps (m3.keeps g2.fine) (by simp)).keeps k4 (by simp; omega)
    simp only [bin_eql, pureW_some, forkW_beq]
    exact ⟨fun _ => fail260 A4 _ R4 rfl g4 hb, fun h => absurd rfl h⟩
  · have n2 := g2.next
    have l2 := g2.le
    simp only [extractP, List.getElem?_cons_zero, List.getElem?_cons_succ, pureW_some]
    refine allocP_made zero27 g2.fine (by omega) rfl fun A3 m3 => ?_
    have n3 := m3.next
    refine store27 m3.row1 rfl p2.one.1 m3.fine (by omega) fun A4 t4 k4 n4 f4 => ?_
    have g4 : Grow A A4 610 := ((((Grow.made m1 hf).trans g2).trans (.made m3 g2.fine)).own k4 (by simp; omega) (m := 0) (by omega) f4).more (by omega)
    have R4 := ((m1.row1.keeps g2.keeps (by simp)).keeps (m3.keeps g2.fine) (by simp)).keeps k4 (by simp; omega)
    have hFp := p2.fam (A0 := A2)
    have p4 := (p2.keeps (m3.keeps g2.fine) (by simp)).keeps k4 (fun y hy => by have := hFp y hy; simp; omega)
    have hno : gok s.data.toList = true → N = s.data.toList.length ∧ N ≠ 0 ∧ ps = dcP (s.data.toList, false) := fun h => by
      obtain ⟨e1, e2⟩ := gok_tOk h
      rw [h2] at e1
      cases e1
      exact ⟨rfl, e2, rfl⟩
    have hfalse : ¬ (N ≠ 0 ∧ N = s.data.toList.length) → gok s.data.toList = false := fun h => by
      cases hq : gok s.data.toList with
      | false => rfl
      | true => exact absurd ⟨(hno hq).2.1, (hno hq).1⟩ h
    simp only [bin_eql, pureW_some, forkW_beq]
    refine ⟨fun h => fail260 A4 _ R4 rfl g4 (hfalse (by omega)), fun hN => ?_⟩
    simp only [ln_9, bin_neq, pureW_some, forkW_bne]
    refine ⟨fun h => fail260 A4 _ R4 rfl g4 (hfalse (by omega)), fun hL => ?_⟩
    obtain ⟨hg, rfl⟩ := tOk_gok s.data.toList ps N ⟨h2, by omega, by omega⟩
    rw [load27 t4 p4.one.2]
    simp only [pureW_some]
    refine store27 R4 rfl p4.one.1 f4 (by omega) fun A5 t5 k5 n5 f5 => ?_
    rw [load27 t5 p4.one.2]
    simp only [pureW_some]
    have := hk A5 sv Fp (by unfold gPs; rw [hg, if_pos rfl]; exact p4.keeps k5 (fun y hy => by have := hp2 y hy; simp; omega)) (fun y hy => by have := hp2 y hy; omega) (g4.keeps.trans k5 (by simp)) (by have := g4.next; omega) f5
    unfold gF gG gB gE at this
    rw [hg, if_pos rfl, if_pos rfl, if_pos rfl, if_pos rfl] at this
    exact this

/-- the law answers true -/
theorem wc4 {s : ByteArray} {A : AW} (hhd : KC.Holds Tryz.prog W0 m0 ⟨5, [], [.bool true]⟩) (hf : Fine A) (hA : A.next + 20000 < maxId) : Wc Tryz.prog theX W0 m0 4 [.string s] A (fun v _ => v = .bool true) := by
  have hkn : ∀ A', knW Tryz.prog W0 m0 5 [] A' fun v _ => v = .bool true := fun A' => ⟨[.bool true], by decide, hhd, rfl, fun v hv => by simpa using hv⟩
  refine w4 _ _ (cuts_none (S := fun _ _ _ => False) fun _ _ _ h => h) ?_
  rw [e4]
  simp only [ln_9, bin_gtr, pureW_some, forkW_dec]
  refine ⟨fun h => hkn _, fun h => ?_⟩
  have hs : s.data.toList.length < 1000000 := by omega
  refine wc9 hf (by omega) hs fun A1 sv1 F1 p1 hF1 k1 n1 f1 => ?_
  have l1 := k1.next
  have hb1 := p1.fam (A0 := A1)
  simp only [extractP, List.getElem?_cons_zero, List.getElem?_cons_succ, pureW_some]
  refine allocP_made zero27 f1 (by omega) rfl fun A2 m2 => ?_
  have n2 := m2.next
  refine store27 m2.row1 rfl p1.one.1 m2.fine (by omega) fun A3 D3 k3 n3 f3 => ?_
  have p3 := (p1.keeps (m2.keeps f1) (by simp)).keeps k3 (fun y hy => by have := hb1 y hy; simp; omega)
  refine wc10 f3 (by omega) hs fun A4 sv2 F2 p4 hF2 k4 n4 f4 => ?_
  have l4 := k4.next
  have hb2 := p4.fam (A0 := A4)
  have D4 := D3.keeps k4 (by simp)
  have q4 := p3.keeps k4 (by simp)
  simp only [extractP, List.getElem?_cons_zero, List.getElem?_cons_succ, pureW_some]
  refine allocP_made zero27 f4 (by omega) rfl fun A5 m5 => ?_
  have n5 := m5.next
  refine store27 m5.row1 rfl p4.one.1 m5.fine (by omega) fun A6 E6 k6 n6 f6 => ?_
  have D6 := (D4.keeps (m5.keeps f4) (by simp)).keeps k6 (by simp; omega)
  have q6 := (q4.keeps (m5.keeps f4) (by simp)).keeps k6 (fun y hy => by have := hb1 y hy; simp; omega)
  have p6 := (p4.keeps (m5.keeps f4) (by simp)).keeps k6 (fun y hy => by have := hb2 y hy; simp; omega)
  rw [load27 D6 q6.one.2]
  simp only [pureW_some]
  refine bslice41 q6 f6 (by omega) fun A7 m7 => ?_
  have n7 := m7.next
  have D7 := D6.keeps (m7.keeps f6) (by simp)
  have E7 := E6.keeps (m7.keeps f6) (by simp)
  have q7 := q6.keeps (m7.keeps f6) (by simp)
  have p7 := p6.keeps (m7.keeps f6) (by simp)
  rw [load27 E7 p7.one.2]
  simp only [pureW_some]
  refine bslice41 p7 m7.fine (by omega) fun A8 m8 => ?_
  have n8 := m8.next
  have D8 := D7.keeps (m8.keeps m7.fine) (by simp)
  have q8 := q7.keeps (m8.keeps m7.fine) (by simp)
  have p8 := p7.keeps (m8.keeps m7.fine) (by simp)
  have hlen : (gPs s.data.toList).length < 1000000 := by
    unfold gPs
    split
    · next hg => have := (dchk_zero (gok_facts hg).2.2.1).2.1; omega
    · simp
  refine wc11 (m7.row1.keeps (m8.keeps m7.fine) (by simp)) m8.row1 q8 p8 hlen ?_
  simp only [un_not, bin_neq, pureW_some, forkW_bne]
  refine forkW_bool.2 ⟨fun h => by simp at h, fun _ => ⟨fun h => absurd rfl h, fun _ => ⟨fun _ => hkn _, fun he => ?_⟩⟩⟩
  have hg : gok s.data.toList = true := by
    unfold gE at he
    split at he
    · next hg => exact hg
    · cases he
  obtain ⟨_, _, hd, _⟩ := gok_facts hg
  have eF : gF s.data.toList = rnF (s.data.toList, false) := by unfold gF; rw [if_pos hg]
  have eG : gG s.data.toList = rnG (s.data.toList, false) := by unfold gG; rw [if_pos hg]
  have eB : gB s.data.toList = rnB (s.data.toList, false) := by unfold gB; rw [if_pos hg]
  have eP : gPs s.data.toList = dcP (s.data.toList, false) := by unfold gPs; rw [if_pos hg]
  rw [load27 D8 q8.one.2]
  simp only [pureW_some]
  refine wc6 (f := gF s.data.toList) (g := ⟨⟨gG s.data.toList⟩⟩) (b := ⟨⟨gB s.data.toList⟩⟩) m8.fine (by omega) q8 hlen (by rw [eF]; exact nm_lt 4 _) (by rw [eP]; exact ps_wf _ _ _ (by simp)) fun A9 g9 => ?_
  rw [eF, eG, eB, eP]
  have hput : dput (rnF (s.data.toList, false)) ⟨⟨rnG (s.data.toList, false)⟩⟩ ⟨⟨rnB (s.data.toList, false)⟩⟩ (dcP (s.data.toList, false)) = s.data.toList := by
    unfold dput
    rw [if_pos hd, gok_back hg]
  rw [hput, hd]
  simp only [extractP, List.getElem?_cons_zero, List.getElem?_cons_succ, pureW_some, bin_eql, bin_streq, forkW_beq]
  exact ⟨fun _ => forkW_bool.2 ⟨fun _ => hkn _, fun h => by simp at h⟩, fun h => absurd rfl h⟩
end
end Go.Proofs.YteooonkpannpbaaGreatDoor
