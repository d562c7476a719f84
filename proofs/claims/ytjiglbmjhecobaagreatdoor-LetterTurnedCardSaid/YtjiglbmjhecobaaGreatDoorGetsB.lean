/-
  Reading a letter, by the program. Conditions: those of each theorem.
-/
import Derived.Test.YtjiglbmjhecobaaGreatDoorGetsA

namespace Go.Proofs.YtjiglbmjhecobaaGreatDoor
open Go.Abs Go.Crc

def dB (s : List UInt8) : List UInt8 := s.take (s.length - 4)
def dkd (b : List UInt8) : Nat := (b.getD 0 0).toNat
def dxa (b : List UInt8) : Nat := (b.getD 1 0).toNat
def dno (b : List UInt8) : Nat := (b.getD 2 0).toNat * 256 + (b.getD 3 0).toNat
def dR (b : List UInt8) : List UInt8 := b.drop 4
def pn : Nat → List Nm → List UInt8 → List Nm
  | 0, acc, _ => acc
  | n + 1, acc, r => if r.length = 0 ∨ 200 < acc.length then acc else if xgK r = 0 then acc ++ [xgX r] else pn n (acc ++ [xgX r]) (r.drop (xgK r))
def dX (b : List UInt8) : Nm := if dkd b = 5 ∨ dkd b = 21 then x0 else xgX (dR b)
def dL (b : List UInt8) : List Nm := if dkd b = 21 ∧ 2 ≤ (dR b).length then pn (((dR b).getD 0 0).toNat * 256 + ((dR b).getD 1 0).toNat) [] ((dR b).drop 2) else []
noncomputable def GoodP (s : List UInt8) : Prop := sealed s = true ∧ 4 ≤ (dB s).length ∧ lchk (dkd (dB s)) (dxa (dB s)) (dno (dB s)) (dX (dB s)) (dL (dB s)) = 0 ∧ lput (dkd (dB s)) (dxa (dB s)) (dno (dB s)) (dX (dB s)) (dL (dB s)) = s
theorem dkd_lt (b : List UInt8) : dkd b < 256 := (b.getD 0 0).toNat_lt
theorem dxa_lt (b : List UInt8) : dxa b < 256 := (b.getD 1 0).toNat_lt
theorem dno_lt (b : List UInt8) : dno b < 65536 := by
  have h1 : (b.getD 2 0).toNat < 256 := (b.getD 2 0).toNat_lt
  have h2 : (b.getD 3 0).toNat < 256 := (b.getD 3 0).toNat_lt
  unfold dno
  omega
theorem xgX_f (l : List UInt8) : (xgX l).f < 4294967296 := by
  unfold xgX
  split
  · exact nm_lt 4 (l, false)
  · show 0 < 4294967296
    decide
theorem dX_f (b : List UInt8) : (dX b).f < 4294967296 := by
  unfold dX
  split
  · show 0 < 4294967296
    decide
  · exact xgX_f _
theorem pn_zero {n : Nat} {acc : List Nm} {r : List UInt8} (h : n = 0 ∨ r.length = 0 ∨ 200 < acc.length) : pn n acc r = acc := by
  cases n with
  | zero => rfl
  | succ n =>
    unfold pn
    rw [if_pos (by omega)]
theorem pn_stop {n : Nat} {acc : List Nm} {r : List UInt8} (h0 : 0 < n) (h1 : r.length ≠ 0) (h2 : acc.length ≤ 200) (h3 : xgK r = 0) : pn n acc r = acc ++ [xgX r] := by
  cases n with
  | zero => omega
  | succ n =>
    unfold pn
    rw [if_neg (by omega), if_pos h3]
theorem pn_next {n : Nat} {acc : List Nm} {r : List UInt8} (h0 : 0 < n) (h1 : r.length ≠ 0) (h2 : acc.length ≤ 200) (h3 : xgK r ≠ 0) : pn n acc r = pn (n - 1) (acc ++ [xgX r]) (r.drop (xgK r)) := by
  cases n with
  | zero => omega
  | succ n =>
    conv => lhs; unfold pn
    rw [if_neg (by omega), if_neg h3]
    rfl

section
variable {W0 : World} {m0 : Inj Tryz.prog}
theorem anW_dyn29 {A : AW} {a : Addr} {K : Value → AW → Prop} (h : Wc Tryz.prog theX W0 m0 29 [.pointer (some a)] A K) : anW Tryz.prog theX W0 m0 (dynA Tryz.prog theX A (.func (.func 29) ⟨[]⟩ ⟨[.pointer (some a)]⟩) []) K :=
  .inr ⟨29, _, A, dyn29 A a, h⟩

set_option maxRecDepth 100000 in
set_option maxHeartbeats 8000000 in
theorem wc11 {s : ByteArray} {A : AW} {K : Value → AW → Prop} (hf : Fine A) (hg0 : Glb A) (hA : A.next + 90000 < maxId) (hs : s.data.toList.length < 700000)
    (hok : ∀ A' sv F, GoodP s.data.toList → Grow A A' 60000 → RdN A' sv (dL (dB s.data.toList)) F → (∀ y ∈ F, A.next ≤ y) → K (.tuple ⟨[letV (dkd (dB s.data.toList)) (dxa (dB s.data.toList)) (dno (dB s.data.toList)) (dX (dB s.data.toList)) sv, .int .i64 0]⟩) A')
    (hno : ∀ A', ¬ GoodP s.data.toList → Grow A A' 60000 → K (.tuple ⟨[let0, .int .i64 250]⟩) A') : Wc Tryz.prog theX W0 m0 11 [.string s] A K := by
  obtain ⟨b, hb⟩ : ∃ b, dB s.data.toList = b := ⟨_, rfl⟩
  have hbl : b.length ≤ s.data.toList.length := by rw [← hb]; unfold dB; rw [List.length_take]; omega
  have hG : GoodP s.data.toList ↔ sealed s.data.toList = true ∧ 4 ≤ b.length ∧ lchk (dkd b) (dxa b) (dno b) (dX b) (dL b) = 0 ∧ lput (dkd b) (dxa b) (dno b) (dX b) (dL b) = s.data.toList := by unfold GoodP; rw [hb]
  rw [hb] at hok
  have h0 : 0 < A.next := hg0.lt
  have hend : ∀ {A' : AW} {q : Nat} {sv : Value} {F : List Nat} {zs : List Value}, sealed s.data.toList = true → 4 ≤ b.length → Keeps A A' [] → Fine A' → A'.next ≤ A.next + 30000 → Go.Abs.Row1 A' A.next zs 29 → zs.length = 7 → Go.Abs.Row1 A' q (letC (dkd b) (dxa b) (dno b) (dX b) sv) 29 →
      RdN A' sv (dL b) F → (∀ p ∈ dL b, p.f < 4294967296) → A.next ≠ q → A.next ∉ F → (∀ y ∈ F, A.next ≤ y) → tail11 W0 m0 K (.string s) (.pointer (some ⟨A.next, 0, none⟩)) (.pointer (some ⟨q, 0, none⟩)) A' := by
    intro A' q sv F zs he h4 k f n ht hz hq hl hlf hne hnF hF
    refine tail11_ok (dkd_lt b) (dxa_lt b) (dno_lt b) (dX_f b) hlf f (hg0.keeps k (by simp)) (by omega) ht hz hq hl hne hnF (fun e1 e2 A2 k2 n2 f2 l2 => ?_) fun hn A2 k2 n2 f2 => ?_
    · exact hok A2 sv F (hG.2 ⟨he, h4, e1, e2⟩) ⟨k.trans k2 (by simp), f2, by omega⟩ l2 hF
    · exact hno A2 (fun h => hn (hG.1 h).2.2) ⟨k.trans k2 (by simp), f2, by omega⟩
  let I : Nat → Nat → List Value → AW → Prop := fun g id vals A' => id = 0 ∧ ∃ (n B1 B2 : Nat) (v sv : Value) (r : List UInt8) (acc : List Nm) (Fr Fa : List Nat) (zs : List Value),
    vals = [.string s, .pointer (some ⟨A.next, 0, none⟩), .pointer (some ⟨B1, 0, none⟩), .pointer (some ⟨B2, 0, none⟩), .func (.func 29) ⟨[]⟩ ⟨[.pointer (some ⟨B2, 0, none⟩)]⟩, .int .i64 (n : Int)] ∧ n ≤ 65535 ∧ acc.length ≤ 201 ∧ pn n acc r = dL b ∧ (∀ p ∈ acc, p.f < 4294967296) ∧
    zs.length = 7 ∧ Go.Abs.Row1 A' A.next zs 29 ∧ Go.Abs.Row1 A' B1 (letC (dkd b) (dxa b) (dno b) (dX b) sv) 29 ∧ Go.Abs.Row1 A' B2 [v] 44 ∧ RdS 5 A' v r Fr ∧ OwnN A' sv acc Fa ∧ (A.next < B1 ∧ B1 < B2) ∧ (∀ y ∈ Fr, A.next < y ∧ y < B1) ∧ (∀ y ∈ Fa, B2 < y) ∧ r.length < 700000 ∧
    Keeps A A' [] ∧ Fine A' ∧ A'.next ≤ A.next + 100 + 60 * acc.length ∧ sealed s.data.toList = true ∧ 4 ≤ b.length ∧ g = n
  refine w11 _ _ (c11 (I := I) ?_) ?_
  · rintro g id vals A' d ⟨rfl, n, B1, B2, v, sv, r, acc, Fr, Fa, zs, rfl, hn, hac, hpn, hpf, hz, ht, hq, hr, hv, ho, ⟨hB1, hB2⟩, hFr, hFa, hrl, k, f, nx, he, h4, rfl⟩ hd
    rw [l11_0]; unfold ql11_0_0
    simp only [L11, List.map_cons, List.map_nil, List.cons.injEq, and_true] at hd
    obtain ⟨d0, d2, d6, d7, d8, d11⟩ := hd
    have one := ho.rd.one
    have onev := hv.rd.one
    have stop : pn g acc r = acc → tail11 W0 m0 K (.string s) (.pointer (some ⟨A.next, 0, none⟩)) (.pointer (some ⟨B1, 0, none⟩)) A' := fun hp => by
      have hac' : acc = dL b := hp.symm.trans hpn
      have hl := ho.rd
      rw [hac'] at hl hpf
      exact hend he h4 k f (by omega) ht hz hq hl hpf (by omega) (fun hm => by have := hFa _ hm; omega) (fun y hy => by have := hFa y hy; omega)
    simp only [d0, d2, d6, d7, d8, d11, bin_gtr, pureW_some, forkW_dec]
    refine ⟨fun hgt => ?_, fun hle => stop (pn_zero (.inl (by omega)))⟩
    simp only [ld_44, cell_row hr.row, cellOf, onev.2, cond_false, hv.rd.len tb, bin_gtr, pureW_some, forkW_dec]
    refine ⟨fun hrgt => ?_, fun hle => stop (pn_zero (.inr (.inl (by omega))))⟩
    have hsv : A'.cell? ⟨B1, 6, none⟩ = some sv := by rw [cell_row hq.row]; simp only [letC, cellOf, one.2, cond_false]
    simp only [fa_29_4, ld_27, Nat.zero_add, hsv, ho.rd.len, bin_leq, pureW_some, forkW_dec]
    refine ⟨fun hle2 => ?_, fun hgt2 => stop (pn_zero (.inr (.inr (by omega))))⟩
    refine anW_dyn29 (wc29 hr hv (fun hm => by have := hFr _ hm; omega) f (by omega) (by omega) fun A2 v2 hr2 hv2 k2 n2 f2 => ?_)
    have l2 := k2.next
    have hq2 := hq.keeps k2 (by simp; omega)
    have ht2 := ht.keeps k2 (by simp; omega)
    have ho2 := ho.keeps k2 (fun y hy => by have := hFa y hy; simp; omega)
    have hsv2 : A2.cell? ⟨B1, 6, none⟩ = some sv := by rw [cell_row hq2.row]; simp only [letC, cellOf, one.2, cond_false]
    simp only [hsv2, pureW_some, eqW_self]
    refine bslice27 f2 (by omega) fun A3 m3 => ?_
    have n3 := m3.next
    have k3 := m3.keeps f2
    refine freshW_27 m3.row ?_
    have hr3 := hr2.keeps k3 (by simp)
    have hv3 := hv2.keeps k3 (by simp)
    have hq3 := hq2.keeps k3 (by simp)
    have ht3 := ht2.keeps k3 (by simp)
    have ho3 := ho2.keeps k3 (by simp)
    have hsv3 : A3.cell? ⟨B1, 6, none⟩ = some sv := by rw [cell_row hq3.row]; simp only [letC, cellOf, one.2, cond_false]
    have hB2lt := hr.lt
    simp only [fa_29_4, ld_27, Nat.zero_add, hsv3, pureW_some, eqW_self]
    refine ho3.append m3.row1 m3.fine (by omega) (by omega) fun sv4 A4 Fa4 ho4 k4 hFa4 n4 f4 => ?_
    have one4 := ho4.rd.one
    have l4 := k4.next
    have hFn : ∀ y ∈ Fa, B2 < y := hFa
    have hr4 := hr3.keeps k4 (fun hm => by have := hFa _ hm; omega)
    have hv4 := hv3.keeps k4 (fun y hy hm => by have := hFa _ hm; have := hFr y hy; omega)
    have hq4 := hq3.keeps k4 (fun hm => by have := hFa _ hm; omega)
    have ht4 := ht3.keeps k4 (fun hm => by have := hFa _ hm; omega)
    have hFa4' : ∀ y ∈ Fa4, B2 < y := fun y hy => by
      rcases hFa4 y hy with h | h
      · exact hFa y h
      · omega
    obtain ⟨o4, c4, hx4⟩ := ho4.rd.slice
    refine hq4.store f4 (by omega) (st_27 _ _ _) (by rw [hx4]; rfl) (by simp [letC]) (by rw [hx4]; rfl) fun A5 hq5 k5 n5 f5 => ?_
    have hq5 : Go.Abs.Row1 A5 B1 (letC (dkd b) (dxa b) (dno b) (dX b) sv4) 29 := by rw [hx4] at hq5 ⊢; exact hq5
    have hr5 := hr4.keeps k5 (by simp; omega)
    have hv5 := hv4.keeps k5 (fun y hy => by have := hFr y hy; simp; omega)
    have ht5 := ht4.keeps k5 (by simp; omega)
    have ho5 := ho4.keeps k5 (fun y hy => by have := hFa4' y hy; simp; omega)
    have onev5 := hv5.rd.one
    have K5 : Keeps A A5 [] := (((k.trans k2 (by simp; omega)).trans k3 (by simp)).trans k4 (fun y hy => .inr (by have := hFa y hy; omega))).trans k5 (by simp; omega)
    have hpf5 : ∀ p ∈ acc ++ [xgX r], p.f < 4294967296 := fun p hp => by
      rcases List.mem_append.1 hp with h | h
      · exact hpf p h
      · rw [List.mem_singleton.1 h]; exact xgX_f r
    have hac5 : (acc ++ [xgX r]).length = acc.length + 1 := by simp
    have hkl := xgK_le r
    simp only [ld_44, cell_row hr5.row, cellOf, onev5.2, cond_false, hv5.rd.len tb, List.length_drop, bin_eql, pureW_some, forkW_beq]
    refine ⟨fun heq => ?_, fun hne => ?_⟩
    · have hac' : acc ++ [xgX r] = dL b := (pn_stop (by omega) (by omega) (by omega) (by omega)).symm.trans hpn
      have hl := ho5.rd
      rw [hac'] at hl hpf5
      exact hend he h4 K5 f5 (by omega) ht5 hz hq5 hl hpf5 (by omega) (fun hm => by have := hFa4' _ hm; omega) (fun y hy => by have := hFa4' y hy; omega)
    · simp only [bin_sub, pureW_some]
      rw [wrap_i64 (by omega) (by omega)]
      refine cutW_self.2 ⟨g - 1, by omega, rfl, g - 1, B1, B2, v2, sv4, r.drop (xgK r), acc ++ [xgX r], Fr, Fa4, zs, ?_, by omega, by omega, ?_, hpf5, hz, ht5, hq5, hr5, hv5, ho5, ⟨hB1, hB2⟩, hFr, hFa4', by rw [List.length_drop]; omega, K5, f5, by omega, he, h4, rfl⟩
      · rw [show (g : Int) - 1 = ((g - 1 : Nat) : Int) by omega]
      · rw [← hpn, pn_next (n := g) (acc := acc) (r := r) (by omega) (by omega) (by omega) (by omega)]
  · rw [e11]; unfold qe11_0
    refine allocP_made zero29 hf (by omega) rfl fun A1 m1 => ?_
    have n1 := m1.next
    have k1 := m1.keeps hf
    have T1 : Go.Abs.Row1 A1 A.next (letC 0 0 0 x0 (.slice none 0 0)) 29 := m1.row1
    refine conv_bytes m1.fine (by omega) fun A2 g2 s2 => ?_
    have n2 := g2.next
    have l2 := g2.le
    have T2 := T1.keeps g2.keeps (by simp)
    have g02 := (Grow.made m1 hf).trans g2
    refine wc28 s2 (hg0.keeps g02.keeps (by simp)) g2.fine (by omega) (by omega) (fun he A3 v F3 g3 s3 hF3 => ?_) fun he => ?_
    · have n3 := g3.next
      have l3 := g3.le
      have T3 := T2.keeps g3.keeps (by simp)
      have g03 := g02.trans g3
      have s3 : RdS 5 A3 v b F3 := by rw [← hb]; exact s3
      simp only [ex_0, ex_1, un_not, pureW_some, s3.rd.len tb, bin_lss]
      refine forkW_bool.2 ⟨fun h => by simp at h, fun _ => forkW_dec.2 ⟨fun hlt => ?_, fun hge => ?_⟩⟩
      · exact zeroTail T3 rfl g3.fine (by omega) fun A4 k4 n4 f4 => hno A4 (fun h => by have := (hG.1 h).2.1; omega) ((g03.own k4 (by simp) (m := 0) (by omega) f4).more (by omega))
      · have h4 : 4 ≤ b.length := by omega
        obtain ⟨c0, c1, c2, c3, rest, hbe⟩ : ∃ c0 c1 c2 c3 rest, b = c0 :: c1 :: c2 :: c3 :: rest := by
          match b, h4 with
          | c0 :: c1 :: c2 :: c3 :: rest, _ => exact ⟨c0, c1, c2, c3, rest, rfl⟩
        have ekd : dkd b = c0.toNat := by rw [hbe]; rfl
        have exa : dxa b = c1.toNat := by rw [hbe]; rfl
        have eno : dno b = c2.toNat * 256 + c3.toNat := by rw [hbe]; rfl
        have eR : dR b = rest := by rw [hbe]; rfl
        have hc0 : c0.toNat < 256 := c0.toNat_lt
        have hc2 : c2.toNat < 256 := c2.toNat_lt
        have hc3 : c3.toNat < 256 := c3.toNat_lt
        refine allocP_made zero29 g3.fine (by omega) rfl fun A4 m4 => ?_
        have n4 := m4.next
        have k4 := m4.keeps g3.fine
        refine freshW_29 m4.row ?_
        have s4 := s3.keeps k4 (by simp)
        have T4 := T3.keeps k4 (by simp)
        have F3lt := s3.rd.lt
        obtain ⟨p0, a0, b0⟩ := s4.rd.at tb (i := 0) (b := c0) (by rw [hbe]; rfl)
        obtain ⟨p1, a1, b1⟩ := s4.rd.at tb (i := 1) (b := c1) (by rw [hbe]; rfl)
        obtain ⟨p2, a2, b2⟩ := s4.rd.at tb (i := 2) (b := c2) (by rw [hbe]; rfl)
        obtain ⟨p3, a3, b3⟩ := s4.rd.at tb (i := 3) (b := c3) (by rw [hbe]; rfl)
        have a0 : indexAddrA Tryz.prog 44 v (.int .i64 0) = some (.pointer (some p0)) := a0
        have a1 : indexAddrA Tryz.prog 44 v (.int .i64 1) = some (.pointer (some p1)) := a1
        have a2 : indexAddrA Tryz.prog 44 v (.int .i64 2) = some (.pointer (some p2)) := a2
        have a3 : indexAddrA Tryz.prog 44 v (.int .i64 3) = some (.pointer (some p3)) := a3
        simp only [a0, a1, a2, a3, b0, b1, b2, b3, pureW_some, cv_5_26, bothW_ok]
        rw [wrap_u16 (n := (c2.toNat : Int)) (by omega) (by omega), wrap_u16 (n := (c3.toNat : Int)) (by omega) (by omega), bin_shl (by decide)]
        simp only [pureW_some]
        rw [bin_or, or16 hc2 hc3]
        simp only [pureW_some]
        rw [ba29x]
        simp only [pureW_some]
        refine store29 (kd := c0.toNat) (xa := c1.toNat) (no := c2.toNat * 256 + c3.toNat) (x := x0) (sv := .slice none 0 0) m4.row1 rfl rfl m4.fine (by omega) fun A5 q5 k5 n5 f5 => ?_
        have s5 := s4.keeps k5 (fun y hy => by have := F3lt y hy; simp; omega)
        have T5 := T4.keeps k5 (by simp; omega)
        obtain ⟨v6, hv6, s6⟩ := s5.from tb (n := 4) h4
        have hv6 : sliceA Tryz.prog A5 44 v (some (.int .i64 4)) none none = some v6 := hv6
        have s6 : RdS 5 A5 v6 rest F3 := by rw [← eR]; exact s6
        simp only [hv6, pureW_some]
        refine allocP_made zero44 f5 (by omega) rfl fun A6 m6 => ?_
        have n6 := m6.next
        have k6 := m6.keeps f5
        have s6' := s6.keeps k6 (by simp)
        have T6 := T5.keeps k6 (by simp)
        have q6 := q5.keeps k6 (by simp)
        obtain ⟨o6, c6, hx6⟩ := s6.rd.slice
        refine m6.row1.store m6.fine (by omega) (st_44 _ _ _) (by rw [hx6]; rfl) (by simp [Value.cells]) (by rw [hx6]; rfl) fun A7 r7 k7 n7 f7 => ?_
        have r7 : Go.Abs.Row1 A7 A5.next [v6] 44 := by rw [hx6] at r7 ⊢; exact r7
        have s7 := s6'.keeps k7 (fun y hy => by have := F3lt y hy; simp; omega)
        have T7 := T6.keeps k7 (by simp; omega)
        have q7 := q6.keeps k7 (by simp; omega)
        have one7 := s7.rd.one
        have K7 : Grow A A7 40 := by
          have a4 := (g03.trans (.made m4 g3.fine)).own k5 (by simp; omega) (m := 0) (by omega) f5
          exact ((a4.trans (.made m6 f5)).own k7 (by simp; omega) (m := 0) (by omega) f7).more (by omega)
        have hrl : rest.length < 700000 := by have : b.length = rest.length + 4 := by rw [hbe]; rfl
                                              omega
        have hF3' : ∀ y ∈ F3, A.next < y ∧ y < A3.next := fun y hy => ⟨by have := hF3 y hy; omega, F3lt y hy⟩
        simp only [fa_29_0, ld_5, cell_row q7.row, letC, cellOf, isT_int, cond_false, pureW_some]
        have q7 : Go.Abs.Row1 A7 A3.next (letC (dkd b) (dxa b) (dno b) x0 (.slice none 0 0)) 29 := by rw [ekd, exa, eno]; exact q7
        refine wc20 (kd := c0.toNat) hc0 fun kk an hkk => ?_
        rw [← ekd] at hkk
        simp only [ex_0, ex_1, pureW_some, bin_neq, bin_eql, forkW_bne]
        refine ⟨fun hk5 => ?_, fun hk5 => ?_⟩
        · have hnd : ¬ (dkd b = 5 ∨ dkd b = 21) := by omega
          have eX : dX b = xgX rest := by unfold dX; rw [if_neg hnd, eR]
          have eL : dL b = [] := by unfold dL; rw [if_neg (by omega)]
          refine anW_dyn29 (wc29 r7 s7 (fun hm => by have := hF3' _ hm; omega) f7 (by omega) (by omega) fun A8 v8 r8 s8 k8 n8 f8 => ?_)
          have l8 := k8.next
          have q8 := q7.keeps k8 (by simp; omega)
          have T8 := T7.keeps k8 (by simp; omega)
          simp only [fa_29_1, pureW_some, Nat.zero_add]
          refine q8.store f8 (by omega) (st_24 _ _ _) rfl (by simp [letC, Value.cells, Nm.cells]) rfl fun A9 q9 k9 n9 f9 => ?_
          have q9 : Go.Abs.Row1 A9 A3.next (letC (dkd b) (dxa b) (dno b) (dX b) (.slice none 0 0)) 29 := by rw [eX]; exact q9
          have g9 : Grow A A9 100 := ((K7.own k8 (by simp; omega) (m := 45) (by omega) f8).own k9 (by simp; omega) (m := 0) (by omega) f9).more (by omega)
          exact hend he h4 g9.keeps f9 (by have := g9.next; omega) (T8.keeps k9 (by simp; omega)) rfl q9 (by rw [eL]; exact .nil _ _ _) (by rw [eL]; simp) (by omega) (by simp) (by simp)
        · have hnd : dkd b = 5 ∨ dkd b = 21 := by omega
          have eX : dX b = x0 := by unfold dX; rw [if_pos hnd]
          rw [← eX] at q7
          have short : ¬ (dkd b = 21 ∧ 2 ≤ (dR b).length) → tail11 W0 m0 K (.string s) (.pointer (some ⟨A.next, 0, none⟩)) (.pointer (some ⟨A3.next, 0, none⟩)) A7 := fun hn => by
            have eL : dL b = [] := by unfold dL; rw [if_neg hn]
            exact hend he h4 K7.keeps f7 (by have := K7.next; omega) T7 rfl q7 (by rw [eL]; exact .nil _ _ _) (by rw [eL]; simp) (by omega) (by simp) (by simp)
          refine forkW_bool.2 ⟨fun han => ?_, fun han => short (by rw [han] at hkk; simp at hkk; omega)⟩
          have h21 : dkd b = 21 := by rw [han] at hkk; simp at hkk; omega
          simp only [ld_44, cell_row r7.row, cellOf, one7.2, cond_false, s7.rd.len tb, pureW_some, bin_geq, forkW_dec]
          refine ⟨fun hge2 => ?_, fun hlt2 => short (by rw [eR]; omega)⟩
          obtain ⟨e0, e1, rr, hre⟩ : ∃ e0 e1 rr, rest = e0 :: e1 :: rr := by
            match rest, hge2 with
            | e0 :: e1 :: rr, _ => exact ⟨e0, e1, rr, rfl⟩
            | [_], h => simp at h
            | [], h => simp at h
          have eL : dL b = pn (e0.toNat * 256 + e1.toNat) [] rr := by unfold dL; rw [if_pos ⟨h21, by rw [eR]; omega⟩, eR, hre]; rfl
          have he0 : e0.toNat < 256 := e0.toNat_lt
          have he1 : e1.toNat < 256 := e1.toNat_lt
          obtain ⟨p4, a4, b4⟩ := s7.rd.at tb (i := 0) (b := e0) (by rw [hre]; rfl)
          obtain ⟨p5, a5, b5⟩ := s7.rd.at tb (i := 1) (b := e1) (by rw [hre]; rfl)
          have a4 : indexAddrA Tryz.prog 44 v6 (.int .i64 0) = some (.pointer (some p4)) := a4
          have a5 : indexAddrA Tryz.prog 44 v6 (.int .i64 1) = some (.pointer (some p5)) := a5
          obtain ⟨v8, hv8, s8⟩ := s7.from tb (n := 2) (by omega)
          have hv8 : sliceA Tryz.prog A7 44 v6 (some (.int .i64 2)) none none = some v8 := hv8
          have s8 : RdS 5 A7 v8 rr F3 := by rw [hre] at s8; exact s8
          simp only [a4, b4, pureW_some, cv_5_3, bothW_ok]
          rw [wrap_i64 (n := (e0.toNat : Int)) (by omega) (by omega), bin_shl (by decide)]
          simp only [cell_row r7.row, cellOf, one7.2, cond_false, a5, b5, pureW_some, cv_5_3, bothW_ok]
          rw [wrap_i64 (n := (e1.toNat : Int)) (by omega) (by omega), bin_or, or64 he0 he1]
          simp only [cell_row r7.row, cellOf, one7.2, cond_false, hv8, pureW_some]
          obtain ⟨o8, c8, hx8⟩ := s8.rd.slice
          refine r7.store f7 (by omega) (st_44 _ _ _) (by rw [hx8]; rfl) (by simp) (by rw [hx8]; rfl) fun A8 r8 k8 n8 f8 => ?_
          have r8 : Go.Abs.Row1 A8 A5.next [v8] 44 := by rw [hx8] at r8 ⊢; exact r8
          have g8 := K7.own k8 (by simp; omega) (m := 0) (by omega) f8
          refine cutW_self.2 ⟨e0.toNat * 256 + e1.toNat, rfl, e0.toNat * 256 + e1.toNat, A3.next, A5.next, v8, .slice none 0 0, rr, [], F3, [], letC 0 0 0 x0 (.slice none 0 0), rfl, by omega, by simp, eL.symm, by simp, rfl, T7.keeps k8 (by simp; omega), q7.keeps k8 (by simp; omega), r8, s8.keeps k8 (fun y hy => by have := hF3' y hy; simp; omega), .nil _, ⟨by omega, by omega⟩, hF3', by simp, ?_, g8.keeps, f8, by have := g8.next; simp; omega, he, h4, rfl⟩
          rw [hre] at hrl
          simp at hrl
          omega
    · simp only [ex_0, ex_1, un_not, pureW_some]
      refine forkW_bool.2 ⟨fun _ => ?_, fun h => by simp at h⟩
      exact zeroTail T2 rfl g2.fine (by omega) fun A4 k4 n4 f4 => hno A4 (fun h => by have := (hG.1 h).1; rw [he] at this; cases this) ((g02.own k4 (by simp) (m := 0) (by omega) f4).more (by omega))
end
end Go.Proofs.YtjiglbmjhecobaaGreatDoor


namespace Go.Proofs.YtjiglbmjhecobaaGreatDoor
open Go.Abs Go.Crc

theorem cv_57_25 (A : AW) (n : Int) (k : IntKind) : convertA Tryz.prog A 57 25 (.int k n) = .ok (.int .u8 (IntKind.u8.wrap n)) A := by kernel_rfl
theorem wrap_u8n {n : Int} (h1 : 0 ≤ n) (h2 : n < 256) : IntKind.u8.wrap n = n := by rw [wrap_u8]; omega

def nmO (l : List UInt8) : Nm := ⟨rnF (l, false), ⟨⟨rnG (l, false)⟩⟩, ⟨⟨rnB (l, false)⟩⟩⟩
def rl (kd : Nat) : Nat → Nat → Nm → List Nm → St → Option (Nm × List Nm)
  | 0, _, x, acc, _ => some (x, acc)
  | n + 1, i, x, acc, S => if 200 < i ∨ kd = 5 ∨ S.2 = true then some (x, acc) else if xgE S.1 ≠ 0 then none
    else if kd = 21 then rl kd n (i + 1) x (acc ++ [nmO S.1]) (tk (xgN S.1) S).2 else rl kd n (i + 1) (nmO S.1) acc (tk (xgN S.1) S).2
def rkd (b : List UInt8) : Nat := (nm 1 (b, false)).1
def rs1 (b : List UInt8) : St := (nm 1 (b, false)).2
def rxa (b : List UInt8) : Nat := (nm 1 (rs1 b)).1
def rs2 (b : List UInt8) : St := (nm 1 (rs1 b)).2
def rno (b : List UInt8) : Nat := (nm 2 (rs2 b)).1
def rs3 (b : List UInt8) : St := (nm 2 (rs2 b)).2
def rres (b : List UInt8) : Option (Nm × List Nm) := if rkd b = 21 then rl 21 (nm 2 (rs3 b)).1 0 x0 [] (nm 2 (rs3 b)).2 else rl (rkd b) 1 0 x0 [] (rs3 b)
def GoodR (s : List UInt8) (x : Nm) (l : List Nm) : Prop := sealed s = true ∧ rres (dB s) = some (x, l) ∧ lchk (rkd (dB s)) (rxa (dB s)) (rno (dB s)) x l = 0 ∧ lput (rkd (dB s)) (rxa (dB s)) (rno (dB s)) x l = s
theorem rkd_lt (b : List UInt8) : rkd b < 256 := nm_lt 1 _
theorem rxa_lt (b : List UInt8) : rxa b < 256 := nm_lt 1 _
theorem rno_lt (b : List UInt8) : rno b < 65536 := nm_lt 2 _
theorem nmO_f (l : List UInt8) : (nmO l).f < 4294967296 := nm_lt 4 (l, false)
theorem rl_stop {kd n i : Nat} {x : Nm} {acc : List Nm} {S : St} (h : n = 0 ∨ 200 < i ∨ kd = 5 ∨ S.2 = true) : rl kd n i x acc S = some (x, acc) := by
  cases n with
  | zero => rfl
  | succ n =>
    unfold rl
    rw [if_pos (h.resolve_left (by omega))]
theorem rl_none {kd n i : Nat} {x : Nm} {acc : List Nm} {S : St} (h0 : 0 < n) (h1 : ¬ (200 < i ∨ kd = 5 ∨ S.2 = true)) (h2 : xgE S.1 ≠ 0) : rl kd n i x acc S = none := by
  cases n with
  | zero => omega
  | succ n =>
    unfold rl
    rw [if_neg h1, if_pos h2]
theorem rl_21 {n i : Nat} {x : Nm} {acc : List Nm} {S : St} (h0 : 0 < n) (h1 : ¬ (200 < i ∨ 21 = 5 ∨ S.2 = true)) (h2 : xgE S.1 = 0) : rl 21 n i x acc S = rl 21 (n - 1) (i + 1) x (acc ++ [nmO S.1]) (tk (xgN S.1) S).2 := by
  cases n with
  | zero => omega
  | succ n =>
    conv => lhs; unfold rl
    rw [if_neg h1, if_neg (by rw [h2]; simp), if_pos rfl]
    rfl
theorem rl_1 {kd n i : Nat} {x : Nm} {acc : List Nm} {S : St} (h0 : 0 < n) (h1 : ¬ (200 < i ∨ kd = 5 ∨ S.2 = true)) (h2 : xgE S.1 = 0) (h3 : kd ≠ 21) : rl kd n i x acc S = rl kd (n - 1) (i + 1) (nmO S.1) acc (tk (xgN S.1) S).2 := by
  cases n with
  | zero => omega
  | succ n =>
    conv => lhs; unfold rl
    rw [if_neg h1, if_neg (by rw [h2]; simp), if_neg h3]
    rfl

section
variable {W0 : World} {m0 : Inj Tryz.prog}
noncomputable def tail12 (W0 : World) (m0 : Inj Tryz.prog) (Q : Value → AW → Prop) (d0 d2 d7 : Value) (A : AW) : Prop := pureW (loadP Tryz.prog A 29 d7) fun t38 => Wc Tryz.prog theX W0 m0 9 [t38] A fun t39 At39 => pureW (extractP t39 0) fun t40 => pureW (extractP t39 1) fun t41 => pureW (binA Tryz.prog .neq 3 (.tmp 95) (.const (.int .i64 0)) t41 (.int .i64 0)) fun t42 => forkW t42 (pureW (buildA Tryz.prog 29 []) fun t43 => effW (storeP Tryz.prog At39 29 d2 t43) fun At44 => pureW (loadP Tryz.prog At44 29 d2) fun t45 => Q (.tuple ⟨[t45, (.int .i64 250)]⟩) At44) (pureW (binA Tryz.prog .neq 9 (.tmp 98) (.tmp 99) t40 d0) fun t46 => forkW t46 (pureW (buildA Tryz.prog 29 []) fun t47 => effW (storeP Tryz.prog At39 29 d2 t47) fun At48 => pureW (loadP Tryz.prog At48 29 d2) fun t49 => Q (.tuple ⟨[t49, (.int .i64 250)]⟩) At48) (pureW (loadP Tryz.prog At39 29 d7) fun t50 => effW (storeP Tryz.prog At39 29 d2 t50) fun At51 => pureW (loadP Tryz.prog At51 29 d2) fun t52 => Q (.tuple ⟨[t52, (.int .i64 0)]⟩) At51))
theorem tail12_ok {A : AW} {s : ByteArray} {t q kd xa no : Nat} {x : Nm} {sv : Value} {l : List Nm} {F : List Nat} {zs : List Value} {Q : Value → AW → Prop} (hkd : kd < 256) (hxa : xa < 256) (hn0 : no < 65536) (hxf : x.f < 4294967296) (hlf : ∀ p ∈ l, p.f < 4294967296)
    (hf : Fine A) (hA : A.next + 40000 < maxId) (ht : Go.Abs.Row1 A t zs 29) (hz : zs.length = 7) (hq : Go.Abs.Row1 A q (letC kd xa no x sv) 29) (hl : RdN A sv l F) (htq : t ≠ q) (htF : t ∉ F)
    (hok : lchk kd xa no x l = 0 → lput kd xa no x l = s.data.toList → ∀ A', Keeps A A' [t] → A'.next ≤ A.next + 20000 → Fine A' → RdN A' sv l F → Q (.tuple ⟨[letV kd xa no x sv, .int .i64 0]⟩) A')
    (hno : ¬ (lchk kd xa no x l = 0 ∧ lput kd xa no x l = s.data.toList) → ∀ A', Keeps A A' [t] → A'.next ≤ A.next + 20000 → Fine A' → Q (.tuple ⟨[let0, .int .i64 250]⟩) A') :
    tail12 W0 m0 Q (.string s) (.pointer (some ⟨t, 0, none⟩)) (.pointer (some ⟨q, 0, none⟩)) A := by
  unfold tail12
  rw [letW_load hq hl.one.2]
  simp only [pureW_some]
  refine wc9 hkd hxa hn0 hxf hlf hf (by omega) hl fun A1 g1 => ?_
  have n1 := g1.next
  have t1 := ht.keeps g1.keeps (by simp)
  have q1 := hq.keeps g1.keeps (by simp)
  have l1 := hl.keeps g1.keeps (by simp)
  have K1 : Keeps A A1 [t] := g1.keeps.more (by simp)
  have one := hl.one
  simp only [ex_0, ex_1, pureW_some, bin_neq, bin_strneq, forkW_bne]
  refine ⟨fun he => zeroTail t1 hz g1.fine (by omega) fun A2 k2 n2 f2 => hno (fun h => he h.1) A2 (K1.trans k2 (fun y hy => .inl hy)) (by omega) f2, fun he => ?_⟩
  refine forkW_bool.2 ⟨fun hb => zeroTail t1 hz g1.fine (by omega) fun A2 k2 n2 f2 => hno (fun h => ?_) A2 (K1.trans k2 (fun y hy => .inl hy)) (by omega) f2, fun hb => ?_⟩
  · rw [h.2] at hb
    simp at hb
  · have hs : lput kd xa no x l = s.data.toList := by simpa using hb
    rw [letW_load q1 one.2]
    simp only [pureW_some]
    refine store29 t1 hz one.1 g1.fine (by omega) fun A2 t2 k2 n2 f2 => ?_
    rw [letW_load t2 one.2]
    simp only [pureW_some]
    exact hok he hs A2 (K1.trans k2 (fun y hy => .inl hy)) (by omega) f2 (l1.keeps k2 (fun y hy => by simp; intro h0; subst h0; exact htF hy))

set_option maxRecDepth 100000 in
set_option maxHeartbeats 8000000 in
theorem wc12 {s : ByteArray} {A : AW} {K : Value → AW → Prop} (hf : Fine A) (hA : A.next + 90000 < maxId) (hs : s.data.toList.length < 700000)
    (hok : ∀ A' sv F x l, GoodR s.data.toList x l → Grow A A' 60000 → RdN A' sv l F → (∀ y ∈ F, A.next ≤ y) → K (.tuple ⟨[letV (rkd (dB s.data.toList)) (rxa (dB s.data.toList)) (rno (dB s.data.toList)) x sv, .int .i64 0]⟩) A')
    (hno : ∀ A', (¬ ∃ x l, GoodR s.data.toList x l) → Grow A A' 60000 → K (.tuple ⟨[let0, .int .i64 250]⟩) A') : Wc Tryz.prog theX W0 m0 12 [.string s] A K := by
  obtain ⟨b, hb⟩ : ∃ b, dB s.data.toList = b := ⟨_, rfl⟩
  have hbl : b.length ≤ s.data.toList.length := by rw [← hb]; unfold dB; rw [List.length_take]; omega
  have hG : ∀ x l, GoodR s.data.toList x l ↔ sealed s.data.toList = true ∧ rres b = some (x, l) ∧ lchk (rkd b) (rxa b) (rno b) x l = 0 ∧ lput (rkd b) (rxa b) (rno b) x l = s.data.toList := fun x l => by unfold GoodR; rw [hb]
  rw [hb] at hok
  have hend : ∀ {A' : AW} {q : Nat} {x : Nm} {l : List Nm} {sv : Value} {F : List Nat} {zs : List Value}, sealed s.data.toList = true → rres b = some (x, l) → Keeps A A' [] → Fine A' → A'.next ≤ A.next + 30000 → Go.Abs.Row1 A' A.next zs 29 → zs.length = 7 → Go.Abs.Row1 A' q (letC (rkd b) (rxa b) (rno b) x sv) 29 →
      RdN A' sv l F → x.f < 4294967296 → (∀ p ∈ l, p.f < 4294967296) → A.next ≠ q → A.next ∉ F → (∀ y ∈ F, A.next ≤ y) → tail12 W0 m0 K (.string s) (.pointer (some ⟨A.next, 0, none⟩)) (.pointer (some ⟨q, 0, none⟩)) A' := by
    intro A' q x l sv F zs he h4 k f n ht hz hq hl hxf hlf hne hnF hF
    refine tail12_ok (rkd_lt b) (rxa_lt b) (rno_lt b) hxf hlf f (by omega) ht hz hq hl hne hnF (fun e1 e2 A2 k2 n2 f2 l2 => ?_) fun hn A2 k2 n2 f2 => ?_
    · exact hok A2 sv F x l ((hG x l).2 ⟨he, h4, e1, e2⟩) ⟨k.trans k2 (by simp), f2, by omega⟩ l2 hF
    · refine hno A2 (fun ⟨x', l', h⟩ => hn ?_) ⟨k.trans k2 (by simp), f2, by omega⟩
      obtain ⟨_, g2, g3⟩ := (hG x' l').1 h
      rw [h4, Option.some.injEq, Prod.mk.injEq] at g2
      obtain ⟨rfl, rfl⟩ := g2
      exact g3
  let I : Nat → Nat → List Value → AW → Prop := fun g id vals A' => id = 0 ∧ ∃ (m i p q : Nat) (x : Nm) (sv : Value) (S : St) (acc : List Nm) (Fr Fa : List Nat) (zs : List Value),
    vals = [.string s, .pointer (some ⟨A.next, 0, none⟩), .pointer (some ⟨p, 0, none⟩), .pointer (some ⟨q, 0, none⟩), .int .u64 (m : Int), .int .u64 (i : Int)] ∧ m ≤ 65535 ∧ i ≤ 201 ∧ acc.length ≤ i ∧ rl (rkd b) (m - i) i x acc S = rres b ∧ x.f < 4294967296 ∧ (∀ p ∈ acc, p.f < 4294967296) ∧
    zs.length = 7 ∧ Go.Abs.Row1 A' A.next zs 29 ∧ Go.Abs.Row1 A' q (letC (rkd b) (rxa b) (rno b) x sv) 29 ∧ RR A' p S.1 S.2 Fr ∧ OwnN A' sv acc Fa ∧ (A.next < p ∧ p < q) ∧ (∀ y ∈ Fr, A.next < y ∧ y < q) ∧ (∀ y ∈ Fa, q < y) ∧ S.1.length < 700000 ∧
    Keeps A A' [] ∧ Fine A' ∧ A'.next ≤ A.next + 100 + 60 * i ∧ sealed s.data.toList = true ∧ g = m - i
  refine w12 _ _ (c12 (I := I) ?_) ?_
  · rintro g id vals A' d ⟨rfl, m, i, p, q, x, sv, S, acc, Fr, Fa, zs, rfl, hm, hi, hac, hpn, hxf, hpf, hz, ht, hq, hr, ho, ⟨hB1, hB2⟩, hFr, hFa, hrl, k, f, nx, he, rfl⟩ hd
    rw [l12_0]; unfold ql12_0_0
    simp only [L12, List.map_cons, List.map_nil, List.cons.injEq, and_true] at hd
    obtain ⟨d0, d2, d6, d7, d8, d9⟩ := hd
    have one := ho.rd.one
    have hkd := rkd_lt b
    have stop : rl (rkd b) (m - i) i x acc S = some (x, acc) → tail12 W0 m0 K (.string s) (.pointer (some ⟨A.next, 0, none⟩)) (.pointer (some ⟨q, 0, none⟩)) A' := fun hp =>
      hend he (hpn.symm.trans hp) k f (by omega) ht hz hq ho.rd hxf hpf (by omega) (fun hm => by have := hFa _ hm; omega) (fun y hy => by have := hFa y hy; omega)
    simp only [d0, d2, d6, d7, d8, d9, bin_lss, pureW_some, forkW_dec]
    refine ⟨fun hlt => ?_, fun hle => stop (rl_stop (.inl (by omega)))⟩
    simp only [bin_leq, pureW_some, forkW_dec]
    refine ⟨fun hi200 => ?_, fun hle => stop (rl_stop (.inr (.inl (by omega))))⟩
    simp only [fa_29_0, ld_5, cell_row hq.row, letC, cellOf, isT_int, cond_false, bin_neq, pureW_some, forkW_bne]
    refine ⟨fun hk5 => ?_, fun hk5 => stop (rl_stop (.inr (.inr (.inl (by omega)))))⟩
    obtain ⟨bs, r1, r2⟩ := hr.ex
    simp only [nilP_some, fa_77_0, fa_77_1, ld_4, ld_44, cell_row r1.row, cellOf, isT_bool, r2.rd.one.2, cond_false, pureW_some, un_not, Nat.zero_add]
    refine forkW_bool.2 ⟨fun hsp => ?_, fun hsp => stop (rl_stop (.inr (.inr (.inr (by simpa using hsp)))))⟩
    have hS2 : S.2 = false := by simpa using hsp
    have hcont : ¬ (200 < i ∨ rkd b = 5 ∨ S.2 = true) := by rw [hS2]; simp; omega
    refine wc34 r2.rd f (by omega) (by omega) fun A2 f' g' b' n' g2 hx2 => ?_
    have n2 := g2.next
    have l2 := g2.le
    simp only [ex3_0, ex3_1, ex3_2, pureW_some]
    refine allocP_made zero24 g2.fine (by omega) rfl fun A3 m3 => ?_
    have n3 := m3.next
    refine store24 (p := ⟨f', ⟨⟨g'⟩⟩, ⟨⟨b'⟩⟩⟩) m3.row1 rfl m3.fine (by omega) fun A4 X4 k4 n4 f4 => ?_
    have K04 : Keeps A' A4 [] := (g2.trans (.made m3 g2.fine)).keeps.trans k4 (by simp; omega)
    have ht4 := ht.keeps K04 (by simp)
    have hq4 := hq.keeps K04 (by simp)
    have hr4 := hr.keeps K04 (by simp) (by simp)
    have ho4 := ho.keeps K04 (by simp)
    have hqlt := hq.lt
    have hplt := hr.lt
    have hFalt := ho.lt
    simp only [bin_neq, pureW_some, forkW_bne]
    refine ⟨fun hne => ?_, fun heq => ?_⟩
    · refine zeroTail ht4 hz f4 (by omega) fun A5 k5 n5 f5 => hno A5 (fun ⟨x', l', h⟩ => ?_) ⟨(k.trans K04 (by simp)).trans k5 (by simp), f5, by omega⟩
      have := ((hG x' l').1 h).2.1
      rw [← hpn, rl_none (n := m - i) (i := i) (by omega) hcont hne] at this
      cases this
    · obtain ⟨rfl, rfl, rfl, rfl⟩ := hx2 heq
      have hxN : xgN S.1 ≤ S.1.length := Nat.sub_le _ _
      refine wc35 (s := S) (n := xgN S.1) hr4 f4 (by omega) (by omega) (by omega) fun A5 v5 Fr5 Fo5 hr5 _ k5 n5 f5 hFr5 _ => ?_
      have l5 := k5.next
      have X5 := X4.keeps k5 (by simp; omega)
      have ht5 := ht4.keeps k5 (by simp; omega)
      have hq5 := hq4.keeps k5 (by simp; omega)
      have ho5 := ho4.keeps k5 (fun y hy => by have := hFa y hy; simp; omega)
      have K5 : Keeps A A5 [] := (k.trans K04 (by simp)).trans k5 (by simp; omega)
      have hshr := tk_shrink (xgN S.1) S
      have hFr5' : ∀ y ∈ Fr5, A.next < y ∧ y < q := fun y hy => hFr y (hFr5 y hy)
      simp only [fa_29_4, ld_27, cell_row hq5.row, letC, cellOf, isT_int, one.2, cond_false, bin_eql, pureW_some, forkW_beq, Nat.zero_add]
      refine ⟨fun h21 => ?_, fun h21 => ?_⟩
      · have h21 : rkd b = 21 := by omega
        rw [load24 X5]
        simp only [pureW_some]
        refine bslice27 f5 (by omega) fun A6 m6 => ?_
        have n6 := m6.next
        have k6 := m6.keeps f5
        refine (ho5.keeps k6 (by simp)).append m6.row1 m6.fine (by omega) (by omega) fun sv7 A7 Fa7 ho7 k7 hFa7 n7 f7 => ?_
        have l7 := k7.next
        have hq7 := (hq5.keeps k6 (by simp)).keeps k7 (fun hm => by have := hFa _ hm; omega)
        have ht7 := (ht5.keeps k6 (by simp)).keeps k7 (fun hm => by have := hFa _ hm; omega)
        have hr7 := (hr5.keeps k6 (by simp) (by simp)).keeps k7 (fun hm => by have := hFa _ hm; omega) (fun y hy hm => by have := hFa _ hm; have := hFr5' y hy; omega)
        have hFa7' : ∀ y ∈ Fa7, q < y := fun y hy => by
          rcases hFa7 y hy with h | h
          · exact hFa y h
          · omega
        obtain ⟨o7, c7, hx7⟩ := ho7.rd.slice
        refine hq7.store f7 (by omega) (st_27 _ _ _) (by rw [hx7]; rfl) (by simp [letC]) (by rw [hx7]; rfl) fun A8 hq8 k8 n8 f8 => ?_
        have hq8 : Go.Abs.Row1 A8 q (letC (rkd b) (rxa b) (rno b) x sv7) 29 := by rw [hx7] at hq8 ⊢; exact hq8
        have ht8 := ht7.keeps k8 (by simp; omega)
        have hr8 := hr7.keeps k8 (by simp; omega) (fun y hy => by have := hFr5' y hy; simp; omega)
        have ho8 := ho7.keeps k8 (fun y hy => by have := hFa7' y hy; simp; omega)
        simp only [bin_add, pureW_some]
        rw [wrap_u64 (by omega) (by omega)]
        refine cutW_self.2 ⟨m - (i + 1), by omega, rfl, m, i + 1, p, q, x, sv7, (tk (xgN S.1) S).2, acc ++ [nmO S.1], Fr5, Fa7, zs, rfl, hm, by omega, by simp; omega, ?_, hxf, fun y hy => ?_, hz, ht8, hq8, hr8, ho8, ⟨hB1, hB2⟩, hFr5', hFa7', by omega, ((K5.trans k6 (by simp)).trans k7 (fun y hy => .inr (by have := hFa y hy; omega))).trans k8 (by simp; omega), f8, by omega, he, rfl⟩
        · rw [← hpn, h21, rl_21 (n := m - i) (i := i) (by omega) (by rw [← h21]; exact hcont) heq, show m - (i + 1) = m - i - 1 by omega]
        · rcases List.mem_append.1 hy with h | h
          · exact hpf y h
          · rw [List.mem_singleton.1 h]; exact nmO_f S.1
      · have h21 : rkd b ≠ 21 := by omega
        rw [load24 X5]
        simp only [fa_29_1, pureW_some, Nat.zero_add]
        refine hq5.store f5 (by omega) (st_24 _ _ _) rfl (by simp [letC, Value.cells, Nm.cells]) rfl fun A6 hq6 k6 n6 f6 => ?_
        have hq6 : Go.Abs.Row1 A6 q (letC (rkd b) (rxa b) (rno b) (nmO S.1) sv) 29 := hq6
        have ht6 := ht5.keeps k6 (by simp; omega)
        have hr6 := hr5.keeps k6 (by simp; omega) (fun y hy => by have := hFr5' y hy; simp; omega)
        have ho6 := ho5.keeps k6 (fun y hy => by have := hFa y hy; simp; omega)
        simp only [bin_add, pureW_some]
        rw [wrap_u64 (by omega) (by omega)]
        refine cutW_self.2 ⟨m - (i + 1), by omega, rfl, m, i + 1, p, q, nmO S.1, sv, (tk (xgN S.1) S).2, acc, Fr5, Fa, zs, rfl, hm, by omega, by omega, ?_, nmO_f S.1, hpf, hz, ht6, hq6, hr6, ho6, ⟨hB1, hB2⟩, hFr5', hFa, by omega, K5.trans k6 (by simp; omega), f6, by omega, he, rfl⟩
        rw [← hpn, rl_1 (n := m - i) (i := i) (by omega) hcont heq h21, show m - (i + 1) = m - i - 1 by omega]
  · rw [e12]
    refine allocP_made zero29 hf (by omega) rfl fun A1 m1 => ?_
    have n1 := m1.next
    have k1 := m1.keeps hf
    have T1 : Go.Abs.Row1 A1 A.next (letC 0 0 0 x0 (.slice none 0 0)) 29 := m1.row1
    refine conv_bytes m1.fine (by omega) fun A2 g2 s2 => ?_
    have n2 := g2.next
    have l2 := g2.le
    have T2 := T1.keeps g2.keeps (by simp)
    have g02 := (Grow.made m1 hf).trans g2
    refine wc31 s2 g2.fine (by omega) (by omega) (fun he A3 v F3 g3 s3 hF3 => ?_) fun he A3 g3 => ?_
    · have n3 := g3.next
      have l3 := g3.le
      have T3 := T2.keeps g3.keeps (by simp)
      have g03 := g02.trans g3
      have s3 : RdB A3 v b F3 := by rw [← hb]; exact s3
      simp only [ex_0, ex_1, un_not, pureW_some]
      refine forkW_bool.2 ⟨fun h => by simp at h, fun _ => ?_⟩
      refine wc32 s3 g3.fine (by omega) (by omega) fun A4 p F4 g4 r4 hp4 hF4 => ?_
      have n4 := g4.next
      have l4 := g4.le
      have T4 := T3.keeps g4.keeps (by simp)
      have r4lt := r4.lt
      refine allocP_made zero29 g4.fine (by omega) rfl fun A5 m5 => ?_
      have n5 := m5.next
      have k5 := m5.keeps g4.fine
      have T5 := T4.keeps k5 (by simp)
      have r5 := r4.keeps k5 (by simp) (by simp)
      have q5 : Go.Abs.Row1 A5 A4.next (letC 0 0 0 x0 (.slice none 0 0)) 29 := m5.row1
      have g05 := (g03.trans g4).trans (.made m5 g4.fine)
      refine wc33 (s := (b, false)) (w := 1) r5 m5.fine (by omega) (by show b.length < _; omega) (by omega) fun A6 F6 r6 k6 n6 f6 hF6 => ?_
      have l6 := k6.next
      have T6 := T5.keeps k6 (by simp; omega)
      have q6 := q5.keeps k6 (by simp; omega)
      have hk := rkd_lt b
      have hx := rxa_lt b
      have hn := rno_lt b
      have s6 : (rs1 b).1.length ≤ b.length := nm_shrink 1 (b, false)
      have s7 : (rs2 b).1.length ≤ (rs1 b).1.length := nm_shrink 1 (rs1 b)
      have s8 : (rs3 b).1.length ≤ (rs2 b).1.length := nm_shrink 2 (rs2 b)
      have s9 := nm_shrink 2 (rs3 b)
      have r6 : RR A6 p (rs1 b).1 (rs1 b).2 F6 := r6
      simp only [cv_57_5, bothW_ok, fa_29_0, fa_29_2, fa_29_3, pureW_some, Nat.zero_add]
      rw [wrap_u8n (by omega) (by show ((rkd b : Nat) : Int) < 256; omega)]
      refine q6.store f6 (by omega) (st_5 _ _ _) rfl (by simp [letC, Value.cells]) rfl fun A7 q7 k7 n7 f7 => ?_
      have q7 : Go.Abs.Row1 A7 A4.next (letC (rkd b) 0 0 x0 (.slice none 0 0)) 29 := q7
      have T7 := T6.keeps k7 (by simp; omega)
      have hF6' : ∀ y ∈ F6, A3.next ≤ y ∧ y < A4.next := fun y hy => ⟨hF4 y (hF6 y hy), r4lt.2 y (hF6 y hy)⟩
      have r7 := r6.keeps k7 (by simp; omega) (fun y hy => by have := hF6' y hy; simp; omega)
      refine wc33 (s := rs1 b) (w := 1) r7 f7 (by omega) (by omega) (by omega) fun A8 F8 r8 k8 n8 f8 hF8 => ?_
      have l8 := k8.next
      have T8 := T7.keeps k8 (by simp; omega)
      have q8 := q7.keeps k8 (by simp; omega)
      have r8 : RR A8 p (rs2 b).1 (rs2 b).2 F8 := r8
      simp only [cv_57_25, bothW_ok]
      rw [wrap_u8n (by omega) (by show ((rxa b : Nat) : Int) < 256; omega)]
      refine q8.store f8 (by omega) (st_25 _ _ _) rfl (by simp [letC, Value.cells]) rfl fun A9 q9 k9 n9 f9 => ?_
      have q9 : Go.Abs.Row1 A9 A4.next (letC (rkd b) (rxa b) 0 x0 (.slice none 0 0)) 29 := q9
      have T9 := T8.keeps k9 (by simp; omega)
      have hF8' : ∀ y ∈ F8, A3.next ≤ y ∧ y < A4.next := fun y hy => hF6' y (hF8 y hy)
      have r9 := r8.keeps k9 (by simp; omega) (fun y hy => by have := hF8' y hy; simp; omega)
      refine wc33 (s := rs2 b) (w := 2) r9 f9 (by omega) (by omega) (by omega) fun A10 F10 r10 k10 n10 f10 hF10 => ?_
      have l10 := k10.next
      have T10 := T9.keeps k10 (by simp; omega)
      have q10 := q9.keeps k10 (by simp; omega)
      have r10 : RR A10 p (rs3 b).1 (rs3 b).2 F10 := r10
      simp only [cv_57_26, bothW_ok]
      rw [wrap_u16 (by omega) (by show ((rno b : Nat) : Int) < 65536; omega)]
      refine q10.store f10 (by omega) (st_26 _ _ _) rfl (by simp [letC, Value.cells]) rfl fun A11 q11 k11 n11 f11 => ?_
      have q11 : Go.Abs.Row1 A11 A4.next (letC (rkd b) (rxa b) (rno b) x0 (.slice none 0 0)) 29 := q11
      have T11 := T10.keeps k11 (by simp; omega)
      have hF10' : ∀ y ∈ F10, A3.next ≤ y ∧ y < A4.next := fun y hy => hF8' y (hF10 y hy)
      have r11 := r10.keeps k11 (by simp; omega) (fun y hy => by have := hF10' y hy; simp; omega)
      have g11 : Grow A A11 90 := by
        have a7 := (g05.own k6 (by simp; omega) (m := 2) (by omega) f6).own k7 (by simp; omega) (m := 0) (by omega) f7
        have a9 := (a7.own k8 (by simp; omega) (m := 2) (by omega) f8).own k9 (by simp; omega) (m := 0) (by omega) f9
        exact ((a9.own k10 (by simp; omega) (m := 2) (by omega) f10).own k11 (by simp; omega) (m := 0) (by omega) f11).more (by omega)
      simp only [ld_5, cell_row q11.row, letC, cellOf, isT_int, cond_false, bin_eql, pureW_some, forkW_beq]
      refine ⟨fun h21 => ?_, fun h21 => ?_⟩
      · have h21 : rkd b = 21 := by omega
        refine wc33 (s := rs3 b) (w := 2) r11 f11 (by omega) (by omega) (by omega) fun A12 F12 r12 k12 n12 f12 hF12 => ?_
        have hm : (nm 2 (rs3 b)).1 < 65536 := nm_lt 2 _
        refine cutW_self.2 ⟨(nm 2 (rs3 b)).1 - 0, rfl, (nm 2 (rs3 b)).1, 0, p, A4.next, x0, .slice none 0 0, (nm 2 (rs3 b)).2, [], F12, [], letC 0 0 0 x0 (.slice none 0 0), rfl, by omega, by omega, by simp, ?_, by decide, by simp, rfl, T11.keeps k12 (by simp; omega), q11.keeps k12 (by simp; omega), r12, .nil _, ⟨by omega, by omega⟩, fun y hy => by have := hF10' y (hF12 y hy); omega, by simp, by omega, g11.keeps.trans k12 (by simp; omega), f12, by have := g11.next; omega, he, rfl⟩
        unfold rres
        rw [if_pos h21, h21]
        rfl
      · have h21 : rkd b ≠ 21 := by omega
        refine cutW_self.2 ⟨1 - 0, rfl, 1, 0, p, A4.next, x0, .slice none 0 0, rs3 b, [], F10, [], letC 0 0 0 x0 (.slice none 0 0), rfl, by omega, by omega, by simp, ?_, by decide, by simp, rfl, T11, q11, r11, .nil _, ⟨by omega, by omega⟩, fun y hy => by have := hF10' y hy; omega, by simp, by omega, g11.keeps, f11, by have := g11.next; omega, he, rfl⟩
        unfold rres
        rw [if_neg h21]
    · have T3 := T2.keeps g3.keeps (by simp)
      have n3 := g3.next
      simp only [ex_0, ex_1, un_not, pureW_some]
      refine forkW_bool.2 ⟨fun _ => ?_, fun h => by simp at h⟩
      refine zeroTail T3 rfl g3.fine (by omega) fun A4 k4 n4 f4 => hno A4 (fun ⟨x', l', h⟩ => ?_) (((g02.trans g3).own k4 (by simp) (m := 0) (by omega) f4).more (by omega))
      have := ((hG x' l').1 h).1
      rw [he] at this
      cases this
end
end Go.Proofs.YtjiglbmjhecobaaGreatDoor


namespace Go.Proofs.YtjiglbmjhecobaaGreatDoor
open Go.Abs Go.Crc

theorem beval_foldl (r : List UInt8) : ∀ a, r.foldl (fun a c => a * 256 + c.toNat) a = a * 256 ^ r.length + beval r := by
  induction r with
  | nil => intro a; simp [beval]
  | cons c r ih =>
    intro a
    show r.foldl (fun a c => a * 256 + c.toNat) (a * 256 + c.toNat) = _
    rw [ih]
    have : beval (c :: r) = (0 * 256 + c.toNat) * 256 ^ r.length + beval r := by
      show r.foldl (fun a c => a * 256 + c.toNat) (0 * 256 + c.toNat) = _
      rw [ih]
    rw [this, List.length_cons, Nat.pow_succ, Nat.zero_mul, Nat.zero_add, Nat.add_mul, Nat.mul_assoc, Nat.mul_comm 256, Nat.add_assoc]
theorem beval_cons (c : UInt8) (r : List UInt8) : beval (c :: r) = c.toNat * 256 ^ r.length + beval r := by
  show r.foldl (fun a c => a * 256 + c.toNat) (0 * 256 + c.toNat) = _
  rw [beval_foldl, Nat.zero_mul, Nat.zero_add]
theorem beval_be (n : Nat) : ∀ w, beval (be n w) = n % 256 ^ w
  | 0 => by rw [Nat.pow_zero, Nat.mod_one]; rfl
  | w + 1 => by
    rw [be, beval_cons, be_length, beval_be n w, Nat.pow_succ, Nat.mod_mul, Nat.add_comm, Nat.mul_comm (256 ^ w)]
    congr 2
theorem tk_app {a r : List UInt8} : tk a.length (a ++ r, false) = (a, (r, false)) := by
  unfold tk
  rw [if_neg (by simp)]
  simp
theorem nm_be {n w : Nat} {r : List UInt8} (h : n < 256 ^ w) : nm w (be n w ++ r, false) = (n, (r, false)) := by
  have := tk_app (a := be n w) (r := r)
  rw [be_length] at this
  unfold nm
  rw [this]
  show (beval (be n w), (r, false)) = _
  rw [beval_be, Nat.mod_eq_of_lt h]
theorem tx1_tx {g : ByteArray} {r : List UInt8} (h : slen g < 256) : tx1 (tx g ++ r, false) = (g.data.toList, (r, false)) := by
  have e : tx g ++ r = be (slen g) 1 ++ (g.data.toList ++ r) := by unfold tx; rw [List.append_assoc]
  have h1 : nm 1 (tx g ++ r, false) = (slen g, (g.data.toList ++ r, false)) := by rw [e]; exact nm_be (by omega)
  unfold tx1
  rw [h1]
  have hl : (g.data.toList ++ r).length = slen g + r.length := by rw [List.length_append]; rfl
  rw [if_neg (by simp only [hl]; simp)]
  have hs : slen g = g.data.toList.length := rfl
  simp only [hs, List.take_left, List.drop_left]
theorem rn_xb {f : Nat} {g b : ByteArray} {r : List UInt8} (hf : f < 4294967296) (hg : slen g < 256) (hb : slen b < 256) :
    rnF (xb f g b ++ r, false) = f ∧ rnG (xb f g b ++ r, false) = g.data.toList ∧ rnB (xb f g b ++ r, false) = b.data.toList ∧ rnS (xb f g b ++ r, false) = (r, false) := by
  have e : xb f g b ++ r = be f 4 ++ (tx g ++ (tx b ++ r)) := by unfold xb; simp only [List.append_assoc]
  have h1 : nm 4 (xb f g b ++ r, false) = (f, (tx g ++ (tx b ++ r), false)) := by rw [e]; exact nm_be (by omega)
  have h2 : tx1 (nm 4 (xb f g b ++ r, false)).2 = (g.data.toList, (tx b ++ r, false)) := by rw [h1]; exact tx1_tx hg
  have h3 : tx1 (tx1 (nm 4 (xb f g b ++ r, false)).2).2 = (b.data.toList, (r, false)) := by rw [h2]; exact tx1_tx hb
  unfold rnF rnG rnB rnS
  rw [h3, h2, h1]
  exact ⟨rfl, rfl, rfl, rfl⟩
theorem xg_nb {p : Nm} {r : List UInt8} (hf : p.f < 4294967296) (h : xchk p.g p.b = 0) : xgE (nb p ++ r) = 0 ∧ nmO (nb p ++ r) = p ∧ xgN (nb p ++ r) = (nb p).length ∧ 0 < (nb p).length := by
  obtain ⟨h1, h2, h3⟩ := xchk_zero h
  obtain ⟨a1, a2, a3, a4⟩ := rn_xb (f := p.f) (g := p.g) (b := p.b) (r := r) hf (by omega) (by omega)
  unfold nb
  refine ⟨?_, ?_, ?_, ?_⟩
  · unfold xgE
    rw [a4, if_neg (by simp), a2, a3]
    exact h
  · unfold nmO
    rw [a1, a2, a3]
  · unfold xgN
    rw [a4]
    simp
  · rw [xb_length]
    omega
theorem xgX_nb {p : Nm} {r : List UInt8} (hf : p.f < 4294967296) (h : xchk p.g p.b = 0) : xgX (nb p ++ r) = p ∧ xgK (nb p ++ r) = (nb p).length := by
  obtain ⟨a1, a2, a3, _⟩ := xg_nb (r := r) hf h
  unfold xgX xgK
  rw [if_pos a1, if_pos a1]
  exact ⟨a2, a3⟩
theorem lbody_cons (p : Nm) (l : List Nm) : lbody (p :: l) = nb p ++ lbody l := by simp [lbody]
theorem pn_lbody : ∀ (l acc : List Nm), (∀ p ∈ l, p.f < 4294967296 ∧ xchk p.g p.b = 0) → acc.length + l.length ≤ 200 → pn l.length acc (lbody l) = acc ++ l
  | [], acc, _, _ => by simp [pn]
  | p :: l, acc, h, hl => by
    obtain ⟨hf, hx⟩ := h p (by simp)
    obtain ⟨_, _, _, h0⟩ := xg_nb (r := lbody l) hf hx
    obtain ⟨e1, e2⟩ := xgX_nb (r := lbody l) hf hx
    rw [List.length_cons] at hl
    rw [lbody_cons, pn_next (n := (p :: l).length) (acc := acc) (r := nb p ++ lbody l) (by simp) (by rw [List.length_append]; omega) (by omega) (by omega), e1, e2, List.drop_left]
    have := pn_lbody l (acc ++ [p]) (fun q hq => h q (by simp [hq])) (by simp; omega)
    rw [show (p :: l).length - 1 = l.length by simp, this, List.append_assoc]
    rfl
theorem rl_lbody {x : Nm} : ∀ (l acc : List Nm) (i : Nat), (∀ p ∈ l, p.f < 4294967296 ∧ xchk p.g p.b = 0) → i + l.length ≤ 200 → rl 21 l.length i x acc (lbody l, false) = some (x, acc ++ l)
  | [], acc, i, _, _ => by rw [List.append_nil]; exact rl_stop (.inl rfl)
  | p :: l, acc, i, h, hl => by
    obtain ⟨hf, hx⟩ := h p List.mem_cons_self
    obtain ⟨e0, e1, e2, h0⟩ := xg_nb (r := lbody l) hf hx
    rw [List.length_cons] at hl
    have h9 := rl_21 (n := (p :: l).length) (i := i) (x := x) (acc := acc) (S := (nb p ++ lbody l, false)) (Nat.succ_pos _) (fun h => by rcases h with h | h | h <;> first | omega | (cases h; done)) e0
    have h8 := rl_lbody (x := x) l (acc ++ [p]) (i + 1) (fun q hq => h q (List.mem_cons_of_mem _ hq)) (by omega)
    rw [e1, e2, tk_app, show (p :: l).length - 1 = l.length from rfl] at h9
    rw [lbody_cons, h9, h8, List.append_assoc]
    rfl

theorem zi_one {x : Nm} (h : zi x = 1) : x = x0 := by
  unfold zi at h
  split at h
  · rename_i hs
    exact sameX_iff.1 hs
  · cases h
theorem dB_seal (b : List UInt8) : dB (sealT b) = b := by
  unfold dB
  rw [seal_length, Nat.add_sub_cancel]
  unfold sealT
  exact List.take_left
theorem lhead_eq (kd xa no : Nat) (r : List UInt8) : lhead kd xa no ++ r = UInt8.ofNat kd :: UInt8.ofNat xa :: UInt8.ofNat (no / 256) :: UInt8.ofNat (no % 256) :: r := by
  unfold lhead
  rw [be2]
  rfl
theorem lhead_be (kd xa no : Nat) (r : List UInt8) : lhead kd xa no ++ r = be kd 1 ++ (be xa 1 ++ (be no 2 ++ r)) := by
  unfold lhead
  rw [one_be, one_be]
  simp only [List.append_assoc, List.cons_append, List.nil_append]
theorem lok_lt {kd xa no : Nat} {z c n : Int} {len : Nat} (h : Lok kd xa no z c n len) : kd < 256 ∧ xa < 256 ∧ no < 65536 := by
  obtain ⟨h1, _, _, h4, h5, _⟩ := h
  omega
theorem lchk_zero {kd xa no : Nat} {x : Nm} {l : List Nm} (h : lchk kd xa no x l = 0) : Lok kd xa no (zi x) (xchk x.g x.b) (ni l) l.length := by
  by_cases hl : Lok kd xa no (zi x) (xchk x.g x.b) (ni l) l.length
  · exact hl
  · rw [lchk_no hl] at h
    cases h

theorem back_P {kd xa no : Nat} {x : Nm} {l : List Nm} (h : Lok kd xa no (zi x) (xchk x.g x.b) (ni l) l.length) (hxf : x.f < 4294967296) (hlf : ∀ p ∈ l, p.f < 4294967296) :
    4 ≤ (lbytes kd xa no x l).length ∧ dkd (lbytes kd xa no x l) = kd ∧ dxa (lbytes kd xa no x l) = xa ∧ dno (lbytes kd xa no x l) = no ∧ dX (lbytes kd xa no x l) = x ∧ dL (lbytes kd xa no x l) = l := by
  obtain ⟨hk, hx, hn⟩ := lok_lt h
  obtain ⟨h200, hall⟩ := lok_bound h
  obtain ⟨h1, h2, h3, _, _, _, _, h8, _⟩ := h
  have e : lbytes kd xa no x l = UInt8.ofNat kd :: UInt8.ofNat xa :: UInt8.ofNat (no / 256) :: UInt8.ofNat (no % 256) :: (lmid kd x ++ ltail kd l) := by
    unfold lbytes
    rw [List.append_assoc, lhead_eq]
  have ekd : dkd (lbytes kd xa no x l) = kd := by
    rw [e]
    show (UInt8.ofNat kd).toNat = kd
    rw [UInt8.toNat_ofNat']; omega
  have exa : dxa (lbytes kd xa no x l) = xa := by
    rw [e]
    show (UInt8.ofNat xa).toNat = xa
    rw [UInt8.toNat_ofNat']; omega
  have eno : dno (lbytes kd xa no x l) = no := by
    rw [e]
    show (UInt8.ofNat (no / 256)).toNat * 256 + (UInt8.ofNat (no % 256)).toNat = no
    rw [UInt8.toNat_ofNat', UInt8.toNat_ofNat']; omega
  have eR : dR (lbytes kd xa no x l) = lmid kd x ++ ltail kd l := by rw [e]; rfl
  refine ⟨by rw [e]; simp, ekd, exa, eno, ?_, ?_⟩
  · unfold dX
    rw [ekd, eR]
    by_cases hs : kd = 5 ∨ kd = 21
    · rw [if_pos hs, zi_one (h2 hs)]
    · have h21 : kd ≠ 21 := fun e => hs (.inr e)
      rw [if_neg hs]
      unfold lmid ltail
      rw [if_neg hs, if_neg h21]
      exact (xgX_nb hxf (h3 (by omega))).1
  · unfold dL
    rw [ekd, eR]
    by_cases h21 : kd = 21
    · have e2 : lmid kd x ++ ltail kd l = UInt8.ofNat (l.length / 256) :: UInt8.ofNat (l.length % 256) :: lbody l := by
        unfold lmid ltail
        rw [if_pos (.inr h21), if_pos h21, be2]
        rfl
      rw [e2, if_pos ⟨h21, by simp⟩]
      show pn ((UInt8.ofNat (l.length / 256)).toNat * 256 + (UInt8.ofNat (l.length % 256)).toNat) [] (lbody l) = l
      rw [UInt8.toNat_ofNat', UInt8.toNat_ofNat', show l.length / 256 % 2 ^ 8 * 256 + l.length % 256 % 2 ^ 8 = l.length by omega]
      have := pn_lbody l [] (fun p hp => ⟨hlf p hp, hall p hp⟩) (by simpa using h200)
      simpa using this
    · rw [if_neg (by omega)]
      exact (List.eq_nil_of_length_eq_zero (by omega)).symm
theorem back_R {kd xa no : Nat} {x : Nm} {l : List Nm} (h : Lok kd xa no (zi x) (xchk x.g x.b) (ni l) l.length) (hxf : x.f < 4294967296) (hlf : ∀ p ∈ l, p.f < 4294967296) :
    rkd (lbytes kd xa no x l) = kd ∧ rxa (lbytes kd xa no x l) = xa ∧ rno (lbytes kd xa no x l) = no ∧ rres (lbytes kd xa no x l) = some (x, l) := by
  obtain ⟨hk, hx, hn⟩ := lok_lt h
  obtain ⟨h200, hall⟩ := lok_bound h
  obtain ⟨h1, h2, h3, _, _, _, _, h8, _⟩ := h
  have e : lbytes kd xa no x l = be kd 1 ++ (be xa 1 ++ (be no 2 ++ (lmid kd x ++ ltail kd l))) := by
    unfold lbytes
    rw [List.append_assoc, lhead_be]
  have e1 : nm 1 (lbytes kd xa no x l, false) = (kd, (be xa 1 ++ (be no 2 ++ (lmid kd x ++ ltail kd l)), false)) := by rw [e]; exact nm_be (by omega)
  have e2 : nm 1 (rs1 (lbytes kd xa no x l)) = (xa, (be no 2 ++ (lmid kd x ++ ltail kd l), false)) := by unfold rs1; rw [e1]; exact nm_be (by omega)
  have e3 : nm 2 (rs2 (lbytes kd xa no x l)) = (no, (lmid kd x ++ ltail kd l, false)) := by unfold rs2; rw [e2]; exact nm_be (by omega)
  have ekd : rkd (lbytes kd xa no x l) = kd := by unfold rkd; rw [e1]
  have e4 : rs3 (lbytes kd xa no x l) = (lmid kd x ++ ltail kd l, false) := by unfold rs3; rw [e3]
  refine ⟨ekd, by unfold rxa; rw [e2], by unfold rno; rw [e3], ?_⟩
  unfold rres
  rw [ekd, e4]
  by_cases h21 : kd = 21
  · have e5 : lmid kd x ++ ltail kd l = be l.length 2 ++ lbody l := by
      unfold lmid ltail
      rw [if_pos (.inr h21), if_pos h21]
      rfl
    have e6 : nm 2 (lmid kd x ++ ltail kd l, false) = (l.length, (lbody l, false)) := by rw [e5]; exact nm_be (by omega)
    rw [if_pos h21, e6, rl_lbody l [] 0 (fun p hp => ⟨hlf p hp, hall p hp⟩) (by omega), zi_one (h2 (.inr h21))]
    rfl
  · have hl : l = [] := List.eq_nil_of_length_eq_zero (by omega)
    rw [if_neg h21]
    by_cases h5 : kd = 5
    · have h9 := rl_stop (kd := kd) (n := 1) (i := 0) (x := x0) (acc := []) (S := (lmid kd x ++ ltail kd l, false)) (.inr (.inr (.inl h5)))
      rw [h9, ← zi_one (h2 (.inl h5)), hl]
    · have e5 : lmid kd x ++ ltail kd l = nb x ++ [] := by
        unfold lmid ltail
        rw [if_neg (by omega), if_neg h21]
      obtain ⟨a1, a2, a3, _⟩ := xg_nb (r := []) hxf (h3 ⟨h5, h21⟩)
      have h9 := rl_1 (kd := kd) (n := 1) (i := 0) (x := x0) (acc := []) (S := (nb x ++ [], false)) (by omega) (fun h => by rcases h with h | h | h <;> first | omega | (cases h; done)) a1 h21
      rw [a2] at h9
      rw [e5, h9, hl]
      exact rl_stop (.inl rfl)
theorem good_P {kd xa no : Nat} {x : Nm} {l : List Nm} (h : Lok kd xa no (zi x) (xchk x.g x.b) (ni l) l.length) (hxf : x.f < 4294967296) (hlf : ∀ p ∈ l, p.f < 4294967296) : GoodP (lput kd xa no x l) := by
  obtain ⟨a0, a1, a2, a3, a4, a5⟩ := back_P h hxf hlf
  rw [lput_ok h]
  refine ⟨sealed_seal _, ?_⟩
  rw [dB_seal, a1, a2, a3, a4, a5, lchk_ok h, lput_ok h]
  exact ⟨a0, rfl, rfl⟩
theorem good_R {kd xa no : Nat} {x : Nm} {l : List Nm} (h : Lok kd xa no (zi x) (xchk x.g x.b) (ni l) l.length) (hxf : x.f < 4294967296) (hlf : ∀ p ∈ l, p.f < 4294967296) : GoodR (lput kd xa no x l) x l := by
  obtain ⟨a1, a2, a3, a4⟩ := back_R h hxf hlf
  rw [lput_ok h]
  refine ⟨sealed_seal _, ?_⟩
  rw [dB_seal, a1, a2, a3, lchk_ok h, lput_ok h]
  exact ⟨a4, rfl, rfl⟩
theorem pn_f : ∀ (n : Nat) (acc : List Nm) (r : List UInt8), (∀ p ∈ acc, p.f < 4294967296) → ∀ p ∈ pn n acc r, p.f < 4294967296
  | 0, acc, r, h => h
  | n + 1, acc, r, h => by
    have h2 : ∀ p ∈ acc ++ [xgX r], p.f < 4294967296 := fun p hp => by
      rcases List.mem_append.1 hp with hp | hp
      · exact h p hp
      · rw [List.mem_singleton.1 hp]; exact xgX_f r
    unfold pn
    split
    · exact h
    · split
      · exact h2
      · exact pn_f n _ _ h2
theorem dL_f (b : List UInt8) : ∀ p ∈ dL b, p.f < 4294967296 := by
  unfold dL
  split
  · exact pn_f _ _ _ (by simp)
  · simp
theorem rl_f {kd : Nat} : ∀ (n i : Nat) (x : Nm) (acc : List Nm) (S : St), x.f < 4294967296 → (∀ p ∈ acc, p.f < 4294967296) → ∀ y l, rl kd n i x acc S = some (y, l) → y.f < 4294967296 ∧ ∀ p ∈ l, p.f < 4294967296
  | 0, i, x, acc, S, hx, ha, y, l, h => by
    rw [rl_stop (.inl rfl), Option.some.injEq, Prod.mk.injEq] at h
    obtain ⟨rfl, rfl⟩ := h
    exact ⟨hx, ha⟩
  | n + 1, i, x, acc, S, hx, ha, y, l, h => by
    unfold rl at h
    split at h
    · rw [Option.some.injEq, Prod.mk.injEq] at h
      obtain ⟨rfl, rfl⟩ := h
      exact ⟨hx, ha⟩
    · split at h
      · cases h
      · split at h
        · refine rl_f n _ x (acc ++ [nmO S.1]) _ hx (fun p hp => ?_) y l h
          rcases List.mem_append.1 hp with hp | hp
          · exact ha p hp
          · rw [List.mem_singleton.1 hp]; exact nmO_f S.1
        · exact rl_f n _ _ acc _ (nmO_f S.1) ha y l h
theorem rres_f {b : List UInt8} {x : Nm} {l : List Nm} (h : rres b = some (x, l)) : x.f < 4294967296 ∧ ∀ p ∈ l, p.f < 4294967296 := by
  unfold rres at h
  split at h
  · exact rl_f _ _ _ _ _ (by decide) (by simp) x l h
  · exact rl_f _ _ _ _ _ (by decide) (by simp) x l h

theorem P_of_R {s : List UInt8} {x : Nm} {l : List Nm} (h : GoodR s x l) : GoodP s ∧ dkd (dB s) = rkd (dB s) ∧ dxa (dB s) = rxa (dB s) ∧ dno (dB s) = rno (dB s) ∧ dX (dB s) = x ∧ dL (dB s) = l := by
  obtain ⟨h1, h2, h3, h4⟩ := h
  have hL := lchk_zero h3
  obtain ⟨hx, hl⟩ := rres_f h2
  have hP := good_P hL hx hl
  have hB : dB s = lbytes (rkd (dB s)) (rxa (dB s)) (rno (dB s)) x l := by
    have := congrArg dB h4
    rw [lput_ok hL, dB_seal] at this
    exact this.symm
  obtain ⟨_, a1, a2, a3, a4, a5⟩ := back_P hL hx hl
  rw [h4] at hP
  rw [← hB] at a1 a2 a3 a4 a5
  exact ⟨hP, a1, a2, a3, a4, a5⟩
theorem R_of_P {s : List UInt8} (h : GoodP s) : GoodR s (dX (dB s)) (dL (dB s)) := by
  obtain ⟨h1, h2, h3, h4⟩ := h
  have := good_R (lchk_zero h3) (dX_f _) (dL_f _)
  rw [h4] at this
  exact this
end Go.Proofs.YtjiglbmjhecobaaGreatDoor


namespace Go.Proofs.YtjiglbmjhecobaaGreatDoor
open Go.Abs Go.Crc

noncomputable def sameL (kd xa no : Nat) (x : Nm) (l : List Nm) (kd' xa' no' : Nat) (x' : Nm) (l' : List Nm) : Bool := @decide (kd = kd' ∧ x = x' ∧ xa = xa' ∧ no = no' ∧ l = l') (Classical.propDecidable _)
theorem sameL_true {kd xa no : Nat} {x : Nm} {l : List Nm} {kd' xa' no' : Nat} {x' : Nm} {l' : List Nm} (h : kd = kd' ∧ x = x' ∧ xa = xa' ∧ no = no' ∧ l = l') : sameL kd xa no x l kd' xa' no' x' l' = true := by unfold sameL; exact @decide_eq_true _ (Classical.propDecidable _) h
theorem sameL_false {kd xa no : Nat} {x : Nm} {l : List Nm} {kd' xa' no' : Nat} {x' : Nm} {l' : List Nm} (h : ¬ (kd = kd' ∧ x = x' ∧ xa = xa' ∧ no = no' ∧ l = l')) : sameL kd xa no x l kd' xa' no' x' l' = false := by unfold sameL; exact @decide_eq_false _ (Classical.propDecidable _) h
theorem let_x {A : AW} {t kd xa no : Nat} {x : Nm} {sv : Value} (h : Go.Abs.Row1 A t (letC kd xa no x sv) 29) : A.cells? ⟨t, 1, none⟩ 3 = some x.cells := by rw [cells_row h.row]; rfl

section
variable {W0 : World} {m0 : Inj Tryz.prog}
theorem wc36 {v1 v2 : Value} {l1 l2 : List Nm} {F1 F2 : List Nat} {A : AW} {K : Value → AW → Prop} (h1 : RdN A v1 l1 F1) (h2 : RdN A v2 l2 F2) (hl : l1.length < 1000000) (hk : K (.bool (eqL l1 l2)) A) : Wc Tryz.prog theX W0 m0 36 [v1, v2] A K := by
  let I : Nat → Nat → List Value → AW → Prop := fun g id vals A' => id = 0 ∧ A' = A ∧ ∃ i : Nat, vals = [v1, v2, .int .i64 (i : Int)] ∧ g = l1.length - i ∧ i ≤ l1.length ∧ l1.length = l2.length ∧ ∀ j, j < i → l1[j]? = l2[j]?
  refine w36 _ _ _ (c36 (I := I) ?_) ?_
  · rintro g id vals A' d ⟨rfl, rfl, i, rfl, rfl, hi, hlen, hs⟩ hd
    rw [l36_0]
    simp only [L36, List.map_cons, List.map_nil, List.cons.injEq, and_true] at hd
    obtain ⟨h0, h1', h5⟩ := hd
    simp only [h0, h1', h5, h1.len, bin_lss, pureW_some, forkW_dec]
    refine ⟨fun hlt => ?_, fun hge => ?_⟩
    · have hlt : i < l1.length := by omega
      have hp := List.getElem?_eq_getElem hlt
      have hq := List.getElem?_eq_getElem (show i < l2.length by omega)
      obtain ⟨r, o, a1, a2⟩ := h1.at hp
      obtain ⟨r', o', b1, b2⟩ := h2.at hq
      simp only [a1, b1, ld_24, a2, b2, pureW_some, neqN, bin_add]
      rw [wrap_i64 (by omega) (by omega)]
      refine forkW_bool.2 ⟨fun h => ?_, fun h => ?_⟩
      · have hne : l1[i] ≠ l2[i]'(by omega) := sameX_not.1 (by simpa using h)
        rw [eqL_false (fun e => hne (by simp [e]))] at hk
        exact hk
      · have he : l1[i] = l2[i]'(by omega) := sameX_iff.1 (by simpa using h)
        refine cutW_self.2 ⟨l1.length - (i + 1), by omega, rfl, rfl, i + 1, rfl, rfl, by omega, hlen, fun j hj => ?_⟩
        by_cases hji : j = i
        · subst hji; rw [hp, hq, he]
        · exact hs j (by omega)
    · have : l1 = l2 := List.ext_getElem? fun j => by
        by_cases hj : j < i
        · exact hs j hj
        · rw [List.getElem?_eq_none (by omega), List.getElem?_eq_none (by omega)]
      rw [eqL_true this] at hk
      exact hk
  · rw [e36]
    simp only [h1.len, h2.len, bin_neq, pureW_some, forkW_bne]
    refine ⟨fun hne => ?_, fun he => ?_⟩
    · rw [eqL_false (fun e => hne (by rw [e]))] at hk
      exact hk
    · exact cutW_self.2 ⟨l1.length, rfl, rfl, 0, rfl, rfl, by omega, by omega, fun j hj => by omega⟩

theorem wc13 {kd xa no kd' xa' no' : Nat} {x x' : Nm} {sv sv' : Value} {l l' : List Nm} {F F' : List Nat} {A : AW} {K : Value → AW → Prop} (hf : Fine A) (hA : A.next + 2 < maxId) (h1 : RdN A sv l F) (h2 : RdN A sv' l' F') (hl : l.length < 1000000)
    (hk : ∀ A', Grow A A' 2 → K (.bool (sameL kd xa no x l kd' xa' no' x' l')) A') : Wc Tryz.prog theX W0 m0 13 [letV kd xa no x sv, letV kd' xa' no' x' sv'] A K := by
  refine w13 _ _ _ (cuts_none (S := fun _ _ _ => False) fun _ _ _ h => h) ?_
  rw [e13]
  have hn0 : ∀ A', Grow A A' 2 → ¬ (kd = kd' ∧ x = x' ∧ xa = xa' ∧ no = no' ∧ l = l') → K (.bool false) A' := fun A' g h => by
    have := hk A' g
    rw [sameL_false h] at this
    exact this
  refine newP_made (cs := (Value.cells (letV kd xa no x sv)).toList) hf (by omega) (by simp [letV, letC, Value.cells, one_int, one_string, h1.one.1]) fun A1 m1 => ?_
  have n1 := m1.next
  have k1 := m1.keeps hf
  refine newP_made (cs := (Value.cells (letV kd' xa' no' x' sv')).toList) m1.fine (by omega) (by simp [letV, letC, Value.cells, one_int, one_string, h2.one.1]) fun A2 m2 => ?_
  have k2 := m2.keeps m1.fine
  have g2 : Grow A A2 2 := (Grow.made m1 hf).trans (.made m2 m1.fine)
  have r1 : Go.Abs.Row1 A2 A.next (letC kd xa no x sv) 29 := m1.row1.keeps k2 (by simp)
  have r2 : Go.Abs.Row1 A2 A1.next (letC kd' xa' no' x' sv') 29 := m2.row1
  have one1 := h1.one
  have one2 := h2.one
  have x1 := let_x r1
  have x2 := let_x r2
  have s1 := (h1.keeps k1 (by simp)).keeps k2 (by simp)
  have s2 := (h2.keeps k1 (by simp)).keeps k2 (by simp)
  simp only [fa_29_0, fa_29_1, fa_29_2, fa_29_3, fa_29_4, ld_5, ld_24, ld_25, ld_26, ld_27, Nat.zero_add, x1, x2, cell_row r1.row, cell_row r2.row, letC, cellOf, isT_int, isT_string, one1.2, one2.2, cond_false, bin_eql, eqN, pureW_some, forkW_beq]
  refine ⟨fun e1 => forkW_bool.2 ⟨fun e2 => ⟨fun e3 => ⟨fun e4 => ?_, fun e4 => hn0 A2 g2 (by omega)⟩, fun e3 => hn0 A2 g2 (by omega)⟩, fun e2 => hn0 A2 g2 (fun h => sameX_not.1 e2 h.2.1)⟩, fun e1 => hn0 A2 g2 (by omega)⟩
  have e2 := sameX_iff.1 e2
  refine wc36 s1 s2 hl ?_
  by_cases hll : l = l'
  · have := hk A2 g2
    rw [sameL_true ⟨by omega, e2, by omega, by omega, hll⟩] at this
    rw [eqL_true hll]
    exact this
  · rw [eqL_false hll]
    exact hn0 A2 g2 (fun h => hll h.2.2.2.2)
theorem wc14 {kd xa no kd' xa' no' : Nat} {x x' : Nm} {sv sv' : Value} {l l' : List Nm} {F F' : List Nat} {A : AW} {K : Value → AW → Prop} (hf : Fine A) (hA : A.next + 2 < maxId) (h1 : RdN A sv l F) (h2 : RdN A sv' l' F') (hl : l.length < 1000000)
    (hk : ∀ A', Grow A A' 2 → K (.bool (sameL kd xa no x l kd' xa' no' x' l')) A') : Wc Tryz.prog theX W0 m0 14 [letV kd xa no x sv, letV kd' xa' no' x' sv'] A K := by
  refine w14 _ _ _ (cuts_none (S := fun _ _ _ => False) fun _ _ _ h => h) ?_
  rw [e14]
  have hn0 : ∀ A', Grow A A' 2 → ¬ (kd = kd' ∧ x = x' ∧ xa = xa' ∧ no = no' ∧ l = l') → K (.bool false) A' := fun A' g h => by
    have := hk A' g
    rw [sameL_false h] at this
    exact this
  refine newP_made (cs := (Value.cells (letV kd xa no x sv)).toList) hf (by omega) (by simp [letV, letC, Value.cells, one_int, one_string, h1.one.1]) fun A1 m1 => ?_
  have n1 := m1.next
  have k1 := m1.keeps hf
  refine newP_made (cs := (Value.cells (letV kd' xa' no' x' sv')).toList) m1.fine (by omega) (by simp [letV, letC, Value.cells, one_int, one_string, h2.one.1]) fun A2 m2 => ?_
  have k2 := m2.keeps m1.fine
  have g2 : Grow A A2 2 := (Grow.made m1 hf).trans (.made m2 m1.fine)
  have r1 : Go.Abs.Row1 A2 A.next (letC kd xa no x sv) 29 := m1.row1.keeps k2 (by simp)
  have r2 : Go.Abs.Row1 A2 A1.next (letC kd' xa' no' x' sv') 29 := m2.row1
  have one1 := h1.one
  have one2 := h2.one
  have x1 := let_x r1
  have x2 := let_x r2
  have s1 := (h1.keeps k1 (by simp)).keeps k2 (by simp)
  have s2 := (h2.keeps k1 (by simp)).keeps k2 (by simp)
  simp only [fa_29_0, fa_29_1, fa_29_2, fa_29_3, fa_29_4, ld_5, ld_24, ld_25, ld_26, ld_27, Nat.zero_add, x1, x2, cell_row r1.row, cell_row r2.row, letC, cellOf, isT_int, isT_string, one1.2, one2.2, cond_false, bin_eql, eqN, pureW_some, forkW_beq]
  refine ⟨fun e1 => forkW_bool.2 ⟨fun e2 => ⟨fun e3 => ⟨fun e4 => ?_, fun e4 => hn0 A2 g2 (by omega)⟩, fun e3 => hn0 A2 g2 (by omega)⟩, fun e2 => hn0 A2 g2 (fun h => sameX_not.1 e2 h.2.1)⟩, fun e1 => hn0 A2 g2 (by omega)⟩
  have e2 := sameX_iff.1 e2
  refine wc37 s1 s2 hl ?_
  by_cases hll : l = l'
  · have := hk A2 g2
    rw [sameL_true ⟨by omega, e2, by omega, by omega, hll⟩] at this
    rw [eqL_true hll]
    exact this
  · rw [eqL_false hll]
    exact hn0 A2 g2 (fun h => hll h.2.2.2.2)
end
end Go.Proofs.YtjiglbmjhecobaaGreatDoor


namespace Go.Proofs.YtjiglbmjhecobaaGreatDoor
open Go.Abs Go.Crc
section
variable {W0 : World} {m0 : Inj Tryz.prog}
noncomputable def rest4b (W0 : World) (m0 : Inj Tryz.prog) (Q : Value → AW → Prop) (t5 t6 t9 t10 : Value) (At8 : AW) : Prop := bothW (allocP Tryz.prog At8 29) fun t11 At11 => effW (storeP Tryz.prog At11 29 t11 t9) fun At12 => pureW (loadP Tryz.prog At12 29 t6) fun t13 => pureW (loadP Tryz.prog At12 29 t11) fun t14 => Wc Tryz.prog theX W0 m0 13 [t13, t14] At12 fun t15 At15 => forkW t15 (pureW (binA Tryz.prog .eql 3 (.tmp 25) (.tmp 26) t5 t10) fun t16 => forkW t16 (knW Tryz.prog W0 m0 7 [] At15 fun t17 At17 => Q t17 At17) (Q (.bool false) At15)) (Q (.bool false) At15)
noncomputable def rest4 (W0 : World) (m0 : Inj Tryz.prog) (Q : Value → AW → Prop) (a0 t4 t5 : Value) (At3 : AW) : Prop := bothW (allocP Tryz.prog At3 29) fun t6 At6 => effW (storeP Tryz.prog At6 29 t6 t4) fun At7 => Wc Tryz.prog theX W0 m0 12 [a0] At7 fun t8 At8 => pureW (extractP t8 0) fun t9 => pureW (extractP t8 1) fun t10 => rest4b W0 m0 Q t5 t6 t9 t10 At8
theorem rest4b_ok {kd xa no t : Nat} {x : Nm} {l : List Nm} {sv sv' : Value} {F F' : List Nat} {e : Int} {A : AW} {Q : Value → AW → Prop} (hhd : KC.Holds Tryz.prog W0 m0 ⟨7, [], [.bool true]⟩) (hf : Fine A) (hA : A.next + 10 < maxId) (ht : Go.Abs.Row1 A t (letC kd xa no x sv) 29) (h1 : RdN A sv l F) (h2 : RdN A sv' l F')
    (hl : l.length < 1000000) (hQ : ∀ A', Q (.bool true) A') : rest4b W0 m0 Q (.int .i64 e) (.pointer (some ⟨t, 0, none⟩)) (letV kd xa no x sv') (.int .i64 e) A := by
  unfold rest4b
  refine allocP_made zero29 hf (by omega) rfl fun A1 m1 => ?_
  have n1 := m1.next
  have k1 := m1.keeps hf
  have htlt := ht.lt
  have F1lt := h1.fam
  have F2lt := h2.fam
  refine store29 m1.row1 rfl h2.one.1 m1.fine (by omega) fun A2 r2 k2 n2 f2 => ?_
  have K2 : Keeps A A2 [] := k1.trans k2 (by simp)
  rw [letW_load (ht.keeps K2 (by simp)) h1.one.2, letW_load r2 h2.one.2]
  simp only [pureW_some]
  refine wc13 f2 (by omega) (h1.keeps K2 (by simp)) (h2.keeps K2 (by simp)) hl fun A3 g3 => ?_
  rw [sameL_true ⟨rfl, rfl, rfl, rfl, rfl⟩]
  refine forkW_bool.2 ⟨fun _ => ?_, fun h => by cases h⟩
  simp only [bin_eql, pureW_some, forkW_beq]
  exact ⟨fun _ => head_kn hhd _ (hQ _), fun h => absurd rfl h⟩
theorem rest4_ok {s : ByteArray} {kd xa no : Nat} {x : Nm} {l : List Nm} {sv : Value} {F : List Nat} {e : Int} {A : AW} {Q : Value → AW → Prop} (hhd : KC.Holds Tryz.prog W0 m0 ⟨7, [], [.bool true]⟩) (hf : Fine A) (hA : A.next + 100000 < maxId) (hs : s.data.toList.length < 700000) (h1 : RdN A sv l F) (hl : l.length < 1000000)
    (hR : ∀ x' l', GoodR s.data.toList x' l' → e = 0 ∧ kd = rkd (dB s.data.toList) ∧ xa = rxa (dB s.data.toList) ∧ no = rno (dB s.data.toList) ∧ x = x' ∧ l = l') (hN : (¬ ∃ x' l', GoodR s.data.toList x' l') → e = 250 ∧ kd = 0 ∧ xa = 0 ∧ no = 0 ∧ x = x0 ∧ l = [])
    (hQ : ∀ A', Q (.bool true) A') : rest4 W0 m0 Q (.string s) (letV kd xa no x sv) (.int .i64 e) A := by
  unfold rest4
  refine allocP_made zero29 hf (by omega) rfl fun A1 m1 => ?_
  have n1 := m1.next
  have k1 := m1.keeps hf
  refine store29 m1.row1 rfl h1.one.1 m1.fine (by omega) fun A2 r2 k2 n2 f2 => ?_
  have K2 : Keeps A A2 [] := k1.trans k2 (by simp)
  have h2 := h1.keeps K2 (by simp)
  refine wc12 f2 (by omega) hs (fun A3 sv3 F3 x3 l3 hG g3 hl3 hF3 => ?_) fun A3 hG g3 => ?_
  · obtain ⟨rfl, rfl, rfl, rfl, rfl, rfl⟩ := hR x3 l3 hG
    have n3 := g3.next
    simp only [ex_0, ex_1, pureW_some]
    exact rest4b_ok hhd g3.fine (by omega) (r2.keeps g3.keeps (by simp)) (h2.keeps g3.keeps (by simp)) hl3 hl hQ
  · obtain ⟨rfl, rfl, rfl, rfl, rfl, rfl⟩ := hN hG
    have n3 := g3.next
    simp only [ex_0, ex_1, pureW_some]
    exact rest4b_ok hhd g3.fine (by omega) (r2.keeps g3.keeps (by simp)) (h2.keeps g3.keeps (by simp)) (.nil _ _ _) (by simp) hQ
theorem dL_len {s : List UInt8} (h : GoodP s) : (dL (dB s)).length ≤ 200 := (lok_bound (lchk_zero h.2.2.1)).1
theorem wc4 {s : ByteArray} {A : AW} (hhd : KC.Holds Tryz.prog W0 m0 ⟨7, [], [.bool true]⟩) (hf : Fine A) (hg0 : Glb A) (hA : A.next + 200000 < maxId) : Wc Tryz.prog theX W0 m0 4 [.string s] A fun v _ => v = .bool true := by
  refine w4 _ _ (cuts_none (S := fun _ _ _ => False) fun _ _ _ h => h) ?_
  rw [e4]
  simp only [ln_9, pureW_some, bin_gtr, forkW_dec]
  refine ⟨fun _ => head_kn hhd _ rfl, fun hle => ?_⟩
  have hs : s.data.toList.length < 700000 := by omega
  refine wc11 hf hg0 (by omega) hs (fun A3 sv F hG g3 l3 hF3 => ?_) fun A3 hG g3 => ?_
  · have n3 := g3.next
    have h200 := dL_len hG
    simp only [ex_0, ex_1, pureW_some]
    refine rest4_ok hhd g3.fine (by omega) hs l3 (by omega) (fun x' l' hR => ?_) (fun hN => absurd ⟨_, _, R_of_P hG⟩ hN) fun _ => rfl
    obtain ⟨_, a1, a2, a3, a4, a5⟩ := P_of_R hR
    exact ⟨rfl, a1, a2, a3, a4, a5⟩
  · have n3 := g3.next
    simp only [ex_0, ex_1, pureW_some]
    exact rest4_ok (kd := 0) (xa := 0) (no := 0) (x := x0) (sv := .slice none 0 0) hhd g3.fine (by omega) hs (.nil _ _ _) (by simp) (fun x' l' hR => absurd (P_of_R hR).1 hG) (fun _ => ⟨rfl, rfl, rfl, rfl, rfl, rfl⟩) fun _ => rfl
end
end Go.Proofs.YtjiglbmjhecobaaGreatDoor
