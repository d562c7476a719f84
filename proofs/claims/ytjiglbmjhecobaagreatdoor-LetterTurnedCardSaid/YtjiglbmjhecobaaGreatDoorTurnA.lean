/-
  Bits of a sealed text that are turned within 32 are seen. Conditions: those of each theorem.
-/
import Derived.Test.YtjiglbmjhecobaaGreatDoorPutsB
import Derived.Test.YtjiglbmjhecobaaGreatDoorBackA

namespace Go.Crc

def num : List UInt8 → Nat
  | [] => 0
  | c :: l => c.toNat + 256 * num l
theorem num_cons (c : UInt8) (l : List UInt8) : num (c :: l) = (2 ^ 8 * num l) ^^^ c.toNat := by
  have h := split_xor 8 (num (c :: l))
  have hc : c.toNat < 256 := c.toNat_lt
  have e1 : num (c :: l) / 2 ^ 8 = num l := by show (c.toNat + 256 * num l) / 256 = _; omega
  have e2 : num (c :: l) % 2 ^ 8 = c.toNat := by show (c.toNat + 256 * num l) % 256 = _; omega
  rw [e1, e2] at h
  exact h
theorem crcR_bits : ∀ (l : List UInt8) (r : Nat), crcR r l = bits (8 * l.length) (r ^^^ num l)
  | [], r => by
    show r = bits 0 (r ^^^ 0)
    rw [Nat.xor_zero]
    rfl
  | c :: l, r => by
    show crcR (byteR r c) l = _
    rw [crcR_bits l, List.length_cons, show 8 * (l.length + 1) = 8 + 8 * l.length by omega, bits_add, num_cons]
    unfold byteR
    have e : r ^^^ ((2 ^ 8 * num l) ^^^ c.toNat) = (r ^^^ c.toNat) ^^^ (2 ^ 8 * num l) := by
      rw [Nat.xor_comm (2 ^ 8 * num l) c.toNat, Nat.xor_assoc]
    rw [e, bits_xor 8 (r ^^^ c.toNat), bits_shift]
theorem num_le4 {s : Nat} (h : s < 4294967296) : num (le4 s) = s := by
  show (UInt8.ofNat s).toNat + 256 * ((UInt8.ofNat (s / 256)).toNat + 256 * ((UInt8.ofNat (s / 65536)).toNat + 256 * ((UInt8.ofNat (s / 16777216)).toNat + 256 * 0))) = s
  simp only [UInt8.toNat_ofNat']
  omega
theorem xor_sub {n : Nat} (h : n < 4294967296) : n ^^^ (4294967295 - n) = 4294967295 := by
  have e : (4294967295 - n) = 4294967295 ^^^ n := by
    apply Nat.eq_of_testBit_eq
    intro i
    have h32 : (4294967295 : Nat) = 2 ^ 32 - 1 := by decide
    rw [Nat.testBit_xor, h32, Nat.testBit_two_pow_sub_one, show 2 ^ 32 - 1 - n = 2 ^ 32 - (n + 1) by omega, Nat.testBit_two_pow_sub_succ (by omega)]
    by_cases hi : i < 32
    · simp [hi]
    · have : n.testBit i = false := Nat.testBit_lt_two_pow (Nat.lt_of_lt_of_le (show n < 2 ^ 32 from h) (Nat.pow_le_pow_right (by decide) (by omega)))
      simp [hi, this]
  rw [e, Nat.xor_comm 4294967295 n, ← Nat.xor_assoc, Nat.xor_self, Nat.zero_xor]
theorem sealed_state {l : List UInt8} (h : sealed l = true) : crcR 4294967295 l = bits 32 4294967295 := by
  unfold sealed at h
  rw [Bool.and_eq_true, beq_iff_eq] at h
  obtain ⟨_, h⟩ := h
  obtain ⟨m, hm⟩ : ∃ m, l.take (l.length - 4) = m := ⟨_, rfl⟩
  rw [hm] at h
  have hlt : crcR 4294967295 m < 4294967296 := crcR_lt m (by decide)
  rw [h]
  unfold sealT
  rw [crcR_append, crcR_bits (le4 (sum32 m)), le4_length, num_le4 (sum32_lt m)]
  unfold sum32
  rw [xor_sub hlt]
theorem bit1_pos {r : Nat} (h0 : r ≠ 0) (h : r < 4294967296) : bit1 r ≠ 0 := by
  unfold bit1
  split
  · intro he
    have h2 : r / 2 = 2197175160 := by
      have := congrArg (fun z => z ^^^ 2197175160) he
      simp only [Nat.xor_assoc, Nat.xor_self, Nat.xor_zero, Nat.zero_xor] at this
      exact this
    omega
  · omega
theorem bits_pos : ∀ (n : Nat) {r : Nat}, r ≠ 0 → r < 4294967296 → bits n r ≠ 0
  | 0, r, h0, _ => by unfold bits; exact h0
  | n + 1, r, h0, h => by
    have e : bits (n + 1) r = bits n (bit1 r) := by
      rw [Nat.add_comm, bits_add]
      rfl
    rw [e]
    exact bits_pos n (bit1_pos h0 h) (bit1_lt h)
theorem burst {l l' : List UInt8} {a w : Nat} (h1 : sealed l = true) (h2 : sealed l' = true) (hlen : l'.length = l.length) (hd : num l' = num l ^^^ (2 ^ a * w)) (ha : a ≤ 8 * l.length) (hw : w < 4294967296) : w = 0 := by
  have e1 := sealed_state h1
  have e2 := sealed_state h2
  rw [crcR_bits] at e1 e2
  rw [hlen, hd, ← Nat.xor_assoc, bits_xor, e1] at e2
  have e3 : bits (8 * l.length) (2 ^ a * w) = 0 := by
    have := congrArg (fun z => bits 32 4294967295 ^^^ z) e2
    simp only [Nat.xor_self, ← Nat.xor_assoc, Nat.zero_xor] at this
    exact this
  rw [show 8 * l.length = a + (8 * l.length - a) by omega, bits_add, bits_shift] at e3
  by_cases h0 : w = 0
  · exact h0
  · exact absurd e3 (bits_pos _ h0 hw)

def turnBit (l : List UInt8) (k : Nat) : List UInt8 := l.set (k / 8) (l.getD (k / 8) 0 ^^^ UInt8.ofNat (2 ^ (k % 8)))
theorem turnBit_length (l : List UInt8) (k : Nat) : (turnBit l k).length = l.length := List.length_set
theorem mul_xor (n x y : Nat) : 2 ^ n * (x ^^^ y) = (2 ^ n * x) ^^^ (2 ^ n * y) := by
  have := Nat.shiftLeft_xor_distrib (a := x) (b := y) (i := n)
  rw [Nat.shiftLeft_eq, Nat.shiftLeft_eq, Nat.shiftLeft_eq] at this
  rw [Nat.mul_comm, this, Nat.mul_comm x, Nat.mul_comm y]
theorem num_turnBit : ∀ (l : List UInt8) (k : Nat), k < 8 * l.length → num (turnBit l k) = num l ^^^ 2 ^ k
  | [], k, h => by simp at h
  | c :: l, k, h => by
    by_cases hk : k < 8
    · have e1 : k / 8 = 0 := by omega
      have e2 : k % 8 = k := by omega
      have hp : 2 ^ k < 256 := Nat.lt_of_lt_of_le (Nat.pow_lt_pow_right (by decide) hk) (by decide)
      unfold turnBit
      rw [e1, e2]
      show num ((c ^^^ UInt8.ofNat (2 ^ k)) :: l) = _
      rw [num_cons, num_cons, UInt8.toNat_xor, UInt8.toNat_ofNat', Nat.mod_eq_of_lt hp, Nat.xor_assoc]
    · have e1 : k / 8 = (k - 8) / 8 + 1 := by omega
      have e2 : k % 8 = (k - 8) % 8 := by omega
      have e : turnBit (c :: l) k = c :: turnBit l (k - 8) := by
        unfold turnBit
        rw [e1, e2]
        rfl
      rw [List.length_cons] at h
      rw [e, num_cons, num_cons, num_turnBit l (k - 8) (by omega), mul_xor, ← Nat.pow_add, show 8 + (k - 8) = k by omega, Nat.xor_assoc, Nat.xor_assoc, Nat.xor_comm (2 ^ k)]
def tbits (l : List UInt8) (a m : Nat) : Nat → List UInt8 × Bool
  | 0 => (l, false)
  | i + 1 => if m / 2 ^ i % 2 = 1 ∧ a + i < 8 * l.length then (turnBit (tbits l a m i).1 (a + i), true) else tbits l a m i
theorem tbits_length (l : List UInt8) (a m : Nat) : ∀ i, (tbits l a m i).1.length = l.length
  | 0 => rfl
  | i + 1 => by
    unfold tbits
    split
    · show (turnBit _ _).length = _
      rw [turnBit_length, tbits_length l a m i]
    · exact tbits_length l a m i
theorem tbits_spec (l : List UInt8) (a m : Nat) : ∀ i, ∃ w, w < 2 ^ i ∧ num (tbits l a m i).1 = num l ^^^ (2 ^ a * w) ∧ ((tbits l a m i).2 = true → w ≠ 0) ∧ ((tbits l a m i).2 = false → (tbits l a m i).1 = l)
  | 0 => ⟨0, Nat.one_pos, (by rw [Nat.mul_zero, Nat.xor_zero]; rfl), (fun h => by cases h), (fun _ => rfl)⟩
  | i + 1 => by
    obtain ⟨w, h1, h2, h3, h4⟩ := tbits_spec l a m i
    have hp : 2 ^ (i + 1) = 2 ^ i * 2 := Nat.pow_succ 2 i
    unfold tbits
    split
    · rename_i hc
      refine ⟨w ^^^ 2 ^ i, Nat.xor_lt_two_pow (by omega) (by have := Nat.two_pow_pos i; omega), ?_, fun _ h0 => ?_, fun h => by cases h⟩
      · show num (turnBit _ _) = _
        rw [num_turnBit _ _ (by rw [tbits_length]; exact hc.2), h2, mul_xor, ← Nat.pow_add, Nat.xor_assoc]
      · have := congrArg (fun z => z ^^^ 2 ^ i) h0
        simp only [Nat.xor_assoc, Nat.xor_self, Nat.xor_zero, Nat.zero_xor] at this
        omega
    · exact ⟨w, by omega, h2, h3, h4⟩
theorem turned {l : List UInt8} {a m : Nat} (h : sealed l = true) (ha : a < 8 * l.length) (ht : (tbits l a m 32).2 = true) : sealed (tbits l a m 32).1 = false := by
  obtain ⟨w, h1, h2, h3, _⟩ := tbits_spec l a m 32
  cases hs : sealed (tbits l a m 32).1 with
  | false => rfl
  | true => exact absurd (burst h hs (tbits_length _ _ _ _) h2 (by omega) h1) (h3 ht)
theorem unturned {l : List UInt8} {a m : Nat} (ht : (tbits l a m 32).2 = false) : (tbits l a m 32).1 = l := by
  obtain ⟨w, _, _, _, h4⟩ := tbits_spec l a m 32
  exact h4 ht
end Go.Crc


namespace Go.Proofs.YtjiglbmjhecobaaGreatDoor
open Go.Abs Go.Crc
theorem cv_26_3 (A : AW) (n : Int) (k : IntKind) : convertA Tryz.prog A 26 3 (.int k n) = .ok (.int .i64 (IntKind.i64.wrap n)) A := by kernel_rfl
theorem cv_3_45 (A : AW) (n : Int) (k : IntKind) : convertA Tryz.prog A 3 45 (.int k n) = .ok (.int .u64 (IntKind.u64.wrap n)) A := by kernel_rfl
theorem bin_and1 {P : Program} {t : TypeId} {xo yo : Operand} {a : Nat} (ha : a < 4294967296) : binA P .and t xo yo (.int .u32 (a : Int)) (.int .u32 1) = some (.int .u32 ((a % 2 : Nat) : Int)) := by
  have h1 : (BitVec.ofInt 32 (a : Int)).toNat = a := bv32 ha
  have h2 : (BitVec.ofInt 32 (1 : Int)).toNat = 1 := rfl
  have e : ((BitVec.ofInt 32 (a : Int) &&& BitVec.ofInt 32 1).toNat : Int) = ((a % 2 : Nat) : Int) := by rw [BitVec.toNat_and, h1, h2, Nat.and_one_is_mod]
  have : binA P .and t xo yo (.int .u32 (a : Int)) (.int .u32 1) = some (.int .u32 (IntKind.u32.wrap ((BitVec.ofInt 32 (a : Int) &&& BitVec.ofInt 32 1).toNat : Int))) := by rfl
  rw [this, e, wrap_u32 (by omega)]
theorem bin_xor8 {P : Program} {t : TypeId} {xo yo : Operand} (a b : UInt8) : binA P .xor t xo yo (.int .u8 (a.toNat : Int)) (.int .u8 (b.toNat : Int)) = some (.int .u8 ((a ^^^ b).toNat : Int)) := by
  have ha : a.toNat < 256 := a.toNat_lt
  have hb : b.toNat < 256 := b.toNat_lt
  have h1 : (BitVec.ofInt 8 (a.toNat : Int)).toNat = a.toNat := by rw [BitVec.ofInt_natCast, BitVec.toNat_ofNat]; exact Nat.mod_eq_of_lt ha
  have h2 : (BitVec.ofInt 8 (b.toNat : Int)).toNat = b.toNat := by rw [BitVec.ofInt_natCast, BitVec.toNat_ofNat]; exact Nat.mod_eq_of_lt hb
  have e : ((BitVec.ofInt 8 (a.toNat : Int) ^^^ BitVec.ofInt 8 (b.toNat : Int)).toNat : Int) = (((a ^^^ b).toNat : Nat) : Int) := by rw [BitVec.toNat_xor, h1, h2, UInt8.toNat_xor]
  have : binA P .xor t xo yo (.int .u8 (a.toNat : Int)) (.int .u8 (b.toNat : Int)) = some (.int .u8 (IntKind.u8.wrap ((BitVec.ofInt 8 (a.toNat : Int) ^^^ BitVec.ofInt 8 (b.toNat : Int)).toNat : Int))) := by rfl
  have hc : (a ^^^ b).toNat < 256 := (a ^^^ b).toNat_lt
  rw [this, e, wrap_u8n (by omega) (by omega)]
theorem tb_on {l : List UInt8} {a m i : Nat} (h : m / 2 ^ i % 2 = 1 ∧ a + i < 8 * l.length) : tbits l a m (i + 1) = (turnBit (tbits l a m i).1 (a + i), true) := by
  conv => lhs; unfold tbits
  rw [if_pos h]
theorem tb_off {l : List UInt8} {a m i : Nat} (h : ¬ (m / 2 ^ i % 2 = 1 ∧ a + i < 8 * l.length)) : tbits l a m (i + 1) = tbits l a m i := by
  conv => lhs; unfold tbits
  rw [if_neg h]
theorem setL_bytes : ∀ (l : List UInt8) (k : Nat) (c : UInt8), k < l.length → setL (bytesV l) k [.int .u8 (c.toNat : Int)] = bytesV (l.set k c)
  | l, k, c, h => by
    have e := List.set_eq_take_append_cons_drop (l := l) (i := k) (a := c)
    have hl : l = l.take k ++ l[k] :: l.drop (k + 1) := by rw [← List.drop_eq_getElem_cons h, List.take_append_drop]
    have hlen : (bytesV (l.take k)).length = k := by rw [bytesV_length, List.length_take]; omega
    have h2 := setL_mid (bytesV (l.take k)) [.int .u8 ((l[k]).toNat : Int)] [.int .u8 (c.toNat : Int)] (bytesV (l.drop (k + 1))) rfl
    rw [hlen] at h2
    have h3 : bytesV l = bytesV (l.take k) ++ ([.int .u8 ((l[k]).toNat : Int)] ++ bytesV (l.drop (k + 1))) := by
      conv => lhs; rw [hl]
      rw [bytesV_append]
      rfl
    rw [h3, h2, e, if_pos h, bytesV_append]
    rfl
theorem ia44f {b n i : Nat} (hi : i < n) (c : Nat) : indexAddrA Tryz.prog 44 (.slice (some ⟨b, 0, none⟩) n c) (.int .i64 (i : Int)) = some (.pointer (some ⟨b, i, none⟩)) := by
  show indexAddrA Tryz.prog 44 _ (.int .i64 (.ofNat i)) = _
  rw [ia_44, blt_true.2 hi, cond_true]
  unfold addA
  cases hb : Nat.beq (i * 1) 0 with
  | true => rw [cond_true]; have := Nat.eq_of_beq_eq_true hb; rw [Nat.mul_one] at this; rw [this]
  | false => rw [cond_false, Nat.mul_one, Nat.zero_add]

section
variable {W0 : World} {m0 : Inj Tryz.prog}
theorem conv_row {A : AW} {s : ByteArray} {K : Value → AW → Prop} (hf : Fine A) (h : A.next < maxId)
    (hk : ∀ A', Made A A' (bytesV s.data.toList) 5 → K (.slice (some ⟨A.next, 0, none⟩) s.data.toList.length (capU + s.data.toList.length)) A') : bothW (convertA Tryz.prog A 9 44 (.string s)) K := by
  have e : convertA Tryz.prog A 9 44 (.string s) = .ok (.slice (some ⟨A.next, 0, none⟩) s.data.toList.length (capU + s.data.toList.length)) (A.push (.row (bytesV s.data.toList) 5 A.next 0 false)) := by
    unfold convertA
    simp only [tb.ust, tb.us, tb.ub, tb.sz]
    unfold AW.new
    simp only [blt_true.2 h, cond_true]
    rfl
  rw [e]
  exact bothW_ok.2 (hk _ ⟨AW.push_ext _ h, rfl, by rw [AW.push_get _ h, if_pos rfl], hf.alone (Nat.le_refl _), hf.push _ h⟩)
theorem rdS_row {A : AW} {q : Nat} {l : List UInt8} (h : Go.Abs.Row1 A q (bytesV l) 5) : RdS 5 A (.slice (some ⟨q, 0, none⟩) l.length (capU + l.length)) l [q] :=
  .inr ⟨q, 0, l.length, _, _, q, 0, false, [], rfl, .inl rfl, Nat.le_refl _, h.row, h.lt, rfl, by simp⟩

set_option maxRecDepth 100000 in
set_option maxHeartbeats 4000000 in
theorem wc5 {kd xa no at' m : Nat} {x : Nm} {sv : Value} {l : List Nm} {F : List Nat} {A : AW} (hhd : KC.Holds Tryz.prog W0 m0 ⟨7, [], [.bool true]⟩) (hkd : kd < 256) (hxa : xa < 256) (hn0 : no < 65536) (hxf : x.f < 4294967296) (hlf : ∀ p ∈ l, p.f < 4294967296) (hat : at' < 65536) (hm : m < 4294967296)
    (hf : Fine A) (hg0 : Glb A) (hA : A.next + 200000 < maxId) (h1 : RdN A sv l F) : Wc Tryz.prog theX W0 m0 5 [letV kd xa no x sv, .int .u16 (at' : Int), .int .u32 (m : Int)] A fun v _ => v = .bool true := by
  obtain ⟨S, hS⟩ : ∃ S, lput kd xa no x l = S := ⟨_, rfl⟩
  let I : Nat → Nat → List Value → AW → Prop := fun g id vals A' => id = 0 ∧ Lok kd xa no (zi x) (xchk x.g x.b) (ni l) l.length ∧ ∃ i q : Nat, vals = [.int .u16 (at' : Int), .int .u32 (m : Int), .slice (some ⟨q, 0, none⟩) S.length (capU + S.length), .bool (tbits S (at' % (8 * S.length)) m i).2, .int .i64 (i : Int)] ∧ i ≤ 32 ∧
    Go.Abs.Row1 A' q (bytesV (tbits S (at' % (8 * S.length)) m i).1) 5 ∧ A.next ≤ q ∧ Keeps A A' [] ∧ Fine A' ∧ A'.next ≤ A.next + 30000 ∧ g = 32 - i
  refine w5 _ _ _ _ (c5 (I := I) ?_) ?_
  · rintro g id vals A' d ⟨rfl, hL, i, q, rfl, hi, hr, hq, k, f, nx, rfl⟩ hd
    rw [l5_0]
    simp only [L5, List.map_cons, List.map_nil, List.cons.injEq, and_true] at hd
    obtain ⟨d1, d2, d9, d10, d11⟩ := hd
    have hS4 : 8 ≤ S.length ∧ S.length ≤ 30000 := by
      have h2 := lput_len hL
      rw [hS] at h2
      refine ⟨?_, h2⟩
      rw [← hS, lput_ok hL, seal_length]
      unfold lbytes
      rw [List.length_append, List.length_append, lhead_length]
      omega
    obtain ⟨n, hn⟩ : ∃ n, S.length = n := ⟨_, rfl⟩
    obtain ⟨a, ha⟩ : ∃ a, at' % (8 * n) = a := ⟨_, rfl⟩
    rw [hn] at hS4 d9 d10 hr
    rw [ha] at d10 hr
    have halt : a < 8 * n := by rw [← ha]; exact Nat.mod_lt _ (by omega)
    have htl := tbits_length S a m i
    rw [hn] at htl
    simp only [d1, d2, d9, d10, d11, bin_lss, pureW_some, forkW_dec]
    refine ⟨fun hlt => ?_, fun hge => ?_⟩
    · have hlt : i < 32 := by omega
      simp only [cv_26_3, cv_3_45, bothW_ok, ln_44, bin_mul, pureW_some]
      rw [wrap_i64 (n := (at' : Int)) (by omega) (by omega), wrap_i64 (n := 8 * (n : Int)) (by omega) (by omega), bin_rem (by omega)]
      have ea : (at' : Int).tmod (8 * (n : Int)) = (a : Int) := by
        rw [Int.tmod_eq_emod_of_nonneg (by omega), ← ha, Int.natCast_emod, Int.natCast_mul]
        rfl
      rw [ea]
      simp only [bin_add, pureW_some]
      rw [wrap_i64 (n := (a : Int) + i) (by omega) (by omega), wrap_u64 (n := (i : Int)) (by omega) (by omega), wrap_i64 (n := (i : Int) + 1) (by omega) (by omega), bin_shr (by omega)]
      have e3 : min ((i : Int)).toNat (IntKind.bits .u32) = i := by show min _ 32 = _; omega
      rw [e3, shr_nat]
      simp only [pureW_some]
      rw [bin_and1 (Nat.lt_of_le_of_lt (Nat.div_le_self _ _) hm)]
      simp only [pureW_some, bin_eql, forkW_beq]
      have off : ¬ (m / 2 ^ i % 2 = 1 ∧ a + i < 8 * n) → ∃ g', g' < 32 - i ∧ I g' 0 [.int .u16 (at' : Int), .int .u32 (m : Int), .slice (some ⟨q, 0, none⟩) n (capU + n), .bool (tbits S a m i).2, .int .i64 ((i : Int) + 1)] A' := fun hc => by
        have e := tb_off (l := S) (a := a) (m := m) (i := i) (by rw [hn]; exact hc)
        refine ⟨32 - (i + 1), by omega, rfl, hL, i + 1, q, ?_, by omega, ?_, hq, k, f, nx, rfl⟩
        · rw [hn, ha, e]; rfl
        · rw [hn, ha, e]; exact hr
      refine ⟨fun hbit => ?_, fun hbit => cutW_self.2 (off (by omega))⟩
      simp only [bin_lss, pureW_some, forkW_dec]
      refine ⟨fun hin => ?_, fun hout => cutW_self.2 (off (by omega))⟩
      have hc : m / 2 ^ i % 2 = 1 ∧ a + i < 8 * n := ⟨by omega, by omega⟩
      obtain ⟨kk, hkk⟩ : ∃ kk, a + i = kk := ⟨_, rfl⟩
      have ek : (a : Int) + (i : Int) = (kk : Int) := by omega
      rw [ek]
      rw [hkk] at hc
      rw [bin_quo (by decide), bin_quo (by decide), bin_rem (by decide)]
      have eq8 : IntKind.i64.wrap ((kk : Int).tdiv 8) = ((kk / 8 : Nat) : Int) := by
        rw [Int.tdiv_eq_ediv_of_nonneg (by omega), wrap_i64 (by omega) (by omega)]
        omega
      have er8 : (kk : Int).tmod 8 = ((kk % 8 : Nat) : Int) := by
        rw [Int.tmod_eq_emod_of_nonneg (by omega)]
        omega
      have hk8 : kk / 8 < n := by omega
      rw [eq8, er8]
      simp only [pureW_some, ia44f hk8]
      obtain ⟨c, hcg⟩ : ∃ c, (tbits S a m i).1[kk / 8]? = some c := ⟨_, List.getElem?_eq_getElem (by omega)⟩
      have hld : A'.cell? ⟨q, kk / 8, none⟩ = some (.int .u8 (c.toNat : Int)) := by
        rw [cell_row hr.row]
        exact cellOf_get (bytesV_get hcg) rfl
      simp only [ld_5, hld, pureW_some, cv_3_45, bothW_ok]
      rw [wrap_u64 (n := ((kk % 8 : Nat) : Int)) (by omega) (by omega), bin_shl (by omega)]
      have hp : 2 ^ (kk % 8) < 256 := Nat.lt_of_lt_of_le (Nat.pow_lt_pow_right (by decide) (show kk % 8 < 8 by omega)) (by decide)
      have es : IntKind.u8.wrap (1 * 2 ^ (min ((kk % 8 : Nat) : Int).toNat (IntKind.bits .u8))) = ((UInt8.ofNat (2 ^ (kk % 8))).toNat : Int) := by
        have e1 : min ((kk % 8 : Nat) : Int).toNat (IntKind.bits .u8) = kk % 8 := by show min _ 8 = _; omega
        have e2 : (1 : Int) * 2 ^ (kk % 8) = ((2 ^ (kk % 8) : Nat) : Int) := by rw [Int.one_mul, Int.natCast_pow]; rfl
        rw [e1, e2, wrap_u8n (Int.natCast_nonneg _) (Int.ofNat_lt.2 hp), UInt8.toNat_ofNat', Nat.mod_eq_of_lt hp]
      rw [es]
      simp only [pureW_some]
      rw [bin_xor8]
      simp only [pureW_some]
      refine hr.store f (by omega) (st_5 _ _ _) rfl (by rw [bytesV_length]; show kk / 8 + 1 ≤ _; omega) rfl fun A2 r2 k2 n2 f2 => ?_
      have e2 : setL (bytesV (tbits S a m i).1) (kk / 8) (Value.cells (.int .u8 ((c ^^^ UInt8.ofNat (2 ^ (kk % 8))).toNat : Int))).toList = bytesV (turnBit (tbits S a m i).1 kk) := by
        refine (setL_bytes _ _ _ (by omega)).trans ?_
        unfold turnBit
        rw [List.getD_eq_getElem?_getD, hcg]
        rfl
      rw [e2] at r2
      have e := tb_on (l := S) (a := a) (m := m) (i := i) (by rw [hn, hkk]; exact hc)
      refine cutW_self.2 ⟨32 - (i + 1), by omega, rfl, hL, i + 1, q, ?_, by omega, ?_, hq, k.trans k2 (by simp; omega), f2, by omega, rfl⟩
      · rw [hn, ha, e]; rfl
      · rw [hn, ha, e, hkk]; exact r2
    · have hi' : i = 32 := by omega
      subst hi'
      have hrd := rdS_row hr
      rw [htl] at hrd
      rw [hrd.rd.str tb]
      refine bothW_ok.2 ?_
      have hG0 : GoodP S := by rw [← hS]; exact good_P hL hxf hlf
      refine wc11 (s := ⟨⟨(tbits S a m 32).1⟩⟩) f (hg0.keeps k (by simp)) (by omega) (by show (tbits S a m 32).1.length < _; omega) (fun A3 sv3 F3 hG g3 l3 hF3 => ?_) fun A3 hG g3 => ?_
      · have hG : GoodP (tbits S a m 32).1 := hG
        have n3 := g3.next
        have ht : (tbits S a m 32).2 = false := by
          cases ht : (tbits S a m 32).2 with
          | false => rfl
          | true =>
            have := turned (l := S) hG0.1 (by rw [hn]; exact halt) ht
            rw [hG.1] at this
            cases this
        simp only [ex_0, ex_1, pureW_some]
        refine allocP_made zero29 g3.fine (by omega) rfl fun A4 m4 => ?_
        have n4 := m4.next
        refine store29 m4.row1 rfl l3.one.1 m4.fine (by omega) fun A5 r5 k5 n5 f5 => ?_
        rw [ht]
        simp only [bin_eql, un_not, bin_booleq, pureW_some]
        exact forkW_bool.2 ⟨fun _ => head_kn hhd _ rfl, fun h => by simp at h⟩
      · have hG : ¬ GoodP (tbits S a m 32).1 := hG
        have n3 := g3.next
        have ht : (tbits S a m 32).2 = true := by
          cases ht : (tbits S a m 32).2 with
          | true => rfl
          | false =>
            rw [unturned ht] at hG
            exact absurd hG0 hG
        simp only [ex_0, ex_1, pureW_some]
        refine allocP_made zero29 g3.fine (by omega) rfl fun A4 m4 => ?_
        have n4 := m4.next
        refine store29 (kd := 0) (xa := 0) (no := 0) (x := x0) (sv := .slice none 0 0) m4.row1 rfl rfl m4.fine (by omega) fun A5 r5 k5 n5 f5 => ?_
        rw [ht]
        simp only [bin_eql, un_not, bin_booleq, pureW_some]
        exact forkW_bool.2 ⟨fun _ => head_kn hhd _ rfl, fun h => by simp at h⟩
  · rw [e5]
    refine newP_made (cs := (Value.cells (letV kd xa no x sv)).toList) hf (by omega) (by simp [letV, letC, Value.cells, one_int, one_string, h1.one.1]) fun A1 m1 => ?_
    have n1 := m1.next
    have k1 := m1.keeps hf
    have g1 := Grow.made m1 hf
    have r1 : Go.Abs.Row1 A1 A.next (letC kd xa no x sv) 29 := m1.row1
    have one1 := h1.one
    have s1 := h1.keeps k1 (by simp)
    have p1 := letW_load r1 one1.2
    simp only [fa_29_4, ld_27, Nat.zero_add, cell_row r1.row, letC, cellOf, one1.2, cond_false, s1.len, bin_gtr, pureW_some, forkW_dec]
    refine ⟨fun _ => head_kn hhd _ rfl, fun hl1 => ?_⟩
    rw [p1]
    simp only [pureW_some]
    refine wc8 hkd hxa hn0 hxf hlf m1.fine (hg0.keeps k1 (by simp)) (by omega) s1 fun A2 g2 => ?_
    have n2 := g2.next
    simp only [ex_0, ex_1, pureW_some, bin_neq, forkW_bne]
    refine ⟨fun hne => ⟨fun _ => head_kn hhd _ rfl, fun h => absurd h hne⟩, fun heq => ?_⟩
    have hL := lchk_zero heq
    rw [hS]
    have hS4 : 8 ≤ S.length := by
      rw [← hS, lput_ok hL, seal_length]
      unfold lbytes
      rw [List.length_append, List.length_append, lhead_length]
      omega
    simp only [ln_9, pureW_some, bin_eql, forkW_beq]
    refine ⟨fun h0 => by simp at h0; rw [h0] at hS4; simp at hS4, fun _ => ?_⟩
    refine conv_row (s := ⟨⟨S⟩⟩) g2.fine (by omega) fun A3 m3 => ?_
    have n3 := m3.next
    have hle := g2.le
    refine cutW_self.2 ⟨32, rfl, hL, 0, A2.next, rfl, by omega, m3.row1, by omega, (g1.trans g2).keeps.trans (m3.keeps g2.fine) (by simp), m3.fine, by omega, rfl⟩
end
end Go.Proofs.YtjiglbmjhecobaaGreatDoor
