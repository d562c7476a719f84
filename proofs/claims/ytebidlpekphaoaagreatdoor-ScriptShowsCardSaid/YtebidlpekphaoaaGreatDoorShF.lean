/-
  What the operations are at the types that ScriptShows reaches besides. Conditions: none.
-/
import Derived.Test.YtebidlpekphaoaaGreatDoorShU
import Derived.Test.YtebidlpekphaoaaGreatDoorShQ
import Derived.Test.YtebidlpekphaoaaGreatDoorShL
import Derived.Test.YtebidlpekphaoaaGreatDoorAbsJ
import Derived.Test.YtebidlpekphaoaaGreatDoorAbsI

namespace Go.Proofs.YtebidlpekphaoaaGreatDoor
open Go.Abs
theorem fa_32_0 (b o : Nat) : fieldAddrA Tryz.prog 32 (.pointer (some ⟨b, o, none⟩)) 0 = some (.pointer (some ⟨b, o, none⟩)) := by kernel_rfl
theorem fa_32_1 (b o : Nat) : fieldAddrA Tryz.prog 32 (.pointer (some ⟨b, o, none⟩)) 1 = some (.pointer (some ⟨b, o + 1, none⟩)) := by kernel_rfl
theorem fa_32_2 (b o : Nat) : fieldAddrA Tryz.prog 32 (.pointer (some ⟨b, o, none⟩)) 2 = some (.pointer (some ⟨b, o + 2, none⟩)) := by kernel_rfl
theorem fa_52_0 (b o : Nat) : fieldAddrA Tryz.prog 52 (.pointer (some ⟨b, o, none⟩)) 0 = some (.pointer (some ⟨b, o, none⟩)) := by kernel_rfl
theorem fa_52_1 (b o : Nat) : fieldAddrA Tryz.prog 52 (.pointer (some ⟨b, o, none⟩)) 1 = some (.pointer (some ⟨b, o + 1, none⟩)) := by kernel_rfl
theorem fa_52_2 (b o : Nat) : fieldAddrA Tryz.prog 52 (.pointer (some ⟨b, o, none⟩)) 2 = some (.pointer (some ⟨b, o + 2, none⟩)) := by kernel_rfl
theorem fa_52_3 (b o : Nat) : fieldAddrA Tryz.prog 52 (.pointer (some ⟨b, o, none⟩)) 3 = some (.pointer (some ⟨b, o + 3, none⟩)) := by kernel_rfl
theorem fa_54_0 (b o : Nat) : fieldAddrA Tryz.prog 54 (.pointer (some ⟨b, o, none⟩)) 0 = some (.pointer (some ⟨b, o, none⟩)) := by kernel_rfl
theorem fa_54_1 (b o : Nat) : fieldAddrA Tryz.prog 54 (.pointer (some ⟨b, o, none⟩)) 1 = some (.pointer (some ⟨b, o + 1, none⟩)) := by kernel_rfl
theorem fa_61_2 (b o : Nat) : fieldAddrA Tryz.prog 61 (.pointer (some ⟨b, o, none⟩)) 2 = some (.pointer (some ⟨b, o + 2, none⟩)) := by kernel_rfl
theorem fa_61_3 (b o : Nat) : fieldAddrA Tryz.prog 61 (.pointer (some ⟨b, o, none⟩)) 3 = some (.pointer (some ⟨b, o + 3, none⟩)) := by kernel_rfl
theorem fa_63_0 (b o : Nat) : fieldAddrA Tryz.prog 63 (.pointer (some ⟨b, o, none⟩)) 0 = some (.pointer (some ⟨b, o, none⟩)) := by kernel_rfl
theorem fa_63_1 (b o : Nat) : fieldAddrA Tryz.prog 63 (.pointer (some ⟨b, o, none⟩)) 1 = some (.pointer (some ⟨b, o + 1, none⟩)) := by kernel_rfl
theorem fa_63_2 (b o : Nat) : fieldAddrA Tryz.prog 63 (.pointer (some ⟨b, o, none⟩)) 2 = some (.pointer (some ⟨b, o + 2, none⟩)) := by kernel_rfl
theorem fa_63_3 (b o : Nat) : fieldAddrA Tryz.prog 63 (.pointer (some ⟨b, o, none⟩)) 3 = some (.pointer (some ⟨b, o + 4, none⟩)) := by kernel_rfl
theorem fa_63_4 (b o : Nat) : fieldAddrA Tryz.prog 63 (.pointer (some ⟨b, o, none⟩)) 4 = some (.pointer (some ⟨b, o + 13, none⟩)) := by kernel_rfl
theorem fa_65_0 (b o : Nat) : fieldAddrA Tryz.prog 65 (.pointer (some ⟨b, o, none⟩)) 0 = some (.pointer (some ⟨b, o, none⟩)) := by kernel_rfl
theorem fa_65_1 (b o : Nat) : fieldAddrA Tryz.prog 65 (.pointer (some ⟨b, o, none⟩)) 1 = some (.pointer (some ⟨b, o + 1, none⟩)) := by kernel_rfl
theorem fa_65_2 (b o : Nat) : fieldAddrA Tryz.prog 65 (.pointer (some ⟨b, o, none⟩)) 2 = some (.pointer (some ⟨b, o + 2, none⟩)) := by kernel_rfl
theorem fa_65_3 (b o : Nat) : fieldAddrA Tryz.prog 65 (.pointer (some ⟨b, o, none⟩)) 3 = some (.pointer (some ⟨b, o + 3, none⟩)) := by kernel_rfl
theorem fa_65_4 (b o : Nat) : fieldAddrA Tryz.prog 65 (.pointer (some ⟨b, o, none⟩)) 4 = some (.pointer (some ⟨b, o + 6, none⟩)) := by kernel_rfl
theorem fa_65_5 (b o : Nat) : fieldAddrA Tryz.prog 65 (.pointer (some ⟨b, o, none⟩)) 5 = some (.pointer (some ⟨b, o + 10, none⟩)) := by kernel_rfl
theorem fa_65_6 (b o : Nat) : fieldAddrA Tryz.prog 65 (.pointer (some ⟨b, o, none⟩)) 6 = some (.pointer (some ⟨b, o + 24, none⟩)) := by kernel_rfl
theorem ld_4 (A : AW) (a : Addr) : loadP Tryz.prog A 4 (.pointer (some a)) = A.cell? a := by kernel_rfl
theorem ld_24 (A : AW) (a : Addr) : loadP Tryz.prog A 24 (.pointer (some a)) = A.cell? a := by kernel_rfl
theorem ld_30 (A : AW) (a : Addr) : loadP Tryz.prog A 30 (.pointer (some a)) = A.cell? a := by kernel_rfl
theorem ld_32 (A : AW) (a : Addr) : loadP Tryz.prog A 32 (.pointer (some a)) = (match A.cells? a 3 with | some l => some (.agg ⟨l⟩) | none => none) := by kernel_rfl
theorem ld_35 (A : AW) (a : Addr) : loadP Tryz.prog A 35 (.pointer (some a)) = A.cell? a := by kernel_rfl
theorem ld_50 (A : AW) (a : Addr) : loadP Tryz.prog A 50 (.pointer (some a)) = A.cell? a := by kernel_rfl
theorem ld_63 (A : AW) (a : Addr) : loadP Tryz.prog A 63 (.pointer (some a)) = (match A.cells? a 14 with | some l => some (.agg ⟨l⟩) | none => none) := by kernel_rfl
theorem st_63 (A : AW) (a : Addr) (v : Value) : storeP Tryz.prog A 63 (.pointer (some a)) v = (bif Nat.beq v.cells.toList.length 14 then A.setCells a v.cells.toList else none) := by kernel_rfl
theorem ia_56 (b o n c i : Nat) (k : IntKind) : indexAddrA Tryz.prog 56 (.slice (some ⟨b, o, none⟩) n c) (.int k (.ofNat i)) = (bif Nat.blt i n then some (.pointer (some (addA ⟨b, o, none⟩ (i * 1)))) else none) := by kernel_rfl
theorem ln_56 (A : AW) (a : Option Addr) (n c : Nat) : lenA Tryz.prog A 56 (.slice a n c) = some (.int .i64 n) := by kernel_rfl
theorem cv_30_35 (A : AW) (n : Int) (k : IntKind) : convertA Tryz.prog A 30 35 (.int k n) = .ok (.int .u64 (IntKind.u64.wrap n)) A := by kernel_rfl
end Go.Proofs.YtebidlpekphaoaaGreatDoor


namespace Go.Proofs.YtebidlpekphaoaaGreatDoor
open Go.Abs

/-- the library's table of powers -/
def Pow (W : World) : Prop := Lib.TabIs Tryz.prog W "internal/strconv.uint64pow10" .u64 Lib.pow10Tab
theorem Pow.grow {W W' : World} (h : Pow W) (hb : Go.RowKit.Below W.heap.size W W') : Pow W' := by
  unfold Pow Lib.TabIs World.var? at *
  have hg : Tryz.prog.globalNamed "internal/strconv.uint64pow10" = some 1 := by kernel_rfl
  rw [hg] at h ⊢
  simp only [Option.bind_some] at h ⊢
  have hlt : 1 < W.heap.size := by
    rcases Nat.lt_or_ge 1 W.heap.size with h' | h'
    · exact h'
    · rw [Array.getElem?_eq_none h'] at h; simp at h
  rw [hb.block 1 hlt]
  exact h
theorem low_of_grow (w : World) (k : Nat) (os : Array Obj) : Low w (Go.Sort.grow (w.drewN k) os) := by
  refine ⟨⟨rfl, rfl, rfl, ?_, fun i hi => ?_⟩, ?_⟩
  · simp [Go.Sort.grow, World.drewN]
  · show (w.heap ++ os)[i]? = w.heap[i]?
    rw [Array.getElem?_append_left hi]
  · simp [Go.Sort.grow, World.drewN]
/-- a library's function that answers a text and makes memory of its own alone -/
theorem lib_text {W0 : World} {m0 : Inj Tryz.prog} {g : FuncId} {k1 k2 : IntKind} {n1 n2 : Int} {s : ByteArray} (h : ∀ w, Pow w → Calls Tryz.prog g #[.int k1 n1, .int k2 n2] w fun e w' => e = .returned (.string s) ∧ ∃ k os, w' = Go.Sort.grow (w.drewN k) os) (hp : Pow W0) {A : AW} {K : Value → AW → Prop} (hk : K (.string s) A) :
    LibW Tryz.prog W0 m0 g [.int k1 n1, .int k2 n2] A K := by
  intro m w args' hr _ hb ha
  cases ha with
  | cons h1 h2 =>
    cases h2 with
    | cons h3 h4 =>
      cases h4
      cases h1
      cases h3
      refine (h w (hp.grow hb)).mono ?_
      rintro e w' ⟨rfl, k, os, rfl⟩
      exact ⟨_, _, m, A, hk, rfl, .string _, EvL.grow hr (low_of_grow w k os) _⟩
theorem toArray_list (l : List UInt8) : (⟨l.toArray⟩ : ByteArray) = ⟨⟨l⟩⟩ := rfl
theorem dec_small {n : Nat} (h : n < 10) : Lib.decDigits n = [UInt8.ofNat (48 + n)] := by
  rw [Lib.decDigits, dif_pos h]
theorem dec_great {n : Nat} (h : ¬ n < 10) : Lib.decDigits n = Lib.decDigits (n / 10) ++ [UInt8.ofNat (48 + n % 10)] := by
  rw [Lib.decDigits, dif_neg h]
theorem dec_len {n : Nat} : (Lib.decDigits n).length ≤ n + 1 := by
  induction n using Nat.strongRecOn with
  | ind n ih =>
    by_cases h : n < 10
    · rw [dec_small h]; simp
    · rw [dec_great h, List.length_append]
      have := ih (n / 10) (by omega)
      simp only [List.length_cons, List.length_nil]
      omega
theorem dec_le20 {n : Nat} (h : n < 18446744073709551616) : (Lib.decDigits n).length ≤ 20 := by
  rw [Lib.decDigits_length]
  rcases Nat.eq_zero_or_pos n with rfl | h1
  · rw [← Lib.decDigits_length, dec_small (by decide)]; decide
  · have := Lib.numDigits_eq n h1 h
    have h3 := this.2
    have h4 := this.1
    split at h4 <;> omega
theorem cv_35_5 (A : AW) (n : Int) (k : IntKind) : convertA Tryz.prog A 35 5 (.int k n) = .ok (.int .u8 (IntKind.u8.wrap n)) A := by kernel_rfl
theorem cv_3_35 (A : AW) (n : Int) (k : IntKind) : convertA Tryz.prog A 3 35 (.int k n) = .ok (.int .u64 (IntKind.u64.wrap n)) A := by kernel_rfl
theorem cv_5_35 (A : AW) (n : Int) (k : IntKind) : convertA Tryz.prog A 5 35 (.int k n) = .ok (.int .u64 (IntKind.u64.wrap n)) A := by kernel_rfl
theorem wrap_u64 {n : Int} (h1 : 0 ≤ n) (h2 : n < 18446744073709551616) : IntKind.u64.wrap n = n := by
  simp [IntKind.wrap, IntKind.bits, IntKind.signed]
  omega
theorem un_neg {k : IntKind} {n : Int} : unA Tryz.prog .neg (.int k n) = some (.int k (k.wrap (-n))) := by simp [unA, closedV, Op.unary, Op.intArith, quiet, closedO, pure]
section
variable {W0 : World} {m0 : Inj Tryz.prog}
theorem wc79 {u : Nat} {A : AW} {K : Value → AW → Prop} (hp : Pow W0) (hu : u < 18446744073709551616) (hk : K (.string ⟨⟨Lib.decDigits u⟩⟩) A) : Wc Tryz.prog theX W0 m0 79 [.int .u64 (u : Int), .int .i64 10] A K := by
  refine w79 _ _ _ (cuts_none (S := fun _ _ _ => False) fun _ _ _ h => h) ?_
  rw [e79]
  exact .inr (lib_text (s := ⟨⟨Lib.decDigits u⟩⟩) (fun w hw => formatUint_calls u hu w hw) hp hk)
theorem wc78 {n : Int} {A : AW} {K : Value → AW → Prop} (hp : Pow W0) (h0 : -9223372036854775808 ≤ n) (h1 : n ≤ 9223372036854775807) (hk : K (.string ⟨⟨Lib.itoa n⟩⟩) A) : Wc Tryz.prog theX W0 m0 78 [.int .i64 n, .int .i64 10] A K := by
  refine w78 _ _ _ (cuts_none (S := fun _ _ _ => False) fun _ _ _ h => h) ?_
  rw [e78]
  exact .inr (lib_text (s := ⟨⟨Lib.itoa n⟩⟩) (fun w hw => Any.internal_strconv_FormatInt_10 numX n h0 h1 w hw) hp hk)
theorem wc46 {n : Int} {A : AW} {K : Value → AW → Prop} (hp : Pow W0) (h0 : -9223372036854775808 ≤ n) (h1 : n ≤ 9223372036854775807) (hk : K (.string ⟨⟨Lib.itoa n⟩⟩) A) : Wc Tryz.prog theX W0 m0 46 [.int .i64 n] A K := by
  refine w46 _ _ (cuts_none (S := fun _ _ _ => False) fun _ _ _ h => h) ?_
  rw [e46]
  simp only [bin_lss, pureW_some, forkW_dec]
  refine ⟨fun h => wc78 hp h0 h1 hk, fun h => ?_⟩
  obtain ⟨u, rfl⟩ : ∃ u : Nat, n = (u : Int) := ⟨n.toNat, by omega⟩
  rw [cv_3_35, wrap_u64 (by omega) (by omega)]
  rw [Lib.itoa_nonneg] at hk
  exact bothW_ok.2 (wc79 hp (by omega) hk)
theorem wc47 {u : Nat} {A : AW} {K : Value → AW → Prop} (hp : Pow W0) (hu : u < 256) (hk : K (.string ⟨⟨Lib.decDigits u⟩⟩) A) : Wc Tryz.prog theX W0 m0 47 [.int .u8 (u : Int)] A K := by
  refine w47 _ _ (cuts_none (S := fun _ _ _ => False) fun _ _ _ h => h) ?_
  rw [e47]
  simp only [bin_lss, pureW_some, forkW_dec]
  refine ⟨fun h => absurd h (by omega), fun _ => ?_⟩
  rw [cv_5_35, wrap_u64 (by omega) (by omega)]
  exact bothW_ok.2 (wc79 hp (by omega) hk)
theorem wc48 {u : Nat} {A : AW} {K : Value → AW → Prop} (hp : Pow W0) (hu : u < 18446744073709551616) (hk : K (.string ⟨⟨Lib.decDigits u⟩⟩) A) : Wc Tryz.prog theX W0 m0 48 [.int .u64 (u : Int)] A K := by
  refine w48 _ _ (cuts_none (S := fun _ _ _ => False) fun _ _ _ h => h) ?_
  rw [e48]
  simp only [bin_lss, pureW_some, forkW_dec]
  exact ⟨fun h => absurd h (by omega), fun _ => wc79 hp hu hk⟩
set_option maxRecDepth 100000 in
/-- a number in digits, by the document -/
theorem wc31 {u : Nat} {A : AW} {K : Value → AW → Prop} (hu : u < 18446744073709551616) (hf : Fine A) (hA : A.next + 100 < maxId) (hk : ∀ A', Grow A A' 25 → K (.string ⟨⟨Lib.decDigits u⟩⟩) A') : Wc Tryz.prog theX W0 m0 31 [.int .u64 (u : Int)] A K := by
  have h20 := dec_le20 hu
  let I : Nat → Nat → List Value → AW → Prop := fun g id vals A' => id = 0 ∧ ∃ (n : Nat) (l : List UInt8), vals = [.int .u64 (n : Int), .string ⟨⟨l⟩⟩] ∧ n ≤ u ∧ Lib.decDigits u = Lib.decDigits n ++ l ∧ Grow A A' l.length ∧ g = n
  refine w31 _ _ (c31 (I := I) ?_) ?_
  · rintro g id vals A' d ⟨rfl, n, l, rfl, hn, he, gr, hg⟩ hd
    rw [l31_0]
    simp only [L31, List.map_cons, List.map_nil, List.cons.injEq, and_true] at hd
    obtain ⟨d0, d3⟩ := hd
    have hl : l.length ≤ 20 := by
      have := congrArg List.length he
      rw [List.length_append] at this; omega
    have nx := gr.next
    simp only [d0, d3, bin_gtr, pureW_some, forkW_dec]
    refine ⟨fun hlt => ?_, fun hge => ?_⟩
    · have hlt : ¬ n < 10 := by omega
      have h1 : binA Tryz.prog .rem 35 (.tmp 8) (.const (.int .u64 10)) (.int .u64 (n : Int)) (.int .u64 10) = some (.int .u64 ((n % 10 : Nat) : Int)) := by
        rw [bin_rem (by decide), Int.tmod_eq_emod_of_nonneg (by omega)]; rfl
      have h2 : IntKind.u8.wrap (48 + ((n % 10 : Nat) : Int)) = ((UInt8.ofNat (48 + n % 10)).toNat : Int) := by
        rw [wrap_u8, UInt8.toNat_ofNat']; omega
      have h3 : ∀ xo yo, binA Tryz.prog .quo 35 xo yo (.int .u64 (n : Int)) (.int .u64 10) = some (.int .u64 ((n / 10 : Nat) : Int)) := fun xo yo => by
        rw [bin_quo (by decide), Int.tdiv_eq_ediv_of_nonneg (by omega), wrap_u64 (by omega) (by omega)]; rfl
      have h1 : ∀ xo yo, binA Tryz.prog .rem 35 xo yo (.int .u64 (n : Int)) (.int .u64 10) = some (.int .u64 ((n % 10 : Nat) : Int)) := fun xo yo => by
        rw [bin_rem (by decide), Int.tmod_eq_emod_of_nonneg (by omega)]; rfl
      simp only [h1, h3, bin_add, pureW_some, wrap_u64 (show (0 : Int) ≤ 48 + ((n % 10 : Nat) : Int) by omega) (by omega), cv_35_5, h2, bothW_ok]
      refine new1 gr.fine (by omega) fun A2 m2 => ?_
      have hs : convertA Tryz.prog A2 33 9 (.slice (some ⟨A'.next, 0, none⟩) 1 1) = .ok (.string ⟨⟨[UInt8.ofNat (48 + n % 10)]⟩⟩) A2 := (Made.rdB (c := 1) m2).str bt33
      rw [hs]
      refine bothW_ok.2 ?_
      rw [add9 (by show 1 + l.length < _; omega)]
      simp only [pureW_some]
      refine cutW_self.2 ⟨n / 10, by omega, rfl, n / 10, [UInt8.ofNat (48 + n % 10)] ++ l, rfl, by omega, ?_, (gr.trans (.made m2 gr.fine)).more (by simp), rfl⟩
      rw [he, dec_great hlt, List.append_assoc]
    · have hlt : n < 10 := by omega
      have h2 : IntKind.u8.wrap (48 + (n : Int)) = ((UInt8.ofNat (48 + n)).toNat : Int) := by
        rw [wrap_u8, UInt8.toNat_ofNat']; omega
      simp only [bin_add, pureW_some, wrap_u64 (show (0 : Int) ≤ 48 + (n : Int) by omega) (by omega), cv_35_5, h2, bothW_ok]
      refine new1 gr.fine (by omega) fun A2 m2 => ?_
      have hs : convertA Tryz.prog A2 33 9 (.slice (some ⟨A'.next, 0, none⟩) 1 1) = .ok (.string ⟨⟨[UInt8.ofNat (48 + n)]⟩⟩) A2 := (Made.rdB (c := 1) m2).str bt33
      rw [hs]
      refine bothW_ok.2 ?_
      rw [add9 (by show 1 + l.length < _; omega)]
      simp only [pureW_some]
      have := hk A2 ((gr.trans (.made m2 gr.fine)).more (by omega))
      rw [he, dec_small hlt] at this
      exact this
  · rw [e31]
    exact cutW_self.2 ⟨u, rfl, u, [], rfl, Nat.le_refl _, by simp, Grow.refl hf, rfl⟩
theorem wc32 {n : Int} {A : AW} {K : Value → AW → Prop} (h0 : -9223372036854775808 ≤ n) (h1 : n ≤ 9223372036854775807) (hf : Fine A) (hA : A.next + 100 < maxId) (hk : ∀ A', Grow A A' 25 → K (.string ⟨⟨Lib.itoa n⟩⟩) A') : Wc Tryz.prog theX W0 m0 32 [.int .i64 n] A K := by
  refine w32 _ _ (cuts_none (S := fun _ _ _ => False) fun _ _ _ h => h) ?_
  rw [e32]
  simp only [bin_lss, pureW_some, forkW_dec]
  refine ⟨fun h => ?_, fun h => ?_⟩
  · obtain ⟨u, hu⟩ : ∃ u : Nat, n = -((u : Int) + 1) := ⟨(-n - 1).toNat, by omega⟩
    subst hu
    simp only [bin_add, pureW_some, un_neg]
    rw [wrap_i64 (n := -((u : Int) + 1) + 1) (by omega) (by omega), wrap_i64 (by omega) (by omega), cv_3_35, wrap_u64 (by omega) (by omega)]
    refine bothW_ok.2 ?_
    simp only [bin_add, pureW_some]
    rw [wrap_u64 (by omega) (by omega)]
    have e : (-(-((u : Int) + 1) + 1) + 1) = ((u + 1 : Nat) : Int) := by omega
    rw [e]
    refine wc31 (by omega) hf hA fun A2 g2 => ?_
    have h20 : (Lib.decDigits (u + 1)).length ≤ 20 := dec_le20 (by omega)
    rw [add9 (by show 1 + (Lib.decDigits (u + 1)).length < _; omega)]
    simp only [pureW_some]
    have := hk A2 g2
    rw [show -((u : Int) + 1) = -((u + 1 : Nat) : Int) by omega, Lib.itoa_neg _ (by omega)] at this
    exact this
  · obtain ⟨u, rfl⟩ : ∃ u : Nat, n = (u : Int) := ⟨n.toNat, by omega⟩
    rw [cv_3_35, wrap_u64 (by omega) (by omega)]
    rw [Lib.itoa_nonneg] at hk
    exact bothW_ok.2 (wc31 (by omega) hf hA hk)
end
end Go.Proofs.YtebidlpekphaoaaGreatDoor


namespace Go.Proofs.YtebidlpekphaoaaGreatDoor
open Go.Abs

/-- bytes as hexadecimal digits -/
def hexL (l : List UInt8) : List UInt8 := l.flatMap fun b => [hexd (b.toNat / 16), hexd (b.toNat % 16)]
theorem hexL_app (a b : List UInt8) : hexL (a ++ b) = hexL a ++ hexL b := List.flatMap_append
theorem hexL_len (l : List UInt8) : (hexL l).length = 2 * l.length := by
  induction l with
  | nil => rfl
  | cons b l ih =>
    rw [show hexL (b :: l) = [hexd (b.toNat / 16), hexd (b.toNat % 16)] ++ hexL l from by simp [hexL], List.length_append, ih]
    simp only [List.length_cons, List.length_nil]
    omega
abbrev bl (s : ByteArray) : List UInt8 := s.data.toList
/-- a name that may be -/
def okX (p : Nm) : Bool := decide (1 ≤ (bl p.g).length ∧ (bl p.g).length ≤ 64 ∧ (bl p.b).length ≤ 64)
def textX (p : Nm) : List UInt8 := Lib.decDigits p.f ++ [46] ++ hexL (bl p.g) ++ [46] ++ hexL (bl p.b)
def textK (p : Nm) : Value := .tuple ⟨[.string ⟨⟨if okX p = true then textX p else []⟩⟩, .int .i64 (if okX p = true then 0 else 40)]⟩
theorem okX_true {p : Nm} (h : 1 ≤ (bl p.g).length ∧ (bl p.g).length ≤ 64 ∧ (bl p.b).length ≤ 64) : okX p = true := decide_eq_true h
theorem okX_false {p : Nm} (h : ¬ (1 ≤ (bl p.g).length ∧ (bl p.g).length ≤ 64 ∧ (bl p.b).length ≤ 64)) : okX p = false := decide_eq_false h
theorem load32 {A : AW} {b : Nat} {p : Nm} {e : TypeId} (h : Go.Abs.Row1 A b p.cells e) : loadP Tryz.prog A 32 (.pointer (some ⟨b, 0, none⟩)) = some (.agg ⟨p.cells⟩) := by
  rw [ld_32, cells_row h.row]; rfl
section
variable {W0 : World} {m0 : Inj Tryz.prog}
theorem wc100 {p : Nm} {A : AW} {K : Value → AW → Prop} (hf : Fine A) (hA : A.next < maxId) (hk : ∀ A', Grow A A' 1 → K (.int .i64 (if okX p = true then 0 else 40)) A') : Wc Tryz.prog theX W0 m0 100 [.agg ⟨p.cells⟩] A K := by
  refine w100 _ _ (cuts_none (S := fun _ _ _ => False) fun _ _ _ h => h) ?_
  rw [e100]
  refine newP_made (cs := p.cells) hf hA rfl fun A1 m1 => ?_
  have r1 : Go.Abs.Row1 A1 A.next [.int .u32 (p.f : Int), .string p.g, .string p.b] 32 := m1.row1
  have hk := hk A1 (.made m1 hf)
  simp only [fa_32_1, fa_32_2, ld_9, cell_row r1.row, cellOf, isTuple, cond_false, pureW_some, Nat.zero_add, ln_9, bin_streq, bin_gtr, forkW_dec]
  refine forkW_bool.2 ⟨fun h => ?_, fun h => ⟨fun h2 => ?_, fun h2 => ⟨fun h3 => ?_, fun h3 => ?_⟩⟩⟩
  · have h0 : p.g.data.toList = [] := by simpa using h
    rw [okX_false (by show ¬ (1 ≤ p.g.data.toList.length ∧ _); rw [h0]; simp)] at hk; exact hk
  · rw [okX_false (by show ¬ (1 ≤ p.g.data.toList.length ∧ p.g.data.toList.length ≤ 64 ∧ p.b.data.toList.length ≤ 64); omega)] at hk; exact hk
  · rw [okX_false (by show ¬ (1 ≤ p.g.data.toList.length ∧ p.g.data.toList.length ≤ 64 ∧ p.b.data.toList.length ≤ 64); omega)] at hk; exact hk
  · have h0 : p.g.data.toList ≠ [] := by simpa using h
    have := List.length_pos_iff.2 h0
    rw [okX_true (by show 1 ≤ p.g.data.toList.length ∧ p.g.data.toList.length ≤ 64 ∧ p.b.data.toList.length ≤ 64; omega)] at hk; exact hk
theorem wc88 {p : Nm} {A : AW} {K : Value → AW → Prop} (hf : Fine A) (hA : A.next < maxId) (hk : ∀ A', Grow A A' 1 → K (.int .i64 (if okX p = true then 0 else 40)) A') : Wc Tryz.prog theX W0 m0 88 [.agg ⟨p.cells⟩] A K := by
  refine w88 _ _ (cuts_none (S := fun _ _ _ => False) fun _ _ _ h => h) ?_
  rw [e88]
  refine newP_made (cs := p.cells) hf hA rfl fun A1 m1 => ?_
  have r1 : Go.Abs.Row1 A1 A.next [.int .u32 (p.f : Int), .string p.g, .string p.b] 32 := m1.row1
  have hk := hk A1 (.made m1 hf)
  simp only [fa_32_1, fa_32_2, ld_9, cell_row r1.row, cellOf, isTuple, cond_false, pureW_some, Nat.zero_add, ln_9, bin_lss, bin_gtr, forkW_dec]
  refine ⟨fun h => ?_, fun h => ⟨fun h2 => ?_, fun h2 => ⟨fun h3 => ?_, fun h3 => ?_⟩⟩⟩
  · rw [okX_false (by show ¬ (1 ≤ p.g.data.toList.length ∧ p.g.data.toList.length ≤ 64 ∧ p.b.data.toList.length ≤ 64); omega)] at hk; exact hk
  · rw [okX_false (by show ¬ (1 ≤ p.g.data.toList.length ∧ p.g.data.toList.length ≤ 64 ∧ p.b.data.toList.length ≤ 64); omega)] at hk; exact hk
  · rw [okX_false (by show ¬ (1 ≤ p.g.data.toList.length ∧ p.g.data.toList.length ≤ 64 ∧ p.b.data.toList.length ≤ 64); omega)] at hk; exact hk
  · rw [okX_true (by show 1 ≤ p.g.data.toList.length ∧ p.g.data.toList.length ≤ 64 ∧ p.b.data.toList.length ≤ 64; omega)] at hk; exact hk
theorem wc105 {n : Nat} {A : AW} {K : Value → AW → Prop} (hn : n < 16) (hk : K (.int .u8 ((hexd n).toNat : Int)) A) : Wc Tryz.prog theX W0 m0 105 [.int .u8 (n : Int)] A K := by
  refine w105 _ _ (cuts_none (S := fun _ _ _ => False) fun _ _ _ h => h) ?_
  rw [e105]
  have e : ((hexd n).toNat : Int) = if n < 10 then 48 + (n : Int) else 87 + (n : Int) := by
    have : ∀ n, n < 16 → ((hexd n).toNat : Int) = if n < 10 then 48 + (n : Int) else 87 + (n : Int) := by decide
    exact this n hn
  rw [e] at hk
  simp only [bin_lss, bin_add, bin_sub, pureW_some, forkW_dec, wrap_u8]
  refine ⟨fun h => ?_, fun h => ?_⟩
  · rw [if_pos (by omega)] at hk
    rw [show (48 + (n : Int)) % 256 = 48 + (n : Int) by omega]; exact hk
  · rw [if_neg (by omega)] at hk
    rw [show ((97 + (n : Int)) % 256 - 10) % 256 = 87 + (n : Int) by omega]; exact hk
/-- an empty builder's text -/
theorem wc23e {q : Nat} {A : AW} {K : Value → AW → Prop} (hr : Go.Abs.Row1 A q [.pointer none, .slice none 0 0] 70) (hk : K (.string ⟨⟨[]⟩⟩) A) : Wc Tryz.prog theX W0 m0 23 [.pointer (some ⟨q, 0, none⟩)] A K := by
  have hn : nilP (.pointer (some ⟨q, 0, none⟩)) = some (.pointer (some ⟨q, 0, none⟩)) := rfl
  refine w23 _ _ (cuts_none (S := fun _ _ _ => False) fun _ _ _ h => h) ?_
  rw [e23]
  simp only [hn, fa_70_1, Nat.zero_add, ld_33, cell_row hr.row, cellOf, isTuple, cond_false, pureW_some]
  refine .inl ⟨.pointer none, A, rfl, ?_⟩
  simp only [cell_row hr.row, cellOf, isTuple, cond_false, ln_33, pureW_some]
  exact .inl ⟨.string .empty, A, rfl, hk⟩
set_option maxRecDepth 100000 in
theorem wc101 {s : ByteArray} {A : AW} {K : Value → AW → Prop} (hl : (bl s).length < 100000) (hf : Fine A) (hA : A.next + 10 + 4 * (bl s).length < maxId) (hk : ∀ A', Grow A A' (1 + 4 * (bl s).length) → K (.string ⟨⟨hexL (bl s)⟩⟩) A') : Wc Tryz.prog theX W0 m0 101 [.string s] A K := by
  let I : Nat → Nat → List Value → AW → Prop := fun g id vals A' => id = 0 ∧ ∃ (i : Nat) (F : List Nat), vals = [.string s, .pointer (some ⟨A.next, 0, none⟩), .int .i64 ((bl s).length : Int), .int .i64 (i : Int)] ∧ i ≤ (bl s).length ∧ BB A' A.next (hexL ((bl s).take i)) F ∧ (∀ x ∈ F, A.next < x) ∧
    (i = 0 → Go.Abs.Row1 A' A.next [.pointer none, .slice none 0 0] 70) ∧ Keeps A A' [] ∧ A'.next ≤ A.next + 1 + 4 * i ∧ Fine A' ∧ g = (bl s).length - i
  refine w101 _ _ (c101 (I := I) ?_) ?_
  · rintro g id vals A' d ⟨rfl, i, F, rfl, hi, hB, hF, h0, k, nx, f, rfl⟩ hd
    rw [l101_0]
    simp only [L101, List.map_cons, List.map_nil, List.cons.injEq, and_true] at hd
    obtain ⟨d0, d3, d6, d7⟩ := hd
    have hle := k.next
    simp only [d0, d3, d6, d7, bin_lss, pureW_some, forkW_dec]
    have hbl : (hexL ((bl s).take i)).length = 2 * i := by rw [hexL_len, List.length_take, Nat.min_eq_left hi]
    refine ⟨fun hlt => ?_, fun hge => ?_⟩
    · have hlt : i < (bl s).length := by omega
      have hp := List.getElem?_eq_getElem hlt
      generalize hbb : (bl s)[i] = b at hp
      have hb := b.toNat_lt
      have hdig : (Value.string ⟨⟨[48, 49, 50, 51, 52, 53, 54, 55, 56, 57, 97, 98, 99, 100, 101, 102]⟩⟩) = .string digS := rfl
      have hix := ix9 (k := .i64) hp
      have hi1 : IntKind.i64.wrap ((i : Int) + 1) = ((i + 1 : Nat) : Int) := wrap_i64 (by omega) (by omega)
      rw [hdig]
      simp only [hix, shr4, and15, ixd (k := .u8) (show b.toNat / 16 < 16 by omega), pureW_some]
      refine wc21 hB (by omega) f (by omega) fun A2 F2 hB2 hF2 k2 n2 f2 => ?_
      have l2 := k2.next
      simp only [ixd (k := .u8) (show b.toNat % 16 < 16 by omega), pureW_some]
      refine wc21 hB2 (by rw [List.length_append, hbl]; show 2 * i + 1 < _; omega) f2 (by omega) fun A3 F3 hB3 hF3 k3 n3 f3 => ?_
      simp only [bin_add, pureW_some, hi1]
      have x2 : ∀ x ∈ F2, A.next < x := fun x hx => by
        rcases hF2 x hx with h | h
        · exact hF x h
        · have := hB.lt.1; omega
      have x3 : ∀ x ∈ F3, A.next < x := fun x hx => by
        rcases hF3 x hx with h | h
        · exact x2 x h
        · have := hB.lt.1; omega
      have up : ∀ {G : List Nat}, (∀ x ∈ G, A.next < x) → ∀ x ∈ A.next :: G, x ∈ ([] : List Nat) ∨ A.next ≤ x := fun hG x hx => .inr (by
        rcases List.mem_cons.1 hx with h | h
        · omega
        · have := hG x h; omega)
      refine cutW_self.2 ⟨(bl s).length - (i + 1), by omega, rfl, i + 1, F3, rfl, by omega, ?_, x3, fun h => by omega, (k.trans k2 (up hF)).trans k3 (up x2), by omega, f3, rfl⟩
      have e : hexL ((bl s).take (i + 1)) = hexL ((bl s).take i) ++ [hexd (b.toNat / 16)] ++ [hexd (b.toNat % 16)] := by
        rw [take_snoc hp, hexL_app]; simp [hexL]
      rw [e]
      exact hB3
    · have hil : i = (bl s).length := by omega
      rcases Nat.eq_zero_or_pos (bl s).length with hz | hpos
      · have hs : bl s = [] := List.eq_nil_of_length_eq_zero hz
        refine wc23e (h0 (by omega)) ?_
        have := hk A' ⟨k, f, by omega⟩
        rw [hs] at this
        exact this
      · rw [hil, List.take_length] at hB
        have hne : hexL (bl s) ≠ [] := fun e => by
          have := hexL_len (bl s)
          rw [e] at this; simp only [List.length_nil] at this; omega
        refine wc23 hB hne (by rw [hexL_len]; omega) f (by omega) fun A2 k2 n2 f2 => ?_
        exact hk A2 ⟨k.trans k2 (fun x hx => .inr (by have := hF x hx; omega)), f2, by omega⟩
  · rw [e101]
    refine allocP_made zero70 hf (by omega) rfl fun A1 m1 => ?_
    have n1 := m1.next
    simp only [ln_9, pureW_some]
    exact cutW_self.2 ⟨(bl s).length, rfl, 0, [], rfl, by omega, ⟨_, _, m1.row1, .inl rfl, .nil _ _, by simp⟩, by simp, fun _ => m1.row1, m1.keeps hf, by omega, m1.fine, by simp⟩
set_option maxRecDepth 100000 in
theorem wc89 {s : ByteArray} {A : AW} {K : Value → AW → Prop} (hl : (bl s).length < 100000) (hf : Fine A) (hA : A.next + 10 + 2 * (bl s).length < maxId) (hk : ∀ A', Grow A A' (2 * (bl s).length) → K (.string ⟨⟨hexL (bl s)⟩⟩) A') : Wc Tryz.prog theX W0 m0 89 [.string s] A K := by
  have hroom : room = 68719476736 := rfl
  let I : Nat → Nat → List Value → AW → Prop := fun g id vals A' => id = 0 ∧ ∃ (i : Nat) (v : Value) (F : List Nat), vals = [.string s, v, .int .i64 (i : Int)] ∧ i ≤ (bl s).length ∧ Buf 5 A' v (hexL ((bl s).take i)) F ∧ (∀ x ∈ F, A.next ≤ x) ∧ Grow A A' (2 * i) ∧ g = (bl s).length - i
  refine w89 _ _ (c89 (I := I) ?_) ?_
  · rintro g id vals A' d ⟨rfl, i, v, F, rfl, hi, hB, hF, gr, rfl⟩ hd
    rw [l89_0]
    simp only [L89, List.map_cons, List.map_nil, List.cons.injEq, and_true] at hd
    obtain ⟨d0, d3, d4⟩ := hd
    have nx := gr.next
    have le := gr.le
    have hbl : (hexL ((bl s).take i)).length = 2 * i := by rw [hexL_len, List.length_take, Nat.min_eq_left hi]
    simp only [d0, d3, d4, ln_9, bin_lss, pureW_some, forkW_dec]
    refine ⟨fun hlt => ?_, fun hge => ?_⟩
    · have hlt : i < (bl s).length := by
        have : (i : Int) < ((bl s).length : Int) := hlt
        omega
      have hp := List.getElem?_eq_getElem hlt
      generalize hbb : (bl s)[i] = b at hp
      have hb := b.toNat_lt
      have hix := ix9 (k := .i64) hp
      have hi1 : IntKind.i64.wrap ((i : Int) + 1) = ((i + 1 : Nat) : Int) := wrap_i64 (by omega) (by omega)
      simp only [hix, quo16, rem16, pureW_some]
      refine wc105 (by omega) ?_
      simp only [eqW_self, pureW_some]
      refine wc105 (by omega) ?_
      refine new2 gr.fine (by omega) fun A2 m2 => ?_
      have n2 := m2.next
      have k2 := m2.keeps gr.fine
      refine freshW_332 m2.row ?_
      refine appendBuf bt33 (hB.keeps k2 (by simp)) (src_slice bt33 (Made.rdB (l := [hexd (b.toNat / 16), hexd (b.toNat % 16)]) (c := 2) m2)) m2.fine (by omega) (by rw [hbl]; show 2 * i + 2 < _; omega) fun v' A3 F' v3 k3 hF3 n3 f3 => ?_
      simp only [bin_add, pureW_some, hi1]
      refine cutW_self.2 ⟨(bl s).length - (i + 1), by omega, rfl, i + 1, v', F', rfl, by omega, ?_, fun x hx => ?_, ⟨(gr.keeps.trans k2 (by simp)).trans k3 (fun x hx => .inr (hF x hx)), f3, by omega⟩, rfl⟩
      · have e : hexL ((bl s).take (i + 1)) = hexL ((bl s).take i) ++ [hexd (b.toNat / 16), hexd (b.toNat % 16)] := by
          rw [take_snoc hp, hexL_app]; simp [hexL]
        rw [e]; exact v3
      · rcases hF3 x hx with h | h
        · exact hF x h
        · omega
    · have hil : i = (bl s).length := by
        have : ¬ (i : Int) < ((bl s).length : Int) := hge
        omega
      rw [hil, List.take_length] at hB
      rw [hB.rd.str bt33]
      exact bothW_ok.2 (hk A' (gr.more (by omega)))
  · rw [e89]
    exact cutW_self.2 ⟨(bl s).length, rfl, 0, .slice none 0 0, [], rfl, by omega, .nil _ _, by simp, (Grow.refl hf).more (by omega), by simp⟩
end
end Go.Proofs.YtebidlpekphaoaaGreatDoor


namespace Go.Proofs.YtebidlpekphaoaaGreatDoor
open Go.Abs

/-- v is a slice of these texts -/
def RdT (A : AW) (v : Value) (l : List ByteArray) (F : List Nat) : Prop :=
  ∃ r o c cs e f b ro, v = .slice (some ⟨r, o, none⟩) l.length c ∧ A.get r = some (.row cs e f b ro) ∧ f < A.next ∧ F = [f] ∧ ∀ (i : Nat) s, l[i]? = some s → cs[o + i]? = some (Value.string s)
theorem RdT.keeps {A A' : AW} {v : Value} {l : List ByteArray} {F S : List Nat} (h : RdT A v l F) (k : Keeps A A' S) (hd : ∀ x ∈ F, x ∉ S) : RdT A' v l F := by
  obtain ⟨r, o, c, cs, e, f, b, ro, h1, h2, h3, rfl, h4⟩ := h
  exact ⟨r, o, c, cs, e, f, b, ro, h1, k.get r _ h2 h3 (hd f (by simp)), Nat.lt_of_lt_of_le h3 k.next, rfl, h4⟩
theorem RdT.len {A B : AW} {v : Value} {l : List ByteArray} {F : List Nat} (h : RdT A v l F) : lenA Tryz.prog B 56 v = some (.int .i64 (l.length : Int)) := by
  obtain ⟨r, o, c, cs, e, f, b, ro, rfl, _⟩ := h
  exact ln_56 _ _ _ _
theorem RdT.at {A : AW} {v : Value} {l : List ByteArray} {F : List Nat} (h : RdT A v l F) {i : Nat} {s : ByteArray} {k : IntKind} (hi : l[i]? = some s) : ∃ a, indexAddrA Tryz.prog 56 v (.int k (i : Int)) = some (.pointer (some a)) ∧ A.cell? a = some (.string s) := by
  obtain ⟨r, o, c, cs, e, f, b, ro, rfl, h2, _, _, h4⟩ := h
  have hlt : i < l.length := (List.getElem?_eq_some_iff.1 hi).1
  refine ⟨addA ⟨r, o, none⟩ (i * 1), ?_, ?_⟩
  · show indexAddrA Tryz.prog 56 _ (.int k (.ofNat i)) = _
    rw [ia_56, blt_true.2 hlt, cond_true]
  · have e : addA ⟨r, o, none⟩ (i * 1) = ⟨r, o + i, none⟩ := by
      unfold addA
      cases hb : Nat.beq (i * 1) 0 with
      | true => rw [cond_true]; have := Nat.eq_of_beq_eq_true hb; rw [Nat.mul_one] at this; rw [this]; rfl
      | false => rw [cond_false, Nat.mul_one]
    rw [e, cell_row h2]
    exact cellOf_get (h4 i s hi) rfl
theorem us56 : Tryz.prog.underlying 56 = some (.slice 9) := by kernel_rfl
theorem sz9 : szT Tryz.prog 9 = some 1 := by kernel_rfl
theorem capNil (A : AW) : builtinA Tryz.prog A .cap [33] 3 [.slice none 0 0] = .ok (.value (.int .i64 0)) A := by kernel_rfl
theorem noZ (A : AW) (n : Nat) : callFuncA Tryz.prog theX A 116 [.int .i64 (.ofNat n)] = (bif Nat.blt n room && true then (match A.new (.row (poisons n) 5 A.next 0 false) with
        | some (b, w') => .ok (.value (.slice (some ⟨b, 0, none⟩) n (capU + n))) w'
        | none => .fail "MakeNoZero")
      else .fail "MakeNoZero") := by kernel_rfl
theorem poisons_len : ∀ n, (poisons n).length = n
  | 0 => rfl
  | n + 1 => by simp [poisons, poisons_len n]
/-- a builder with room for c bytes -/
def GB (A : AW) (q : Nat) (l : List UInt8) (c b : Nat) : Prop :=
  ∃ p v, Go.Abs.Row1 A q [p, v] 70 ∧ (p = .pointer none ∨ p = .pointer (some ⟨q, 0, none⟩)) ∧ BufP 5 A v l c b ∧ q ≠ b
theorem GB.lt {A : AW} {q : Nat} {l : List UInt8} {c b : Nat} (h : GB A q l c b) : q < A.next ∧ b < A.next := by
  obtain ⟨p, v, h1, h2, h3, h4⟩ := h
  exact ⟨h1.lt, h3.lt⟩
theorem GB.full {A : AW} {q : Nat} {l : List UInt8} {c b : Nat} (h : GB A q l c b) (hl : l.length = c) (h0 : 0 < c) : BB A q l [b] := by
  obtain ⟨p, v, h1, h2, h3, h4⟩ := h
  exact ⟨p, v, h1, h2, h3.buf hl h0, by simpa using h4⟩
section
variable {W0 : World} {m0 : Inj Tryz.prog}
theorem wc77 {q : Nat} {l : List UInt8} {c b : Nat} {s : ByteArray} {A : AW} {K : Value → AW → Prop} (h : GB A q l c b) (hfit : l.length + (bl s).length ≤ c) (hf : Fine A) (hA : A.next ≤ maxId)
    (hk : ∀ v A', GB A' q (l ++ bl s) c b → Keeps A A' [q, b] → A'.next = A.next → Fine A' → K v A') : Wc Tryz.prog theX W0 m0 77 [.pointer (some ⟨q, 0, none⟩), .string s] A K := by
  obtain ⟨p, v, hr, hp, hv, hq⟩ := h
  have hn : nilP (.pointer (some ⟨q, 0, none⟩)) = some (.pointer (some ⟨q, 0, none⟩)) := rfl
  refine w77 _ _ _ (cuts_none (S := fun _ _ _ => False) fun _ _ _ h => h) ?_
  rw [e77]
  refine wc50 hr hp hf hA fun A1 r1 k1 n1 f1 => ?_
  have v1 := hv.keeps k1 (by simp; exact fun e => hq e.symm)
  obtain ⟨rfl, hroom, hpad⟩ := v1
  simp only [hn, fa_70_1, Nat.zero_add, ld_33, cell_row r1.row, cellOf, isTuple, cond_false, pureW_some]
  refine appendP bt33 ⟨rfl, hroom, hpad⟩ (src_text bt33) f1 (by omega) hfit fun A2 v' v2 k2 n2 f2 => ?_
  have r2 := r1.keeps k2 (by simpa using hq)
  have hv' := v2.val
  subst hv'
  refine r2.store f2 (by omega) (st_33 _ _ _) rfl (by simp [Value.cells]) rfl fun A3 r3 k3 n3 f3 => ?_
  simp only [ln_9, pureW_some]
  refine hk _ A3 ⟨_, _, r3, .inr rfl, v2.keeps k3 (by simp; exact fun e => hq e.symm), hq⟩ ?_ (by omega) f3
  have K1 : Keeps A A1 [q, b] := k1.more fun x hx => .inl (by rw [List.mem_singleton.1 hx]; simp)
  exact (K1.trans k2 (fun x hx => .inl (by rw [List.mem_singleton.1 hx]; simp))).trans k3 (fun x hx => .inl (by rw [List.mem_singleton.1 hx]; simp))
set_option maxRecDepth 100000 in
/-- an empty builder grown -/
theorem wc76 {q n : Nat} {A : AW} {K : Value → AW → Prop} (hr : Go.Abs.Row1 A q [.pointer none, .slice none 0 0] 70) (hn0 : 0 < n) (hn : n < 1000000) (hf : Fine A) (hA : A.next + 2 < maxId)
    (hk : ∀ v A', GB A' q [] n A.next → Keeps A A' [q] → A'.next = A.next + 1 → Fine A' → K v A') : Wc Tryz.prog theX W0 m0 76 [.pointer (some ⟨q, 0, none⟩), .int .i64 (n : Int)] A K := by
  have hroom : room = 68719476736 := rfl
  have hnp : nilP (.pointer (some ⟨q, 0, none⟩)) = some (.pointer (some ⟨q, 0, none⟩)) := rfl
  refine w76 _ _ _ (cuts_none (S := fun _ _ _ => False) fun _ _ _ h => h) ?_
  rw [e76]
  refine wc50 hr (.inl rfl) hf (by omega) fun A1 r1 k1 n1 f1 => ?_
  have hql := r1.lt
  simp only [bin_lss, pureW_some, forkW_dec]
  refine ⟨fun h => absurd h (by omega), fun _ => ?_⟩
  simp only [hnp, fa_70_1, Nat.zero_add, ld_33, cell_row r1.row, cellOf, isTuple, cond_false, pureW_some]
  refine .inl ⟨_, _, capNil A1, ?_⟩
  simp only [cell_row r1.row, cellOf, isTuple, cond_false, pureW_some, ln_33, bin_sub]
  rw [wrap_i64 (by omega) (by omega)]
  simp only [bin_lss, pureW_some, forkW_dec]
  refine ⟨fun _ => ?_, fun h => absurd (by omega) h⟩
  refine w102 _ _ _ (cuts_none (S := fun _ _ _ => False) fun _ _ _ h => h) ?_
  rw [e102]
  simp only [hnp, fa_70_1, Nat.zero_add, ld_33, cell_row r1.row, cellOf, isTuple, cond_false, pureW_some]
  refine .inl ⟨_, _, capNil A1, ?_⟩
  simp only [bin_mul, bin_add, pureW_some, cell_row r1.row, cellOf, isTuple, cond_false, ln_33]
  rw [wrap_i64 (n := 2 * 0) (by omega) (by omega), wrap_i64 (by omega) (by omega), show (2 * 0 + (n : Int)) = ((n : Nat) : Int) by omega]
  have hpush := A1.push (.row (poisons n) 5 A1.next 0 false)
  have hnz : callFuncA Tryz.prog theX A1 116 [.int .i64 (n : Int)] = .ok (.value (.slice (some ⟨A1.next, 0, none⟩) n (capU + n))) (A1.push (.row (poisons n) 5 A1.next 0 false)) := by
    show callFuncA Tryz.prog theX A1 116 [.int .i64 (.ofNat n)] = _
    rw [noZ, blt_true.2 (show n < room by omega)]
    unfold AW.new
    simp only [Bool.and_self, cond_true, blt_true.2 (show A1.next < maxId by omega)]
    rfl
  refine .inl ⟨_, _, hnz, ?_⟩
  have hx2 := (AW.push_ext (.row (poisons n) 5 A1.next 0 false) (show A1.next < maxId by omega)).keeps f1
  have f2 := f1.push (.row (poisons n) 5 A1.next 0 false) (show A1.next < maxId by omega)
  have hg2 : (A1.push (.row (poisons n) 5 A1.next 0 false)).get A1.next = some (.row (poisons n) 5 A1.next 0 false) := by rw [AW.push_get _ (by omega), if_pos rfl]
  have hn2 : (A1.push (.row (poisons n) 5 A1.next 0 false)).next = A1.next + 1 := rfl
  have rb : Go.Abs.Row1 (A1.push (.row (poisons n) 5 A1.next 0 false)) A1.next (poisons n) 5 := ⟨hg2, f1.alone (Nat.le_refl _), by omega⟩
  generalize A1.push (.row (poisons n) 5 A1.next 0 false) = A2 at *
  have r2 := r1.keeps hx2 (by simp)
  have hri : rowIs A2 (some ⟨A1.next, 0, none⟩) 5 = true := by
    unfold rowIs; simp only [hg2]; rfl
  have hsl : sliceA Tryz.prog A2 33 (.slice (some ⟨A1.next, 0, none⟩) n (capU + n)) none (some (.int .i64 ((0 : Nat) : Int))) none = some (.slice (some ⟨A1.next, 0, none⟩) 0 (capU + n)) := by
    have := slice_open (A := A2) bt33 (a := some ⟨A1.next, 0, none⟩) (len := n) (c := n) (n := 0) hri (Nat.zero_le _)
    exact this
  simp only [hnp, ln_33, cell_row r2.row, cellOf, isTuple, cond_false, pureW_some, eqW_self, hsl]
  have hrd : RdB A2 (.slice none 0 0) [] [] := .inl ⟨rfl, rfl, none, 0, rfl⟩
  refine copyOwn (dl := 0) bt33 rb hrd f2 (by omega) (by simp) fun A3 v3 rb3 k3 n3 f3 => ?_
  have rb3 : Go.Abs.Row1 A3 A1.next (poisons n) 5 := rb3
  have r3 := r2.keeps k3 (by simp; omega)
  refine r3.store f3 (by omega) (st_33 _ _ _) rfl (by simp [Value.cells]) rfl fun A4 r4 k4 n4 f4 => ?_
  have rb4 := rb3.keeps k4 (by simp; omega)
  have K4 : Keeps A A4 [q] := ((k1.trans hx2 (by simp)).trans k3 (fun x hx => .inr (by rw [List.mem_singleton.1 hx]; omega))).trans k4 (fun x hx => .inl hx)
  rw [n1] at rb4
  exact hk _ A4 ⟨_, _, r4, .inr rfl, ⟨by rw [n1]; rfl, by omega, poisons n, rb4, by simp [poisons_len]⟩, by omega⟩ K4 (by omega) f4
end
end Go.Proofs.YtebidlpekphaoaaGreatDoor


namespace Go.Proofs.YtebidlpekphaoaaGreatDoor
open Go.Abs

/-- texts, a blank ahead of each -/
def tailT (r : List ByteArray) : List UInt8 := r.flatMap fun y => 32 :: bl y
def joinT : List ByteArray → List UInt8
  | [] => []
  | x :: r => bl x ++ tailT r
def sumT (l : List ByteArray) : Nat := (l.map fun s => (bl s).length).sum
theorem tailT_app (a b : List ByteArray) : tailT (a ++ b) = tailT a ++ tailT b := List.flatMap_append
theorem sumT_app (a b : List ByteArray) : sumT (a ++ b) = sumT a + sumT b := by simp [sumT]
theorem tailT_len (r : List ByteArray) : (tailT r).length = r.length + sumT r := by
  induction r with
  | nil => rfl
  | cons y r ih =>
    rw [show tailT (y :: r) = (32 :: bl y) ++ tailT r from by simp [tailT], List.length_append, ih, show sumT (y :: r) = (bl y).length + sumT r from by simp [sumT]]
    simp only [List.length_cons]
    omega
theorem sumT_take {l : List ByteArray} {i : Nat} {s : ByteArray} (h : l[i]? = some s) : sumT (l.take (i + 1)) = sumT (l.take i) + (bl s).length := by
  rw [take_snoc h, sumT_app]; simp [sumT]
theorem sumT_le (l : List ByteArray) (i : Nat) : sumT (l.take i) ≤ sumT l := by
  conv => rhs; rw [← List.take_append_drop i l, sumT_app]
  exact Nat.le_add_right _ _
theorem sl56 {A : AW} {r n : Nat} (hn : n < 1000000) : sliceA Tryz.prog A 56 (.slice (some ⟨r, 0, none⟩) (n + 2) (n + 2)) (some (.int .i64 1)) none none = some (.slice (some ⟨r, 1, none⟩) (n + 1) (n + 1)) := by
  have hc : capU = 18446744073709551616 := rfl
  have hb : Nat.beq (n + 2) 1 = false := rfl
  show sliceA Tryz.prog A 56 (.slice (some ⟨r, 0, none⟩) (n + 2) (n + 2)) (some (.int .i64 (.ofNat 1))) none none = _
  unfold sliceA
  simp only [us56, sz9, ble_false.2 (show n + 2 < capU by omega), cond_false, bounds, okMax, boundA, ble_true.2 (show 1 ≤ n + 2 by omega), Option.isSome_none, Bool.not_false, Bool.or_true, cond_true, hb]
  rfl
section
variable {W0 : World} {m0 : Inj Tryz.prog}
set_option maxRecDepth 100000 in
set_option maxHeartbeats 1000000 in
theorem wc45 {x : ByteArray} {r : List ByteArray} {n rw : Nat} {A : AW} {K : Value → AW → Prop} (hrl : r.length = n + 1) (hn : n < 1000) (hsum : sumT (x :: r) < 900000) (hrow : Go.Abs.Row1 A rw ((x :: r).map Value.string) 9) (hf : Fine A) (hA : A.next + 10 < maxId)
    (hk : ∀ A', Grow A A' 2 → K (.string ⟨⟨joinT (x :: r)⟩⟩) A') : Wc Tryz.prog theX W0 m0 45 [.slice (some ⟨rw, 0, none⟩) (n + 2) (n + 2), .string ⟨⟨[32]⟩⟩] A K := by
  have hlen : (x :: r).length = n + 2 := by simp [hrl]
  have hfull : ∀ {B : AW}, Keeps A B [] → RdT B (.slice (some ⟨rw, 0, none⟩) (n + 2) (n + 2)) (x :: r) [rw] := fun k => by
    have h := hrow.keeps k (by simp)
    exact ⟨rw, 0, n + 2, _, 9, rw, 0, false, by rw [hlen], h.row, h.lt, rfl, fun i s hi => by rw [Nat.zero_add, List.getElem?_map, hi]; rfl⟩
  have htail : ∀ {B : AW}, Keeps A B [] → RdT B (.slice (some ⟨rw, 1, none⟩) (n + 1) (n + 1)) r [rw] := fun k => by
    have h := hrow.keeps k (by simp)
    exact ⟨rw, 1, n + 1, _, 9, rw, 0, false, by rw [hrl], h.row, h.lt, rfl, fun i s hi => by rw [Nat.add_comm, List.getElem?_map, List.getElem?_cons_succ, hi]; rfl⟩
  have htot : (bl x ++ tailT r).length = sumT (x :: r) + (n + 1) := by
    rw [List.length_append, tailT_len, show sumT (x :: r) = (bl x).length + sumT r from by simp [sumT], hrl]
    omega
  let I : Nat → Nat → List Value → AW → Prop := fun g id vals A' =>
    (id = 1 ∧ A' = A ∧ ∃ i : Nat, vals = [.slice (some ⟨rw, 0, none⟩) (n + 2) (n + 2), .string ⟨⟨[32]⟩⟩, .int .i64 (((n + 1 + sumT ((x :: r).take i) : Nat)) : Int), .slice (some ⟨rw, 0, none⟩) (n + 2) (n + 2), .int .i64 ((n + 2 : Nat) : Int), .int .i64 (i : Int)] ∧ i ≤ n + 2 ∧ g = 2000 + (n + 2 - i)) ∨
    (id = 3 ∧ ∃ (i b : Nat), vals = [.string ⟨⟨[32]⟩⟩, .pointer (some ⟨A.next, 0, none⟩), .slice (some ⟨rw, 1, none⟩) (n + 1) (n + 1), .int .i64 ((n + 1 : Nat) : Int), .int .i64 (i : Int)] ∧ i ≤ n + 1 ∧ GB A' A.next (bl x ++ tailT (r.take i)) (sumT (x :: r) + (n + 1)) b ∧ A.next < b ∧ Keeps A A' [] ∧ A'.next ≤ A.next + 2 ∧ Fine A' ∧ g = n + 1 - i)
  refine w45 _ _ _ (c45 (I := I) ?_) ?_
  · rintro g id vals A' d (⟨rfl, rfl, i, rfl, hi, rfl⟩ | ⟨rfl, i, b, rfl, hi, hB, hb, k, nx, f, rfl⟩) hd
    · rw [l45_1]
      simp only [L45, List.map_cons, List.map_nil, List.cons.injEq, and_true] at hd
      obtain ⟨d0, d1, d5, d39, d40, d41⟩ := hd
      have hsi := sumT_le (x :: r) i
      simp only [d0, d1, d5, d39, d40, d41, bin_lss, pureW_some, forkW_dec]
      refine ⟨fun hlt => ?_, fun hge => ?_⟩
      · have hlt : i < n + 2 := by omega
        have hp := List.getElem?_eq_getElem (show i < (x :: r).length by omega)
        generalize hss : (x :: r)[i]'(show i < (x :: r).length by omega) = s at hp
        obtain ⟨a, a1, a2⟩ := (hfull (.refl A' [])).at (k := .i64) hp
        have hs1 := sumT_take hp
        have hs2 := sumT_le (x :: r) (i + 1)
        simp only [a1, ld_9, a2, pureW_some, ln_9, bin_sub]
        rw [wrap_i64 (by omega) (by omega)]
        simp only [bin_gtr, pureW_some, forkW_dec]
        refine ⟨fun h => absurd h ?_, fun _ => ?_⟩
        · have : (bl s).length = s.data.toList.length := rfl
          omega
        · simp only [bin_add, pureW_some]
          have e1 : IntKind.i64.wrap (((n + 1 + sumT ((x :: r).take i) : Nat) : Int) + ((s.data.toList.length : Nat) : Int)) = ((n + 1 + sumT ((x :: r).take (i + 1)) : Nat) : Int) := by
            have : (bl s).length = s.data.toList.length := rfl
            rw [wrap_i64 (by omega) (by omega)]; omega
          have e2 : IntKind.i64.wrap ((i : Int) + 1) = ((i + 1 : Nat) : Int) := wrap_i64 (by omega) (by omega)
          rw [e1, e2]
          exact cutW_self.2 ⟨2000 + (n + 2 - (i + 1)), by omega, .inl ⟨rfl, rfl, i + 1, rfl, by omega, rfl⟩⟩
      · have hil : i = (x :: r).length := by omega
        rw [hil, List.take_length]
        refine allocP_made zero70 hf (by omega) rfl fun A1 m1 => ?_
        have n1 := m1.next
        have k1 := m1.keeps hf
        refine wc76 m1.row1 (by omega) (by omega) m1.fine (by omega) fun v A2 hB2 k2 n2 f2 => ?_
        have K2 : Keeps A' A2 [] := k1.trans k2 (fun y hy => .inr (by rw [List.mem_singleton.1 hy]; exact Nat.le_refl _))
        have ix0 := (hfull K2).at (k := .i64) (i := 0) (s := x) rfl
        obtain ⟨a, a1, a2⟩ := ix0
        have a1 : indexAddrA Tryz.prog 56 (.slice (some ⟨rw, 0, none⟩) (n + 2) (n + 2)) (.int .i64 0) = some (.pointer (some a)) := a1
        simp only [a1, ld_9, a2, pureW_some]
        have hx : sumT (x :: r) = (bl x).length + sumT r := by simp [sumT]
        have e : (n + 1 + sumT (x :: r)) = (sumT (x :: r) + (n + 1)) := Nat.add_comm _ _
        rw [e] at hB2
        refine wc77 hB2 (by simp only [List.length_nil]; omega) f2 (by omega) fun v A3 hB3 k3 n3 f3 => ?_
        simp only [sl56 (A := A3) (r := rw) (show n < 1000000 by omega), ln_56, pureW_some]
        refine cutW_self.2 ⟨n + 1, by omega, .inr ⟨rfl, 0, A1.next, rfl, by omega, ?_, by omega, K2.trans k3 (fun y hy => .inr ?_), by omega, f3, rfl⟩⟩
        · rw [List.take_zero, show tailT [] = [] from rfl, List.append_nil]; exact hB3
        · simp only [List.mem_cons, List.mem_nil_iff, or_false] at hy
          rcases hy with rfl | rfl <;> omega
    · rw [l45_3]
      simp only [L45, List.map_cons, List.map_nil, List.cons.injEq, and_true] at hd
      obtain ⟨d1, d8, d63, d64, d65⟩ := hd
      have hle := k.next
      have hlt8 := hB.lt
      simp only [d1, d8, d63, d64, d65, bin_lss, pureW_some, forkW_dec]
      have hx : sumT (x :: r) = (bl x).length + sumT r := by simp [sumT]
      have hst := sumT_le r i
      have hcur : (bl x ++ tailT (r.take i)).length = (bl x).length + (i + sumT (r.take i)) := by rw [List.length_append, tailT_len, List.length_take, Nat.min_eq_left (by omega)]
      refine ⟨fun hlt => ?_, fun hge => ?_⟩
      · have hlt : i < r.length := by omega
        have hp := List.getElem?_eq_getElem hlt
        generalize hss : r[i] = s at hp
        obtain ⟨a, a1, a2⟩ := (htail k).at (k := .i64) hp
        have hs1 := sumT_take hp
        have hs2 := sumT_le r (i + 1)
        simp only [a1, ld_9, a2, pureW_some]
        refine wc77 hB (by rw [hcur]; show _ + 1 ≤ _; omega) f (by omega) fun v A2 hB2 k2 n2 f2 => ?_
        refine wc77 hB2 (by rw [List.length_append, hcur]; show _ + 1 + _ ≤ _; omega) f2 (by omega) fun v A3 hB3 k3 n3 f3 => ?_
        have e2 : IntKind.i64.wrap ((i : Int) + 1) = ((i + 1 : Nat) : Int) := wrap_i64 (by omega) (by omega)
        simp only [bin_add, pureW_some, e2]
        have hin : ∀ y ∈ [A.next, b], y ∈ ([] : List Nat) ∨ A.next ≤ y := fun y hy => .inr (by
          simp only [List.mem_cons, List.mem_nil_iff, or_false] at hy
          rcases hy with rfl | rfl <;> omega)
        refine cutW_self.2 ⟨n + 1 - (i + 1), by omega, .inr ⟨rfl, i + 1, b, rfl, by omega, ?_, hb, (k.trans k2 hin).trans k3 hin, by omega, f3, rfl⟩⟩
        have e : bl x ++ tailT (r.take (i + 1)) = bl x ++ tailT (r.take i) ++ [32] ++ bl s := by
          rw [take_snoc hp, tailT_app]; simp [tailT]
        rw [e]
        exact hB3
      · have hil : i = r.length := by omega
        rw [hil, List.take_length] at hB
        have hne : bl x ++ tailT r ≠ [] := fun e => by
          rw [e] at htot; simp only [List.length_nil] at htot; omega
        refine wc23 (hB.full htot (by omega)) hne (by omega) f (by omega) fun A2 k2 n2 f2 => ?_
        exact hk A2 ⟨k.trans k2 (fun y hy => .inr (by rw [List.mem_singleton.1 hy]; omega)), f2, by omega⟩
  · rw [e45]
    have hl1 : lenA Tryz.prog A 9 (.string ⟨⟨[32]⟩⟩) = some (.int .i64 1) := ln_9 _ _
    simp only [ln_56, hl1, bin_eql, pureW_some, forkW_beq]
    refine ⟨fun h => absurd h (by omega), fun _ => ⟨fun h => absurd h (by omega), fun _ => ?_⟩⟩
    simp only [bin_gtr, pureW_some, forkW_dec]
    refine ⟨fun _ => ?_, fun h => absurd (by decide) h⟩
    simp only [bin_sub, pureW_some]
    rw [wrap_i64 (n := (((n + 2 : Nat) : Int) - 1)) (by omega) (by omega), show (((n + 2 : Nat) : Int) - 1) = ((n + 1 : Nat) : Int) by omega, bin_quo (by omega)]
    have hq : (1000 : Int) ≤ (9223372036854775807 : Int).tdiv ((n + 1 : Nat) : Int) ∧ (9223372036854775807 : Int).tdiv ((n + 1 : Nat) : Int) ≤ 9223372036854775807 := by
      rw [Int.tdiv_eq_ediv_of_nonneg (by omega)]
      constructor
      · exact (Int.le_ediv_iff_mul_le (by omega)).2 (by omega)
      · exact Int.ediv_le_self _ (by omega)
    rw [wrap_i64 (by omega) (by omega)]
    simp only [bin_geq, pureW_some, forkW_dec]
    refine ⟨fun h => absurd h (by omega), fun _ => ?_⟩
    simp only [bin_mul, bin_add, pureW_some]
    rw [wrap_i64 (n := 1 * ((n + 1 : Nat) : Int)) (by omega) (by omega), wrap_i64 (by omega) (by omega), show (0 + 1 * ((n + 1 : Nat) : Int)) = ((n + 1 + sumT ((x :: r).take 0) : Nat) : Int) by simp [sumT]]
    exact cutW_self.2 ⟨2000 + (n + 2), .inl ⟨rfl, rfl, 0, rfl, by omega, rfl⟩⟩
end
end Go.Proofs.YtebidlpekphaoaaGreatDoor


namespace Go.Proofs.YtebidlpekphaoaaGreatDoor
open Go.Abs
/-! names: are they the same? -/
theorem ft32 : quiet Tryz.prog (underlying 32) = some (.struct (Tryz.prog.fieldsOf 32)) := by kernel_rfl
noncomputable def F32 (i : Nat) : Field := (Tryz.prog.fieldsOf 32).toList.getD i default
theorem fs32 : (Tryz.prog.fieldsOf 32).toList = [F32 0, F32 1, F32 2] := by kernel_rfl
theorem pt32_0 (f : Int) (g b : ByteArray) : quiet Tryz.prog (part (F32 0).type ⟨[.int .u32 f, .string g, .string b]⟩ (F32 0).offset) = some (.int .u32 f) := by kernel_rfl
theorem pt32_1 (f : Int) (g b : ByteArray) : quiet Tryz.prog (part (F32 1).type ⟨[.int .u32 f, .string g, .string b]⟩ (F32 1).offset) = some (.string g) := by kernel_rfl
theorem pt32_2 (f : Int) (g b : ByteArray) : quiet Tryz.prog (part (F32 2).type ⟨[.int .u32 f, .string g, .string b]⟩ (F32 2).offset) = some (.string b) := by kernel_rfl
theorem ty32_0 : (F32 0).type = 30 := by kernel_rfl
theorem ty32_1 : (F32 1).type = 9 := by kernel_rfl
theorem ty32_2 : (F32 2).type = 9 := by kernel_rfl
theorem ut9 : quiet Tryz.prog (underlying 9) = some .string := by kernel_rfl
theorem ut30 : quiet Tryz.prog (underlying 30) = some (.int .u32) := by kernel_rfl
/-- are names the same? -/
def sameX (f f' : Int) (g g' b b' : ByteArray) : Bool := f == f' && (g.data.toList == g'.data.toList && b.data.toList == b'.data.toList)
theorem quiet32 (n : Nat) (f f' : Int) (g g' b b' : ByteArray) : quiet Tryz.prog (Op.equalIn (n + 1 + 1) 32 (.agg ⟨[.int .u32 f, .string g, .string b]⟩) (.agg ⟨[.int .u32 f', .string g', .string b']⟩)) = some (sameX f f' g g' b b') := by
  rw [quiet_struct (n + 1) 32 _ _ ft32 (by kernel_rfl), fs32]
  rw [quiet_fieldR (by kernel_rfl) (pt32_0 f g b) (pt32_0 f' g' b') (by rw [ty32_0]; exact quiet_eq_int n 30 _ _ _ _ ut30)]
  rw [quiet_fieldR (by kernel_rfl) (pt32_1 f g b) (pt32_1 f' g' b') (by rw [ty32_1]; exact quiet_eqs ut9)]
  rw [quiet_fieldR (by kernel_rfl) (pt32_2 f g b) (pt32_2 f' g' b') (by rw [ty32_2]; exact quiet_eqs ut9)]
  unfold sameX
  cases f == f' <;> cases g.data.toList == g'.data.toList <;> cases b.data.toList == b'.data.toList <;> rfl
def kX (p : Nm) : Value := .agg ⟨p.cells⟩
theorem eqX (p q : Nm) : eqA Tryz.prog 32 (kX p) (kX q) = some (sameX (p.f : Int) (q.f : Int) p.g q.g p.b q.b) := by
  unfold eqA
  have hc : (closedV 4 (kX p) && closedV 4 (kX q)) = true := rfl
  rw [hc, cond_true]
  exact quiet32 9998 _ _ _ _ _ _
def noNm : Nm := ⟨0, .empty, .empty⟩
/-- no name at all -/
def isNo (p : Nm) : Bool := sameX (p.f : Int) 0 p.g .empty p.b .empty
theorem zeroX : buildA Tryz.prog 32 [] = some (.agg ⟨noNm.cells⟩) := by kernel_rfl
set_option maxRecDepth 100000 in
theorem neqX (p : Nm) (xo yo : Operand) : binA Tryz.prog .neq 32 xo yo (.agg ⟨p.cells⟩) (.agg ⟨noNm.cells⟩) = some (.bool !(isNo p)) := by
  have hg : eqGuardA Tryz.prog 32 xo yo (kX p) (kX noNm) = true := by
    show (!Tryz.prog.eqGuardType Tryz.prog.depth 32) = true
    kernel_rfl
  show (bif eqGuardA Tryz.prog 32 xo yo (kX p) (kX noNm) then (match eqA Tryz.prog 32 (kX p) (kX noNm) with | some b => some (Value.bool !b) | none => none) else none) = _
  rw [hg, cond_true, eqX]
  rfl
section
variable {W0 : World} {m0 : Inj Tryz.prog}
theorem wc49 {b : Bool} {x y : Value} {A : AW} {K : Value → AW → Prop} (hk : K (if b = true then x else y) A) : Wc Tryz.prog theX W0 m0 49 [.bool b, x, y] A K := by
  refine w49 _ _ _ _ (cuts_none (S := fun _ _ _ => False) fun _ _ _ h => h) ?_
  rw [e49]
  exact forkW_bool.2 ⟨fun h => by rw [if_pos h] at hk; exact hk, fun h => by rw [if_neg (by rw [h]; decide)] at hk; exact hk⟩
theorem wc34 {b : Bool} {x y : Value} {A : AW} {K : Value → AW → Prop} (hk : K (if b = true then x else y) A) : Wc Tryz.prog theX W0 m0 34 [.bool b, x, y] A K := by
  refine w34 _ _ _ _ (cuts_none (S := fun _ _ _ => False) fun _ _ _ h => h) ?_
  rw [e34]
  exact forkW_bool.2 ⟨fun h => by rw [if_pos h] at hk; exact hk, fun h => by rw [if_neg (by rw [h]; decide)] at hk; exact hk⟩
/-- a name's format is a number of its kind -/
def Nice (p : Nm) : Prop := p.f < 4294967296
theorem wc75 {p : Nm} {A : AW} {K : Value → AW → Prop} (hp : Pow W0) (hn : Nice p) (hf : Fine A) (hA : A.next + 1000000 < maxId) (hk : ∀ A', Grow A A' 900000 → K (textK p) A') : Wc Tryz.prog theX W0 m0 75 [.agg ⟨p.cells⟩] A K := by
  have hn1 : p.f < 4294967296 := hn
  refine w75 _ _ (cuts_none (S := fun _ _ _ => False) fun _ _ _ h => h) ?_
  rw [e75]
  refine newP_made (cs := p.cells) hf (by omega) rfl fun A1 m1 => ?_
  have r1 : Go.Abs.Row1 A1 A.next [.int .u32 (p.f : Int), .string p.g, .string p.b] 32 := m1.row1
  have n1 := m1.next
  rw [load32 m1.row1]
  simp only [pureW_some]
  refine wc100 m1.fine (by omega) fun A2 g2 => ?_
  have n2 := g2.next
  have r2 := r1.keeps g2.keeps (by simp)
  simp only [bin_neq, pureW_some, forkW_bne]
  refine ⟨fun h => ?_, fun h => ?_⟩
  · have h : okX p = false := by
      cases ho : okX p with
      | false => rfl
      | true => rw [ho] at h; exact absurd rfl h
    have hk := hk A2 (((Grow.made m1 hf).trans g2).more (by omega))
    unfold textK at hk
    rw [h] at hk ⊢
    exact hk
  · have h : okX p = true := by
      cases ho : okX p with
      | true => rfl
      | false => rw [ho] at h; exact absurd h (by decide)
    have ho : 1 ≤ (bl p.g).length ∧ (bl p.g).length ≤ 64 ∧ (bl p.b).length ≤ 64 := of_decide_eq_true h
    obtain ⟨_, hn2, hn3⟩ := ho
    have h20 := dec_le20 (n := p.f) (by omega)
    have hl1 := hexL_len (bl p.g)
    have hl2 := hexL_len (bl p.b)
    have j1 : ∀ xo yo, binA Tryz.prog .add 9 xo yo (.string ⟨⟨Lib.decDigits p.f⟩⟩) (.string ⟨⟨[46]⟩⟩) = some (.string ⟨⟨Lib.decDigits p.f ++ [46]⟩⟩) := fun xo yo => add9 (by show (Lib.decDigits p.f).length + 1 < _; omega)
    have j2 : ∀ xo yo, binA Tryz.prog .add 9 xo yo (.string ⟨⟨Lib.decDigits p.f ++ [46]⟩⟩) (.string ⟨⟨hexL (bl p.g)⟩⟩) = some (.string ⟨⟨Lib.decDigits p.f ++ [46] ++ hexL (bl p.g)⟩⟩) := fun xo yo => add9 (by show (Lib.decDigits p.f ++ [46]).length + (hexL (bl p.g)).length < _; simp only [List.length_append, List.length_cons, List.length_nil]; omega)
    have j3 : ∀ xo yo, binA Tryz.prog .add 9 xo yo (.string ⟨⟨Lib.decDigits p.f ++ [46] ++ hexL (bl p.g)⟩⟩) (.string ⟨⟨[46]⟩⟩) = some (.string ⟨⟨Lib.decDigits p.f ++ [46] ++ hexL (bl p.g) ++ [46]⟩⟩) := fun xo yo => add9 (by show (Lib.decDigits p.f ++ [46] ++ hexL (bl p.g)).length + 1 < _; simp only [List.length_append, List.length_cons, List.length_nil]; omega)
    have j4 : ∀ xo yo, binA Tryz.prog .add 9 xo yo (.string ⟨⟨Lib.decDigits p.f ++ [46] ++ hexL (bl p.g) ++ [46]⟩⟩) (.string ⟨⟨hexL (bl p.b)⟩⟩) = some (.string ⟨⟨textX p⟩⟩) := fun xo yo => add9 (by show (Lib.decDigits p.f ++ [46] ++ hexL (bl p.g) ++ [46]).length + (hexL (bl p.b)).length < _; simp only [List.length_append, List.length_cons, List.length_nil]; omega)
    simp only [fa_32_0, fa_32_1, fa_32_2, ld_9, ld_30, Nat.zero_add, cell_row r2.row, cellOf, isTuple, cond_false, pureW_some, cv_30_35, bothW_ok]
    rw [wrap_u64 (by omega) (by omega)]
    refine wc79 hp (by omega) ?_
    simp only [cell_row r2.row, cellOf, isTuple, cond_false, j1, pureW_some, eqW_self]
    refine wc101 (by omega) g2.fine (by omega) fun A3 g3 => ?_
    have n3 := g3.next
    have r3 := r2.keeps g3.keeps (by simp)
    simp only [cell_row r3.row, cellOf, isTuple, cond_false, j1, j2, j3, pureW_some, eqW_self]
    refine wc101 (by omega) g3.fine (by omega) fun A4 g4 => ?_
    have n4 := g4.next
    simp only [j1, j2, j3, j4, pureW_some, eqW_self]
    have hk := hk A4 (((((Grow.made m1 hf).trans g2).trans g3).trans g4).more (by omega))
    unfold textK at hk
    rw [h] at hk
    exact hk
theorem wc60 {p : Nm} {A : AW} {K : Value → AW → Prop} (hn : Nice p) (hf : Fine A) (hA : A.next + 1000000 < maxId) (hk : ∀ A', Grow A A' 900000 → K (textK p) A') : Wc Tryz.prog theX W0 m0 60 [.agg ⟨p.cells⟩] A K := by
  have hn1 : p.f < 4294967296 := hn
  refine w60 _ _ (cuts_none (S := fun _ _ _ => False) fun _ _ _ h => h) ?_
  rw [e60]
  refine newP_made (cs := p.cells) hf (by omega) rfl fun A1 m1 => ?_
  have r1 : Go.Abs.Row1 A1 A.next [.int .u32 (p.f : Int), .string p.g, .string p.b] 32 := m1.row1
  have n1 := m1.next
  rw [load32 m1.row1]
  simp only [pureW_some]
  refine wc88 m1.fine (by omega) fun A2 g2 => ?_
  have n2 := g2.next
  have r2 := r1.keeps g2.keeps (by simp)
  simp only [bin_neq, pureW_some, forkW_bne]
  refine ⟨fun h => ?_, fun h => ?_⟩
  · have h : okX p = false := by
      cases ho : okX p with
      | false => rfl
      | true => rw [ho] at h; exact absurd rfl h
    have hk := hk A2 (((Grow.made m1 hf).trans g2).more (by omega))
    unfold textK at hk
    rw [h] at hk
    exact hk
  · have h : okX p = true := by
      cases ho : okX p with
      | true => rfl
      | false => rw [ho] at h; exact absurd h (by decide)
    have ho : 1 ≤ (bl p.g).length ∧ (bl p.g).length ≤ 64 ∧ (bl p.b).length ≤ 64 := of_decide_eq_true h
    obtain ⟨_, hn2, hn3⟩ := ho
    have h20 := dec_le20 (n := p.f) (by omega)
    have hl1 := hexL_len (bl p.g)
    have hl2 := hexL_len (bl p.b)
    have j1 : ∀ xo yo, binA Tryz.prog .add 9 xo yo (.string ⟨⟨Lib.decDigits p.f⟩⟩) (.string ⟨⟨[46]⟩⟩) = some (.string ⟨⟨Lib.decDigits p.f ++ [46]⟩⟩) := fun xo yo => add9 (by show (Lib.decDigits p.f).length + 1 < _; omega)
    have j2 : ∀ xo yo, binA Tryz.prog .add 9 xo yo (.string ⟨⟨Lib.decDigits p.f ++ [46]⟩⟩) (.string ⟨⟨hexL (bl p.g)⟩⟩) = some (.string ⟨⟨Lib.decDigits p.f ++ [46] ++ hexL (bl p.g)⟩⟩) := fun xo yo => add9 (by show (Lib.decDigits p.f ++ [46]).length + (hexL (bl p.g)).length < _; simp only [List.length_append, List.length_cons, List.length_nil]; omega)
    have j3 : ∀ xo yo, binA Tryz.prog .add 9 xo yo (.string ⟨⟨Lib.decDigits p.f ++ [46] ++ hexL (bl p.g)⟩⟩) (.string ⟨⟨[46]⟩⟩) = some (.string ⟨⟨Lib.decDigits p.f ++ [46] ++ hexL (bl p.g) ++ [46]⟩⟩) := fun xo yo => add9 (by show (Lib.decDigits p.f ++ [46] ++ hexL (bl p.g)).length + 1 < _; simp only [List.length_append, List.length_cons, List.length_nil]; omega)
    have j4 : ∀ xo yo, binA Tryz.prog .add 9 xo yo (.string ⟨⟨Lib.decDigits p.f ++ [46] ++ hexL (bl p.g) ++ [46]⟩⟩) (.string ⟨⟨hexL (bl p.b)⟩⟩) = some (.string ⟨⟨textX p⟩⟩) := fun xo yo => add9 (by show (Lib.decDigits p.f ++ [46] ++ hexL (bl p.g) ++ [46]).length + (hexL (bl p.b)).length < _; simp only [List.length_append, List.length_cons, List.length_nil]; omega)
    simp only [fa_32_0, fa_32_1, fa_32_2, ld_9, ld_30, Nat.zero_add, cell_row r2.row, cellOf, isTuple, cond_false, pureW_some, cv_30_35, bothW_ok]
    rw [wrap_u64 (by omega) (by omega)]
    refine wc31 (by omega) g2.fine (by omega) fun B1 b1 => ?_
    have nb := b1.next
    have r2 := r2.keeps b1.keeps (by simp)
    simp only [cell_row r2.row, cellOf, isTuple, cond_false, j1, pureW_some, eqW_self]
    refine wc89 (by omega) b1.fine (by omega) fun A3 g3 => ?_
    have n3 := g3.next
    have r3 := r2.keeps g3.keeps (by simp)
    simp only [cell_row r3.row, cellOf, isTuple, cond_false, j1, j2, j3, pureW_some, eqW_self]
    refine wc89 (by omega) g3.fine (by omega) fun A4 g4 => ?_
    have n4 := g4.next
    simp only [j1, j2, j3, j4, pureW_some, eqW_self]
    have hk := hk A4 ((((((Grow.made m1 hf).trans g2).trans b1).trans g3).trans g4).more (by omega))
    unfold textK at hk
    rw [h] at hk
    exact hk
theorem ext2_0 {a b : Value} : extractP (.tuple ⟨[a, b]⟩) 0 = some a := rfl
theorem ext2_1 {a b : Value} : extractP (.tuple ⟨[a, b]⟩) 1 = some b := rfl
/-- a name's text, or none -/
def tx (p : Nm) : ByteArray := ⟨⟨if okX p = true then textX p else []⟩⟩
theorem wc44 {p : Nm} {A : AW} {K : Value → AW → Prop} (hp : Pow W0) (hn : Nice p) (hf : Fine A) (hA : A.next + 1000100 < maxId) (hk : ∀ A', Grow A A' 900001 → K (.string (tx p)) A') : Wc Tryz.prog theX W0 m0 44 [.agg ⟨p.cells⟩] A K := by
  refine w44 _ _ (cuts_none (S := fun _ _ _ => False) fun _ _ _ h => h) ?_
  rw [e44]
  refine newP_made (cs := p.cells) hf (by omega) rfl fun A1 m1 => ?_
  have n1 := m1.next
  rw [load32 m1.row1]
  simp only [pureW_some]
  refine wc75 hp hn m1.fine (by omega) fun A2 g2 => ?_
  unfold textK
  simp only [ext2_0, ext2_1, pureW_some]
  exact hk A2 (((Grow.made m1 hf).trans g2).more (by omega))
theorem wc33 {p : Nm} {A : AW} {K : Value → AW → Prop} (hn : Nice p) (hf : Fine A) (hA : A.next + 1000100 < maxId) (hk : ∀ A', Grow A A' 900001 → K (.tuple ⟨[.string (tx p), .bool (okX p)]⟩) A') : Wc Tryz.prog theX W0 m0 33 [.agg ⟨p.cells⟩] A K := by
  refine w33 _ _ (cuts_none (S := fun _ _ _ => False) fun _ _ _ h => h) ?_
  rw [e33]
  refine newP_made (cs := p.cells) hf (by omega) rfl fun A1 m1 => ?_
  have n1 := m1.next
  rw [load32 m1.row1]
  simp only [pureW_some]
  refine wc60 hn m1.fine (by omega) fun A2 g2 => ?_
  unfold textK
  simp only [ext2_0, ext2_1, bin_eql, pureW_some]
  have hk := hk A2 (((Grow.made m1 hf).trans g2).more (by omega))
  have e : ((if okX p = true then (0 : Int) else 40) == 0) = okX p := by cases okX p <;> rfl
  rw [e]
  exact hk
end
end Go.Proofs.YtebidlpekphaoaaGreatDoor
