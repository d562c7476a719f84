/-
  The program's reader: what is left of it, whether it is bad, to give it up. Conditions: those of each theorem.
-/
import Derived.Test.YteooonkpannpbaaGreatDoorPutsC
import Derived.Test.YteooonkpannpbaaGreatDoorAbsI

namespace Go.Proofs.YteooonkpannpbaaGreatDoor
open Go.Abs

theorem pe60 (a : Addr) (xo yo : Operand) : binA Tryz.prog .eql 60 xo yo (.pointer (some a)) (.pointer none) = some (.bool false) := by kernel_rfl
theorem pn60 (a : Addr) (xo yo : Operand) : binA Tryz.prog .neq 60 xo yo (.pointer (some a)) (.pointer none) = some (.bool true) := by kernel_rfl
theorem pe95 (a : Addr) (xo yo : Operand) : binA Tryz.prog .eql 95 xo yo (.pointer (some a)) (.pointer none) = some (.bool false) := by kernel_rfl
theorem pn95 (a : Addr) (xo yo : Operand) : binA Tryz.prog .neq 95 xo yo (.pointer (some a)) (.pointer none) = some (.bool true) := by kernel_rfl
theorem nilP_some (a : Addr) : nilP (.pointer (some a)) = some (.pointer (some a)) := rfl
theorem ba98 (o : Option Addr) (n c : Nat) : buildA Tryz.prog 98 [(0, .slice o n c), (1, .bool true)] = some (.agg ⟨[.slice o n c, .bool true, .bool false]⟩) := by kernel_rfl
theorem ba100 (o : Option Addr) : buildA Tryz.prog 100 [(0, .pointer o)] = some (.agg ⟨[.pointer o]⟩) := by kernel_rfl
theorem ba109 (o : Option Addr) (n c : Nat) : buildA Tryz.prog 109 [(0, .slice o n c)] = some (.agg ⟨[.slice o n c, .bool false]⟩) := by kernel_rfl
theorem ba27x (f : Int) (g b : ByteArray) : buildA Tryz.prog 27 [(0, .agg ⟨[.int .u32 f, .string g, .string b]⟩)] = some (.agg ⟨[.int .u32 f, .string g, .string b, .slice none 0 0]⟩) := by kernel_rfl
theorem ba27 : buildA Tryz.prog 27 [] = some (.agg ⟨[.int .u32 0, .string .empty, .string .empty, .slice none 0 0]⟩) := by kernel_rfl
theorem ba24 : buildA Tryz.prog 24 [] = some (.agg ⟨[.int .u32 0, .string .empty, .string .empty]⟩) := by kernel_rfl
theorem ba24f (f : Int) : buildA Tryz.prog 24 [(0, .int .u32 f)] = some (.agg ⟨[.int .u32 f, .string .empty, .string .empty]⟩) := by kernel_rfl
theorem ba24x (f : Int) (g b : ByteArray) : buildA Tryz.prog 24 [(0, .int .u32 f), (1, .string g), (2, .string b)] = some (.agg ⟨[.int .u32 f, .string g, .string b]⟩) := by kernel_rfl
theorem ba50n (n : Int) : buildA Tryz.prog 50 [(0, .int .u8 n)] = some (.agg ⟨[.int .u8 n, .int .u32 0, .string .empty, .string .empty, .int .u8 0]⟩) := by kernel_rfl
theorem ba50x (n f : Int) (g b : ByteArray) : buildA Tryz.prog 50 [(0, .int .u8 n), (1, .agg ⟨[.int .u32 f, .string g, .string b]⟩)] = some (.agg ⟨[.int .u8 n, .int .u32 f, .string g, .string b, .int .u8 0]⟩) := by kernel_rfl
theorem zero27 : zeroT Tryz.prog 27 = some (.agg #[.int .u32 0, .string .empty, .string .empty, .slice none 0 0]) := by kernel_rfl
theorem zero24 : zeroT Tryz.prog 24 = some (.agg #[.int .u32 0, .string .empty, .string .empty]) := by kernel_rfl
theorem cv_102_22 (A : AW) (n : Int) (k : IntKind) : convertA Tryz.prog A 102 22 (.int k n) = .ok (.int .u32 (IntKind.u32.wrap n)) A := by kernel_rfl
theorem cv_102_3 (A : AW) (n : Int) (k : IntKind) : convertA Tryz.prog A 102 3 (.int k n) = .ok (.int .i64 (IntKind.i64.wrap n)) A := by kernel_rfl
theorem cv_5_102 (A : AW) (n : Int) (k : IntKind) : convertA Tryz.prog A 5 102 (.int k n) = .ok (.int .u64 (IntKind.u64.wrap n)) A := by kernel_rfl
theorem wrap_u32 {n : Int} (h1 : 0 ≤ n) (h2 : n < 4294967296) : IntKind.u32.wrap n = n := by
  simp [IntKind.wrap, IntKind.bits, IntKind.signed]
  omega

/-- a reader: r points to v, that has what is left, l, and whether it is bad -/
structure OR (A : AW) (r v : Nat) (l : List UInt8) (bad : Bool) (F : List Nat) : Prop where
  rr : Row1 A r [.pointer (some ⟨v, 0, none⟩)] 100
  ex : ∃ bs, Row1 A v [bs, .bool true, .bool bad] 98 ∧ RdS 5 A bs l F
  hb : bad = true → l = []
  ne : r ≠ v
  hv : v ∉ F
theorem OR.keeps {A A' : AW} {r v : Nat} {l : List UInt8} {bad : Bool} {F S : List Nat} (h : OR A r v l bad F) (k : Keeps A A' S) (hr : r ∉ S) (hv : v ∉ S) (hd : ∀ x ∈ F, x ∉ S) : OR A' r v l bad F := by
  obtain ⟨bs, h1, h2⟩ := h.ex
  exact ⟨h.rr.keeps k hr, ⟨bs, h1.keeps k hv, h2.keeps k hd⟩, h.hb, h.ne, h.hv⟩

section
variable {W0 : World} {m0 : Inj Tryz.prog}
theorem wc98 {A : AW} {v : Nat} {bs : Value} {bad : Bool} {K : Value → AW → Prop} (h : Row1 A v [bs, .bool true, .bool bad] 98) (hbs : isTuple bs = false) (hk : K (.bool bad) A) : Wc Tryz.prog theX W0 m0 98 [.pointer (some ⟨v, 0, none⟩)] A K := by
  refine w98 _ _ (cuts_none (S := fun _ _ _ => False) fun _ _ _ h => h) ?_
  rw [e98]
  simp only [pe95, nilP_some, fa_98_1, fa_98_2, ld_4, cell_row h.row, cellOf, hbs, isT_bool, cond_false, pureW_some, un_not, Nat.zero_add]
  refine forkW_bool.2 ⟨fun h => by simp at h, fun _ => forkW_bool.2 ⟨fun h => ?_, fun h => ?_⟩⟩
  · subst h; exact hk
  · subst h; exact hk
theorem wc54 {A : AW} {r v : Nat} {l : List UInt8} {bad : Bool} {F : List Nat} {K : Value → AW → Prop} (h : OR A r v l bad F) (hk : K (.bool bad) A) : Wc Tryz.prog theX W0 m0 54 [.pointer (some ⟨r, 0, none⟩)] A K := by
  obtain ⟨bs, h1, h2⟩ := h.ex
  refine w54 _ _ (cuts_none (S := fun _ _ _ => False) fun _ _ _ h => h) ?_
  rw [e54]
  simp only [pe60, nilP_some, fa_100_0, ld_95, cell_row h.rr.row, cellOf, isT_ptr, cond_false, pureW_some]
  refine forkW_bool.2 ⟨fun h => by simp at h, fun _ => ?_⟩
  exact wc98 h1 h2.rd.one.2 hk
theorem wc55 {A : AW} {v : Nat} {bs : Value} {l : List UInt8} {F : List Nat} {b1 b2 : Value} {K : Value → AW → Prop} (h : Row1 A v [bs, b1, b2] 98) (hbs : RdS 5 A bs l F) (hk : K (.int .i64 (l.length : Int)) A) : Wc Tryz.prog theX W0 m0 55 [.pointer (some ⟨v, 0, none⟩)] A K := by
  refine w55 _ _ (cuts_none (S := fun _ _ _ => False) fun _ _ _ h => h) ?_
  rw [e55]
  simp only [pe95, nilP_some, fa_98_0, ld_55, cell_row h.row, cellOf, hbs.rd.one.2, cond_false, hbs.rd.len tb, pureW_some]
  exact forkW_bool.2 ⟨fun h => by simp at h, fun _ => hk⟩
theorem wc27 {A : AW} {r v : Nat} {l : List UInt8} {bad : Bool} {F : List Nat} {K : Value → AW → Prop} (h : OR A r v l bad F) (hk : K (.int .i64 (l.length : Int)) A) : Wc Tryz.prog theX W0 m0 27 [.pointer (some ⟨r, 0, none⟩)] A K := by
  obtain ⟨bs, h1, h2⟩ := h.ex
  refine w27 _ _ (cuts_none (S := fun _ _ _ => False) fun _ _ _ h => h) ?_
  rw [e27]
  simp only [pe60, nilP_some, fa_100_0, ld_95, cell_row h.rr.row, cellOf, isT_ptr, cond_false, pureW_some]
  refine forkW_bool.2 ⟨fun h => by simp at h, fun _ => ?_⟩
  exact wc55 h1 h2 hk
/-- to give a reader up -/
theorem wc96 {A : AW} {r v : Nat} {l : List UInt8} {bad : Bool} {F : List Nat} {K : Value → AW → Prop} (h : OR A r v l bad F) (hf : Fine A) (hA : A.next < maxId) (hk : ∀ A', OR A' r v [] true [] → Keeps A A' [v] → A'.next = A.next → Fine A' → K (.tuple ⟨[]⟩) A') : Wc Tryz.prog theX W0 m0 96 [.pointer (some ⟨r, 0, none⟩)] A K := by
  obtain ⟨bs, h1, h2⟩ := h.ex
  refine w96 _ _ (cuts_none (S := fun _ _ _ => False) fun _ _ _ h => h) ?_
  rw [e96]
  simp only [pn60, pn95, nilP_some, fa_100_0, fa_98_0, fa_98_2, ld_95, cell_row h.rr.row, cellOf, isT_ptr, cond_false, pureW_some, Nat.zero_add]
  refine forkW_bool.2 ⟨fun _ => forkW_bool.2 ⟨fun _ => ?_, fun h => by simp at h⟩, fun h => by simp at h⟩
  refine h1.store hf (by omega) (st_55 _ _ _) rfl (by simp) rfl fun A2 r2 k2 n2 f2 => ?_
  have r2 : Row1 A2 v [.slice none 0 0, .bool true, .bool bad] 98 := r2
  refine r2.store f2 (by omega) (st_4 _ _ _) rfl (by simp) rfl fun A3 r3 k3 n3 f3 => ?_
  have r3 : Row1 A3 v [.slice none 0 0, .bool true, .bool true] 98 := r3
  have hrv : r ∉ [v] := by simpa using h.ne
  exact hk A3 ⟨(h.rr.keeps k2 hrv).keeps k3 hrv, ⟨_, r3, .nil _ _⟩, fun _ => rfl, h.ne, by simp⟩ (k2.trans k3 (fun x hx => .inl hx)) (by omega) f3
end
end Go.Proofs.YteooonkpannpbaaGreatDoor


namespace Go.Proofs.YteooonkpannpbaaGreatDoor
open Go.Abs

theorem pe55n (xo yo : Operand) : binA Tryz.prog .eql 55 xo yo (.slice none 0 0) (.slice none 0 0) = some (.bool true) := by kernel_rfl
theorem pe55s (a : Addr) (n c : Nat) (xo yo : Operand) : binA Tryz.prog .eql 55 xo yo (.slice (some a) n c) (.slice none 0 0) = some (.bool false) := by kernel_rfl
theorem bs55_0 (A : AW) : buildSliceA Tryz.prog A 55 0 [] = (match A.newRow [] 5 with | some (a, w') => .ok (.slice (some a) 0 0) w' | none => .fail "buildSlice new") := by kernel_rfl
theorem bslice0 {A : AW} {K : Value → AW → Prop} (hf : Fine A) (h : A.next < maxId) (hk : ∀ A', Made A A' [] 5 → K (.slice (some ⟨A.next, 0, none⟩) 0 0) A') : bothW (buildSliceA Tryz.prog A 55 0 []) K := by
  rw [bs55_0]
  unfold AW.newRow AW.new
  simp only [show (([] : List Value).all oneCell) = true from rfl, cond_true, blt_true.2 h]
  exact bothW_ok.2 (hk (A.push (.row [] 5 A.next 0 false)) ⟨AW.push_ext _ h, rfl, by rw [AW.push_get _ h, if_pos rfl], hf.alone (Nat.le_refl _), hf.push _ h⟩)
theorem buf0 {A : AW} {b : Nat} (h : Row1 A b [] 5) : Buf 5 A (.slice (some ⟨b, 0, none⟩) 0 0) [] [b] := .inr (.inr ⟨b, 0, [], rfl, by decide, by simpa [bytesV] using h, rfl, rfl, rfl⟩)
theorem bin_shl {P : Program} {t : TypeId} {xo yo : Operand} {k k2 : IntKind} {a b : Int} (hb : ¬ b < 0) : binA P .shl t xo yo (.int k a) (.int k2 b) = some (.int k (k.wrap (a * 2 ^ (min b.toNat k.bits)))) := by simp [binA, binOp, Op.shift, hb, quiet, closedO, closedV, pure]
theorem bin_or {P : Program} {t : TypeId} {xo yo : Operand} {k : IntKind} {a b : Int} : binA P .or t xo yo (.int k a) (.int k b) = some (.int k (k.wrap ((BitVec.ofInt k.bits a ||| BitVec.ofInt k.bits b).toNat : Int))) := by simp [binA, binOp, Op.intBits, quiet, closedO, closedV, pure]
theorem or_low {a c : Nat} (hc : c < 256) (h : a * 256 + c < 18446744073709551616) : IntKind.u64.wrap ((BitVec.ofInt (IntKind.bits .u64) ((a * 256 : Nat) : Int) ||| BitVec.ofInt (IntKind.bits .u64) (c : Int)).toNat : Int) = ((a * 256 + c : Nat) : Int) := by
  have e : (BitVec.ofInt 64 ((a * 256 : Nat) : Int) ||| BitVec.ofInt 64 (c : Int)).toNat = a * 256 + c := by
    have h1 : (a * 256) % 2 ^ 64 = a * 256 := Nat.mod_eq_of_lt (Nat.lt_of_le_of_lt (Nat.le_add_right _ c) h)
    have h2 : c % 2 ^ 64 = c := Nat.mod_eq_of_lt (Nat.lt_trans hc (by decide))
    rw [BitVec.toNat_or, BitVec.ofInt_natCast, BitVec.ofInt_natCast, BitVec.toNat_ofNat, BitVec.toNat_ofNat, h1, h2]
    have := Nat.shiftLeft_add_eq_or_of_lt (i := 8) (show c < 2 ^ 8 by omega) a
    rw [Nat.shiftLeft_eq] at this
    exact this.symm
  show IntKind.u64.wrap ((BitVec.ofInt 64 ((a * 256 : Nat) : Int) ||| BitVec.ofInt 64 (c : Int)).toNat : Int) = _
  rw [e, wrap_u64 (by omega) (by omega)]

/-! what a reader tells -/
abbrev St := List UInt8 × Bool
def tk (n : Nat) (s : St) : List UInt8 × St := if s.2 = true ∨ s.1.length < n then ([], ([], true)) else (s.1.take n, (s.1.drop n, false))
def beval (l : List UInt8) : Nat := l.foldl (fun a c => a * 256 + c.toNat) 0
theorem beval_snoc (l : List UInt8) (c : UInt8) : beval (l ++ [c]) = beval l * 256 + c.toNat := by simp [beval]
theorem beval_lt : ∀ (l : List UInt8), beval l < 256 ^ l.length := by
  intro l
  induction h : l.length generalizing l with
  | zero => have := List.eq_nil_of_length_eq_zero h; subst this; decide
  | succ n ih =>
    have hne : l ≠ [] := by intro h0; subst h0; simp at h
    obtain ⟨q, c, rfl⟩ : ∃ q c, l = q ++ [c] := ⟨l.dropLast, l.getLast hne, (List.dropLast_concat_getLast hne).symm⟩
    have := ih q (by simpa using h)
    have hc : c.toNat < 256 := c.toNat_lt
    rw [beval_snoc, Nat.pow_succ]
    omega
def nm (w : Nat) (s : St) : Nat × St := (beval (tk w s).1, (tk w s).2)
def tx1 (s : St) : List UInt8 × St := if (nm 1 s).2.2 = true ∨ (nm 1 s).2.1.length < (nm 1 s).1 then ([], ([], true)) else ((nm 1 s).2.1.take (nm 1 s).1, ((nm 1 s).2.1.drop (nm 1 s).1, false))
theorem tk_len (n : Nat) (s : St) : (tk n s).1.length ≤ n := by
  unfold tk; split
  · exact Nat.zero_le _
  · rw [List.length_take]; omega
theorem tk_bad {n : Nat} {s : St} : (tk n s).2.2 = true → (tk n s).2.1 = [] := by
  unfold tk; split
  · intro _; rfl
  · intro h; cases h

section
variable {W0 : World} {m0 : Inj Tryz.prog}
/-- a copy -/
theorem wc51 {A : AW} {x : Value} {l : List UInt8} {F : List Nat} {K : Value → AW → Prop} (h : RdS 5 A x l F) (hf : Fine A) (hA : A.next + 2 < maxId) (hl : l.length < 1000000)
    (hk : ∀ A' v F', Grow A A' 2 → RdS 5 A' v l F' → (∀ y ∈ F', A.next ≤ y) → K v A') : Wc Tryz.prog theX W0 m0 51 [x] A K := by
  have hroom : room = 68719476736 := rfl
  refine w51 _ _ (cuts_none (S := fun _ _ _ => False) fun _ _ _ h => h) ?_
  rw [e51]
  obtain ⟨o, c, rfl⟩ := h.rd.slice
  have hlt := h.rd.lt
  cases o with
  | none =>
    obtain ⟨hn, rfl⟩ : l = [] ∧ c = 0 := by
      rcases h with ⟨h1, _, o', c', h2, _, h3⟩ | ⟨r, o, c, C, cs, f, b, ro, rest, h1, _⟩
      · simp only [Value.slice.injEq] at h2
        exact ⟨h1, by rw [h2.2.2]; exact h3 h2.1.symm⟩
      · simp at h1
    subst hn
    rw [List.length_nil]
    simp only [pe55n, pureW_some]
    exact forkW_bool.2 ⟨fun _ => hk A _ [] ((Grow.refl hf).more (by omega)) (.nil _ _) (by simp), fun h => by simp at h⟩
  | some a =>
    simp only [pe55s, pureW_some]
    refine forkW_bool.2 ⟨fun h => by simp at h, fun _ => ?_⟩
    refine bslice0 hf (by omega) fun A1 m1 => ?_
    have n1 := m1.next
    refine appendBuf tb (buf0 m1.row1) (src_slice tb (h.rd.keeps (m1.keeps hf) (by simp))) m1.fine (by omega) (by simp; omega) fun v2 A2 F2 b2 k2 hF2 n2 f2 => ?_
    rw [List.nil_append] at b2
    refine hk A2 v2 F2 ((Grow.made m1 hf).own k2 (by simp) (m := 1) (by omega) f2) b2.rdS fun y hy => ?_
    rcases hF2 y hy with h | h
    · simp at h; omega
    · omega

theorem wc97 {A : AW} {r v : Nat} {s : St} {F : List Nat} {n : Nat} {K : Value → AW → Prop} (h : OR A r v s.1 s.2 F) (hf : Fine A) (hA : A.next + 4 < maxId) (hl : s.1.length < 1000000) (hn : n < 1000000)
    (hk : ∀ A' x F' Fo, OR A' r v (tk n s).2.1 (tk n s).2.2 F' → RdS 5 A' x (tk n s).1 Fo → Keeps A A' [v] → A'.next ≤ A.next + 2 → Fine A' → (∀ y ∈ F', y ∈ F) → (∀ y ∈ Fo, A.next ≤ y) → K x A') : Wc Tryz.prog theX W0 m0 97 [.pointer (some ⟨r, 0, none⟩), .int .i64 (n : Int)] A K := by
  obtain ⟨l, bad⟩ := s
  have h : OR A r v l bad F := h
  refine w97 _ _ _ (cuts_none (S := fun _ _ _ => False) fun _ _ _ h => h) ?_
  rw [e97]
  have spoil : (bad = true ∨ l.length < n) → Wc Tryz.prog theX W0 m0 96 [.pointer (some ⟨r, 0, none⟩)] A fun _ A' => K (.slice none 0 0) A' := fun hb => by
    refine wc96 h hf (by omega) fun A' o' k' n' f' => ?_
    have e : tk n (l, bad) = ([], ([], true)) := by unfold tk; rw [if_pos hb]
    rw [e] at hk
    exact hk A' (.slice none 0 0) [] [] o' (.nil _ _) k' (by omega) f' (by simp) (by simp)
  refine wc54 h ?_
  refine forkW_bool.2 ⟨fun hb => spoil (.inl hb), fun hb => ?_⟩
  simp only [bin_lss, pureW_some, forkW_dec]
  refine ⟨fun h => by omega, fun _ => ?_⟩
  refine wc27 h ?_
  simp only [bin_gtr, pureW_some, forkW_dec]
  refine ⟨fun h => spoil (.inr (by omega)), fun hle => ?_⟩
  have hle : n ≤ l.length := by omega
  obtain ⟨bs, h1, h2⟩ := h.ex
  obtain ⟨x1, hx1, s1⟩ := h2.to tb hle
  have e : tk n (l, bad) = (l.take n, (l.drop n, false)) := by unfold tk; rw [if_neg (by simp [hb]; omega)]
  rw [e] at hk
  simp only [nilP_some, fa_100_0, fa_98_0, ld_95, ld_55, cell_row h.rr.row, cell_row h1.row, cellOf, isT_ptr, h2.rd.one.2, cond_false, hx1, pureW_some]
  refine wc51 s1 hf (by omega) (by rw [List.length_take]; omega) fun A2 x2 F2 g2 s2 hF2 => ?_
  have n2 := g2.next
  have r2 := h.rr.keeps g2.keeps (by simp)
  have q2 := h1.keeps g2.keeps (by simp)
  have t2 := h2.keeps g2.keeps (by simp)
  obtain ⟨x3, hx3, s3⟩ := t2.from tb hle
  simp only [nilP_some, fa_100_0, fa_98_0, ld_95, ld_55, cell_row r2.row, cell_row q2.row, cellOf, isT_ptr, h2.rd.one.2, cond_false, hx3, pureW_some]
  have one3 := s3.rd.one
  obtain ⟨o3, c3, hx⟩ := s3.rd.slice
  refine q2.store g2.fine (by omega) (st_55 _ _ _) (by rw [hx]; rfl) (by simp) (by rw [hx]; rfl) fun A3 r3 k3 n3 f3 => ?_
  have r3 : Row1 A3 v [x3, .bool true, .bool bad] 98 := by rw [hx] at r3 ⊢; exact r3
  rw [hb] at r3
  have hrv : r ∉ [v] := by simpa using h.ne
  have hvF := h.hv
  refine hk A3 x2 F F2 ⟨r2.keeps k3 hrv, ⟨x3, r3, s3.keeps k3 fun y hy => by simp; intro h0; subst h0; exact hvF hy⟩, by simp, h.ne, h.hv⟩ (s2.keeps k3 fun y hy => by have := hF2 y hy; have := h1.lt; simp; omega) ?_ (by omega) f3 (fun y hy => hy) hF2
  exact g2.keeps.more (by simp) |>.trans k3 (fun y hy => .inl hy)

theorem wc53 {A : AW} {r v : Nat} {s : St} {F : List Nat} {w : Nat} {K : Value → AW → Prop} (h : OR A r v s.1 s.2 F) (hf : Fine A) (hA : A.next + 4 < maxId) (hl : s.1.length < 1000000) (hw : w = 1 ∨ w = 2 ∨ w = 4 ∨ w = 8)
    (hk : ∀ A' F', OR A' r v (nm w s).2.1 (nm w s).2.2 F' → Keeps A A' [v] → A'.next ≤ A.next + 2 → Fine A' → (∀ y ∈ F', y ∈ F) → K (.int .u64 ((nm w s).1 : Int)) A') : Wc Tryz.prog theX W0 m0 53 [.pointer (some ⟨r, 0, none⟩), .int .i64 (w : Int)] A K := by
  have hwl : w ≤ 8 := by omega
  have hlen := tk_len w s
  let I : Nat → Nat → List Value → AW → Prop := fun g' id vals A' => id = 0 ∧ ∃ (i : Nat) (x : Value) (F' Fo : List Nat), vals = [.int .u64 (beval ((tk w s).1.take i) : Nat), x, .int .i64 ((tk w s).1.length : Int), .int .i64 (i : Int)] ∧ i ≤ (tk w s).1.length ∧
    RdS 5 A' x (tk w s).1 Fo ∧ OR A' r v (tk w s).2.1 (tk w s).2.2 F' ∧ Keeps A A' [v] ∧ A'.next ≤ A.next + 2 ∧ Fine A' ∧ (∀ y ∈ F', y ∈ F) ∧ g' = (tk w s).1.length - i
  refine w53 _ _ _ (c53 (I := I) ?_) ?_
  · rintro g' id vals A' d ⟨rfl, i, x, F', Fo, rfl, hi, hx, ho, k, n, f, hF, rfl⟩ hd
    rw [l53_0]
    simp only [L53, List.map_cons, List.map_nil, List.cons.injEq, and_true] at hd
    obtain ⟨h5, h15, h16, h17⟩ := hd
    simp only [h5, h15, h16, h17, bin_lss, pureW_some, forkW_dec]
    refine ⟨fun hlt => ?_, fun hge => ?_⟩
    · have hlt : i < (tk w s).1.length := by omega
      obtain ⟨c, hc⟩ : ∃ c, (tk w s).1[i]? = some c := ⟨_, List.getElem?_eq_getElem hlt⟩
      obtain ⟨a, a1, a2⟩ := hx.rd.at tb hc
      have hcl : c.toNat < 256 := c.toNat_lt
      have hb := beval_lt ((tk w s).1.take i)
      have hb1 := beval_lt ((tk w s).1.take (i + 1))
      have e1 : (tk w s).1.take (i + 1) = (tk w s).1.take i ++ [c] := by rw [List.take_add_one, hc]; rfl
      rw [e1, beval_snoc] at hb1
      have hp : (256 : Nat) ^ ((tk w s).1.take i ++ [c]).length ≤ 256 ^ 8 := Nat.pow_le_pow_right (by decide) (by rw [← e1, List.length_take]; omega)
      have hp8 : (256 : Nat) ^ 8 = 18446744073709551616 := by decide
      simp only [a1, a2, pureW_some, cv_5_102, bothW_ok, bin_add]
      rw [bin_shl (by decide)]
      have e8 : (beval ((tk w s).1.take i) : Int) * 2 ^ (min (8 : Int).toNat (IntKind.bits .u64)) = ((beval ((tk w s).1.take i) * 256 : Nat) : Int) := by
        show (beval ((tk w s).1.take i) : Int) * 2 ^ 8 = _
        rw [Int.natCast_mul]; rfl
      rw [e8, wrap_u64 (by omega) (by omega), wrap_u64 (by omega) (by omega), wrap_i64 (by omega) (by omega)]
      simp only [pureW_some]
      rw [bin_or, or_low hcl (by omega)]
      simp only [pureW_some]
      refine cutW_self.2 ⟨(tk w s).1.length - (i + 1), by omega, rfl, i + 1, x, F', Fo, ?_, by omega, hx, ho, k, n, f, hF, rfl⟩
      rw [e1, beval_snoc]
      rfl
    · have hi : i = (tk w s).1.length := by omega
      subst hi
      rw [List.take_length]
      exact hk A' F' ho k n f hF
  · rw [e53]
    refine wc95 ?_
    have hb : ((w : Int) == 1 || ((w : Int) == 2 || ((w : Int) == 4 || (w : Int) == 8))) = true := by rcases hw with rfl | rfl | rfl | rfl <;> rfl
    rw [hb]
    simp only [un_not, pureW_some]
    refine forkW_bool.2 ⟨fun h => by simp at h, fun _ => ?_⟩
    refine wc97 h hf hA hl (by omega) fun A' x F' Fo ho hx k n f hF hFo => ?_
    simp only [hx.rd.len tb, pureW_some]
    exact cutW_self.2 ⟨(tk w s).1.length, rfl, 0, x, F', Fo, rfl, Nat.zero_le _, hx, ho, k, n, f, hF, rfl⟩

theorem wc94 {A : AW} {r v : Nat} {s : St} {F : List Nat} {K : Value → AW → Prop} (h : OR A r v s.1 s.2 F) (hf : Fine A) (hA : A.next + 8 < maxId) (hl : s.1.length < 1000000)
    (hk : ∀ A' F', OR A' r v (tx1 s).2.1 (tx1 s).2.2 F' → Keeps A A' [v] → A'.next ≤ A.next + 4 → Fine A' → (∀ y ∈ F', y ∈ F) → K (.string ⟨⟨(tx1 s).1⟩⟩) A') : Wc Tryz.prog theX W0 m0 94 [.pointer (some ⟨r, 0, none⟩), .int .i64 1, .int .i64 255] A K := by
  refine w94 _ _ _ _ (cuts_none (S := fun _ _ _ => False) fun _ _ _ h => h) ?_
  rw [e94]
  simp only [bin_eql, pureW_some, forkW_beq]
  refine ⟨fun h => by omega, fun _ => ?_⟩
  refine wc53 (w := 1) h hf (by omega) hl (by omega) fun A1 F1 o1 k1 n1 f1 hF1 => ?_
  have hv1 : (nm 1 s).1 < 256 := by
    have h1 := beval_lt (tk 1 s).1
    have h2 := tk_len 1 s
    have : (256 : Nat) ^ (tk 1 s).1.length ≤ 256 ^ 1 := Nat.pow_le_pow_right (by decide) h2
    show beval (tk 1 s).1 < 256
    omega
  have hl1 : (nm 1 s).2.1.length ≤ s.1.length := by
    show (tk 1 s).2.1.length ≤ _
    unfold tk; split
    · exact Nat.zero_le _
    · rw [List.length_drop]; omega
  have spoil : ((nm 1 s).2.2 = true ∨ (nm 1 s).2.1.length < (nm 1 s).1) → Wc Tryz.prog theX W0 m0 96 [.pointer (some ⟨r, 0, none⟩)] A1 fun _ A' => K (.string ⟨⟨[]⟩⟩) A' := fun hb => by
    refine wc96 o1 f1 (by omega) fun A' o' k' n' f' => ?_
    have e : tx1 s = ([], ([], true)) := by unfold tx1; rw [if_pos hb]
    rw [e] at hk
    exact hk A' [] o' (k1.trans k' (fun y hy => .inl hy)) (by omega) f' (by simp)
  refine wc54 o1 ?_
  refine forkW_bool.2 ⟨fun hb => spoil (.inl hb), fun hb => ?_⟩
  simp only [bin_lss, pureW_some, forkW_dec, cv_3_102, bothW_ok, bin_gtr]
  rw [wrap_u64 (n := 255) (by decide) (by decide)]
  refine ⟨fun h => by omega, fun _ => ⟨fun h => by omega, fun _ => ?_⟩⟩
  refine wc27 o1 ?_
  simp only [cv_3_102, bothW_ok]
  rw [wrap_u64 (by omega) (by omega)]
  simp only [bothW_ok, pureW_some, forkW_dec, cv_102_3, bin_gtr]
  refine ⟨fun h => spoil (.inr (by omega)), fun hle => ?_⟩
  have hle : (nm 1 s).1 ≤ (nm 1 s).2.1.length := by omega
  rw [wrap_i64 (by omega) (by omega)]
  have e : tx1 s = ((nm 1 s).2.1.take (nm 1 s).1, ((nm 1 s).2.1.drop (nm 1 s).1, false)) := by unfold tx1; rw [if_neg (by simp [hb]; omega)]
  have et : tk (nm 1 s).1 (nm 1 s).2 = ((nm 1 s).2.1.take (nm 1 s).1, ((nm 1 s).2.1.drop (nm 1 s).1, false)) := by unfold tk; rw [if_neg (by simp [hb]; omega)]
  refine wc97 (s := (nm 1 s).2) (n := (nm 1 s).1) o1 f1 (by omega) (by omega) (by omega) fun A2 x2 F2 Fo o2 x2s k2 n2 f2 hF2 hFo => ?_
  rw [et] at o2 x2s
  rw [e] at hk
  simp only [x2s.rd.str tb, bothW_ok]
  exact hk A2 F2 o2 (k1.trans k2 (fun y hy => .inl hy)) (by omega) f2 (fun y hy => hF1 y (hF2 y hy))
end
end Go.Proofs.YteooonkpannpbaaGreatDoor


namespace Go.Proofs.YteooonkpannpbaaGreatDoor
open Go.Abs

def rnF (s : St) : Nat := (nm 4 s).1
def rnG (s : St) : List UInt8 := (tx1 (nm 4 s).2).1
def rnB (s : St) : List UInt8 := (tx1 (tx1 (nm 4 s).2).2).1
def rnS (s : St) : St := (tx1 (tx1 (nm 4 s).2).2).2
theorem tk_shrink (n : Nat) (s : St) : (tk n s).2.1.length ≤ s.1.length := by
  unfold tk; split
  · exact Nat.zero_le _
  · rw [List.length_drop]; omega
theorem nm_shrink (n : Nat) (s : St) : (nm n s).2.1.length ≤ s.1.length := tk_shrink n s
theorem tx1_shrink (s : St) : (tx1 s).2.1.length ≤ s.1.length := by
  have := nm_shrink 1 s
  unfold tx1; split
  · exact Nat.zero_le _
  · rw [List.length_drop]; omega
theorem rnS_shrink (s : St) : (rnS s).1.length ≤ s.1.length := Nat.le_trans (tx1_shrink _) (Nat.le_trans (tx1_shrink _) (nm_shrink 4 s))
theorem nm_lt (w : Nat) (s : St) : (nm w s).1 < 256 ^ w := Nat.lt_of_lt_of_le (beval_lt _) (Nat.pow_le_pow_right (by decide) (tk_len w s))

section
variable {W0 : World} {m0 : Inj Tryz.prog}
/-- a text's bytes, in new memory -/
theorem conv_bytes {A : AW} {s : ByteArray} {K : Value → AW → Prop} (hf : Fine A) (h : A.next < maxId)
    (hk : ∀ A', Grow A A' 1 → RdS 5 A' (.slice (some ⟨A.next, 0, none⟩) s.data.toList.length (capU + s.data.toList.length)) s.data.toList [A.next] → K (.slice (some ⟨A.next, 0, none⟩) s.data.toList.length (capU + s.data.toList.length)) A') : bothW (convertA Tryz.prog A 9 55 (.string s)) K := by
  have e : convertA Tryz.prog A 9 55 (.string s) = .ok (.slice (some ⟨A.next, 0, none⟩) s.data.toList.length (capU + s.data.toList.length)) (A.push (.row (bytesV s.data.toList) 5 A.next 0 false)) := by
    unfold convertA
    simp only [tb.ust, tb.us, tb.ub, tb.sz]
    unfold AW.new
    simp only [blt_true.2 h, cond_true]
    rfl
  rw [e]
  have m : Made A (A.push (.row (bytesV s.data.toList) 5 A.next 0 false)) (bytesV s.data.toList) 5 := ⟨AW.push_ext _ h, rfl, by rw [AW.push_get _ h, if_pos rfl], hf.alone (Nat.le_refl _), hf.push _ h⟩
  refine bothW_ok.2 (hk _ (.made m hf) (.inr ⟨A.next, 0, s.data.toList.length, _, _, A.next, 0, false, [], rfl, .inl rfl, Nat.le_refl _, m.row, by rw [m.next]; omega, rfl, by simp⟩))
theorem wc25 {A : AW} {x : Value} {l : List UInt8} {F : List Nat} {K : Value → AW → Prop} (h : RdS 5 A x l F) (hf : Fine A) (hA : A.next + 6 < maxId) (hl : l.length < 1000000)
    (hk : ∀ A' r v F', Grow A A' 4 → OR A' r v l false F' → A.next ≤ r → A.next ≤ v → (∀ y ∈ F', A.next ≤ y) → K (.pointer (some ⟨r, 0, none⟩)) A') : Wc Tryz.prog theX W0 m0 25 [x] A K := by
  refine w25 _ _ (cuts_none (S := fun _ _ _ => False) fun _ _ _ h => h) ?_
  rw [e25]
  refine wc51 h hf (by omega) hl fun A1 v1 F1 g1 s1 hF1 => ?_
  have n1 := g1.next
  have l1 := g1.le
  obtain ⟨o, c, e1⟩ := s1.rd.slice
  have hlt := s1.rd.lt
  rw [e1, ba98]
  simp only [pureW_some]
  rw [← e1]
  refine newP_made (cs := [v1, .bool true, .bool false]) g1.fine (by omega) (by simp [s1.rd.one.1, one_bool]) fun A2 m2 => ?_
  have n2 := m2.next
  rw [ba100]
  simp only [pureW_some]
  refine newP_made (cs := [.pointer (some ⟨A1.next, 0, none⟩)]) m2.fine (by omega) rfl fun A3 m3 => ?_
  have n3 := m3.next
  have k3 := m3.keeps m2.fine
  refine hk A3 A2.next A1.next F1 ((g1.trans (.made m2 g1.fine)).trans (.made m3 m2.fine)) ⟨m3.row1, ⟨v1, m2.row1.keeps k3 (by simp), (s1.keeps (m2.keeps g1.fine) (by simp)).keeps k3 (by simp)⟩, by simp, by omega, fun hm => by have := hlt _ hm; omega⟩ (by omega) (by omega) hF1

theorem wc52 {A : AW} {r v : Nat} {s : St} {F : List Nat} {K : Value → AW → Prop} (h : OR A r v s.1 s.2 F) (hf : Fine A) (hA : A.next + 20 < maxId) (hl : s.1.length < 1000000)
    (hk : ∀ A' F', OR A' r v (rnS s).1 (rnS s).2 F' → Keeps A A' [v] → A'.next ≤ A.next + 12 → Fine A' → (∀ y ∈ F', y ∈ F) → K (xidV (rnF s : Int) ⟨⟨rnG s⟩⟩ ⟨⟨rnB s⟩⟩) A') : Wc Tryz.prog theX W0 m0 52 [.pointer (some ⟨r, 0, none⟩)] A K := by
  have hF : ∀ y ∈ F, y < A.next := by obtain ⟨bs, h1, h2⟩ := h.ex; exact h2.rd.lt
  have hv : v < A.next := by obtain ⟨bs, h1, h2⟩ := h.ex; exact h1.lt
  have hr : r < A.next := h.rr.lt
  refine w52 _ _ (cuts_none (S := fun _ _ _ => False) fun _ _ _ h => h) ?_
  rw [e52]
  refine allocP_made zero24 hf (by omega) rfl fun A1 m1 => ?_
  have n1 := m1.next
  have o1 := h.keeps (m1.keeps hf) (by simp) (by simp) (by simp)
  refine wc53 (w := 4) o1 m1.fine (by omega) hl (by omega) fun A2 F2 o2 k2 n2 f2 hF2 => ?_
  have l2 := k2.next
  have q2 : Row1 A2 A.next [.int .u32 0, .string .empty, .string .empty] 24 := m1.row1.keeps k2 (by simp; omega)
  have hs2 := nm_shrink 4 s
  have hn4 : (nm 4 s).1 < 4294967296 := nm_lt 4 s
  simp only [cv_102_22, bothW_ok]
  rw [wrap_u32 (by omega) (by omega), ba24f]
  simp only [pureW_some]
  refine allocP_made zero24 f2 (by omega) rfl fun A3 m3 => ?_
  have n3 := m3.next
  have o3 := o2.keeps (m3.keeps f2) (by simp) (by simp) (by simp)
  have q3 := q2.keeps (m3.keeps f2) (by simp)
  refine m3.row1.store m3.fine (by omega) (st_24 _ _ _) rfl (by simp [Value.cells]) rfl fun A4 p4 k4 n4 f4 => ?_
  have p4 : Row1 A4 A2.next [.int .u32 ((nm 4 s).1 : Int), .string .empty, .string .empty] 24 := p4
  have o4 := o3.keeps k4 (by simp; omega) (by simp; omega) (fun y hy => by have := hF y (hF2 y hy); simp; omega)
  have q4 := q3.keeps k4 (by simp; omega)
  refine wc94 o4 f4 (by omega) (by omega) fun A5 F5 o5 k5 n5 f5 hF5 => ?_
  have l5 := k5.next
  have hs5 := tx1_shrink (nm 4 s).2
  have p5 := p4.keeps k5 (by simp; omega)
  have q5 := q4.keeps k5 (by simp; omega)
  simp only [fa_24_1, fa_24_2, pureW_some, Nat.zero_add]
  refine p5.store f5 (by omega) (st_9 _ _ _) rfl (by simp) rfl fun A6 p6 k6 n6 f6 => ?_
  have p6 : Row1 A6 A2.next [.int .u32 ((nm 4 s).1 : Int), .string ⟨⟨(tx1 (nm 4 s).2).1⟩⟩, .string .empty] 24 := p6
  have o6 := o5.keeps k6 (by simp; omega) (by simp; omega) (fun y hy => by have := hF y (hF2 y (hF5 y hy)); simp; omega)
  have q6 := q5.keeps k6 (by simp; omega)
  refine wc94 o6 f6 (by omega) (by omega) fun A7 F7 o7 k7 n7 f7 hF7 => ?_
  have l7 := k7.next
  have p7 := p6.keeps k7 (by simp; omega)
  have q7 := q6.keeps k7 (by simp; omega)
  refine p7.store f7 (by omega) (st_9 _ _ _) rfl (by simp) rfl fun A8 p8 k8 n8 f8 => ?_
  have p8 : Row1 A8 A2.next [.int .u32 (rnF s : Int), .string ⟨⟨rnG s⟩⟩, .string ⟨⟨rnB s⟩⟩] 24 := p8
  have o8 := o7.keeps k8 (by simp; omega) (by simp; omega) (fun y hy => by have := hF y (hF2 y (hF5 y (hF7 y hy))); simp; omega)
  have q8 := q7.keeps k8 (by simp; omega)
  have t8 : A8.cells? ⟨A2.next, 0, none⟩ 3 = some [.int .u32 (rnF s : Int), .string ⟨⟨rnG s⟩⟩, .string ⟨⟨rnB s⟩⟩] := by rw [cells_row p8.row]; rfl
  simp only [ld_24, t8, pureW_some]
  refine q8.store f8 (by omega) (st_24 _ _ _) rfl (by simp [Value.cells]) rfl fun A9 q9 k9 n9 f9 => ?_
  have q9 : Row1 A9 A.next [.int .u32 (rnF s : Int), .string ⟨⟨rnG s⟩⟩, .string ⟨⟨rnB s⟩⟩] 24 := q9
  have t9 : A9.cells? ⟨A.next, 0, none⟩ 3 = some [.int .u32 (rnF s : Int), .string ⟨⟨rnG s⟩⟩, .string ⟨⟨rnB s⟩⟩] := by rw [cells_row q9.row]; rfl
  simp only [ld_24, t9, pureW_some]
  have o9 := o8.keeps k9 (by simp; omega) (by simp; omega) (fun y hy => by have := hF y (hF2 y (hF5 y (hF7 y hy))); simp; omega)
  refine hk A9 F7 o9 ?_ (by omega) f9 fun y hy => hF2 y (hF5 y (hF7 y hy))
  have a2 : Keeps A A2 [v] := (m1.keeps hf).more (by simp) |>.trans k2 (fun x hx => .inl hx)
  have a3 : Keeps A A3 [v] := a2.trans (m3.keeps f2) (by simp)
  have a4 : Keeps A A4 [v] := a3.trans k4 (by simp; omega)
  have a5 : Keeps A A5 [v] := a4.trans k5 (fun x hx => .inl hx)
  have a6 : Keeps A A6 [v] := a5.trans k6 (by simp; omega)
  have a7 : Keeps A A7 [v] := a6.trans k7 (fun x hx => .inl hx)
  have a8 : Keeps A A8 [v] := a7.trans k8 (by simp; omega)
  exact a8.trans k9 (by simp)
end
end Go.Proofs.YteooonkpannpbaaGreatDoor


namespace Go.Proofs.YteooonkpannpbaaGreatDoor
open Go.Abs

theorem sl25 : sliceElemT Tryz.prog 25 = some 50 := by kernel_rfl
theorem sz50 : szT Tryz.prog 50 = some (4 + 1) := by kernel_rfl
theorem by50 : bytesT Tryz.prog 50 = some 56 := by kernel_rfl
theorem hz50 : hasZero Tryz.prog 50 (4 + 1) = true := by kernel_rfl
theorem src25 (A : AW) (b : Nat) : sourceZ Tryz.prog A 50 25 (4 + 1) (.slice (some ⟨b, 0, none⟩) 1 1) = (match A.cells? ⟨b, 0, none⟩ 5 with | some l => some (1, l) | none => none) := by kernel_rfl
theorem bs25 (A : AW) (n f st : Int) (g b : ByteArray) : buildSliceA Tryz.prog A 25 1 [(0, .agg ⟨[.int .u8 n, .int .u32 f, .string g, .string b, .int .u8 st]⟩)] = (match A.newRow [.int .u8 n, .int .u32 f, .string g, .string b, .int .u8 st] 50 with | some (a, w') => .ok (.slice (some a) 1 1) w' | none => .fail "buildSlice new") := by kernel_rfl
theorem bslice50 {A : AW} {p : Pt} {K : Value → AW → Prop} (hf : Fine A) (h : A.next < maxId) (hk : ∀ A', Made A A' p.cells 50 → K (.slice (some ⟨A.next, 0, none⟩) 1 1) A') : bothW (buildSliceA Tryz.prog A 25 1 [(0, .agg ⟨p.cells⟩)]) K := by
  unfold Pt.cells
  rw [bs25]
  unfold AW.newRow AW.new
  have hc : ([Value.int .u8 (p.node : Int), .int .u32 (p.f : Int), .string p.g, .string p.b, .int .u8 (p.st : Int)]).all oneCell = true := rfl
  simp only [hc, cond_true, blt_true.2 h]
  exact bothW_ok.2 (hk (A.push (.row p.cells 50 A.next 0 false)) ⟨AW.push_ext _ h, rfl, by rw [AW.push_get _ h, if_pos rfl], hf.alone (Nat.le_refl _), hf.push _ h⟩)
def pcs (l : List Pt) : List Value := flat Pt.cells l
theorem pcs_snoc (l : List Pt) (p : Pt) : pcs (l ++ [p]) = pcs l ++ p.cells := by simp [pcs, flat]
theorem ptlen (p : Pt) : p.cells.length = 5 := rfl
theorem OwnG_rdPt {A : AW} {v : Value} {l : List Pt} {F : List Nat} (h : OwnG A 50 5 v l.length (pcs l) F) : RdPt A v l F := by
  rcases h with ⟨rfl, hl, _, rfl⟩ | ⟨b, f, rfl, ho, rfl⟩
  · exact .inl ⟨List.eq_nil_of_length_eq_zero hl, rfl, _, _, rfl⟩
  · refine .inr ⟨b, 0, _, _, _, f, 0, false, rfl, ho.row, ho.ltf, rfl, fun i p hi => ?_⟩
    rw [Nat.zero_add]
    exact flat_drop ptlen l i p hi

/-! what a decision's reader tells -/
def pt (s : St) : Pt := ⟨(nm 1 s).1, rnF (nm 1 s).2, ⟨⟨rnG (nm 1 s).2⟩⟩, ⟨⟨rnB (nm 1 s).2⟩⟩, 0⟩
def ps : Nat → St → List Pt → List Pt × St
  | 0, s, acc => (acc, s)
  | k + 1, s, acc => if s.2 = true then (acc, s) else ps k (rnS (nm 1 s).2) (acc ++ [pt s])
def dcP (s : St) : List Pt := (ps (nm 1 (rnS s)).1 (nm 1 (rnS s)).2 []).1
def dcS (s : St) : St := (ps (nm 1 (rnS s)).1 (nm 1 (rnS s)).2 []).2
def okD (f : Nat) (g b : List UInt8) (l : List Pt) (s : St) : Bool := !s.2 && (dchk f ⟨⟨g⟩⟩ ⟨⟨b⟩⟩ l == 0)
def dcOk (s : St) : Bool := okD (rnF s) (rnG s) (rnB s) (dcP s) (dcS s)
theorem ps_shrink : ∀ (k : Nat) (s : St) (acc : List Pt), (ps k s acc).2.1.length ≤ s.1.length
  | 0, s, acc => Nat.le_refl _
  | k + 1, s, acc => by
    rw [ps]; split
    · exact Nat.le_refl _
    · exact Nat.le_trans (ps_shrink k _ _) (Nat.le_trans (rnS_shrink _) (nm_shrink 1 s))

section
variable {W0 : World} {m0 : Inj Tryz.prog}
noncomputable def decTail (W0 : World) (m0 : Inj Tryz.prog) (Q : Value → AW → Prop) (d0 d2 d4 : Value) (A : AW) : Prop := (pureW (loadP Tryz.prog A 27 d4) fun t33 => Wc Tryz.prog theX W0 m0 54 [d0] A fun t34 At34 => pureW (loadP Tryz.prog At34 27 d4) fun t35 => eqW t35 t33 (pureW (unA Tryz.prog .not t34) fun t36 => forkW t36 (pureW (loadP Tryz.prog At34 27 d4) fun t37 => Wc Tryz.prog theX W0 m0 8 [t37] At34 fun t38 At38 => pureW (loadP Tryz.prog At38 27 d4) fun t39 => eqW t39 t33 (pureW (binA Tryz.prog .eql 29 (.tmp 40) (.const (.int .i64 0)) t38 (.int .i64 0)) fun t40 => effW (storeP Tryz.prog At38 27 d2 t33) fun At41 => eqW t40 t40 (pureW (binA Tryz.prog .eql 29 (.tmp 40) (.const (.int .i64 0)) t38 (.int .i64 0)) fun t42 => eqW t42 t40 (pureW (loadP Tryz.prog At41 27 d2) fun t43 => Q (.tuple ⟨[t43, t40]⟩) At41)))) (pureW (loadP Tryz.prog At34 27 d4) fun t44 => eqW t44 t33 (effW (storeP Tryz.prog At34 27 d2 t33) fun At45 => eqW (.bool false) (.bool false) (eqW undef undef (pureW (loadP Tryz.prog At45 27 d2) fun t46 => Q (.tuple ⟨[t46, (.bool false)]⟩) At45))))))

theorem load27 {A : AW} {q : Nat} {f : Nat} {g b : ByteArray} {sv : Value} (h : Row1 A q (decCells f g b sv) 27) (hs : isTuple sv = false) : loadP Tryz.prog A 27 (.pointer (some ⟨q, 0, none⟩)) = some (decV f g b sv) := by
  rw [ld_27, cells_row h.row]
  simp [decCells, takeCells, isT_int, isT_string, hs, decV]
theorem decTail_ok {A : AW} {r v q t : Nat} {s : St} {F Fp : List Nat} {f : Nat} {g b : List UInt8} {sv : Value} {zs : List Value} {l : List Pt} {Q : Value → AW → Prop} (h : OR A r v s.1 s.2 F) (hq : Row1 A q (decCells f ⟨⟨g⟩⟩ ⟨⟨b⟩⟩ sv) 27) (ht : Row1 A t zs 27) (hz : zs.length = 4) (hqt : q ≠ t) (hl : RdPt A sv l Fp)
    (hf : Fine A) (hA : A.next + 60 < maxId) (hn : l.length < 1000000) (hFp : t ∉ Fp) (hrt : r ≠ t) (hvt : v ≠ t) (hFt : t ∉ F)
    (hk : ∀ A', OR A' r v s.1 s.2 F → RdPt A' sv l Fp → Keeps A A' [t] → A'.next ≤ A.next + 40 → Fine A' → Q (.tuple ⟨[decV f ⟨⟨g⟩⟩ ⟨⟨b⟩⟩ sv, .bool (okD f g b l s)]⟩) A') : decTail W0 m0 Q (.pointer (some ⟨r, 0, none⟩)) (.pointer (some ⟨t, 0, none⟩)) (.pointer (some ⟨q, 0, none⟩)) A := by
  have hone := hl.one
  have hst : ∀ A', storeP Tryz.prog A' 27 (.pointer (some ⟨t, 0, none⟩)) (decV f ⟨⟨g⟩⟩ ⟨⟨b⟩⟩ sv) = (bif Nat.beq (decV f ⟨⟨g⟩⟩ ⟨⟨b⟩⟩ sv).cells.toList.length 4 then A'.setCells ⟨t, 0, none⟩ (decV f ⟨⟨g⟩⟩ ⟨⟨b⟩⟩ sv).cells.toList else none) := fun A' => st_27 A' _ _
  have hset : setL zs 0 (decV f ⟨⟨g⟩⟩ ⟨⟨b⟩⟩ sv).cells.toList = decCells f ⟨⟨g⟩⟩ ⟨⟨b⟩⟩ sv := by
    match zs, hz with
    | [z0, z1, z2, z3], _ => rfl
  have hall : (decV f ⟨⟨g⟩⟩ ⟨⟨b⟩⟩ sv).cells.toList.all oneCell = true := by simp [decV, decCells, Value.cells, one_int, one_string, hone.1]
  unfold decTail
  simp only [load27 hq hone.2, pureW_some]
  refine wc54 h ?_
  simp only [load27 hq hone.2, pureW_some, eqW_self, un_not]
  refine forkW_bool.2 ⟨fun hb => ?_, fun hb => ?_⟩
  · refine wc8 (f := f) (g := ⟨⟨g⟩⟩) (b := ⟨⟨b⟩⟩) hf (by omega) hl hn fun A2 g2 => ?_
    have n2 := g2.next
    have l2 := g2.le
    have q2 := hq.keeps g2.keeps (by simp)
    have t2 := ht.keeps g2.keeps (by simp)
    have h2 := h.keeps g2.keeps (by simp) (by simp) (by simp)
    have hl2 := hl.keeps g2.keeps (by simp)
    simp only [load27 q2 hone.2, pureW_some, eqW_self, bin_eql]
    refine t2.store g2.fine (by omega) (hst _) rfl (by rw [hz]; exact Nat.le_refl 4) hall fun A3 t3 k3 n3 f3 => ?_
    rw [hset] at t3
    simp only [load27 t3 hone.2, pureW_some]
    have h3 := h2.keeps k3 (by simpa using hrt) (by simpa using hvt) (fun y hy => by simp; intro e; subst e; exact hFt hy)
    have hl3 := hl2.keeps k3 (fun y hy => by simp; intro e; subst e; exact hFp hy)
    have := hk A3 h3 hl3 (g2.keeps.more (by simp) |>.trans k3 (fun x hx => .inl hx)) (by omega) f3
    have e : okD f g b l s = (dchk f ⟨⟨g⟩⟩ ⟨⟨b⟩⟩ l == 0) := by unfold okD; rw [hb, Bool.true_and]
    rw [e] at this
    exact this
  · refine ht.store hf (by omega) (hst _) rfl (by rw [hz]; exact Nat.le_refl 4) hall fun A3 t3 k3 n3 f3 => ?_
    rw [hset] at t3
    simp only [load27 t3 hone.2, pureW_some, eqW_self]
    have h3 := h.keeps k3 (by simpa using hrt) (by simpa using hvt) (fun y hy => by simp; intro e; subst e; exact hFt hy)
    have hl3 := hl.keeps k3 (fun y hy => by simp; intro e; subst e; exact hFp hy)
    have := hk A3 h3 hl3 k3 (by omega) f3
    have e : okD f g b l s = false := by unfold okD; rw [hb, Bool.false_and]
    rw [e] at this
    exact this

theorem wc26 {A : AW} {r v : Nat} {s : St} {F : List Nat} {K : Value → AW → Prop} (h : OR A r v s.1 s.2 F) (hf : Fine A) (hA : A.next + 6000 < maxId) (hl : s.1.length < 1000000)
    (hk : ∀ A' sv Fp F', OR A' r v (dcS s).1 (dcS s).2 F' → RdPt A' sv (dcP s) Fp → (∀ y ∈ Fp, A.next ≤ y) → Keeps A A' [v] → A'.next ≤ A.next + 5500 → Fine A' → (∀ y ∈ F', y ∈ F) → (dcP s).length ≤ 256 → K (.tuple ⟨[decV (rnF s) ⟨⟨rnG s⟩⟩ ⟨⟨rnB s⟩⟩ sv, .bool (dcOk s)]⟩) A') : Wc Tryz.prog theX W0 m0 26 [.pointer (some ⟨r, 0, none⟩)] A K := by
  have hroom : room = 68719476736 := rfl
  have hF : ∀ y ∈ F, y < A.next := by obtain ⟨bs, h1, h2⟩ := h.ex; exact h2.rd.lt
  have hv : v < A.next := by obtain ⟨bs, h1, h2⟩ := h.ex; exact h1.lt
  have hr : r < A.next := h.rr.lt
  let I : Nat → Nat → List Value → AW → Prop := fun g' id vals A' => id = 0 ∧ ∃ (k : Nat) (s' : St) (acc : List Pt) (sv : Value) (Fp F' : List Nat) (q : Nat), vals = [.pointer (some ⟨r, 0, none⟩), .pointer (some ⟨A.next, 0, none⟩), .pointer (some ⟨q, 0, none⟩), .int .u64 (k : Int)] ∧
    ps k s' acc = (dcP s, dcS s) ∧ k + acc.length ≤ 256 ∧ s'.1.length < 1000000 ∧ A.next < q ∧ Row1 A' A.next [.int .u32 0, .string .empty, .string .empty, .slice none 0 0] 27 ∧ Row1 A' q (decCells (rnF s) ⟨⟨rnG s⟩⟩ ⟨⟨rnB s⟩⟩ sv) 27 ∧ OwnG A' 50 5 sv acc.length (pcs acc) Fp ∧ (∀ y ∈ Fp, q < y) ∧
    OR A' r v s'.1 s'.2 F' ∧ (∀ y ∈ F', y ∈ F) ∧ Keeps A A' [v] ∧ A'.next + 18 * k ≤ A.next + 5000 ∧ Fine A' ∧ g' = k
  have fin : ∀ (A' : AW) (k : Nat) (s' : St) (acc : List Pt) (sv : Value) (Fp F' : List Nat) (q : Nat), (k = 0 ∨ s'.2 = true) → ps k s' acc = (dcP s, dcS s) → k + acc.length ≤ 256 → A.next < q → Row1 A' A.next [.int .u32 0, .string .empty, .string .empty, .slice none 0 0] 27 → Row1 A' q (decCells (rnF s) ⟨⟨rnG s⟩⟩ ⟨⟨rnB s⟩⟩ sv) 27 → OwnG A' 50 5 sv acc.length (pcs acc) Fp → (∀ y ∈ Fp, q < y) →
      OR A' r v s'.1 s'.2 F' → (∀ y ∈ F', y ∈ F) → Keeps A A' [v] → A'.next ≤ A.next + 5000 → Fine A' → decTail W0 m0 K (.pointer (some ⟨r, 0, none⟩)) (.pointer (some ⟨A.next, 0, none⟩)) (.pointer (some ⟨q, 0, none⟩)) A' := by
    intro A' k s' acc sv Fp F' q hend hps hka hq hR hD hO hFp ho hF' kp hnx hf'
    have e : (acc, s') = (dcP s, dcS s) := by
      rw [← hps]
      cases k with
      | zero => rfl
      | succ k => rcases hend with h | h
                  · cases h
                  · rw [ps, if_pos h]
    obtain ⟨e1, e2⟩ := Prod.mk.inj e
    subst e1
    subst e2
    refine decTail_ok (s := dcS s) ho hD hR rfl (by omega) (OwnG_rdPt hO) hf' (by omega) (by omega) (fun h => by have := hFp _ h; omega) (by omega) (by omega) (fun h => by have := hF _ (hF' _ h); omega) fun A2 o2 r2 k2 n2 f2 => ?_
    exact hk A2 sv Fp F' o2 r2 (fun y hy => by have := hFp y hy; omega) (kp.trans k2 (by simp)) (by omega) f2 hF' (by omega)
  refine w26 _ _ (c26 (I := I) ?_) ?_
  · rintro g' id vals A' d ⟨rfl, k, s', acc, sv, Fp, F', q, rfl, hps, hka, hsl, hq, hR, hD, hO, hFp, ho, hF', kp, hnx, hf', hgk⟩ hd
    rw [l26_0]
    simp only [L26, List.map_cons, List.map_nil, List.cons.injEq, and_true] at hd
    obtain ⟨h0, h2, h4, h5⟩ := hd
    have hle := kp.next
    have hql := hD.lt
    simp only [h0, h2, h4, h5, bin_gtr, pureW_some, forkW_dec]
    refine ⟨fun hpos => ?_, fun hz => fin A' k s' acc sv Fp F' q (.inl (by omega)) hps hka hq hR hD hO hFp ho hF' kp (by omega) hf'⟩
    obtain ⟨k, rfl⟩ : ∃ j, k = j + 1 := ⟨k - 1, by omega⟩
    refine wc54 ho ?_
    simp only [un_not, pureW_some]
    refine forkW_bool.2 ⟨fun hb => ?_, fun hb => fin A' (k + 1) s' acc sv Fp F' q (.inr (by simpa using hb)) hps hka hq hR hD hO hFp ho hF' kp (by omega) hf'⟩
    have hb : s'.2 = false := by simpa using hb
    rw [ps, if_neg (by simp [hb])] at hps
    refine wc53 (w := 1) ho hf' (by omega) hsl (by omega) fun A1 F1 o1 k1 n1 f1 hF1 => ?_
    have l1 := k1.next
    have hn1 : (nm 1 s').1 < 256 := nm_lt 1 s'
    have hs1 := nm_shrink 1 s'
    simp only [cv_102_5, bothW_ok]
    rw [wrap_u8, show ((nm 1 s').1 : Int) % 256 = ((nm 1 s').1 : Int) by omega, ba50n]
    simp only [pureW_some]
    refine allocP_made zero50 f1 (by omega) rfl fun A2 m2 => ?_
    have n2 := m2.next
    refine m2.row1.store m2.fine (by omega) (st_50 _ _ _) rfl (by simp [Value.cells]) rfl fun A3 p3 k3 n3 f3 => ?_
    have p3 : Row1 A3 A1.next [.int .u8 ((nm 1 s').1 : Int), .int .u32 0, .string .empty, .string .empty, .int .u8 0] 50 := p3
    have hvA : v ∉ [A1.next] := by simp; omega
    have hrA : r ∉ [A1.next] := by simp; omega
    have o3 := (o1.keeps (m2.keeps f1) (by simp) (by simp) (by simp)).keeps k3 hrA hvA (fun y hy => by have := hF y (hF' y (hF1 y hy)); simp; omega)
    refine wc52 o3 f3 (by omega) (by omega) fun A4 F4 o4 k4 n4 f4 hF4 => ?_
    have l4 := k4.next
    have p4 := p3.keeps k4 (by simp; omega)
    simp only [fa_50_1, pureW_some, Nat.zero_add]
    refine p4.store f4 (by omega) (st_24 _ _ _) rfl (by simp [Value.cells, xidV]) rfl fun A5 p5 k5 n5 f5 => ?_
    have p5 : Row1 A5 A1.next (pt s').cells 50 := p5
    have o5 := o4.keeps k5 hrA hvA (fun y hy => by have := hF y (hF' y (hF1 y (hF4 y hy))); simp; omega)
    have kA1 : Keeps A' A1 [v] := k1
    have kA5 : Keeps A' A5 [v] := (((kA1.trans (m2.keeps f1) (by simp)).trans k3 (by simp; omega)).trans k4 (fun x hx => .inl hx)).trans k5 (by simp; omega)
    have hvF : v ∉ Fp := fun h => by have := hFp _ h; omega
    have D5 := hD.keeps kA5 (by simp; omega)
    have R5 := hR.keeps kA5 (by simp; omega)
    have O5 := hO.keeps kA5 (fun y hy => by have := hFp y hy; simp; omega)
    have hOlt := hO.lt
    have t5 : A5.cells? ⟨A1.next, 0, none⟩ 5 = some (pt s').cells := by rw [cells_row p5.row]; rfl
    simp only [fa_27_1, ld_25, ld_50, t5, cell_row D5.row, decCells, cellOf, isT_int, isT_string, O5.one.2, cond_false, pureW_some, Nat.zero_add]
    refine bslice50 f5 (by omega) fun A6 m6 => ?_
    have n6 := m6.next
    have O6 := O5.keeps (m6.keeps f5) (by simp)
    have hsrc : sourceZ Tryz.prog A6 50 25 (4 + 1) (.slice (some ⟨A5.next, 0, none⟩) 1 1) = some (0 + 1, (pt s').cells) := by
      rw [src25, cells_row m6.row]
      rfl
    refine appendG sl25 sz50 by50 hz50 hsrc rfl rfl O6 m6.fine (by omega) (by omega) (by omega) fun v7 A7 F7 O7 k7 hF7 n7 f7 => ?_
    have hq6 : q ∉ Fp := fun h => by have := hFp _ h; omega
    have hr6 : A.next ∉ Fp := fun h => by have := hFp _ h; omega
    have D7 := (D5.keeps (m6.keeps f5) (by simp)).keeps k7 hq6
    have R7 := (R5.keeps (m6.keeps f5) (by simp)).keeps k7 hr6
    have o7 := (o5.keeps (m6.keeps f5) (by simp) (by simp) (by simp)).keeps k7 (fun h => by have := hFp _ h; omega) hvF (fun y hy h => by have := hF y (hF' y (hF1 y (hF4 y hy))); have := hFp _ h; omega)
    obtain ⟨vo, vn, vc, hv7⟩ : ∃ o n c, v7 = .slice o n c := by
      rcases O7 with ⟨h, _⟩ | ⟨_, _, h, _⟩ <;> exact ⟨_, _, _, h⟩
    refine D7.store f7 (by omega) (st_25 _ _ _) (by rw [hv7]; rfl) (by simp [decCells]) (by rw [hv7]; rfl) fun A8 D8 k8 n8 f8 => ?_
    have D8 : Row1 A8 q (decCells (rnF s) ⟨⟨rnG s⟩⟩ ⟨⟨rnB s⟩⟩ v7) 27 := by rw [hv7] at D8 ⊢; exact D8
    simp only [bin_sub, pureW_some]
    rw [wrap_u64 (by omega) (by omega), show ((k + 1 : Nat) : Int) - 1 = (k : Int) by omega]
    have hF7' : ∀ y ∈ F7, q < y := fun y hy => by
      rcases hF7 y hy with h | h
      · exact hFp y h
      · omega
    have kA7 : Keeps A A7 [v] := ((kp.trans kA5 (fun x hx => .inl hx)).trans (m6.keeps f5) (by simp)).trans k7 (fun x hx => .inr (by have := hFp x hx; omega))
    refine cutW_self.2 ⟨k, by omega, rfl, k, _, acc ++ [pt s'], v7, F7, F4, q, rfl, hps, by rw [List.length_append]; simp; omega, ?_, hq, R7.keeps k8 (by simp; omega), D8, ?_, hF7', o7.keeps k8 (by simp; omega) (by simp; omega) (fun y hy => by have := hF y (hF' y (hF1 y (hF4 y hy))); simp; omega), fun y hy => hF' y (hF1 y (hF4 y hy)), kA7.trans k8 (by simp; omega), by omega, f8, rfl⟩
    · have := rnS_shrink (nm 1 s').2; omega
    · rw [pcs_snoc, List.length_append]
      exact O7.keeps k8 (fun y hy => by have := hF7' y hy; simp; omega)
  · rw [e26]
    refine allocP_made zero27 hf (by omega) rfl fun A1 m1 => ?_
    have n1 := m1.next
    have o1 := h.keeps (m1.keeps hf) (by simp) (by simp) (by simp)
    refine wc52 o1 m1.fine (by omega) hl fun A2 F2 o2 k2 n2 f2 hF2 => ?_
    have l2 := k2.next
    have R2 : Row1 A2 A.next [.int .u32 0, .string .empty, .string .empty, .slice none 0 0] 27 := m1.row1.keeps k2 (by simp; omega)
    have hx : xidV (rnF s : Int) ⟨⟨rnG s⟩⟩ ⟨⟨rnB s⟩⟩ = .agg ⟨[.int .u32 (rnF s : Int), .string ⟨⟨rnG s⟩⟩, .string ⟨⟨rnB s⟩⟩]⟩ := rfl
    rw [hx, ba27x]
    simp only [pureW_some]
    refine allocP_made zero27 f2 (by omega) rfl fun A3 m3 => ?_
    have n3 := m3.next
    refine m3.row1.store m3.fine (by omega) (st_27 _ _ _) rfl (by simp [Value.cells]) rfl fun A4 D4 k4 n4 f4 => ?_
    have D4 : Row1 A4 A2.next (decCells (rnF s) ⟨⟨rnG s⟩⟩ ⟨⟨rnB s⟩⟩ (.slice none 0 0)) 27 := D4
    have o4 := (o2.keeps (m3.keeps f2) (by simp) (by simp) (by simp)).keeps k4 (by simp; omega) (by simp; omega) (fun y hy => by have := hF y (hF2 y hy); simp; omega)
    have R4 := (R2.keeps (m3.keeps f2) (by simp)).keeps k4 (by simp; omega)
    have hs4 := rnS_shrink s
    refine wc53 (w := 1) o4 f4 (by omega) (by omega) (by omega) fun A5 F5 o5 k5 n5 f5 hF5 => ?_
    have hn5 : (nm 1 (rnS s)).1 < 256 := nm_lt 1 (rnS s)
    have hs5 := nm_shrink 1 (rnS s)
    refine cutW_self.2 ⟨_, rfl, (nm 1 (rnS s)).1, (nm 1 (rnS s)).2, [], .slice none 0 0, [], F5, A2.next, rfl, rfl, by simp; omega, by omega, by omega, R4.keeps k5 (by simp; omega), D4.keeps k5 (by simp; omega), OwnG.nil _ _ _, by simp, o5, fun y hy => hF2 y (hF5 y hy), ?_, by omega, f5, rfl⟩
    have a2 : Keeps A A2 [v] := (m1.keeps hf).more (by simp) |>.trans k2 (fun x hx => .inl hx)
    exact ((a2.trans (m3.keeps f2) (by simp)).trans k4 (by simp; omega)).trans k5 (fun x hx => .inl hx)
end
end Go.Proofs.YteooonkpannpbaaGreatDoor
