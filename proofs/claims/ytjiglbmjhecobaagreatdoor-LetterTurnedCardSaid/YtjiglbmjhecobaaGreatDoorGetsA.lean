/-
  The program's reader: what is left of it, whether it is bad, to give it up. Conditions: those of each theorem.
-/
import Derived.Test.YtjiglbmjhecobaaGreatDoorPutsE
import Derived.Test.YtjiglbmjhecobaaGreatDoorTextB

namespace Go.Proofs.YtjiglbmjhecobaaGreatDoor
open Go.Abs

theorem pe163 (a : Addr) (xo yo : Operand) : binA Tryz.prog .eql 163 xo yo (.pointer (some a)) (.pointer none) = some (.bool false) := by kernel_rfl
theorem pn163 (a : Addr) (xo yo : Operand) : binA Tryz.prog .neq 163 xo yo (.pointer (some a)) (.pointer none) = some (.bool true) := by kernel_rfl
theorem pe240 (a : Addr) (xo yo : Operand) : binA Tryz.prog .eql 240 xo yo (.pointer (some a)) (.pointer none) = some (.bool false) := by kernel_rfl
theorem pn240 (a : Addr) (xo yo : Operand) : binA Tryz.prog .neq 240 xo yo (.pointer (some a)) (.pointer none) = some (.bool true) := by kernel_rfl
theorem nilP_some (a : Addr) : nilP (.pointer (some a)) = some (.pointer (some a)) := rfl
theorem ba242 (o : Option Addr) (n c : Nat) : buildA Tryz.prog 242 [(0, .slice o n c), (1, .bool true)] = some (.agg ⟨[.slice o n c, .bool true, .bool false]⟩) := by kernel_rfl
theorem ba244 (o : Option Addr) : buildA Tryz.prog 244 [(0, .pointer o)] = some (.agg ⟨[.pointer o]⟩) := by kernel_rfl
theorem ba77 (o : Option Addr) (n c : Nat) : buildA Tryz.prog 77 [(0, .slice o n c)] = some (.agg ⟨[.slice o n c, .bool false]⟩) := by kernel_rfl
theorem ba24f (f : Int) : buildA Tryz.prog 24 [(0, .int .u32 f)] = some (.agg ⟨[.int .u32 f, .string .empty, .string .empty]⟩) := by kernel_rfl
theorem ba24x (f : Int) (g b : ByteArray) : buildA Tryz.prog 24 [(0, .int .u32 f), (1, .string g), (2, .string b)] = some (.agg ⟨[.int .u32 f, .string g, .string b]⟩) := by kernel_rfl
theorem wrap_u32i {n : Int} (h1 : 0 ≤ n) (h2 : n < 4294967296) : IntKind.u32.wrap n = n := by
  simp [IntKind.wrap, IntKind.bits, IntKind.signed]
  omega

structure OR (A : AW) (r v : Nat) (l : List UInt8) (bad : Bool) (F : List Nat) : Prop where
  rr : Go.Abs.Row1 A r [.pointer (some ⟨v, 0, none⟩)] 244
  ex : ∃ bs, Go.Abs.Row1 A v [bs, .bool true, .bool bad] 242 ∧ RdS 5 A bs l F
  hb : bad = true → l = []
  ne : r ≠ v
  hv : v ∉ F
theorem OR.keeps {A A' : AW} {r v : Nat} {l : List UInt8} {bad : Bool} {F S : List Nat} (h : OR A r v l bad F) (k : Keeps A A' S) (hr : r ∉ S) (hv : v ∉ S) (hd : ∀ x ∈ F, x ∉ S) : OR A' r v l bad F := by
  obtain ⟨bs, h1, h2⟩ := h.ex
  exact ⟨h.rr.keeps k hr, ⟨bs, h1.keeps k hv, h2.keeps k hd⟩, h.hb, h.ne, h.hv⟩

section
variable {W0 : World} {m0 : Inj Tryz.prog}
theorem wc136 {A : AW} {v : Nat} {bs : Value} {bad : Bool} {K : Value → AW → Prop} (h : Go.Abs.Row1 A v [bs, .bool true, .bool bad] 242) (hbs : isTuple bs = false) (hk : K (.bool bad) A) : Wc Tryz.prog theX W0 m0 136 [.pointer (some ⟨v, 0, none⟩)] A K := by
  refine w136 _ _ (cuts_none (S := fun _ _ _ => False) fun _ _ _ h => h) ?_
  rw [e136]
  simp only [pe240, nilP_some, fa_242_1, fa_242_2, ld_4, cell_row h.row, cellOf, hbs, isT_bool, cond_false, pureW_some, un_not, Nat.zero_add]
  refine forkW_bool.2 ⟨fun h => by simp at h, fun _ => forkW_bool.2 ⟨fun h => ?_, fun h => ?_⟩⟩
  · subst h; exact hk
  · subst h; exact hk
theorem wc70 {A : AW} {r v : Nat} {l : List UInt8} {bad : Bool} {F : List Nat} {K : Value → AW → Prop} (h : OR A r v l bad F) (hk : K (.bool bad) A) : Wc Tryz.prog theX W0 m0 70 [.pointer (some ⟨r, 0, none⟩)] A K := by
  obtain ⟨bs, h1, h2⟩ := h.ex
  refine w70 _ _ (cuts_none (S := fun _ _ _ => False) fun _ _ _ h => h) ?_
  rw [e70]
  simp only [pe163, nilP_some, fa_244_0, ld_240, cell_row h.rr.row, cellOf, isT_ptr, cond_false, pureW_some]
  refine forkW_bool.2 ⟨fun h => by simp at h, fun _ => ?_⟩
  exact wc136 h1 h2.rd.one.2 hk
theorem wc137 {A : AW} {v : Nat} {bs : Value} {l : List UInt8} {F : List Nat} {b1 b2 : Value} {K : Value → AW → Prop} (h : Go.Abs.Row1 A v [bs, b1, b2] 242) (hbs : RdS 5 A bs l F) (hk : K (.int .i64 (l.length : Int)) A) : Wc Tryz.prog theX W0 m0 137 [.pointer (some ⟨v, 0, none⟩)] A K := by
  refine w137 _ _ (cuts_none (S := fun _ _ _ => False) fun _ _ _ h => h) ?_
  rw [e137]
  simp only [pe240, nilP_some, fa_242_0, ld_44, cell_row h.row, cellOf, hbs.rd.one.2, cond_false, hbs.rd.len tb, pureW_some]
  exact forkW_bool.2 ⟨fun h => by simp at h, fun _ => hk⟩
theorem wc71 {A : AW} {r v : Nat} {l : List UInt8} {bad : Bool} {F : List Nat} {K : Value → AW → Prop} (h : OR A r v l bad F) (hk : K (.int .i64 (l.length : Int)) A) : Wc Tryz.prog theX W0 m0 71 [.pointer (some ⟨r, 0, none⟩)] A K := by
  obtain ⟨bs, h1, h2⟩ := h.ex
  refine w71 _ _ (cuts_none (S := fun _ _ _ => False) fun _ _ _ h => h) ?_
  rw [e71]
  simp only [pe163, nilP_some, fa_244_0, ld_240, cell_row h.rr.row, cellOf, isT_ptr, cond_false, pureW_some]
  refine forkW_bool.2 ⟨fun h => by simp at h, fun _ => ?_⟩
  exact wc137 h1 h2 hk
theorem wc134 {A : AW} {r v : Nat} {l : List UInt8} {bad : Bool} {F : List Nat} {K : Value → AW → Prop} (h : OR A r v l bad F) (hf : Fine A) (hA : A.next < maxId) (hk : ∀ A', OR A' r v [] true [] → Keeps A A' [v] → A'.next = A.next → Fine A' → K (.tuple ⟨[]⟩) A') : Wc Tryz.prog theX W0 m0 134 [.pointer (some ⟨r, 0, none⟩)] A K := by
  obtain ⟨bs, h1, h2⟩ := h.ex
  refine w134 _ _ (cuts_none (S := fun _ _ _ => False) fun _ _ _ h => h) ?_
  rw [e134]
  simp only [pn163, pn240, nilP_some, fa_244_0, fa_242_0, fa_242_2, ld_240, cell_row h.rr.row, cellOf, isT_ptr, cond_false, pureW_some, Nat.zero_add]
  refine forkW_bool.2 ⟨fun _ => forkW_bool.2 ⟨fun _ => ?_, fun h => by simp at h⟩, fun h => by simp at h⟩
  refine h1.store hf (by omega) (st_44 _ _ _) rfl (by simp) rfl fun A2 r2 k2 n2 f2 => ?_
  have r2 : Go.Abs.Row1 A2 v [.slice none 0 0, .bool true, .bool bad] 242 := r2
  refine r2.store f2 (by omega) (st_4 _ _ _) rfl (by simp) rfl fun A3 r3 k3 n3 f3 => ?_
  have r3 : Go.Abs.Row1 A3 v [.slice none 0 0, .bool true, .bool true] 242 := r3
  have hrv : r ∉ [v] := by simpa using h.ne
  exact hk A3 ⟨(h.rr.keeps k2 hrv).keeps k3 hrv, ⟨_, r3, .nil _ _⟩, fun _ => rfl, h.ne, by simp⟩ (k2.trans k3 (fun x hx => .inl hx)) (by omega) f3
end
end Go.Proofs.YtjiglbmjhecobaaGreatDoor


namespace Go.Proofs.YtjiglbmjhecobaaGreatDoor
open Go.Abs

theorem pe44n (xo yo : Operand) : binA Tryz.prog .eql 44 xo yo (.slice none 0 0) (.slice none 0 0) = some (.bool true) := by kernel_rfl
theorem pe44s (a : Addr) (n c : Nat) (xo yo : Operand) : binA Tryz.prog .eql 44 xo yo (.slice (some a) n c) (.slice none 0 0) = some (.bool false) := by kernel_rfl
theorem bs44_0 (A : AW) : buildSliceA Tryz.prog A 44 0 [] = (match A.newRow [] 5 with | some (a, w') => .ok (.slice (some a) 0 0) w' | none => .fail "buildSlice new") := by kernel_rfl
theorem bslice0 {A : AW} {K : Value → AW → Prop} (hf : Fine A) (h : A.next < maxId) (hk : ∀ A', Made A A' [] 5 → K (.slice (some ⟨A.next, 0, none⟩) 0 0) A') : bothW (buildSliceA Tryz.prog A 44 0 []) K := by
  rw [bs44_0]
  unfold AW.newRow AW.new
  simp only [show (([] : List Value).all oneCell) = true from rfl, cond_true, blt_true.2 h]
  exact bothW_ok.2 (hk (A.push (.row [] 5 A.next 0 false)) ⟨AW.push_ext _ h, rfl, by rw [AW.push_get _ h, if_pos rfl], hf.alone (Nat.le_refl _), hf.push _ h⟩)
theorem buf0 {A : AW} {b : Nat} (h : Go.Abs.Row1 A b [] 5) : Buf 5 A (.slice (some ⟨b, 0, none⟩) 0 0) [] [b] := .inr (.inr ⟨b, 0, [], rfl, by decide, by simpa [bytesV] using h, rfl, rfl, rfl⟩)
theorem bin_shl {P : Program} {t : TypeId} {xo yo : Operand} {k k2 : IntKind} {a b : Int} (hb : ¬ b < 0) : binA P .shl t xo yo (.int k a) (.int k2 b) = some (.int k (k.wrap (a * 2 ^ (min b.toNat k.bits)))) := by simp [binA, binOp, Op.shift, hb, quiet, closedO, closedV, pure]
theorem bin_or {P : Program} {t : TypeId} {xo yo : Operand} {k : IntKind} {a b : Int} : binA P .or t xo yo (.int k a) (.int k b) = some (.int k (k.wrap ((BitVec.ofInt k.bits a ||| BitVec.ofInt k.bits b).toNat : Int))) := by simp [binA, binOp, Op.intBits, quiet, closedO, closedV, pure]
theorem or_low {a c : Nat} (hc : c < 256) (h : a * 256 + c < 18446744073709551616) : IntKind.u64.wrap ((BitVec.ofInt (IntKind.bits .u64) ((a * 256 : Nat) : Int) ||| BitVec.ofInt (IntKind.bits .u64) (c : Int)).toNat : Int) = ((a * 256 + c : Nat) : Int) := by
  have e : (BitVec.ofInt 64 ((a * 256 : Nat) : Int) ||| BitVec.ofInt 64 (c : Int)).toNat = a * 256 + c := by
    have h1 : (a * 256) % 2 ^ 64 = a * 256 := Nat.mod_eq_of_lt (Nat.lt_of_le_of_lt (Nat.le_add_right _ c) h)
    have h2 : c % 2 ^ 64 = c := Nat.mod_eq_of_lt (Nat.lt_trans hc (by decide))
    rw [BitVec.toNat_or, BitVec.ofInt_natCast, BitVec.ofInt_natCast, BitVec.toNat_ofNat, BitVec.toNat_ofNat, h1, h2]
    have := Nat.shiftLeft_add_eq_or_of_lt (i := 8) (show c < 2 ^ 8 by omega) a
    rw [Nat.shiftLeft_eq] at this
    exact this.symm
  show IntKind.u64.wrap ((BitVec.ofInt 64 ((a * 256 : Nat) : Int) ||| BitVec.ofInt 64 (c : Int)).toNat : Int) = _
  rw [e, wrap_u64 (by omega) (by omega)]

abbrev St := List UInt8 × Bool
def tk (n : Nat) (s : St) : List UInt8 × St := if s.2 = true ∨ s.1.length < n then ([], ([], true)) else (s.1.take n, (s.1.drop n, false))
def beval (l : List UInt8) : Nat := l.foldl (fun a c => a * 256 + c.toNat) 0
theorem beval_snoc (l : List UInt8) (c : UInt8) : beval (l ++ [c]) = beval l * 256 + c.toNat := by simp [beval]
theorem beval_lt : ∀ (l : List UInt8), beval l < 256 ^ l.length := by
  intro l
  induction h : l.length generalizing l with
  | zero => have := List.eq_nil_of_length_eq_zero h; subst this; decide
  | succ n ih =>
    have hne : l ≠ [] := by intro h0; subst h0; simp at h
    obtain ⟨q, c, rfl⟩ : ∃ q c, l = q ++ [c] := ⟨l.dropLast, l.getLast hne, (List.dropLast_concat_getLast hne).symm⟩
    have := ih q (by simpa using h)
    have hc : c.toNat < 256 := c.toNat_lt
    rw [beval_snoc, Nat.pow_succ]
    omega
def nm (w : Nat) (s : St) : Nat × St := (beval (tk w s).1, (tk w s).2)
def tx1 (s : St) : List UInt8 × St := if (nm 1 s).2.2 = true ∨ (nm 1 s).2.1.length < (nm 1 s).1 then ([], ([], true)) else ((nm 1 s).2.1.take (nm 1 s).1, ((nm 1 s).2.1.drop (nm 1 s).1, false))
theorem tk_len (n : Nat) (s : St) : (tk n s).1.length ≤ n := by
  unfold tk; split
  · exact Nat.zero_le _
  · rw [List.length_take]; omega
theorem tk_bad {n : Nat} {s : St} : (tk n s).2.2 = true → (tk n s).2.1 = [] := by
  unfold tk; split
  · intro _; rfl
  · intro h; cases h

section
variable {W0 : World} {m0 : Inj Tryz.prog}
theorem wc133 {A : AW} {x : Value} {l : List UInt8} {F : List Nat} {K : Value → AW → Prop} (h : RdS 5 A x l F) (hf : Fine A) (hA : A.next + 2 < maxId) (hl : l.length < 1000000)
    (hk : ∀ A' v F', Grow A A' 2 → RdS 5 A' v l F' → (∀ y ∈ F', A.next ≤ y) → K v A') : Wc Tryz.prog theX W0 m0 133 [x] A K := by
  have hroom : room = 68719476736 := rfl
  refine w133 _ _ (cuts_none (S := fun _ _ _ => False) fun _ _ _ h => h) ?_
  rw [e133]
  obtain ⟨o, c, rfl⟩ := h.rd.slice
  have hlt := h.rd.lt
  cases o with
  | none =>
    obtain ⟨hn, rfl⟩ : l = [] ∧ c = 0 := by
      rcases h with ⟨h1, _, o', c', h2, _, h3⟩ | ⟨r, o, c, C, cs, f, b, ro, rest, h1, _⟩
      · simp only [Value.slice.injEq] at h2
        exact ⟨h1, by rw [h2.2.2]; exact h3 h2.1.symm⟩
      · simp at h1
    subst hn
    rw [List.length_nil]
    simp only [pe44n, pureW_some]
    exact forkW_bool.2 ⟨fun _ => hk A _ [] ((Grow.refl hf).more (by omega)) (.nil _ _) (by simp), fun h => by simp at h⟩
  | some a =>
    simp only [pe44s, pureW_some]
    refine forkW_bool.2 ⟨fun h => by simp at h, fun _ => ?_⟩
    refine bslice0 hf (by omega) fun A1 m1 => ?_
    have n1 := m1.next
    refine appendBuf tb (buf0 m1.row1) (src_slice tb (h.rd.keeps (m1.keeps hf) (by simp))) m1.fine (by omega) (by simp; omega) fun v2 A2 F2 b2 k2 hF2 n2 f2 => ?_
    rw [List.nil_append] at b2
    refine hk A2 v2 F2 ((Grow.made m1 hf).own k2 (by simp) (m := 1) (by omega) f2) b2.rdS fun y hy => ?_
    rcases hF2 y hy with h | h
    · simp at h; omega
    · omega

theorem wc135 {A : AW} {r v : Nat} {s : St} {F : List Nat} {n : Nat} {K : Value → AW → Prop} (h : OR A r v s.1 s.2 F) (hf : Fine A) (hA : A.next + 4 < maxId) (hl : s.1.length < 1000000) (hn : n < 1000000)
    (hk : ∀ A' x F' Fo, OR A' r v (tk n s).2.1 (tk n s).2.2 F' → RdS 5 A' x (tk n s).1 Fo → Keeps A A' [v] → A'.next ≤ A.next + 2 → Fine A' → (∀ y ∈ F', y ∈ F) → (∀ y ∈ Fo, A.next ≤ y) → K x A') : Wc Tryz.prog theX W0 m0 135 [.pointer (some ⟨r, 0, none⟩), .int .i64 (n : Int)] A K := by
  obtain ⟨l, bad⟩ := s
  have h : OR A r v l bad F := h
  refine w135 _ _ _ (cuts_none (S := fun _ _ _ => False) fun _ _ _ h => h) ?_
  rw [e135]
  have spoil : (bad = true ∨ l.length < n) → Wc Tryz.prog theX W0 m0 134 [.pointer (some ⟨r, 0, none⟩)] A fun _ A' => K (.slice none 0 0) A' := fun hb => by
    refine wc134 h hf (by omega) fun A' o' k' n' f' => ?_
    have e : tk n (l, bad) = ([], ([], true)) := by unfold tk; rw [if_pos hb]
    rw [e] at hk
    exact hk A' (.slice none 0 0) [] [] o' (.nil _ _) k' (by omega) f' (by simp) (by simp)
  refine wc70 h ?_
  refine forkW_bool.2 ⟨fun hb => spoil (.inl hb), fun hb => ?_⟩
  simp only [bin_lss, pureW_some, forkW_dec]
  refine ⟨fun h => by omega, fun _ => ?_⟩
  refine wc71 h ?_
  simp only [bin_gtr, pureW_some, forkW_dec]
  refine ⟨fun h => spoil (.inr (by omega)), fun hle => ?_⟩
  have hle : n ≤ l.length := by omega
  obtain ⟨bs, h1, h2⟩ := h.ex
  obtain ⟨x1, hx1, s1⟩ := h2.to tb hle
  have e : tk n (l, bad) = (l.take n, (l.drop n, false)) := by unfold tk; rw [if_neg (by simp [hb]; omega)]
  rw [e] at hk
  simp only [nilP_some, fa_244_0, fa_242_0, ld_240, ld_44, cell_row h.rr.row, cell_row h1.row, cellOf, isT_ptr, h2.rd.one.2, cond_false, hx1, pureW_some]
  refine wc133 s1 hf (by omega) (by rw [List.length_take]; omega) fun A2 x2 F2 g2 s2 hF2 => ?_
  have n2 := g2.next
  have r2 := h.rr.keeps g2.keeps (by simp)
  have q2 := h1.keeps g2.keeps (by simp)
  have t2 := h2.keeps g2.keeps (by simp)
  obtain ⟨x3, hx3, s3⟩ := t2.from tb hle
  simp only [nilP_some, fa_244_0, fa_242_0, ld_240, ld_44, cell_row r2.row, cell_row q2.row, cellOf, isT_ptr, h2.rd.one.2, cond_false, hx3, pureW_some]
  have one3 := s3.rd.one
  obtain ⟨o3, c3, hx⟩ := s3.rd.slice
  refine q2.store g2.fine (by omega) (st_44 _ _ _) (by rw [hx]; rfl) (by simp) (by rw [hx]; rfl) fun A3 r3 k3 n3 f3 => ?_
  have r3 : Go.Abs.Row1 A3 v [x3, .bool true, .bool bad] 242 := by rw [hx] at r3 ⊢; exact r3
  rw [hb] at r3
  have hrv : r ∉ [v] := by simpa using h.ne
  have hvF := h.hv
  refine hk A3 x2 F F2 ⟨r2.keeps k3 hrv, ⟨x3, r3, s3.keeps k3 fun y hy => by simp; intro h0; subst h0; exact hvF hy⟩, by simp, h.ne, h.hv⟩ (s2.keeps k3 fun y hy => by have := hF2 y hy; have := h1.lt; simp; omega) ?_ (by omega) f3 (fun y hy => hy) hF2
  exact g2.keeps.more (by simp) |>.trans k3 (fun y hy => .inl hy)

theorem wc68 {A : AW} {r v : Nat} {s : St} {F : List Nat} {w : Nat} {K : Value → AW → Prop} (h : OR A r v s.1 s.2 F) (hf : Fine A) (hA : A.next + 4 < maxId) (hl : s.1.length < 1000000) (hw : w = 1 ∨ w = 2 ∨ w = 4 ∨ w = 8)
    (hk : ∀ A' F', OR A' r v (nm w s).2.1 (nm w s).2.2 F' → Keeps A A' [v] → A'.next ≤ A.next + 2 → Fine A' → (∀ y ∈ F', y ∈ F) → K (.int .u64 ((nm w s).1 : Int)) A') : Wc Tryz.prog theX W0 m0 68 [.pointer (some ⟨r, 0, none⟩), .int .i64 (w : Int)] A K := by
  have hwl : w ≤ 8 := by omega
  have hlen := tk_len w s
  let I : Nat → Nat → List Value → AW → Prop := fun g' id vals A' => id = 0 ∧ ∃ (i : Nat) (x : Value) (F' Fo : List Nat), vals = [.int .u64 (beval ((tk w s).1.take i) : Nat), x, .int .i64 ((tk w s).1.length : Int), .int .i64 (i : Int)] ∧ i ≤ (tk w s).1.length ∧
    RdS 5 A' x (tk w s).1 Fo ∧ OR A' r v (tk w s).2.1 (tk w s).2.2 F' ∧ Keeps A A' [v] ∧ A'.next ≤ A.next + 2 ∧ Fine A' ∧ (∀ y ∈ F', y ∈ F) ∧ g' = (tk w s).1.length - i
  refine w68 _ _ _ (c68 (I := I) ?_) ?_
  · rintro g' id vals A' d ⟨rfl, i, x, F', Fo, rfl, hi, hx, ho, k, n, f, hF, rfl⟩ hd
    rw [l68_0]
    simp only [L68, List.map_cons, List.map_nil, List.cons.injEq, and_true] at hd
    obtain ⟨h5, h15, h16, h17⟩ := hd
    simp only [h5, h15, h16, h17, bin_lss, pureW_some, forkW_dec]
    refine ⟨fun hlt => ?_, fun hge => ?_⟩
    · have hlt : i < (tk w s).1.length := by omega
      obtain ⟨c, hc⟩ : ∃ c, (tk w s).1[i]? = some c := ⟨_, List.getElem?_eq_getElem hlt⟩
      obtain ⟨a, a1, a2⟩ := hx.rd.at tb hc
      have hcl : c.toNat < 256 := c.toNat_lt
      have hb := beval_lt ((tk w s).1.take i)
      have hb1 := beval_lt ((tk w s).1.take (i + 1))
      have e1 : (tk w s).1.take (i + 1) = (tk w s).1.take i ++ [c] := by rw [List.take_add_one, hc]; rfl
      rw [e1, beval_snoc] at hb1
      have hp : (256 : Nat) ^ ((tk w s).1.take i ++ [c]).length ≤ 256 ^ 8 := Nat.pow_le_pow_right (by decide) (by rw [← e1, List.length_take]; omega)
      have hp8 : (256 : Nat) ^ 8 = 18446744073709551616 := by decide
      simp only [a1, a2, pureW_some, cv_5_57, bothW_ok, bin_add]
      rw [bin_shl (by decide)]
      have e8 : (beval ((tk w s).1.take i) : Int) * 2 ^ (min (8 : Int).toNat (IntKind.bits .u64)) = ((beval ((tk w s).1.take i) * 256 : Nat) : Int) := by
        show (beval ((tk w s).1.take i) : Int) * 2 ^ 8 = _
        rw [Int.natCast_mul]; rfl
      rw [e8, wrap_u64 (by omega) (by omega), wrap_u64 (by omega) (by omega), wrap_i64 (by omega) (by omega)]
      simp only [pureW_some]
      rw [bin_or, or_low hcl (by omega)]
      simp only [pureW_some]
      refine cutW_self.2 ⟨(tk w s).1.length - (i + 1), by omega, rfl, i + 1, x, F', Fo, ?_, by omega, hx, ho, k, n, f, hF, rfl⟩
      rw [e1, beval_snoc]
      rfl
    · have hi : i = (tk w s).1.length := by omega
      subst hi
      rw [List.take_length]
      exact hk A' F' ho k n f hF
  · rw [e68]
    refine wc57 ?_
    have hb : ((w : Int) == 1 || ((w : Int) == 2 || ((w : Int) == 4 || (w : Int) == 8))) = true := by rcases hw with rfl | rfl | rfl | rfl <;> rfl
    rw [hb]
    simp only [un_not, pureW_some]
    refine forkW_bool.2 ⟨fun h => by simp at h, fun _ => ?_⟩
    refine wc135 h hf hA hl (by omega) fun A' x F' Fo ho hx k n f hF hFo => ?_
    simp only [hx.rd.len tb, pureW_some]
    exact cutW_self.2 ⟨(tk w s).1.length, rfl, 0, x, F', Fo, rfl, Nat.zero_le _, hx, ho, k, n, f, hF, rfl⟩

theorem wc69 {A : AW} {r v : Nat} {s : St} {F : List Nat} {K : Value → AW → Prop} (h : OR A r v s.1 s.2 F) (hf : Fine A) (hA : A.next + 8 < maxId) (hl : s.1.length < 1000000)
    (hk : ∀ A' F', OR A' r v (tx1 s).2.1 (tx1 s).2.2 F' → Keeps A A' [v] → A'.next ≤ A.next + 4 → Fine A' → (∀ y ∈ F', y ∈ F) → K (.string ⟨⟨(tx1 s).1⟩⟩) A') : Wc Tryz.prog theX W0 m0 69 [.pointer (some ⟨r, 0, none⟩), .int .i64 1, .int .i64 255] A K := by
  refine w69 _ _ _ _ (cuts_none (S := fun _ _ _ => False) fun _ _ _ h => h) ?_
  rw [e69]
  simp only [bin_eql, pureW_some, forkW_beq]
  refine ⟨fun h => by omega, fun _ => ?_⟩
  refine wc68 (w := 1) h hf (by omega) hl (by omega) fun A1 F1 o1 k1 n1 f1 hF1 => ?_
  have hv1 : (nm 1 s).1 < 256 := by
    have h1 := beval_lt (tk 1 s).1
    have h2 := tk_len 1 s
    have : (256 : Nat) ^ (tk 1 s).1.length ≤ 256 ^ 1 := Nat.pow_le_pow_right (by decide) h2
    show beval (tk 1 s).1 < 256
    omega
  have hl1 : (nm 1 s).2.1.length ≤ s.1.length := by
    show (tk 1 s).2.1.length ≤ _
    unfold tk; split
    · exact Nat.zero_le _
    · rw [List.length_drop]; omega
  have spoil : ((nm 1 s).2.2 = true ∨ (nm 1 s).2.1.length < (nm 1 s).1) → Wc Tryz.prog theX W0 m0 134 [.pointer (some ⟨r, 0, none⟩)] A1 fun _ A' => K (.string ⟨⟨[]⟩⟩) A' := fun hb => by
    refine wc134 o1 f1 (by omega) fun A' o' k' n' f' => ?_
    have e : tx1 s = ([], ([], true)) := by unfold tx1; rw [if_pos hb]
    rw [e] at hk
    exact hk A' [] o' (k1.trans k' (fun y hy => .inl hy)) (by omega) f' (by simp)
  refine wc70 o1 ?_
  refine forkW_bool.2 ⟨fun hb => spoil (.inl hb), fun hb => ?_⟩
  simp only [bin_lss, pureW_some, forkW_dec, cv_3_57, bothW_ok, bin_gtr]
  rw [wrap_u64 (n := 255) (by decide) (by decide)]
  refine ⟨fun h => by omega, fun _ => ⟨fun h => by omega, fun _ => ?_⟩⟩
  refine wc71 o1 ?_
  simp only [cv_3_57, bothW_ok]
  rw [wrap_u64 (by omega) (by omega)]
  simp only [bothW_ok, pureW_some, forkW_dec, cv_57_3, bin_gtr]
  refine ⟨fun h => spoil (.inr (by omega)), fun hle => ?_⟩
  have hle : (nm 1 s).1 ≤ (nm 1 s).2.1.length := by omega
  rw [wrap_i64 (by omega) (by omega)]
  have e : tx1 s = ((nm 1 s).2.1.take (nm 1 s).1, ((nm 1 s).2.1.drop (nm 1 s).1, false)) := by unfold tx1; rw [if_neg (by simp [hb]; omega)]
  have et : tk (nm 1 s).1 (nm 1 s).2 = ((nm 1 s).2.1.take (nm 1 s).1, ((nm 1 s).2.1.drop (nm 1 s).1, false)) := by unfold tk; rw [if_neg (by simp [hb]; omega)]
  refine wc135 (s := (nm 1 s).2) (n := (nm 1 s).1) o1 f1 (by omega) (by omega) (by omega) fun A2 x2 F2 Fo o2 x2s k2 n2 f2 hF2 hFo => ?_
  rw [et] at o2 x2s
  rw [e] at hk
  simp only [x2s.rd.str tb, bothW_ok]
  exact hk A2 F2 o2 (k1.trans k2 (fun y hy => .inl hy)) (by omega) f2 (fun y hy => hF1 y (hF2 y hy))
end
end Go.Proofs.YtjiglbmjhecobaaGreatDoor


namespace Go.Proofs.YtjiglbmjhecobaaGreatDoor
open Go.Abs

def rnF (s : St) : Nat := (nm 4 s).1
def rnG (s : St) : List UInt8 := (tx1 (nm 4 s).2).1
def rnB (s : St) : List UInt8 := (tx1 (tx1 (nm 4 s).2).2).1
def rnS (s : St) : St := (tx1 (tx1 (nm 4 s).2).2).2
theorem tk_shrink (n : Nat) (s : St) : (tk n s).2.1.length ≤ s.1.length := by
  unfold tk; split
  · exact Nat.zero_le _
  · rw [List.length_drop]; omega
theorem nm_shrink (n : Nat) (s : St) : (nm n s).2.1.length ≤ s.1.length := tk_shrink n s
theorem tx1_shrink (s : St) : (tx1 s).2.1.length ≤ s.1.length := by
  have := nm_shrink 1 s
  unfold tx1; split
  · exact Nat.zero_le _
  · rw [List.length_drop]; omega
theorem rnS_shrink (s : St) : (rnS s).1.length ≤ s.1.length := Nat.le_trans (tx1_shrink _) (Nat.le_trans (tx1_shrink _) (nm_shrink 4 s))
theorem nm_lt (w : Nat) (s : St) : (nm w s).1 < 256 ^ w := Nat.lt_of_lt_of_le (beval_lt _) (Nat.pow_le_pow_right (by decide) (tk_len w s))

section
variable {W0 : World} {m0 : Inj Tryz.prog}
theorem conv_bytes {A : AW} {s : ByteArray} {K : Value → AW → Prop} (hf : Fine A) (h : A.next < maxId)
    (hk : ∀ A', Grow A A' 1 → RdS 5 A' (.slice (some ⟨A.next, 0, none⟩) s.data.toList.length (capU + s.data.toList.length)) s.data.toList [A.next] → K (.slice (some ⟨A.next, 0, none⟩) s.data.toList.length (capU + s.data.toList.length)) A') : bothW (convertA Tryz.prog A 9 44 (.string s)) K := by
  have e : convertA Tryz.prog A 9 44 (.string s) = .ok (.slice (some ⟨A.next, 0, none⟩) s.data.toList.length (capU + s.data.toList.length)) (A.push (.row (bytesV s.data.toList) 5 A.next 0 false)) := by
    unfold convertA
    simp only [tb.ust, tb.us, tb.ub, tb.sz]
    unfold AW.new
    simp only [blt_true.2 h, cond_true]
    rfl
  rw [e]
  have m : Made A (A.push (.row (bytesV s.data.toList) 5 A.next 0 false)) (bytesV s.data.toList) 5 := ⟨AW.push_ext _ h, rfl, by rw [AW.push_get _ h, if_pos rfl], hf.alone (Nat.le_refl _), hf.push _ h⟩
  refine bothW_ok.2 (hk _ (.made m hf) (.inr ⟨A.next, 0, s.data.toList.length, _, _, A.next, 0, false, [], rfl, .inl rfl, Nat.le_refl _, m.row, by rw [m.next]; omega, rfl, by simp⟩))
theorem wc67 {A : AW} {x : Value} {l : List UInt8} {F : List Nat} {K : Value → AW → Prop} (h : RdS 5 A x l F) (hf : Fine A) (hA : A.next + 6 < maxId) (hl : l.length < 1000000)
    (hk : ∀ A' r v F', Grow A A' 4 → OR A' r v l false F' → A.next ≤ r → A.next ≤ v → (∀ y ∈ F', A.next ≤ y) → K (.pointer (some ⟨r, 0, none⟩)) A') : Wc Tryz.prog theX W0 m0 67 [x] A K := by
  refine w67 _ _ (cuts_none (S := fun _ _ _ => False) fun _ _ _ h => h) ?_
  rw [e67]
  refine wc133 h hf (by omega) hl fun A1 v1 F1 g1 s1 hF1 => ?_
  have n1 := g1.next
  have l1 := g1.le
  obtain ⟨o, c, e1⟩ := s1.rd.slice
  have hlt := s1.rd.lt
  rw [e1, ba242]
  simp only [pureW_some]
  rw [← e1]
  refine newP_made (cs := [v1, .bool true, .bool false]) g1.fine (by omega) (by simp [s1.rd.one.1, one_bool]) fun A2 m2 => ?_
  have n2 := m2.next
  rw [ba244]
  simp only [pureW_some]
  refine newP_made (cs := [.pointer (some ⟨A1.next, 0, none⟩)]) m2.fine (by omega) rfl fun A3 m3 => ?_
  have n3 := m3.next
  have k3 := m3.keeps m2.fine
  refine hk A3 A2.next A1.next F1 ((g1.trans (.made m2 g1.fine)).trans (.made m3 m2.fine)) ⟨m3.row1, ⟨v1, m2.row1.keeps k3 (by simp), (s1.keeps (m2.keeps g1.fine) (by simp)).keeps k3 (by simp)⟩, by simp, by omega, fun hm => by have := hlt _ hm; omega⟩ (by omega) (by omega) hF1

end
end Go.Proofs.YtjiglbmjhecobaaGreatDoor


namespace Go.Proofs.YtjiglbmjhecobaaGreatDoor
open Go.Abs

structure RR (A : AW) (p : Nat) (l : List UInt8) (bad : Bool) (F : List Nat) : Prop where
  ex : ∃ bs, Go.Abs.Row1 A p [bs, .bool bad] 77 ∧ RdS 5 A bs l F
  hb : bad = true → l = []
  hp : p ∉ F
theorem RR.keeps {A A' : AW} {p : Nat} {l : List UInt8} {bad : Bool} {F S : List Nat} (h : RR A p l bad F) (k : Keeps A A' S) (hp : p ∉ S) (hd : ∀ x ∈ F, x ∉ S) : RR A' p l bad F := by
  obtain ⟨bs, h1, h2⟩ := h.ex
  exact ⟨⟨bs, h1.keeps k hp, h2.keeps k hd⟩, h.hb, h.hp⟩
theorem RR.lt {A : AW} {p : Nat} {l : List UInt8} {bad : Bool} {F : List Nat} (h : RR A p l bad F) : p < A.next ∧ ∀ y ∈ F, y < A.next := by
  obtain ⟨bs, h1, h2⟩ := h.ex
  exact ⟨h1.lt, h2.rd.lt⟩

section
variable {W0 : World} {m0 : Inj Tryz.prog}
theorem wc73 {A : AW} {p : Nat} {l : List UInt8} {bad : Bool} {F : List Nat} {K : Value → AW → Prop} (h : RR A p l bad F) (hf : Fine A) (hA : A.next < maxId) (hk : ∀ A', RR A' p [] true [] → Keeps A A' [p] → A'.next = A.next → Fine A' → K (.tuple ⟨[]⟩) A') : Wc Tryz.prog theX W0 m0 73 [.pointer (some ⟨p, 0, none⟩)] A K := by
  obtain ⟨bs, h1, h2⟩ := h.ex
  refine w73 _ _ (cuts_none (S := fun _ _ _ => False) fun _ _ _ h => h) ?_
  rw [e73]
  simp only [nilP_some, fa_77_0, fa_77_1, pureW_some, Nat.zero_add]
  refine h1.store hf (by omega) (st_4 _ _ _) rfl (by simp) rfl fun A2 r2 k2 n2 f2 => ?_
  have r2 : Go.Abs.Row1 A2 p [bs, .bool true] 77 := r2
  refine r2.store f2 (by omega) (st_44 _ _ _) rfl (by simp) rfl fun A3 r3 k3 n3 f3 => ?_
  have r3 : Go.Abs.Row1 A3 p [.slice none 0 0, .bool true] 77 := r3
  exact hk A3 ⟨⟨_, r3, .nil _ _⟩, fun _ => rfl, by simp⟩ (k2.trans k3 (fun x hx => .inl hx)) (by omega) f3

theorem wc35 {A : AW} {p : Nat} {s : St} {F : List Nat} {n : Nat} {K : Value → AW → Prop} (h : RR A p s.1 s.2 F) (hf : Fine A) (hA : A.next + 4 < maxId) (hl : s.1.length < 1000000) (hn : n < 1000000)
    (hk : ∀ A' x F' Fo, RR A' p (tk n s).2.1 (tk n s).2.2 F' → RdS 5 A' x (tk n s).1 Fo → Keeps A A' [p] → A'.next ≤ A.next + 2 → Fine A' → (∀ y ∈ F', y ∈ F) → (∀ y ∈ Fo, A.next ≤ y) → K x A') : Wc Tryz.prog theX W0 m0 35 [.pointer (some ⟨p, 0, none⟩), .int .i64 (n : Int)] A K := by
  have hroom : room = 68719476736 := rfl
  obtain ⟨l, bad⟩ := s
  have h : RR A p l bad F := h
  obtain ⟨bs, h1, h2⟩ := h.ex
  refine w35 _ _ _ (cuts_none (S := fun _ _ _ => False) fun _ _ _ h => h) ?_
  rw [e35]
  have spoil : (bad = true ∨ l.length < n) → Wc Tryz.prog theX W0 m0 73 [.pointer (some ⟨p, 0, none⟩)] A fun _ A' => K (.slice none 0 0) A' := fun hb => by
    refine wc73 h hf (by omega) fun A' o' k' n' f' => ?_
    have e : tk n (l, bad) = ([], ([], true)) := by unfold tk; rw [if_pos hb]
    rw [e] at hk
    exact hk A' (.slice none 0 0) [] [] o' (.nil _ _) k' (by omega) f' (by simp) (by simp)
  simp only [nilP_some, fa_77_0, fa_77_1, ld_4, ld_44, cell_row h1.row, cellOf, h2.rd.one.2, isT_bool, cond_false, h2.rd.len tb, bin_lss, bin_gtr, pureW_some, forkW_dec, Nat.zero_add]
  refine forkW_bool.2 ⟨fun hb => spoil (.inl hb), fun hb => ⟨fun h => by omega, fun _ => ⟨fun h => spoil (.inr (by omega)), fun hle => ?_⟩⟩⟩
  have hle : n ≤ l.length := by omega
  obtain ⟨x1, hx1, s1⟩ := h2.to tb hle
  have e : tk n (l, bad) = (l.take n, (l.drop n, false)) := by unfold tk; rw [if_neg (by simp [hb]; omega)]
  rw [e] at hk
  simp only [hx1, pureW_some]
  refine appendBuf tb (Buf.nil 5 A) (src_slice tb s1.rd) hf (by omega) (by rw [List.length_take]; simp; omega) fun x2 A2 F2 b2 k2 hF2 n2 f2 => ?_
  rw [List.nil_append] at b2
  have q2 := h1.keeps k2 (by simp)
  have t2 := h2.keeps k2 (by simp)
  obtain ⟨x3, hx3, s3⟩ := t2.from tb hle
  simp only [ld_44, cell_row q2.row, cellOf, h2.rd.one.2, cond_false, hx3, pureW_some]
  obtain ⟨o3, c3, hx⟩ := s3.rd.slice
  refine q2.store f2 (by omega) (st_44 _ _ _) (by rw [hx]; rfl) (by simp) (by rw [hx]; rfl) fun A3 r3 k3 n3 f3 => ?_
  have r3 : Go.Abs.Row1 A3 p [x3, .bool bad] 77 := by rw [hx] at r3 ⊢; exact r3
  rw [hb] at r3
  have hpF := h.hp
  have hF2' : ∀ y ∈ F2, A.next ≤ y := fun y hy => by
    rcases hF2 y hy with h | h
    · simp at h
    · exact h
  have hplt := h1.lt
  refine hk A3 x2 F F2 ⟨⟨x3, r3, s3.keeps k3 fun y hy => by simp; intro h0; subst h0; exact hpF hy⟩, by simp, h.hp⟩ (b2.rdS.keeps k3 fun y hy => by have := hF2' y hy; simp; omega) ?_ (by omega) f3 (fun y hy => hy) hF2'
  exact k2.more (by simp) |>.trans k3 (fun y hy => .inl hy)

theorem wc33 {A : AW} {p : Nat} {s : St} {F : List Nat} {w : Nat} {K : Value → AW → Prop} (h : RR A p s.1 s.2 F) (hf : Fine A) (hA : A.next + 4 < maxId) (hl : s.1.length < 1000000) (hw : w = 1 ∨ w = 2 ∨ w = 4 ∨ w = 8)
    (hk : ∀ A' F', RR A' p (nm w s).2.1 (nm w s).2.2 F' → Keeps A A' [p] → A'.next ≤ A.next + 2 → Fine A' → (∀ y ∈ F', y ∈ F) → K (.int .u64 ((nm w s).1 : Int)) A') : Wc Tryz.prog theX W0 m0 33 [.pointer (some ⟨p, 0, none⟩), .int .i64 (w : Int)] A K := by
  have hlen := tk_len w s
  let I : Nat → Nat → List Value → AW → Prop := fun g' id vals A' => id = 0 ∧ ∃ (i : Nat) (x : Value) (F' Fo : List Nat), vals = [x, .int .u64 (beval ((tk w s).1.take i) : Nat), .int .i64 (i : Int)] ∧ i ≤ (tk w s).1.length ∧
    RdS 5 A' x (tk w s).1 Fo ∧ RR A' p (tk w s).2.1 (tk w s).2.2 F' ∧ Keeps A A' [p] ∧ A'.next ≤ A.next + 2 ∧ Fine A' ∧ (∀ y ∈ F', y ∈ F) ∧ g' = (tk w s).1.length - i
  refine w33 _ _ _ (c33 (I := I) ?_) ?_
  · rintro g' id vals A' d ⟨rfl, i, x, F', Fo, rfl, hi, hx, ho, k, n, f, hF, rfl⟩ hd
    rw [l33_0]
    simp only [L33, List.map_cons, List.map_nil, List.cons.injEq, and_true] at hd
    obtain ⟨h5, h6, h7⟩ := hd
    simp only [h5, h6, h7, hx.rd.len tb, bin_lss, pureW_some, forkW_dec]
    refine ⟨fun hlt => ?_, fun hge => ?_⟩
    · have hlt : i < (tk w s).1.length := by omega
      obtain ⟨c, hc⟩ : ∃ c, (tk w s).1[i]? = some c := ⟨_, List.getElem?_eq_getElem hlt⟩
      obtain ⟨a, a1, a2⟩ := hx.rd.at tb hc
      have hcl : c.toNat < 256 := c.toNat_lt
      have hb1 := beval_lt ((tk w s).1.take (i + 1))
      have e1 : (tk w s).1.take (i + 1) = (tk w s).1.take i ++ [c] := by rw [List.take_add_one, hc]; rfl
      rw [e1, beval_snoc] at hb1
      have hp : (256 : Nat) ^ ((tk w s).1.take i ++ [c]).length ≤ 256 ^ 8 := Nat.pow_le_pow_right (by decide) (by rw [← e1, List.length_take]; omega)
      have hp8 : (256 : Nat) ^ 8 = 18446744073709551616 := by decide
      simp only [a1, a2, pureW_some, cv_5_57, bothW_ok, bin_add, bin_mul]
      rw [wrap_u64 (n := 256 * (beval ((tk w s).1.take i) : Int)) (by omega) (by omega), wrap_u64 (n := (c.toNat : Int)) (by omega) (by omega), wrap_u64 (by omega) (by omega), wrap_i64 (by omega) (by omega)]
      refine cutW_self.2 ⟨(tk w s).1.length - (i + 1), by omega, rfl, i + 1, x, F', Fo, ?_, by omega, hx, ho, k, n, f, hF, rfl⟩
      have e9 : 256 * (beval ((tk w s).1.take i) : Int) + (c.toNat : Int) = ((beval ((tk w s).1.take i) * 256 + c.toNat : Nat) : Int) := by omega
      rw [e1, beval_snoc, e9]
      rfl
    · have hi : i = (tk w s).1.length := by omega
      subst hi
      rw [List.take_length]
      exact hk A' F' ho k n f hF
  · rw [e33]
    refine wc72 ?_
    have hb : ((w : Int) == 1 || ((w : Int) == 2 || ((w : Int) == 4 || (w : Int) == 8))) = true := by rcases hw with rfl | rfl | rfl | rfl <;> rfl
    rw [hb]
    simp only [un_not, pureW_some]
    refine forkW_bool.2 ⟨fun h => by simp at h, fun _ => ?_⟩
    refine wc35 h hf hA hl (by omega) fun A' x F' Fo ho hx k n f hF hFo => ?_
    exact cutW_self.2 ⟨(tk w s).1.length, rfl, 0, x, F', Fo, rfl, Nat.zero_le _, hx, ho, k, n, f, hF, rfl⟩

theorem wc74 {A : AW} {p : Nat} {s : St} {F : List Nat} {K : Value → AW → Prop} (h : RR A p s.1 s.2 F) (hf : Fine A) (hA : A.next + 8 < maxId) (hl : s.1.length < 1000000)
    (hk : ∀ A' F', RR A' p (tx1 s).2.1 (tx1 s).2.2 F' → Keeps A A' [p] → A'.next ≤ A.next + 4 → Fine A' → (∀ y ∈ F', y ∈ F) → K (.string ⟨⟨(tx1 s).1⟩⟩) A') : Wc Tryz.prog theX W0 m0 74 [.pointer (some ⟨p, 0, none⟩), .int .i64 1, .int .i64 255] A K := by
  refine w74 _ _ _ _ (cuts_none (S := fun _ _ _ => False) fun _ _ _ h => h) ?_
  rw [e74]; unfold qe74_0
  simp only [bin_neq, pureW_some, forkW_bne]
  refine ⟨fun h => by omega, fun _ => ?_⟩
  refine wc33 (w := 1) h hf (by omega) hl (by omega) fun A1 F1 o1 k1 n1 f1 hF1 => ?_
  have hv1 : (nm 1 s).1 < 256 := nm_lt 1 s
  have hl1 := nm_shrink 1 s
  have spoil : ((nm 1 s).2.2 = true ∨ (nm 1 s).2.1.length < (nm 1 s).1) → Wc Tryz.prog theX W0 m0 73 [.pointer (some ⟨p, 0, none⟩)] A1 fun _ A' => K (.string ⟨⟨[]⟩⟩) A' := fun hb => by
    refine wc73 o1 f1 (by omega) fun A' o' k' n' f' => ?_
    have e : tx1 s = ([], ([], true)) := by unfold tx1; rw [if_pos hb]
    rw [e] at hk
    exact hk A' [] o' (k1.trans k' (fun y hy => .inl hy)) (by omega) f' (by simp)
  obtain ⟨bs, q1, q2⟩ := o1.ex
  simp only [nilP_some, fa_77_0, fa_77_1, ld_4, ld_44, cell_row q1.row, cellOf, q2.rd.one.2, isT_bool, cond_false, q2.rd.len tb, pureW_some, Nat.zero_add]
  refine forkW_bool.2 ⟨fun hb => spoil (.inl hb), fun hb => ?_⟩
  simp only [bin_lss, pureW_some, forkW_dec, cv_3_57, bothW_ok, bin_gtr]
  rw [wrap_u64 (n := 255) (by decide) (by decide)]
  refine ⟨fun h => by omega, fun _ => ⟨fun h => by omega, fun _ => ?_⟩⟩
  simp only [ld_44, cell_row q1.row, cellOf, q2.rd.one.2, cond_false, q2.rd.len tb, pureW_some, cv_3_57, bothW_ok]
  rw [wrap_u64 (by omega) (by omega)]
  simp only [bin_gtr, pureW_some, forkW_dec]
  refine ⟨fun h => spoil (.inr (by omega)), fun hle => ?_⟩
  have hle : (nm 1 s).1 ≤ (nm 1 s).2.1.length := by omega
  simp only [cv_57_3, bothW_ok]
  rw [wrap_i64 (by omega) (by omega)]
  have e : tx1 s = ((nm 1 s).2.1.take (nm 1 s).1, ((nm 1 s).2.1.drop (nm 1 s).1, false)) := by unfold tx1; rw [if_neg (by simp [hb]; omega)]
  have et : tk (nm 1 s).1 (nm 1 s).2 = ((nm 1 s).2.1.take (nm 1 s).1, ((nm 1 s).2.1.drop (nm 1 s).1, false)) := by unfold tk; rw [if_neg (by simp [hb]; omega)]
  refine wc35 (s := (nm 1 s).2) (n := (nm 1 s).1) o1 f1 (by omega) (by omega) (by omega) fun A2 x2 F2 Fo o2 x2s k2 n2 f2 hF2 hFo => ?_
  rw [et] at o2 x2s
  rw [e] at hk
  simp only [x2s.rd.str tb, bothW_ok]
  exact hk A2 F2 o2 (k1.trans k2 (fun y hy => .inl hy)) (by omega) f2 (fun y hy => hF1 y (hF2 y hy))

theorem wc32 {A : AW} {x : Value} {l : List UInt8} {F : List Nat} {K : Value → AW → Prop} (h : RdB A x l F) (hf : Fine A) (hA : A.next + 6 < maxId) (hl : l.length < 1000000)
    (hk : ∀ A' p F', Grow A A' 2 → RR A' p l false F' → A.next ≤ p → (∀ y ∈ F', A.next ≤ y) → K (.pointer (some ⟨p, 0, none⟩)) A') : Wc Tryz.prog theX W0 m0 32 [x] A K := by
  have hroom : room = 68719476736 := rfl
  refine w32 _ _ (cuts_none (S := fun _ _ _ => False) fun _ _ _ h => h) ?_
  rw [e32]
  refine appendBuf tb (Buf.nil 5 A) (src_slice tb h) hf (by omega) (by simp; omega) fun x2 A2 F2 b2 k2 hF2 n2 f2 => ?_
  rw [List.nil_append] at b2
  have hF2' : ∀ y ∈ F2, A.next ≤ y := fun y hy => by
    rcases hF2 y hy with h | h
    · simp at h
    · exact h
  obtain ⟨o, c, e1⟩ := b2.rd.slice
  have hlt := b2.lt
  have l2 := k2.next
  rw [e1, ba77]
  simp only [pureW_some]
  rw [← e1]
  refine newP_made (cs := [x2, .bool false]) f2 (by omega) (by simp [b2.rd.one.1, one_bool]) fun A3 m3 => ?_
  have n3 := m3.next
  exact hk A3 A2.next F2 ⟨k2.trans (m3.keeps f2) (by simp), m3.fine, by omega⟩ ⟨⟨x2, m3.row1, b2.rdS.keeps (m3.keeps f2) (by simp)⟩, by simp, fun hm => by have := hlt _ hm; omega⟩ (by omega) hF2'
end
end Go.Proofs.YtjiglbmjhecobaaGreatDoor


namespace Go.Proofs.YtjiglbmjhecobaaGreatDoor
open Go.Abs

def xgE (l : List UInt8) : Int := if (rnS (l, false)).2 = true then 4 else xchk ⟨⟨rnG (l, false)⟩⟩ ⟨⟨rnB (l, false)⟩⟩
def xgN (l : List UInt8) : Nat := l.length - (rnS (l, false)).1.length

section
variable {W0 : World} {m0 : Inj Tryz.prog}
theorem store24x {A : AW} {t : Nat} {f : Int} {g b : ByteArray} {zs : List Value} {K : AW → Prop} (ht : Go.Abs.Row1 A t zs 24) (hz : zs.length = 3) (hf : Fine A) (hA : A.next ≤ maxId)
    (hk : ∀ A', Go.Abs.Row1 A' t [.int .u32 f, .string g, .string b] 24 → Keeps A A' [t] → A'.next = A.next → Fine A' → K A') : effW (storeP Tryz.prog A 24 (.pointer (some ⟨t, 0, none⟩)) (.agg ⟨[.int .u32 f, .string g, .string b]⟩)) K := by
  refine ht.store hf hA (st_24 _ _ _) rfl (by rw [hz]; exact Nat.le_refl 3) rfl fun A3 t3 k3 n3 f3 => ?_
  have e : setL zs 0 (Value.cells (.agg ⟨[.int .u32 f, .string g, .string b]⟩)).toList = [.int .u32 f, .string g, .string b] := by
    match zs, hz with
    | [z0, z1, z2], _ => rfl
  rw [e] at t3
  exact hk A3 t3 k3 n3 f3
theorem load24x {A : AW} {t : Nat} {f : Int} {g b : ByteArray} (h : Go.Abs.Row1 A t [.int .u32 f, .string g, .string b] 24) : loadP Tryz.prog A 24 (.pointer (some ⟨t, 0, none⟩)) = some (.agg ⟨[.int .u32 f, .string g, .string b]⟩) := by
  rw [ld_24, cells_row h.row]
  rfl

theorem wc34 {A : AW} {x : Value} {l : List UInt8} {F : List Nat} {K : Value → AW → Prop} (h : RdB A x l F) (hf : Fine A) (hA : A.next + 40 < maxId) (hl : l.length < 1000000)
    (hk : ∀ A' (f : Nat) (g b : List UInt8) (n : Nat), Grow A A' 30 → (xgE l = 0 → f = rnF (l, false) ∧ g = rnG (l, false) ∧ b = rnB (l, false) ∧ n = xgN l) → K (.tuple ⟨[.agg ⟨[.int .u32 (f : Int), .string ⟨⟨g⟩⟩, .string ⟨⟨b⟩⟩]⟩, .int .i64 (n : Int), .int .i64 (xgE l)]⟩) A') : Wc Tryz.prog theX W0 m0 34 [x] A K := by
  have zero : ∀ A', Grow A A' 30 → xgE l ≠ 0 → K (.tuple ⟨[.agg ⟨[.int .u32 0, .string .empty, .string .empty]⟩, .int .i64 0, .int .i64 (xgE l)]⟩) A' := fun A' g he => hk A' 0 [] [] 0 g fun h0 => absurd h0 he
  obtain ⟨xa, xc, rfl⟩ := h.slice
  refine w34 _ _ (cuts_none (S := fun _ _ _ => False) fun _ _ _ h => h) ?_
  rw [e34]
  refine allocP_made zero24 hf (by omega) rfl fun A1 m1 => ?_
  have n1 := m1.next
  have T1 : Go.Abs.Row1 A1 A.next [.int .u32 0, .string .empty, .string .empty] 24 := m1.row1
  refine wc32 (h.keeps (m1.keeps hf) (by simp)) m1.fine (by omega) hl fun A2 p F2 g2 o2 hp2 hF2 => ?_
  have n2 := g2.next
  have l2 := g2.le
  have T2 := T1.keeps g2.keeps (by simp)
  refine wc33 (s := (l, false)) (w := 4) o2 g2.fine (by omega) hl (by omega) fun A3 F3 o3 k3 n3 f3 hF3 => ?_
  have l3 := k3.next
  have s3 := nm_shrink 4 (l, false)
  have hn4 : (nm 4 (l, false)).1 < 4294967296 := nm_lt 4 (l, false)
  have hpn : A.next ∉ [p] := by simp; omega
  refine wc74 o3 f3 (by omega) (Nat.lt_of_le_of_lt s3 hl) fun A4 F4 o4 k4 n4 f4 hF4 => ?_
  have l4 := k4.next
  have s4 := tx1_shrink (nm 4 (l, false)).2
  refine wc74 o4 f4 (by omega) (Nat.lt_of_le_of_lt (Nat.le_trans s4 s3) hl) fun A5 F5 o5 k5 n5 f5 hF5 => ?_
  have l5 := k5.next
  have T5 := ((T2.keeps k3 hpn).keeps k4 hpn).keeps k5 hpn
  have g05 : Grow A A5 25 := by
    have a2 := (Grow.made m1 hf).trans g2
    exact (((a2.own k3 (by simp; omega) (m := 2) (by omega) f3).own k4 (by simp; omega) (m := 4) (by omega) f4).own k5 (by simp; omega) (m := 4) (by omega) f5).more (by omega)
  have o5 : RR A5 p (rnS (l, false)).1 (rnS (l, false)).2 F5 := o5
  obtain ⟨bs, q1, q2⟩ := o5.ex
  simp only [nilP_some, fa_77_0, fa_77_1, ld_4, cell_row q1.row, cellOf, q2.rd.one.2, isT_bool, cond_false, pureW_some, Nat.zero_add]
  refine forkW_bool.2 ⟨fun hb => ?_, fun hb => ?_⟩
  · have e4 : xgE l = 4 := by unfold xgE; rw [if_pos hb]
    rw [ba24]
    simp only [pureW_some]
    refine store24x T5 rfl f5 (by omega) fun A6 T6 k6 n6 f6 => ?_
    rw [load24x T6]
    simp only [pureW_some]
    have := zero A6 ((g05.own k6 (by simp) (m := 0) (by omega) f6).more (by omega)) (by rw [e4]; decide)
    rw [e4] at this
    exact this
  · have eE : xgE l = xchk ⟨⟨rnG (l, false)⟩⟩ ⟨⟨rnB (l, false)⟩⟩ := by unfold xgE; rw [if_neg (by simp [hb])]
    simp only [cv_57_22, bothW_ok]
    rw [wrap_u32i (by omega) (by omega), ba24x]
    simp only [pureW_some]
    refine allocP_made zero24 f5 (by omega) rfl fun A6 m6 => ?_
    have n6 := m6.next
    refine store24x m6.row1 rfl m6.fine (by omega) fun A7 X7 k7 n7 f7 => ?_
    have g07 : Grow A A7 26 := ((g05.trans (.made m6 f5)).own k7 (by simp; omega) (m := 0) (by omega) f7).more (by omega)
    have T7 := (T5.keeps (m6.keeps f5) (by simp)).keeps k7 (by simp; omega)
    have o7 := (o5.keeps (m6.keeps f5) (by simp) (by simp)).keeps k7 (by have := o5.lt.1; simp; omega) (fun y hy => by have := o5.lt.2 y hy; simp; omega)
    rw [load24x X7]
    simp only [pureW_some]
    refine wc62 (f := (rnF (l, false) : Int)) (g := ⟨⟨rnG (l, false)⟩⟩) (b := ⟨⟨rnB (l, false)⟩⟩) f7 (by omega) fun A8 g8 => ?_
    have n8 := g8.next
    have g08 := g07.trans g8
    have T8 := T7.keeps g8.keeps (by simp)
    have X8 := X7.keeps g8.keeps (by simp)
    have o8 := o7.keeps g8.keeps (by simp) (by simp)
    rw [← eE]
    simp only [bin_neq, pureW_some, forkW_bne]
    refine ⟨fun he => ?_, fun he => ?_⟩
    · have e40 : xgE l = 40 := by
        rcases xchk_cases ⟨⟨rnG (l, false)⟩⟩ ⟨⟨rnB (l, false)⟩⟩ with h0 | h0
        · rw [eE] at he; exact absurd h0 he
        · rw [eE]; exact h0
      rw [ba24]
      simp only [pureW_some]
      refine store24x T8 rfl g8.fine (by omega) fun A9 T9 k9 n9 f9 => ?_
      rw [load24x T9]
      simp only [pureW_some]
      have := zero A9 ((g08.own k9 (by simp) (m := 0) (by omega) f9).more (by omega)) he
      rw [e40] at this
      exact this
    · obtain ⟨bs8, r1, r2⟩ := o8.ex
      have hsh := rnS_shrink (l, false)
      have hsh : (rnS (l, false)).1.length ≤ l.length := hsh
      rw [load24x X8]
      simp only [ln_44, nilP_some, fa_77_0, ld_44, cell_row r1.row, cellOf, r2.rd.one.2, cond_false, r2.rd.len tb, bin_sub, pureW_some]
      refine store24x T8 rfl g8.fine (by omega) fun A9 T9 k9 n9 f9 => ?_
      have pl := o8.lt
      have o9 := o8.keeps k9 (by simp; omega) (fun y hy => by have := hF5 y hy; have := hF4 y this; have := hF3 y this; have := hF2 y this; simp; omega)
      obtain ⟨bs9, v1, v2⟩ := o9.ex
      have hbb : bs9 = bs8 := by
        have a := r1.keeps k9 (by simp; omega)
        have e := a.row
        rw [v1.row] at e
        simp at e
        exact e
      subst hbb
      rw [wrap_i64 (by omega) (by omega)]
      simp only [ln_44, ld_44, cell_row v1.row, cellOf, r2.rd.one.2, cond_false, v2.rd.len tb, pureW_some, eqW_self]
      rw [load24x T9]
      simp only [pureW_some]
      have := hk A9 (rnF (l, false)) (rnG (l, false)) (rnB (l, false)) (xgN l) ((g08.own k9 (by simp) (m := 0) (by omega) f9).more (by omega)) fun _ => ⟨rfl, rfl, rfl, rfl⟩
      have eN : ((l.length : Nat) : Int) - ((rnS (l, false)).1.length : Nat) = (xgN l : Int) := by unfold xgN; omega
      rw [eN]
      rw [he] at this
      exact this
end
end Go.Proofs.YtjiglbmjhecobaaGreatDoor


namespace Go.Proofs.YtjiglbmjhecobaaGreatDoor
open Go.Abs Go.Crc

def xgX (l : List UInt8) : Nm := if xgE l = 0 then ⟨rnF (l, false), ⟨⟨rnG (l, false)⟩⟩, ⟨⟨rnB (l, false)⟩⟩⟩ else ⟨0, ⟨⟨[]⟩⟩, ⟨⟨[]⟩⟩⟩
def xgK (l : List UInt8) : Nat := if xgE l = 0 then xgN l else 0
theorem xgK_le (l : List UInt8) : xgK l ≤ l.length := by unfold xgK xgN; split <;> omega

theorem slice3_known {P : Program} {tb ts tst : TypeId} {A : AW} (T : BT P tb ts tst) {a : Option Addr} {len C n : Nat} (hc : C < capU) (hn : n ≤ C) : sliceA P A ts (.slice a len C) none (some (.int .i64 (.ofNat n))) (some (.int .i64 (.ofNat n))) = some (.slice (bif Nat.beq n 0 then a else moved a (0 * 1)) n n) := by
  unfold sliceA
  simp only [T.us, T.sz, ble_false.2 hc, cond_false, bounds, okMax, boundA, ble_true.2 hn, ble_true.2 (Nat.le_refl n), Nat.sub_zero, Option.isSome_some, Bool.true_or, cond_true]
theorem slice3_open {P : Program} {tb ts tst : TypeId} {A : AW} (T : BT P tb ts tst) {a : Option Addr} {len c n : Nat} (hn : n ≤ c) (hr : n < capU) : sliceA P A ts (.slice a len (capU + c)) none (some (.int .i64 (.ofNat n))) (some (.int .i64 (.ofNat n))) = some (.slice (moved a (0 * 1)) n n) := by
  unfold sliceA
  simp only [T.us, T.sz, ble_true.2 (show capU ≤ capU + c from Nat.le_add_right _ _), cond_true, bounds, okMax, boundA, Nat.add_sub_cancel_left, ble_true.2 hn, ble_true.2 (Nat.le_refl n), Nat.sub_zero, Option.isSome_some, Bool.true_or, blt_true.2 hr]
theorem RdS.to3 {P : Program} {tb ts tst : TypeId} {A : AW} {v : Value} {l : List UInt8} {F : List Nat} (T : BT P tb ts tst) (h : RdS tb A v l F) {n : Nat} (hn : n ≤ l.length) (hr : n < capU) :
    ∃ v', sliceA P A ts v none (some (.int .i64 (n : Int))) (some (.int .i64 (n : Int))) = some v' ∧ RdS tb A v' (l.take n) F := by
  show ∃ v', sliceA P A ts v none (some (.int .i64 (.ofNat n))) (some (.int .i64 (.ofNat n))) = some v' ∧ _
  rcases h with ⟨rfl, rfl, o, c, rfl, hc, hz⟩ | ⟨r, o, c, C, cs, f, b, ro, rest, rfl, hC, hl, h2, h3, rfl, h5⟩
  · have hn0 : n = 0 := Nat.le_zero.1 hn
    refine ⟨_, slice3_known T hc (by omega), .inl ⟨List.take_nil, rfl, o, 0, ?_, by decide, fun _ => rfl⟩⟩
    rw [hn0]
    rfl
  · have hd : cs.drop o = bytesV (l.take n) ++ (bytesV (l.drop n) ++ rest) := by
      rw [h5, bytesV_take, bytesV_drop, ← List.append_assoc, List.take_append_drop]
    have hlen : (l.take n).length = n := by rw [List.length_take]; omega
    have hfin : RdS tb A (.slice (some ⟨r, o, none⟩) n n) (l.take n) [f] := .inr ⟨r, o, n, n, cs, f, b, ro, _, by rw [hlen], .inr ⟨rfl, hr⟩, by omega, h2, h3, rfl, hd⟩
    rcases hC with rfl | ⟨rfl, hc⟩
    · refine ⟨_, slice3_open T (by omega) hr, ?_⟩
      rw [moved_eq, Nat.add_zero]
      exact hfin
    · refine ⟨_, slice3_known T hc (by omega), ?_⟩
      rw [moved_eq, Nat.add_zero]
      cases Nat.beq n 0
      · rw [cond_false]; exact hfin
      · rw [cond_true]; exact hfin

theorem lt_capU {n : Nat} (h : n < 1000000) : n < capU := Nat.lt_of_lt_of_le h (by decide)

section
variable {W0 : World} {m0 : Inj Tryz.prog}
set_option maxHeartbeats 1000000 in
theorem wc30 {A : AW} {x : Value} {l : List UInt8} {F : List Nat} {K : Value → AW → Prop} (h : RdS 5 A x l F) (hf : Fine A) (hA : A.next + 60 < maxId) (hl : l.length < 1000000)
    (hk : ∀ A', Grow A A' 40 → K (.tuple ⟨[.agg ⟨(xgX l).cells⟩, .int .i64 (xgK l : Int), .int .i64 (xgE l)]⟩) A') : Wc Tryz.prog theX W0 m0 30 [x] A K := by
  have zero : ∀ A', Grow A A' 40 → xgE l ≠ 0 → K (.tuple ⟨[.agg ⟨[.int .u32 0, .string ⟨⟨[]⟩⟩, .string ⟨⟨[]⟩⟩]⟩, .int .i64 0, .int .i64 (xgE l)]⟩) A' := fun A' g he => by
    have := hk A' g
    unfold xgX xgK at this
    rw [if_neg he, if_neg he] at this
    exact this
  obtain ⟨xa, xc, rfl⟩ := h.rd.slice
  refine w30 _ _ (cuts_none (S := fun _ _ _ => False) fun _ _ _ h => h) ?_
  rw [e30]
  refine allocP_made zero24 hf (by omega) rfl fun A1 m1 => ?_
  have n1 := m1.next
  have T1 : Go.Abs.Row1 A1 A.next [.int .u32 0, .string .empty, .string .empty] 24 := m1.row1
  refine wc67 (h.keeps (m1.keeps hf) (by simp)) m1.fine (by omega) hl fun A2 r v F2 g2 o2 hr2 hv2 hF2 => ?_
  have n2 := g2.next
  have l2 := g2.le
  have T2 := T1.keeps g2.keeps (by simp)
  have hvn : A.next ∉ [v] := by simp; omega
  refine wc68 (s := (l, false)) (w := 4) o2 g2.fine (by omega) hl (by omega) fun A3 F3 o3 k3 n3 f3 hF3 => ?_
  have l3 := k3.next
  have s3 := nm_shrink 4 (l, false)
  have hn4 : (nm 4 (l, false)).1 < 4294967296 := nm_lt 4 (l, false)
  have vlt : v < A3.next := by obtain ⟨bs, h1, h2⟩ := o3.ex; exact h1.lt
  have rlt : r < A3.next := o3.rr.lt
  have Flt : ∀ y ∈ F3, y < A3.next := by obtain ⟨bs, h1, h2⟩ := o3.ex; exact h2.rd.lt
  have T3 := T2.keeps k3 hvn
  simp only [cv_57_22, bothW_ok]
  rw [wrap_u32i (by omega) (by omega), ba24f]
  simp only [pureW_some]
  refine allocP_made zero24 f3 (by omega) rfl fun A4 m4 => ?_
  have n4 := m4.next
  have k4 := m4.keeps f3
  have o4 := o3.keeps k4 (by simp) (by simp) (by simp)
  refine m4.row1.store m4.fine (by omega) (st_24 _ _ _) rfl (by simp [Value.cells]) rfl fun A5 p5 k5 n5 f5 => ?_
  have p5 : Go.Abs.Row1 A5 A3.next [.int .u32 ((nm 4 (l, false)).1 : Int), .string .empty, .string .empty] 24 := p5
  have o5 := o4.keeps k5 (by simp; omega) (by simp; omega) (fun y hy => by have := Flt y hy; simp; omega)
  have T5 := (T3.keeps k4 (by simp)).keeps k5 (by simp; omega)
  refine wc69 o5 f5 (by omega) (Nat.lt_of_le_of_lt s3 hl) fun A6 F6 o6 k6 n6 f6 hF6 => ?_
  have l6 := k6.next
  have s6 := tx1_shrink (nm 4 (l, false)).2
  have p6 := p5.keeps k6 (by simp; omega)
  have T6 := T5.keeps k6 hvn
  simp only [fa_24_1, fa_24_2, pureW_some, Nat.zero_add]
  refine p6.store f6 (by omega) (st_9 _ _ _) rfl (by simp) rfl fun A7 p7 k7 n7 f7 => ?_
  have p7 : Go.Abs.Row1 A7 A3.next [.int .u32 ((nm 4 (l, false)).1 : Int), .string ⟨⟨(tx1 (nm 4 (l, false)).2).1⟩⟩, .string .empty] 24 := p7
  have o7 := o6.keeps k7 (by simp; omega) (by simp; omega) (fun y hy => by have := Flt y (hF6 y hy); simp; omega)
  have T7 := T6.keeps k7 (by simp; omega)
  refine wc69 o7 f7 (by omega) (Nat.lt_of_le_of_lt (Nat.le_trans s6 s3) hl) fun A8 F8 o8 k8 n8 f8 hF8 => ?_
  have l8 := k8.next
  have p8 := p7.keeps k8 (by simp; omega)
  have T8 := T7.keeps k8 hvn
  refine p8.store f8 (by omega) (st_9 _ _ _) rfl (by simp) rfl fun A9 p9 k9 n9 f9 => ?_
  have p9 : Go.Abs.Row1 A9 A3.next [.int .u32 (rnF (l, false) : Int), .string ⟨⟨rnG (l, false)⟩⟩, .string ⟨⟨rnB (l, false)⟩⟩] 24 := p9
  have o9 := o8.keeps k9 (by simp; omega) (by simp; omega) (fun y hy => by have := Flt y (hF6 y (hF8 y hy)); simp; omega)
  have o9 : OR A9 r v (rnS (l, false)).1 (rnS (l, false)).2 F8 := o9
  have T9 := T8.keeps k9 (by simp; omega)
  have g09 : Grow A A9 30 := by
    have a2 := (Grow.made m1 hf).trans g2
    have a3 := a2.own k3 (by simp; omega) (m := 2) (by omega) f3
    have a5 := (a3.trans (.made m4 f3)).own k5 (by simp; omega) (m := 0) (by omega) f5
    have a7 := (a5.own k6 (by simp; omega) (m := 4) (by omega) f6).own k7 (by simp; omega) (m := 0) (by omega) f7
    exact ((a7.own k8 (by simp; omega) (m := 4) (by omega) f8).own k9 (by simp; omega) (m := 0) (by omega) f9).more (by omega)
  refine wc70 o9 ?_
  refine forkW_bool.2 ⟨fun hb => ?_, fun hb => ?_⟩
  · have e4 : xgE l = 4 := by unfold xgE; rw [if_pos hb]
    rw [ba24]
    simp only [pureW_some]
    refine store24x T9 rfl f9 (by omega) fun A10 T10 k10 n10 f10 => ?_
    rw [load24x T10]
    simp only [pureW_some]
    have := zero A10 ((g09.own k10 (by simp) (m := 0) (by omega) f10).more (by omega)) (by rw [e4]; decide)
    rw [e4] at this
    exact this
  · have eE : xgE l = xchk ⟨⟨rnG (l, false)⟩⟩ ⟨⟨rnB (l, false)⟩⟩ := by unfold xgE; rw [if_neg (by simp [hb])]
    rw [load24x p9]
    simp only [pureW_some]
    refine wc26 (f := (rnF (l, false) : Int)) (g := ⟨⟨rnG (l, false)⟩⟩) (b := ⟨⟨rnB (l, false)⟩⟩) f9 (by omega) fun A10 g10 => ?_
    have n10 := g10.next
    have g010 := g09.trans g10
    have T10 := T9.keeps g10.keeps (by simp)
    have p10 := p9.keeps g10.keeps (by simp)
    have o10 := o9.keeps g10.keeps (by simp) (by simp) (by simp)
    rw [← eE]
    simp only [bin_neq, pureW_some, forkW_bne]
    refine ⟨fun he => ?_, fun he => ?_⟩
    · rw [ba24]
      simp only [pureW_some]
      refine store24x T10 rfl g10.fine (by omega) fun A11 T11 k11 n11 f11 => ?_
      rw [load24x T11]
      simp only [pureW_some]
      exact zero A11 ((g010.own k11 (by simp) (m := 0) (by omega) f11).more (by omega)) he
    · have hsh : (rnS (l, false)).1.length ≤ l.length := rnS_shrink (l, false)
      rw [load24x p10]
      simp only [ln_44, pureW_some]
      refine wc71 o10 ?_
      rw [load24x p10]
      simp only [pureW_some, eqW_self, bin_sub]
      rw [wrap_i64 (by omega) (by omega)]
      refine store24x T10 rfl g10.fine (by omega) fun A11 T11 k11 n11 f11 => ?_
      rw [load24x T11]
      simp only [pureW_some]
      have := hk A11 ((g010.own k11 (by simp) (m := 0) (by omega) f11).more (by omega))
      have eN : ((l.length : Nat) : Int) - ((rnS (l, false)).1.length : Nat) = (xgN l : Int) := by unfold xgN; omega
      unfold xgX xgK at this
      rw [if_pos he, if_pos he, he] at this
      rw [eN]
      exact this
end
end Go.Proofs.YtjiglbmjhecobaaGreatDoor


namespace Go.Proofs.YtjiglbmjhecobaaGreatDoor
open Go.Abs Go.Crc

theorem drop4 {l : List UInt8} (h4 : 4 ≤ l.length) : sealed l = true ↔ l.drop (l.length - 4) = le4 (sum32 (l.take (l.length - 4))) := by
  unfold sealed
  rw [decide_eq_true h4, Bool.true_and, beq_iff_eq]
  constructor
  · intro h
    have h2 := List.take_append_drop (l.length - 4) l
    have h3 : l.take (l.length - 4) ++ l.drop (l.length - 4) = l.take (l.length - 4) ++ le4 (sum32 (l.take (l.length - 4))) := h2.trans h
    exact List.append_cancel_left h3
  · intro h
    unfold sealT
    rw [← h, List.take_append_drop]
theorem sealed_at {l : List UInt8} (h4 : 4 ≤ l.length) : sealed l = true ↔ ∀ i, i < 4 → l[l.length - 4 + i]? = (le4 (sum32 (l.take (l.length - 4))))[i]? := by
  rw [drop4 h4]
  constructor
  · intro h i _
    rw [← h, List.getElem?_drop]
  · intro h
    refine List.ext_getElem? fun i => ?_
    rw [List.getElem?_drop]
    by_cases hi : i < 4
    · exact h i hi
    · rw [List.getElem?_eq_none (by omega), List.getElem?_eq_none (by rw [le4_length]; omega)]
theorem sealed_short {l : List UInt8} (h : l.length < 4) : sealed l = false := by
  unfold sealed
  rw [decide_eq_false (by omega)]
  rfl

section
variable {W0 : World} {m0 : Inj Tryz.prog}
theorem wc28 {A : AW} {x : Value} {l : List UInt8} {F : List Nat} {K : Value → AW → Prop} (h : RdS 5 A x l F) (hg : Glb A) (hf : Fine A) (hA : A.next + 5 < maxId) (hl : l.length < 900000)
    (h1 : sealed l = true → ∀ A' v F', Grow A A' 1 → RdS 5 A' v (l.take (l.length - 4)) F' → (∀ y ∈ F', A.next ≤ y) → K (.tuple ⟨[v, .bool true]⟩) A') (h2 : sealed l = false → K (.tuple ⟨[.slice none 0 0, .bool false]⟩) A) :
    Wc Tryz.prog theX W0 m0 28 [x] A K := by
  have hroom : room = 68719476736 := rfl
  let I : Nat → Nat → List Value → AW → Prop := fun g id vals A' => id = 0 ∧ A' = A ∧ 4 ≤ l.length ∧ ∃ i : Nat, vals = [x, .int .i64 ((l.length - 4 : Nat) : Int), .int .u32 ((sum32 (l.take (l.length - 4)) : Nat) : Int), .int .i64 (i : Int)] ∧ g = 4 - i ∧ i ≤ 4 ∧
    ∀ j, j < i → l[l.length - 4 + j]? = (le4 (sum32 (l.take (l.length - 4))))[j]?
  refine w28 _ _ (c28 (I := I) ?_) ?_
  · rintro g id vals A' d ⟨rfl, rfl, h4, i, rfl, rfl, hi, hj⟩ hd
    rw [l28_0]
    simp only [L28, List.map_cons, List.map_nil, List.cons.injEq, and_true] at hd
    obtain ⟨d0, d4, d5, d18⟩ := hd
    simp only [d0, d4, d5, d18, bin_lss, pureW_some, forkW_dec]
    refine ⟨fun hlt => ?_, fun hge => ?_⟩
    · have hlt : i < 4 := by omega
      obtain ⟨c, hc⟩ : ∃ c, l[l.length - 4 + i]? = some c := ⟨_, List.getElem?_eq_getElem (by omega)⟩
      obtain ⟨a, a1, a2⟩ := h.rd.at tb hc
      simp only [bin_add, bin_mul, pureW_some]
      rw [wrap_i64 (n := ((l.length - 4 : Nat) : Int) + i) (by omega) (by omega), wrap_i64 (n := 8 * (i : Int)) (by omega) (by omega), wrap_i64 (n := (i : Int) + 1) (by omega) (by omega), bin_shr (by omega)]
      have e1 : ((l.length - 4 : Nat) : Int) + (i : Int) = ((l.length - 4 + i : Nat) : Int) := by omega
      have e3 : min (8 * (i : Int)).toNat (IntKind.bits .u32) = 8 * i := by show min _ 32 = _; omega
      rw [e1, e3]
      simp only [a1, a2, pureW_some, cv_22_5, bothW_ok, byte_of, bin_neq, forkW_bne]
      refine ⟨fun hne => h2 ?_, fun heq => ?_⟩
      · cases hs : sealed l with
        | false => rfl
        | true =>
          exfalso
          have := (sealed_at h4).1 hs i hlt
          rw [hc, le4_get hlt, Option.some.injEq] at this
          rw [this] at hne
          exact hne rfl
      · refine cutW_self.2 ⟨4 - (i + 1), by omega, rfl, rfl, h4, i + 1, rfl, rfl, by omega, fun j hji => ?_⟩
        by_cases hjl : j < i
        · exact hj j hjl
        · obtain rfl : j = i := by omega
          rw [hc, le4_get hlt, Option.some.injEq]
          exact UInt8.toNat_inj.1 (by omega)
    · have hi' : i = 4 := by omega
      subst hi'
      have hs := (sealed_at h4).2 hj
      refine makeBytes (n := l.length - 4) (c := l.length - 4) tb hf (by omega) (Nat.le_refl _) (by omega) fun A1 m1 => ?_
      have n1 := m1.next
      have k1 := m1.keeps hf
      refine copyOwn tb m1.row1 (h.rd.keeps k1 (by simp)) m1.fine (by omega) (by rw [List.length_replicate]; omega) fun A2 vv r2 k2 n2 f2 => ?_
      rw [Nat.min_eq_right (by omega)] at r2
      have g2 : Grow A' A2 1 := (Grow.made m1 hf).own k2 (by simp) (m := 0) (by omega) f2
      have lt : (l.take (l.length - 4)).length = l.length - 4 := by rw [List.length_take]; omega
      have e : setL (List.replicate (l.length - 4) (Value.int .u8 0)) 0 (bytesV (l.take (l.length - 4))) = bytesV (l.take (l.length - 4)) := by
        have := setL_mid [] (List.replicate (l.length - 4) (Value.int .u8 0)) (bytesV (l.take (l.length - 4))) [] (by rw [List.length_replicate, bytesV_length, lt])
        simpa using this
      rw [e] at r2
      have b2 := (bufN r2 (by rw [lt]; omega)).rdS
      rw [lt] at b2
      exact h1 hs A2 _ _ g2 b2 (by simp)
  · rw [e28]
    simp only [h.rd.len tb, bin_sub, pureW_some, bin_lss]
    rw [wrap_i64 (by omega) (by omega)]
    simp only [forkW_dec]
    refine ⟨fun hlt => h2 (sealed_short (by omega)), fun hge => ?_⟩
    have e4 : (l.length : Int) - 4 = ((l.length - 4 : Nat) : Int) := by omega
    rw [e4]
    obtain ⟨v, hv, hs⟩ := RdS.to3 tb h (n := l.length - 4) (by omega) (lt_capU (by omega))
    rw [hv]
    simp only [pureW_some]
    refine wc61 hs.rd hg (by rw [List.length_take]; omega) ?_
    exact cutW_self.2 ⟨4, rfl, rfl, by omega, 0, rfl, rfl, by omega, fun j hj => by omega⟩

theorem wc31 {A : AW} {x : Value} {l : List UInt8} {F : List Nat} {K : Value → AW → Prop} (h : RdS 5 A x l F) (hf : Fine A) (hA : A.next + 10 < maxId) (hl : l.length < 800000)
    (h1 : sealed l = true → ∀ A' v F', Grow A A' 8 → RdB A' v (l.take (l.length - 4)) F' → (∀ y ∈ F', A.next ≤ y) → K (.tuple ⟨[v, .bool true]⟩) A') (h2 : sealed l = false → ∀ A', Grow A A' 8 → K (.tuple ⟨[.slice none 0 0, .bool false]⟩) A') :
    Wc Tryz.prog theX W0 m0 31 [x] A K := by
  have hroom : room = 68719476736 := rfl
  refine w31 _ _ (cuts_none (S := fun _ _ _ => False) fun _ _ _ h => h) ?_
  rw [e31]
  simp only [h.rd.len tb, pureW_some, bin_lss, forkW_dec, bin_sub]
  refine ⟨fun hlt => h2 (sealed_short (by omega)) A ((Grow.refl hf).more (by omega)), fun hge => ?_⟩
  rw [wrap_i64 (by omega) (by omega)]
  have e4 : (l.length : Int) - 4 = ((l.length - 4 : Nat) : Int) := by omega
  have h4 : 4 ≤ l.length := by omega
  rw [e4]
  obtain ⟨v, hv, hs⟩ := h.to tb (n := l.length - 4) (by omega)
  rw [hv]
  simp only [pureW_some]
  rw [h.rd.str tb]
  refine bothW_ok.2 ?_
  refine wc25 hs.rd hf (by omega) (by rw [List.length_take]; omega) fun A2 v2 F2 g2 b2 hF2 => ?_
  have n2 := g2.next
  have hx2 := h.keeps g2.keeps (by simp)
  have hs2 := hs.keeps g2.keeps (by simp)
  rw [hx2.rd.str tb, b2.rd.str tb]
  simp only [bothW_ok, eqW_self, bin_strneq, pureW_some]
  have hse : sealed l = (sealT (l.take (l.length - 4)) == l) := by
    unfold sealed
    rw [decide_eq_true h4, Bool.true_and, Bool.beq_comm]
  refine forkW_bool.2 ⟨fun hb => h2 ?_ A2 (g2.more (by omega)), fun hb => ?_⟩
  · rw [hse]
    simpa using hb
  · refine appendBuf tb (Buf.nil 5 A2) (src_slice tb hs2.rd) g2.fine (by omega) (by rw [List.length_take]; simp; omega) fun v3 A3 F3 b3 k3 hF3 n3 f3 => ?_
    rw [List.nil_append] at b3
    have l2 := g2.le
    refine h1 ?_ A3 v3 F3 ((g2.trans ⟨k3, f3, by omega⟩ : Grow A A3 _).more (m := 8) (by omega)) b3.rd fun y hy => ?_
    · rw [hse]
      simpa using hb
    · rcases hF3 y hy with h | h
      · simp at h
      · omega
end
end Go.Proofs.YtjiglbmjhecobaaGreatDoor


namespace Go.Proofs.YtjiglbmjhecobaaGreatDoor
open Go.Abs Go.Crc

theorem zero44 : zeroT Tryz.prog 44 = some (.slice none 0 0) := by kernel_rfl
theorem fresh29 : freshOf Tryz.prog (fun _ => undef) (.alloc 29) = some (.row [.int .u8 0, .int .u32 0, .string .empty, .string .empty, .int .u8 0, .int .u16 0, .slice none 0 0] 29) := by kernel_rfl
theorem fresh27' (p : Nm) : freshOf Tryz.prog (evalT (Tm.fill ⟨1, .nil⟩ 0 [.agg ⟨p.cells⟩])) (.buildSlice 27 1 #[(0, .tmp 0)]) = some (.slice p.cells 24 1) := fresh27 (p.f : Int) p.g p.b
theorem ba29x (k a n : Int) : buildA Tryz.prog 29 [(0, .int .u8 k), (2, .int .u8 a), (3, .int .u16 n)] = some (.agg ⟨[.int .u8 k, .int .u32 0, .string ⟨⟨[]⟩⟩, .string ⟨⟨[]⟩⟩, .int .u8 a, .int .u16 n, .slice none 0 0]⟩) := by kernel_rfl
theorem dyn29 (A : AW) (a : Addr) : dynA Tryz.prog theX A (.func (.func 29) ⟨[]⟩ ⟨[.pointer (some a)]⟩) [] = .ok (.enter 29 [.pointer (some a)]) A := by kernel_rfl
def x0 : Nm := ⟨0, ⟨⟨[]⟩⟩, ⟨⟨[]⟩⟩⟩
def let0 : Value := letV 0 0 0 x0 (.slice none 0 0)
theorem ba29' : buildA Tryz.prog 29 [] = some let0 := ba29
theorem ex3_0 (a b c : Value) : extractP (.tuple ⟨[a, b, c]⟩) 0 = some a := rfl
theorem ex3_1 (a b c : Value) : extractP (.tuple ⟨[a, b, c]⟩) 1 = some b := rfl
theorem ex3_2 (a b c : Value) : extractP (.tuple ⟨[a, b, c]⟩) 2 = some c := rfl
theorem or16 {a c : Nat} (ha : a < 256) (hc : c < 256) : IntKind.u16.wrap ((BitVec.ofInt (IntKind.bits .u16) (IntKind.u16.wrap ((a : Int) * 2 ^ (min (8 : Int).toNat (IntKind.bits .u16)))) ||| BitVec.ofInt (IntKind.bits .u16) (c : Int)).toNat : Int) = ((a * 256 + c : Nat) : Int) := by
  have e8 : (a : Int) * 2 ^ (min (8 : Int).toNat (IntKind.bits .u16)) = ((a * 256 : Nat) : Int) := by
    show (a : Int) * 2 ^ 8 = _
    rw [Int.natCast_mul]; rfl
  rw [e8, wrap_u16 (n := ((a * 256 : Nat) : Int)) (by omega) (by omega)]
  have e : (BitVec.ofInt 16 ((a * 256 : Nat) : Int) ||| BitVec.ofInt 16 (c : Int)).toNat = a * 256 + c := by
    have h1 : (a * 256) % 2 ^ 16 = a * 256 := Nat.mod_eq_of_lt (by omega)
    have h2 : c % 2 ^ 16 = c := Nat.mod_eq_of_lt (by omega)
    rw [BitVec.toNat_or, BitVec.ofInt_natCast, BitVec.ofInt_natCast, BitVec.toNat_ofNat, BitVec.toNat_ofNat, h1, h2]
    have := Nat.shiftLeft_add_eq_or_of_lt (i := 8) (show c < 2 ^ 8 by omega) a
    rw [Nat.shiftLeft_eq] at this
    exact this.symm
  show IntKind.u16.wrap ((BitVec.ofInt 16 ((a * 256 : Nat) : Int) ||| BitVec.ofInt 16 (c : Int)).toNat : Int) = _
  rw [e, wrap_u16 (by omega) (by omega)]
theorem or64 {a c : Nat} (ha : a < 256) (hc : c < 256) : IntKind.i64.wrap ((BitVec.ofInt (IntKind.bits .i64) (IntKind.i64.wrap ((a : Int) * 2 ^ (min (8 : Int).toNat (IntKind.bits .i64)))) ||| BitVec.ofInt (IntKind.bits .i64) (c : Int)).toNat : Int) = ((a * 256 + c : Nat) : Int) := by
  have e8 : (a : Int) * 2 ^ (min (8 : Int).toNat (IntKind.bits .i64)) = ((a * 256 : Nat) : Int) := by
    show (a : Int) * 2 ^ 8 = _
    rw [Int.natCast_mul]; rfl
  rw [e8, wrap_i64 (n := ((a * 256 : Nat) : Int)) (by omega) (by omega)]
  have e : (BitVec.ofInt 64 ((a * 256 : Nat) : Int) ||| BitVec.ofInt 64 (c : Int)).toNat = a * 256 + c := by
    have h1 : (a * 256) % 2 ^ 64 = a * 256 := Nat.mod_eq_of_lt (by omega)
    have h2 : c % 2 ^ 64 = c := Nat.mod_eq_of_lt (by omega)
    rw [BitVec.toNat_or, BitVec.ofInt_natCast, BitVec.ofInt_natCast, BitVec.toNat_ofNat, BitVec.toNat_ofNat, h1, h2]
    have := Nat.shiftLeft_add_eq_or_of_lt (i := 8) (show c < 2 ^ 8 by omega) a
    rw [Nat.shiftLeft_eq] at this
    exact this.symm
  show IntKind.i64.wrap ((BitVec.ofInt 64 ((a * 256 : Nat) : Int) ||| BitVec.ofInt 64 (c : Int)).toNat : Int) = _
  rw [e, wrap_i64 (by omega) (by omega)]

theorem store29 {A : AW} {t kd xa no : Nat} {x : Nm} {sv : Value} {zs : List Value} {K : AW → Prop} (ht : Go.Abs.Row1 A t zs 29) (hz : zs.length = 7) (hs : oneCell sv = true) (hf : Fine A) (hA : A.next ≤ maxId)
    (hk : ∀ A', Go.Abs.Row1 A' t (letC kd xa no x sv) 29 → Keeps A A' [t] → A'.next = A.next → Fine A' → K A') : effW (storeP Tryz.prog A 29 (.pointer (some ⟨t, 0, none⟩)) (letV kd xa no x sv)) K := by
  refine ht.store hf hA (st_29 _ _ _) rfl (by rw [hz]; exact Nat.le_refl 7) (by simp [letV, letC, Value.cells, one_int, one_string, hs]) fun A3 t3 k3 n3 f3 => ?_
  have e : setL zs 0 (Value.cells (letV kd xa no x sv)).toList = letC kd xa no x sv := by
    match zs, hz with
    | [z0, z1, z2, z3, z4, z5, z6], _ => rfl
  rw [e] at t3
  exact hk A3 t3 k3 n3 f3

section
variable {W0 : World} {m0 : Inj Tryz.prog}
theorem freshW_29 {A : AW} {b : Nat} {p : Prop} (h : A.get b = some (.row [.int .u8 0, .int .u32 0, .string .empty, .string .empty, .int .u8 0, .int .u16 0, .slice none 0 0] 29 b 0 false)) (hp : p) : freshW (freshOf Tryz.prog (fun _ => undef) (.alloc 29)) A (.pointer (some ⟨b, 0, none⟩)) p := by
  refine ⟨⟨_, fresh29, ?_⟩, hp⟩
  simp only [stillFresh, rowHas, h, sameL, Bool.true_and, Nat.beq_refl]
  rfl
theorem freshW_27 {q : Nm} {A : AW} {b : Nat} {p : Prop} (h : A.get b = some (.row q.cells 24 b 0 false)) (hp : p) : freshW (freshOf Tryz.prog (evalT (Tm.fill ⟨1, .nil⟩ 0 [.agg ⟨q.cells⟩])) (.buildSlice 27 1 #[(0, .tmp 0)])) A (.slice (some ⟨b, 0, none⟩) 1 1) p := by
  refine ⟨⟨_, fresh27' q, ?_⟩, hp⟩
  simp only [stillFresh, rowHas, h, Nm.cells, sameL, same_int, same_string, Bool.and_self, Option.isNone_none, Bool.true_and, Nat.beq_refl]

theorem wc29 {A : AW} {q : Nat} {v : Value} {l : List UInt8} {F : List Nat} {K : Value → AW → Prop} (hq : Go.Abs.Row1 A q [v] 44) (h : RdS 5 A v l F) (hqF : q ∉ F) (hf : Fine A) (hA : A.next + 80 < maxId) (hl : l.length < 1000000)
    (hk : ∀ A' v', Go.Abs.Row1 A' q [v'] 44 → RdS 5 A' v' (l.drop (xgK l)) F → Keeps A A' [q] → A'.next ≤ A.next + 45 → Fine A' → K (.agg ⟨(xgX l).cells⟩) A') : Wc Tryz.prog theX W0 m0 29 [.pointer (some ⟨q, 0, none⟩)] A K := by
  have hqlt := hq.lt
  have hFlt := h.rd.lt
  have one := h.rd.one
  refine w29 _ _ (cuts_none (S := fun _ _ _ => False) fun _ _ _ h => h) ?_
  rw [e29]
  refine allocP_made zero24 hf (by omega) rfl fun A1 m1 => ?_
  have n1 := m1.next
  have q1 := hq.keeps (m1.keeps hf) (by simp)
  have h1 := h.keeps (m1.keeps hf) (by simp)
  have T1 : Go.Abs.Row1 A1 A.next [.int .u32 0, .string .empty, .string .empty] 24 := m1.row1
  simp only [ld_44, cell_row q1.row, cellOf, one.2, cond_false, pureW_some]
  refine wc30 h1 m1.fine (by omega) hl fun A2 g2 => ?_
  have n2 := g2.next
  have l2 := g2.le
  have q2 := q1.keeps g2.keeps (by simp)
  have h2 := h1.keeps g2.keeps (by simp)
  have T2 := T1.keeps g2.keeps (by simp)
  simp only [ex3_0, ex3_1, ex3_2, pureW_some]
  refine allocP_made zero24 g2.fine (by omega) rfl fun A3 m3 => ?_
  have n3 := m3.next
  refine store24 (p := xgX l) m3.row1 rfl m3.fine (by omega) fun A4 X4 k4 n4 f4 => ?_
  have q4 := (q2.keeps (m3.keeps g2.fine) (by simp)).keeps k4 (by simp; omega)
  have h4 := (h2.keeps (m3.keeps g2.fine) (by simp)).keeps k4 (fun y hy => by have := hFlt y hy; simp; omega)
  have T4 := (T2.keeps (m3.keeps g2.fine) (by simp)).keeps k4 (by simp; omega)
  obtain ⟨v5, hv5, s5⟩ := h4.from tb (xgK_le l)
  simp only [cell_row q4.row, cellOf, one.2, cond_false, pureW_some, hv5]
  have one5 := s5.rd.one
  obtain ⟨o5, c5, hx⟩ := s5.rd.slice
  refine q4.store f4 (by omega) (st_44 _ _ _) (by rw [hx]; rfl) (by simp) (by rw [hx]; rfl) fun A5 q5 k5 n5 f5 => ?_
  have q5 : Go.Abs.Row1 A5 q [v5] 44 := by rw [hx] at q5 ⊢; exact q5
  have X5 := X4.keeps k5 (by simp; omega)
  have T5 := T4.keeps k5 (by simp; omega)
  have s5' := s5.keeps k5 (fun y hy => by simp; intro h0; subst h0; exact hqF hy)
  rw [load24 X5]
  simp only [pureW_some]
  refine store24 (p := xgX l) T5 rfl f5 (by omega) fun A6 T6 k6 n6 f6 => ?_
  rw [load24 T6]
  simp only [pureW_some]
  refine hk A6 v5 (q5.keeps k6 (by simp; omega)) (s5'.keeps k6 (fun y hy => by have := hFlt y hy; simp; omega)) ?_ (by omega) f6
  have g3 : Keeps A A3 [q] := (((Grow.made m1 hf).trans g2).trans (.made m3 g2.fine)).keeps.more (by simp)
  exact ((g3.trans k4 (by simp; omega)).trans k5 (fun x hx => .inl hx)).trans k6 (by simp)

noncomputable def tail11 (W0 : World) (m0 : Inj Tryz.prog) (Q : Value → AW → Prop) (d0 d2 d6 : Value) (A : AW) : Prop := pureW (loadP Tryz.prog A 29 d6) fun t72 => Wc Tryz.prog theX W0 m0 8 [t72] A fun t73 At73 => pureW (extractP t73 0) fun t74 => pureW (extractP t73 1) fun t75 => pureW (binA Tryz.prog .neq 31 (.tmp 111) (.const (.int .i64 0)) t75 (.int .i64 0)) fun t76 => forkW t76 (pureW (buildA Tryz.prog 29 []) fun t77 => effW (storeP Tryz.prog At73 29 d2 t77) fun At78 => pureW (loadP Tryz.prog At78 29 d2) fun t79 => Q (.tuple ⟨[t79, (.int .i64 250)]⟩) At78) (pureW (binA Tryz.prog .neq 9 (.tmp 114) (.tmp 115) t74 d0) fun t80 => forkW t80 (pureW (buildA Tryz.prog 29 []) fun t81 => effW (storeP Tryz.prog At73 29 d2 t81) fun At82 => pureW (loadP Tryz.prog At82 29 d2) fun t83 => Q (.tuple ⟨[t83, (.int .i64 250)]⟩) At82) (pureW (loadP Tryz.prog At73 29 d6) fun t84 => effW (storeP Tryz.prog At73 29 d2 t84) fun At85 => pureW (loadP Tryz.prog At85 29 d2) fun t86 => Q (.tuple ⟨[t86, (.int .i64 0)]⟩) At85))
theorem zeroTail {A : AW} {t : Nat} {zs : List Value} {Q : Value → AW → Prop} (ht : Go.Abs.Row1 A t zs 29) (hz : zs.length = 7) (hf : Fine A) (hA : A.next ≤ maxId) (hk : ∀ A', Keeps A A' [t] → A'.next = A.next → Fine A' → Q (.tuple ⟨[let0, .int .i64 250]⟩) A') :
    pureW (buildA Tryz.prog 29 []) fun t77 => effW (storeP Tryz.prog A 29 (.pointer (some ⟨t, 0, none⟩)) t77) fun At78 => pureW (loadP Tryz.prog At78 29 (.pointer (some ⟨t, 0, none⟩))) fun t79 => Q (.tuple ⟨[t79, (.int .i64 250)]⟩) At78 := by
  rw [ba29']
  simp only [pureW_some]
  refine store29 (kd := 0) (xa := 0) (no := 0) (x := x0) (sv := .slice none 0 0) ht hz rfl hf hA fun A' t' k n f => ?_
  rw [letW_load t' rfl]
  simp only [pureW_some]
  exact hk A' k n f
theorem tail11_ok {A : AW} {s : ByteArray} {t q kd xa no : Nat} {x : Nm} {sv : Value} {l : List Nm} {F : List Nat} {zs : List Value} {Q : Value → AW → Prop} (hkd : kd < 256) (hxa : xa < 256) (hn0 : no < 65536) (hxf : x.f < 4294967296) (hlf : ∀ p ∈ l, p.f < 4294967296)
    (hf : Fine A) (hg0 : Glb A) (hA : A.next + 40000 < maxId) (ht : Go.Abs.Row1 A t zs 29) (hz : zs.length = 7) (hq : Go.Abs.Row1 A q (letC kd xa no x sv) 29) (hl : RdN A sv l F) (htq : t ≠ q) (htF : t ∉ F)
    (hok : lchk kd xa no x l = 0 → lput kd xa no x l = s.data.toList → ∀ A', Keeps A A' [t] → A'.next ≤ A.next + 20000 → Fine A' → RdN A' sv l F → Q (.tuple ⟨[letV kd xa no x sv, .int .i64 0]⟩) A')
    (hno : ¬ (lchk kd xa no x l = 0 ∧ lput kd xa no x l = s.data.toList) → ∀ A', Keeps A A' [t] → A'.next ≤ A.next + 20000 → Fine A' → Q (.tuple ⟨[let0, .int .i64 250]⟩) A') :
    tail11 W0 m0 Q (.string s) (.pointer (some ⟨t, 0, none⟩)) (.pointer (some ⟨q, 0, none⟩)) A := by
  unfold tail11
  rw [letW_load hq hl.one.2]
  simp only [pureW_some]
  refine wc8 hkd hxa hn0 hxf hlf hf hg0 (by omega) hl fun A1 g1 => ?_
  have n1 := g1.next
  have t1 := ht.keeps g1.keeps (by simp)
  have q1 := hq.keeps g1.keeps (by simp)
  have l1 := hl.keeps g1.keeps (by simp)
  have K1 : Keeps A A1 [t] := g1.keeps.more (by simp)
  have one := hl.one
  simp only [ex_0, ex_1, pureW_some, bin_neq, bin_strneq, forkW_bne]
  refine ⟨fun he => zeroTail t1 hz g1.fine (by omega) fun A2 k2 n2 f2 => hno (fun h => he h.1) A2 (K1.trans k2 (fun y hy => .inl hy)) (by omega) f2, fun he => ?_⟩
  refine forkW_bool.2 ⟨fun hb => zeroTail t1 hz g1.fine (by omega) fun A2 k2 n2 f2 => hno (fun h => ?_) A2 (K1.trans k2 (fun y hy => .inl hy)) (by omega) f2, fun hb => ?_⟩
  · rw [h.2] at hb
    simp at hb
  · have hs : lput kd xa no x l = s.data.toList := by simpa using hb
    rw [letW_load q1 one.2]
    simp only [pureW_some]
    refine store29 t1 hz one.1 g1.fine (by omega) fun A2 t2 k2 n2 f2 => ?_
    rw [letW_load t2 one.2]
    simp only [pureW_some]
    exact hok he hs A2 (K1.trans k2 (fun y hy => .inl hy)) (by omega) f2 (l1.keeps k2 (fun y hy => by simp; intro h0; subst h0; exact htF hy))
end
end Go.Proofs.YtjiglbmjhecobaaGreatDoor
