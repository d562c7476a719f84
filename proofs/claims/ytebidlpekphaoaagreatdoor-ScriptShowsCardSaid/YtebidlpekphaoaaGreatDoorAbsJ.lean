/-
  Bytes put behind one another in a row with room, whatever stood in the room. Conditions: those of each theorem.
-/
import Derived.Test.YtebidlpekphaoaaGreatDoorAbsI

namespace Go.Abs
section
variable {P : Program} {tb ts tst : TypeId}
/-- a row with room for c bytes -/
structure BufP (tb : TypeId) (A : AW) (v : Value) (l : List UInt8) (c b : Nat) : Prop where
  val : v = .slice (some ⟨b, 0, none⟩) l.length (capU + c)
  room : c < room
  row : ∃ pad, Row1 A b (bytesV l ++ pad) tb ∧ l.length + pad.length = c
theorem BufP.keeps {A A' : AW} {v : Value} {l : List UInt8} {c b : Nat} {S : List Nat} (h : BufP tb A v l c b) (k : Keeps A A' S) (hd : b ∉ S) : BufP tb A' v l c b := by
  obtain ⟨h1, h2, pad, h3, h4⟩ := h
  exact ⟨h1, h2, pad, h3.keeps k hd, h4⟩
theorem BufP.lt {A : AW} {v : Value} {l : List UInt8} {c b : Nat} (h : BufP tb A v l c b) : b < A.next := by
  obtain ⟨_, _, pad, h3, _⟩ := h
  exact h3.lt
/-- what is full may be appended to as any other -/
theorem BufP.buf {A : AW} {v : Value} {l : List UInt8} {c b : Nat} (h : BufP tb A v l c b) (hl : l.length = c) (h0 : 0 < c) : Buf tb A v l [b] := by
  obtain ⟨rfl, h2, pad, h3, h4⟩ := h
  have hp : pad = [] := List.eq_nil_of_length_eq_zero (by omega)
  subst hp
  subst hl
  rw [List.append_nil] at h3
  refine .inr (.inl ⟨b, b, rfl, ⟨h0, h3.row, by rw [bytesV_length, Nat.mul_one], Nat.zero_le _, Nat.zero_le _, h3.lt, fun i hi => ?_⟩, rfl⟩)
  rw [h3.mem] at hi
  obtain rfl : i = b := by simpa using hi
  exact ⟨Nat.zero_le _, h3.lt, _, _, _, _, h3.row⟩
theorem appendP {A : AW} {t2 : TypeId} {v x : Value} {l new : List UInt8} {c b : Nat} {K : Value → AW → Prop} (T : BT P tb ts tst) (h : BufP tb A v l c b) (hx : sourceZ P A tb t2 1 x = some (new.length, bytesV new)) (hf : Fine A) (hA : A.next ≤ maxId) (hfit : l.length + new.length ≤ c)
    (hk : ∀ A' v', BufP tb A' v' (l ++ new) c b → Keeps A A' [b] → A'.next = A.next → Fine A' → K v' A') : bothW (appendA P A ts t2 v x) K := by
  have hc := h.room
  have hroom : (Nat.blt (l.length + new.length) Go.Abs.room && Nat.blt ((l.length + new.length) * 1) Go.Abs.room && hasZero P tb 1) = true := by rw [Nat.mul_one, blt_true.2 (by omega), T.hz]; rfl
  obtain ⟨rfl, h2, pad, h3, h4⟩ := h
  have hlt := h3.lt
  rcases Nat.eq_zero_or_pos new.length with h0 | hpos
  · have hnew : new = [] := List.eq_nil_of_length_eq_zero h0
    subst hnew
    have e : appendA P A ts t2 (.slice (some ⟨b, 0, none⟩) l.length (capU + c)) x = .ok (.slice (some ⟨b, 0, none⟩) l.length (capU + c)) A := by
      unfold appendA
      simp only [T.sl, T.sz, T.by_, hx]
      rw [hroom]
      rfl
    rw [e]
    refine bothW_ok.2 (hk A _ ⟨by rw [List.append_nil], h2, pad, by rw [List.append_nil]; exact h3, by rw [List.append_nil]; exact h4⟩ (.refl _ _) rfl hf)
  · obtain ⟨m, hm⟩ : ∃ m, new.length = m + 1 := ⟨new.length - 1, by omega⟩
    obtain ⟨A', h1, w⟩ := setCells_own (new := bytesV new) (off := l.length) h3.row h3.mem (by rw [List.length_append, bytesV_length, bytesV_length]; omega) (bytesV_one new) (by omega)
    have e : appendA P A ts t2 (.slice (some ⟨b, 0, none⟩) l.length (capU + c)) x = .ok (.slice (some ⟨b, 0, none⟩) (l.length + new.length) (capU + c)) A' := by
      rw [hm] at hx hroom
      rw [hm]
      exact appendA_in T hx hroom (ble_true.2 (Nat.le_add_right _ _)) (ble_true.2 (by rw [Nat.add_sub_cancel_left, ← hm]; exact hfit)) h1
    rw [e]
    have hcs : setL (bytesV l ++ pad) l.length (bytesV new) = bytesV (l ++ new) ++ pad.drop new.length := by
      have hp : pad = pad.take new.length ++ pad.drop new.length := (List.take_append_drop _ _).symm
      conv => lhs; rw [hp]
      have hl2 : l.length = (bytesV l).length := (bytesV_length l).symm
      conv => lhs; arg 2; rw [hl2]
      rw [setL_mid (bytesV l) (pad.take new.length) (bytesV new) (pad.drop new.length) (by rw [List.length_take, bytesV_length]; omega), bytesV_append, List.append_assoc]
    refine bothW_ok.2 (hk A' _ ⟨by rw [List.length_append], h2, pad.drop new.length, ?_, by rw [List.length_append, List.length_drop]; omega⟩ (w.keeps h3.row) w.next (w.fine hf h3.row))
    rw [← hcs]
    exact ⟨w.row, by rw [w.mem]; exact h3.mem, by rw [w.next]; exact h3.lt⟩
end
end Go.Abs


namespace Go.Abs
/-- a name -/
structure Nm where
  f : Nat
  g : ByteArray
  b : ByteArray
def Nm.cells (p : Nm) : List Value := [.int .u32 (p.f : Int), .string p.g, .string p.b]
theorem ba_eq {a b : ByteArray} (h : a.data.toList = b.data.toList) : a = b := by
  obtain ⟨⟨x⟩⟩ := a
  obtain ⟨⟨y⟩⟩ := b
  have h : x = y := h
  rw [h]
end Go.Abs
