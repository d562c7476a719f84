/-
  Show: by the program, and by the document. Conditions: those of each theorem.
-/
import Derived.Test.YtebidlpekphaoaaGreatDoorShG
import Derived.Test.YtebidlpekphaoaaGreatDoorShU

namespace Go.Proofs.YtebidlpekphaoaaGreatDoor
open Go.Abs
/-- what is shown for a name -/
def nmX (p : Nm) : ByteArray := ⟨⟨if isNo p = true then [45] else if okX p = true then textX p else [63]⟩⟩
theorem textX_ne (p : Nm) : textX p ≠ [] := by
  unfold textX
  intro h
  have := congrArg List.length h
  simp at this
theorem nmX_len (p : Nm) (h : p.f < 4294967296) : (bl (nmX p)).length ≤ 400 := by
  show (if isNo p = true then [45] else if okX p = true then textX p else [63]).length ≤ 400
  have h20 := dec_le20 (n := p.f) (by omega)
  have hl1 := hexL_len (bl p.g)
  have hl2 := hexL_len (bl p.b)
  split
  · decide
  split
  · rename_i ho
    have ho : 1 ≤ (bl p.g).length ∧ (bl p.g).length ≤ 64 ∧ (bl p.b).length ≤ 64 := of_decide_eq_true ho
    unfold textX
    simp only [List.length_append, List.length_cons, List.length_nil]
    omega
  · decide
section
variable {W0 : World} {m0 : Inj Tryz.prog}
set_option maxRecDepth 100000 in
theorem wc18 {c : Td} {A : AW} {K : Value → AW → Prop} (hp : Pow W0) (hc : c.Ok) (hf : Fine A) (hA : A.next + 1200000 < maxId) (hk : ∀ A', Grow A A' 1100000 → K (.string ⟨⟨joinT (c.words (nmX c.p))⟩⟩) A') : Wc Tryz.prog theX W0 m0 18 [.agg ⟨c.cells⟩] A K := by
  refine w18 _ _ (cuts_none (S := fun _ _ _ => False) fun _ _ _ h => h) ?_
  rw [e18]
  refine newP_made (cs := c.cells) hf (by omega) c.all1 fun A1 m1 => ?_
  have n1 := m1.next
  have f3 : fieldAddrA Tryz.prog 65 (.pointer (some ⟨A.next, 0, none⟩)) 3 = some (.pointer (some ⟨A.next, 3, none⟩)) := fa_65_3 _ 0
  refine pureW_of f3 (pureW_of (loadX m1.row1) (pureW_of zeroX (pureW_of (neqX _ _ _) (forkW_bool.2 ⟨fun h => ?_, fun h => ?_⟩))))
  · have h : isNo c.p = false := by cases hi : isNo c.p with
      | false => rfl
      | true => rw [hi] at h; cases h
    refine pureW_of f3 (pureW_of (loadX m1.row1) ?_)
    refine wc44 hp hc.p m1.fine (by omega) fun A2 g2 => ?_
    have n2 := g2.next
    refine pureW_of bin_streq (forkW_bool.2 ⟨fun h2 => ?_, fun h2 => ?_⟩)
    · refine tail18_ok (c := c) (x := ⟨⟨[63]⟩⟩) hp hc (by decide) (m1.row1.keeps g2.keeps (by simp)) g2.fine (by omega) fun A3 g3 => ?_
      have hk := hk A3 ((((Grow.made m1 hf).trans g2).trans g3).more (by omega))
      have h3 : okX c.p = false := by
        cases ho : okX c.p with
        | false => rfl
        | true =>
          simp only [tx, ho, if_true, beq_iff_eq] at h2
          exact absurd h2 (textX_ne _)
      unfold nmX at hk
      rw [h, h3] at hk
      exact hk
    · have h3 : okX c.p = true := by
        cases ho : okX c.p with
        | true => rfl
        | false =>
          simp [tx, ho] at h2
      have e : nmX c.p = tx c.p := by
        unfold nmX tx
        rw [h, h3]
        rfl
      rw [← e]
      refine tail18_ok (c := c) hp hc (nmX_len _ hc.p) (m1.row1.keeps g2.keeps (by simp)) g2.fine (by omega) fun A3 g3 => ?_
      exact hk A3 ((((Grow.made m1 hf).trans g2).trans g3).more (by omega))
  · have h : isNo c.p = true := by cases hi : isNo c.p with
      | true => rfl
      | false => rw [hi] at h; cases h
    refine tail18_ok (c := c) (x := ⟨⟨[45]⟩⟩) hp hc (by decide) m1.row1 m1.fine (by omega) fun A3 g3 => ?_
    have hk := hk A3 (((Grow.made m1 hf).trans g3).more (by omega))
    unfold nmX at hk
    rw [h] at hk
    exact hk
set_option maxRecDepth 100000 in
theorem wc19 {c : Td} {A : AW} {K : Value → AW → Prop} (hp : Pow W0) (hc : c.Ok) (hf : Fine A) (hA : A.next + 1200000 < maxId) (hk : ∀ A', Grow A A' 1100000 → K (.string ⟨⟨joinT (c.words (nmX c.p))⟩⟩) A') : Wc Tryz.prog theX W0 m0 19 [.agg ⟨c.cells⟩] A K := by
  refine w19 _ _ (cuts_none (S := fun _ _ _ => False) fun _ _ _ h => h) ?_
  rw [e19]
  refine newP_made (cs := c.cells) hf (by omega) c.all1 fun A1 m1 => ?_
  have n1 := m1.next
  have f3 : fieldAddrA Tryz.prog 65 (.pointer (some ⟨A.next, 0, none⟩)) 3 = some (.pointer (some ⟨A.next, 3, none⟩)) := fa_65_3 _ 0
  refine pureW_of f3 (pureW_of (loadX m1.row1) (pureW_of zeroX (pureW_of (neqX _ _ _) (forkW_bool.2 ⟨fun h => ?_, fun h => ?_⟩))))
  · have h : isNo c.p = false := by cases hi : isNo c.p with
      | false => rfl
      | true => rw [hi] at h; cases h
    refine pureW_of f3 (pureW_of (loadX m1.row1) ?_)
    refine wc33 hc.p m1.fine (by omega) fun A2 g2 => ?_
    have n2 := g2.next
    refine pureW_of ext2_0 (pureW_of ext2_1 ?_)
    refine wc34 ?_
    have e : (if okX c.p = true then Value.string (tx c.p) else Value.string ⟨⟨[63]⟩⟩) = .string (nmX c.p) := by
      unfold nmX tx
      rw [h]
      cases okX c.p <;> rfl
    rw [e]
    refine tail19_ok (c := c) hp hc (nmX_len _ hc.p) (m1.row1.keeps g2.keeps (by simp)) g2.fine (by omega) fun A3 g3 => ?_
    exact hk A3 ((((Grow.made m1 hf).trans g2).trans g3).more (by omega))
  · have h : isNo c.p = true := by cases hi : isNo c.p with
      | true => rfl
      | false => rw [hi] at h; cases h
    refine tail19_ok (c := c) (x := ⟨⟨[45]⟩⟩) hp hc (by decide) m1.row1 m1.fine (by omega) fun A3 g3 => ?_
    have hk := hk A3 (((Grow.made m1 hf).trans g3).more (by omega))
    unfold nmX at hk
    rw [h] at hk
    exact hk
end
end Go.Proofs.YtebidlpekphaoaaGreatDoor


namespace Go.Proofs.YtebidlpekphaoaaGreatDoor
open Go.Abs
theorem ld_65 (A : AW) (a : Addr) : loadP Tryz.prog A 65 (.pointer (some a)) = (match A.cells? a 25 with | some l => some (.agg ⟨l⟩) | none => none) := by kernel_rfl
theorem load65 {c : Td} {A : AW} {b : Nat} {e : TypeId} (h : Go.Abs.Row1 A b c.cells e) : loadP Tryz.prog A 65 (.pointer (some ⟨b, 0, none⟩)) = some (.agg ⟨c.cells⟩) := by
  rw [ld_65, cells_row h.row]; rfl
theorem lawL {c : Td} {A : AW} {b : Nat} {e : TypeId} (h : Go.Abs.Row1 A b c.cells e) : loadP Tryz.prog A 9 (.pointer (some ⟨b, 24, none⟩)) = some (.string c.s) ∧ loadP Tryz.prog A 9 (.pointer (some ⟨b, 23, none⟩)) = some (.string c.body) ∧ loadP Tryz.prog A 9 (.pointer (some ⟨b, 11, none⟩)) = some (.string c.tag) ∧ loadP Tryz.prog A 9 (.pointer (some ⟨b, 12, none⟩)) = some (.string c.que) ∧ loadP Tryz.prog A 9 (.pointer (some ⟨b, 17, none⟩)) = some (.string c.id) := by
  refine ⟨?_, ?_, ?_, ?_, ?_⟩
  · rw [ld_9, cell_row h.row]; rfl
  · rw [ld_9, cell_row h.row]; rfl
  · rw [ld_9, cell_row h.row]; rfl
  · rw [ld_9, cell_row h.row]; rfl
  · rw [ld_9, cell_row h.row]; rfl
/-- what is known of a Told that a caller hands over -/
structure Td.Ok0 (c : Td) : Prop where
  e : I64 c.e
  xa : c.xa < 256
  n : I64 c.n
  f : c.p.f < 4294967296
  lim : c.lim < 18446744073709551616
  rdy : I64 c.rdy
  hld : I64 c.hld
  sub : I64 c.sub
  ses : c.ses < 18446744073709551616
  rid : c.rid < 18446744073709551616
section
variable {W0 : World} {m0 : Inj Tryz.prog}
theorem head_kn (hhd : KC.Holds Tryz.prog W0 m0 ⟨7, [], [.bool true]⟩) (A' : AW) {K : Value → AW → Prop} (hk : K (.bool true) A') : knW Tryz.prog W0 m0 7 [] A' K := .inl ⟨[.bool true], by decide, hhd, rfl, fun v hv => by
  obtain rfl : v = .bool true := by simpa using hv
  exact hk⟩
set_option maxRecDepth 100000 in
theorem wc6 {c : Td} {A : AW} (hp : Pow W0) (hhd : KC.Holds Tryz.prog W0 m0 ⟨7, [], [.bool true]⟩) (hc : c.Ok0) (hf : Fine A) (hA : A.next + 3000000 < maxId) : Wc Tryz.prog theX W0 m0 6 [.agg ⟨c.cells⟩] A fun r _ => r = .bool true := by
  refine w6 _ _ (cuts_none (S := fun _ _ _ => False) fun _ _ _ h => h) ?_
  rw [e6]
  refine newP_made (cs := c.cells) hf (by omega) c.all1 fun A1 m1 => ?_
  have n1 := m1.next
  have f6 : fieldAddrA Tryz.prog 65 (.pointer (some ⟨A.next, 0, none⟩)) 6 = some (.pointer (some ⟨A.next, 24, none⟩)) := fa_65_6 _ 0
  have f5 : fieldAddrA Tryz.prog 65 (.pointer (some ⟨A.next, 0, none⟩)) 5 = some (.pointer (some ⟨A.next, 10, none⟩)) := fa_65_5 _ 0
  have g4 : fieldAddrA Tryz.prog 63 (.pointer (some ⟨A.next, 10, none⟩)) 4 = some (.pointer (some ⟨A.next, 23, none⟩)) := fa_63_4 _ 10
  have g1 : fieldAddrA Tryz.prog 63 (.pointer (some ⟨A.next, 10, none⟩)) 1 = some (.pointer (some ⟨A.next, 11, none⟩)) := fa_63_1 _ 10
  have g2 : fieldAddrA Tryz.prog 63 (.pointer (some ⟨A.next, 10, none⟩)) 2 = some (.pointer (some ⟨A.next, 12, none⟩)) := fa_63_2 _ 10
  have g3 : fieldAddrA Tryz.prog 63 (.pointer (some ⟨A.next, 10, none⟩)) 3 = some (.pointer (some ⟨A.next, 14, none⟩)) := fa_63_3 _ 10
  have g20 : fieldAddrA Tryz.prog 54 (.pointer (some ⟨A.next, 12, none⟩)) 0 = some (.pointer (some ⟨A.next, 12, none⟩)) := fa_54_0 _ 12
  have g33 : fieldAddrA Tryz.prog 61 (.pointer (some ⟨A.next, 14, none⟩)) 3 = some (.pointer (some ⟨A.next, 17, none⟩)) := fa_61_3 _ 14
  obtain ⟨ls, lb, lt, lq, li⟩ := lawL m1.row1
  refine pureW_of f6 (pureW_of ls (pureW_of (ln_9 _ _) (pureW_of bin_gtr (forkW_dec.2 ⟨fun _ => head_kn hhd _ rfl, fun h1 => ?_⟩))))
  refine pureW_of f5 (pureW_of g4 (pureW_of lb (pureW_of (ln_9 _ _) (pureW_of bin_gtr (forkW_dec.2 ⟨fun _ => head_kn hhd _ rfl, fun h2 => ?_⟩)))))
  refine pureW_of f5 (pureW_of g1 (pureW_of lt (pureW_of (ln_9 _ _) (pureW_of bin_gtr (forkW_dec.2 ⟨fun _ => head_kn hhd _ rfl, fun h3 => ?_⟩)))))
  refine pureW_of f5 (pureW_of g2 (pureW_of g20 (pureW_of lq (pureW_of (ln_9 _ _) (pureW_of bin_gtr (forkW_dec.2 ⟨fun _ => head_kn hhd _ rfl, fun h4 => ?_⟩))))))
  refine pureW_of f5 (pureW_of g3 (pureW_of g33 (pureW_of li (pureW_of (ln_9 _ _) (pureW_of bin_gtr (forkW_dec.2 ⟨fun _ => head_kn hhd _ rfl, fun h5 => ?_⟩))))))
  have hok : c.Ok := ⟨hc.e, hc.xa, hc.n, hc.f, hc.lim, hc.rdy, hc.hld, hc.sub, hc.ses, by omega, by omega, hc.rid, by omega, by omega, by omega⟩
  refine pureW_of (load65 m1.row1) (pureW_of (load65 m1.row1) ?_)
  refine wc18 hp hok m1.fine (by omega) fun A2 g2 => ?_
  have n2 := g2.next
  refine ck (load65 (m1.row1.keeps g2.keeps (by simp))) ?_
  refine wc19 hp hok g2.fine (by omega) fun A3 g3 => ?_
  refine pureW_of bin_streq (forkW_bool.2 ⟨fun _ => head_kn hhd _ rfl, fun h => ?_⟩)
  simp at h
end
end Go.Proofs.YtebidlpekphaoaaGreatDoor
