/-
  Which letters may be: the program's look. Conditions: those of the theorem.
-/
import Derived.Test.YtjiglbmjhecobaaGreatDoorPutsC
import Derived.Test.YtjiglbmjhecobaaGreatDoorPutsB

namespace Go.Proofs.YtjiglbmjhecobaaGreatDoor
open Go.Abs
theorem ex_0 (a b : Value) : extractP (.tuple ⟨[a, b]⟩) 0 = some a := rfl
theorem ex_1 (a b : Value) : extractP (.tuple ⟨[a, b]⟩) 1 = some b := rfl
section
variable {W0 : World} {m0 : Inj Tryz.prog}
theorem nms_ni (l : List Nm) : nmsOk l = decide (ni l = 1) := by
  unfold ni
  cases h : nmsOk l <;> simp
set_option maxRecDepth 100000 in
set_option maxHeartbeats 8000000 in
theorem wc10 {kd xa no : Nat} {x : Nm} {sv : Value} {l : List Nm} {F : List Nat} {A : AW} {K : Value → AW → Prop} (hkd : kd < 256) (hf : Fine A) (hA : A.next + 10000 < maxId) (hl : RdN A sv l F)
    (hk : ∀ A', Grow A A' 5000 → K (.int .i64 (lchk kd xa no x l)) A') : Wc Tryz.prog theX W0 m0 10 [letV kd xa no x sv] A K := by
  have hF := hl.fam
  have hno : ∀ A', Grow A A' 5000 → ¬ Lok kd xa no (zi x) (xchk x.g x.b) (ni l) l.length → K (.int .i64 250) A' := fun A' g h => by have := hk A' g; rw [lchk_no h] at this; exact this
  have hyes : ∀ A', Grow A A' 5000 → Lok kd xa no (zi x) (xchk x.g x.b) (ni l) l.length → K (.int .i64 0) A' := fun A' g h => by have := hk A' g; rw [lchk_ok h] at this; exact this
  refine w10 _ _ (cuts_none (S := fun _ _ _ => False) fun _ _ _ h => h) ?_
  rw [e10]; unfold qe10_2 qe10_1 qe10_0
  refine newP_made (cs := (Value.cells (letV kd xa no x sv)).toList) hf (by omega) (by simp [letV, letC, Value.cells, one_int, one_string, hl.one.1]) fun A1 m1 => ?_
  have n1 := m1.next
  have r1 : Go.Abs.Row1 A1 A.next (letC kd xa no x sv) 29 := m1.row1
  have hl1 := hl.keeps (m1.keeps hf) (by simp)
  have g1 := Grow.made m1 hf
  have ht : A1.cells? ⟨A.next, 1, none⟩ 3 = some [.int .u32 (x.f : Int), .string x.g, .string x.b] := by rw [cells_row r1.row]; rfl
  have hz := zneq x
  unfold Nm.cells at hz
  have hn1 : ∀ h : ¬ Lok kd xa no (zi x) (xchk x.g x.b) (ni l) l.length, K (.int .i64 250) A1 := hno A1 (g1.more (by omega))
  simp only [fa_29_0, ld_5, cell_row r1.row, letC, cellOf, isT_int, isT_string, hl.one.2, cond_false, pureW_some, Nat.zero_add]
  refine wc20 hkd fun k an hka => ?_
  rcases hka with ⟨rfl, hk0, hkk⟩ | ⟨rfl, hk0, hk1, hk2⟩ | ⟨rfl, hk0, hk1, hk2⟩
  all_goals simp only [ex_0, ex_1, fa_29_0, fa_29_1, fa_29_2, fa_29_3, fa_29_4, ld_5, ld_24, ld_25, ld_26, ld_27, ht, cell_row r1.row, letC, cellOf, isT_int, isT_string, hl.one.2, cond_false, hl1.len, bin_eql, bin_geq, bin_leq, bin_lss, bin_gtr, bin_neq, un_not, ba24, hz, pureW_some, forkW_dec, forkW_beq, forkW_bne, forkW_bool, Nat.zero_add, Bool.not_true, Bool.not_false, Bool.not_eq_true', Bool.not_eq_false', decide_eq_true_eq, decide_eq_false_iff_not, beq_iff_eq, beq_eq_false_iff_ne, bne_iff_ne, bne_eq_false_iff_eq, ne_eq, Bool.false_eq_true, Bool.true_eq_false, reduceCtorEq, false_implies, implies_true, forall_const, true_and, and_true]
  all_goals repeat' (first | intro _ | with_reducible apply And.intro)
  all_goals first
    | exact hn1 (by unfold Lok; omega)
    | (refine wc27 hl1 m1.fine (by omega) fun A3 g3 => ?_
       have g03 := g1.trans g3
       simp only [nms_ni, un_not, pureW_some, forkW_bool, Bool.not_eq_true', Bool.not_eq_false', decide_eq_true_eq, decide_eq_false_iff_not]
       exact ⟨fun _ => hno A3 (g03.more (by omega)) (by unfold Lok; omega), fun _ => hyes A3 (g03.more (by omega)) (by unfold Lok; omega)⟩)
    | (refine wc26 (f := (x.f : Int)) (g := x.g) (b := x.b) m1.fine (by omega) fun A2 g2 => ?_
       have n2 := g2.next
       have r2 := r1.keeps g2.keeps (by simp)
       have hl2 := hl1.keeps g2.keeps (by simp)
       have g02 := g1.trans g2
       have hn2 : ∀ h : ¬ Lok kd xa no (zi x) (xchk x.g x.b) (ni l) l.length, K (.int .i64 250) A2 := hno A2 (g02.more (by omega))
       simp only [fa_29_0, fa_29_1, fa_29_2, fa_29_3, fa_29_4, ld_5, ld_24, ld_25, ld_26, ld_27, cell_row r2.row, letC, cellOf, isT_int, isT_string, hl.one.2, cond_false, hl2.len, bin_eql, bin_geq, bin_leq, bin_lss, bin_gtr, bin_neq, un_not, ba24, hz, pureW_some, forkW_dec, forkW_beq, forkW_bne, forkW_bool, Nat.zero_add, Bool.not_true, Bool.not_false, Bool.not_eq_true', Bool.not_eq_false', decide_eq_true_eq, decide_eq_false_iff_not, beq_iff_eq, beq_eq_false_iff_ne, bne_iff_ne, bne_eq_false_iff_eq, ne_eq, Bool.false_eq_true, Bool.true_eq_false, reduceCtorEq, false_implies, implies_true, forall_const, true_and, and_true]
       repeat' (first | intro _ | with_reducible apply And.intro)
       all_goals first
         | exact hn2 (by unfold Lok; omega)
         | (refine wc27 hl2 g2.fine (by omega) fun A3 g3 => ?_
            have g03 := g02.trans g3
            simp only [nms_ni, un_not, pureW_some, forkW_bool, Bool.not_eq_true', Bool.not_eq_false', decide_eq_true_eq, decide_eq_false_iff_not]
            exact ⟨fun _ => hno A3 (g03.more (by omega)) (by unfold Lok; omega), fun _ => hyes A3 (g03.more (by omega)) (by unfold Lok; omega)⟩))
end
end Go.Proofs.YtjiglbmjhecobaaGreatDoor


namespace Go.Proofs.YtjiglbmjhecobaaGreatDoor
open Go.Abs Go.Crc

def nb (p : Nm) : List UInt8 := xb p.f p.g p.b
def lbody (l : List Nm) : List UInt8 := (l.map nb).flatten
def lhead (kd xa no : Nat) : List UInt8 := [UInt8.ofNat kd, UInt8.ofNat xa] ++ be no 2
def lmid (kd : Nat) (x : Nm) : List UInt8 := if kd = 5 ∨ kd = 21 then [] else nb x
def ltail (kd : Nat) (l : List Nm) : List UInt8 := if kd = 21 then be l.length 2 ++ lbody l else []
def lbytes (kd xa no : Nat) (x : Nm) (l : List Nm) : List UInt8 := lhead kd xa no ++ lmid kd x ++ ltail kd l
noncomputable def lput (kd xa no : Nat) (x : Nm) (l : List Nm) : List UInt8 := @ite _ (Lok kd xa no (zi x) (xchk x.g x.b) (ni l) l.length) (Classical.propDecidable _) (sealT (lbytes kd xa no x l)) []
theorem lput_ok {kd xa no : Nat} {x : Nm} {l : List Nm} (h : Lok kd xa no (zi x) (xchk x.g x.b) (ni l) l.length) : lput kd xa no x l = sealT (lbytes kd xa no x l) := if_pos h
theorem lput_no {kd xa no : Nat} {x : Nm} {l : List Nm} (h : ¬ Lok kd xa no (zi x) (xchk x.g x.b) (ni l) l.length) : lput kd xa no x l = [] := if_neg h
theorem nb_length {p : Nm} (h : xchk p.g p.b = 0) : (nb p).length ≤ 134 := by
  obtain ⟨h1, h2, h3⟩ := xchk_zero h
  unfold nb xb
  rw [List.length_append, List.length_append, be_length, tx_length, tx_length]
  omega
theorem lbody_length : ∀ {l : List Nm}, (∀ p ∈ l, xchk p.g p.b = 0) → (lbody l).length ≤ 134 * l.length
  | [], _ => by simp [lbody]
  | p :: l, h => by
    have h1 := nb_length (h p (by simp))
    have h2 := lbody_length (l := l) fun q hq => h q (by simp [hq])
    unfold lbody at *
    simp only [List.map_cons, List.flatten_cons, List.length_append, List.length_cons]
    omega
theorem lbody_succ {l : List Nm} {i : Nat} {p : Nm} (h : l[i]? = some p) : lbody (l.take (i + 1)) = lbody (l.take i) ++ nb p := by
  unfold lbody
  rw [List.take_add_one, h]
  simp
theorem lhead_length (kd xa no : Nat) : (lhead kd xa no).length = 4 := by simp [lhead, be_length]
theorem byteN {n : Nat} (h : n < 256) : (n : Int) = ((UInt8.ofNat n).toNat : Int) := by rw [ofNat_u8]; omega
theorem letW_load {A : AW} {t kd xa no : Nat} {x : Nm} {sv : Value} (h : Go.Abs.Row1 A t (letC kd xa no x sv) 29) (hs : isTuple sv = false) : loadP Tryz.prog A 29 (.pointer (some ⟨t, 0, none⟩)) = some (letV kd xa no x sv) := by
  rw [ld_29, cells_row h.row]
  simp only [letC, List.drop_zero]
  unfold takeCells takeCells takeCells takeCells takeCells takeCells takeCells takeCells
  simp only [isT_int, isT_string, hs, cond_false]
  rfl
def noSpot (a : Option Addr) : Prop := ∀ x, a = some x → x.spot = none
theorem same_sl {m : Nat} {a : Option Addr} (h : noSpot a) (n c : Nat) : sameV (m + 1) (.slice a n c) (.slice a n c) = true := by
  cases a with
  | none => simp [sameV]
  | some a => simp [sameV, Go.Abs.sameAddr, h a rfl]
theorem buf_spot {A : AW} {v : Value} {l : List UInt8} {F : List Nat} (h : Buf 5 A v l F) : ∃ a n c, v = .slice a n c ∧ noSpot a := by
  rcases h with ⟨rfl, _, _⟩ | ⟨b, f, rfl, _, _⟩ | ⟨b, c, pad, rfl, _⟩
  · exact ⟨_, _, _, rfl, fun x h => by cases h⟩
  · exact ⟨_, _, _, rfl, fun x h => by cases h; rfl⟩
  · exact ⟨_, _, _, rfl, fun x h => by cases h; rfl⟩

section
variable {W0 : World} {m0 : Inj Tryz.prog}
theorem bslice2 {A : AW} {a b : Int} {K : Value → AW → Prop} (hf : Fine A) (h : A.next < maxId) (hk : ∀ A', Made A A' [.int .u8 a, .int .u8 b] 5 → K (.slice (some ⟨A.next, 0, none⟩) 2 2) A') : bothW (buildSliceA Tryz.prog A 44 2 [(0, .int .u8 a), (1, .int .u8 b)]) K := by
  rw [bs44_2]
  unfold AW.newRow AW.new
  have hc : ([Value.int .u8 a, .int .u8 b].all oneCell) = true := rfl
  simp only [hc, cond_true, blt_true.2 h]
  exact bothW_ok.2 (hk (A.push (.row [.int .u8 a, .int .u8 b] 5 A.next 0 false)) ⟨AW.push_ext _ h, rfl, by rw [AW.push_get _ h, if_pos rfl], hf.alone (Nat.le_refl _), hf.push _ h⟩)
theorem freshW_2 {a b : Int} {A : AW} {q : Nat} {p : Prop} (h : A.get q = some (.row [.int .u8 a, .int .u8 b] 5 q 0 false)) (hp : p) : freshW (freshOf Tryz.prog (evalT (Tm.fill ⟨2, .nil⟩ 0 [.int .u8 a, .int .u8 b])) (.buildSlice 44 2 #[(0, .tmp 0), (1, .tmp 1)])) A (.slice (some ⟨q, 0, none⟩) 2 2) p := by
  refine ⟨⟨_, fresh44_2 a b, ?_⟩, hp⟩
  simp only [stillFresh, rowHas, h, sameL, same_int, Bool.and_self, Option.isNone_none, Bool.true_and, Nat.beq_refl]
theorem buf2 {A : AW} {q : Nat} {a b : UInt8} (h : Go.Abs.Row1 A q [.int .u8 a.toNat, .int .u8 b.toNat] 5) : Buf 5 A (.slice (some ⟨q, 0, none⟩) 2 2) [a, b] [q] :=
  .inr (.inr ⟨q, 2, [], rfl, by decide, by simpa [bytesV] using h, rfl, rfl, rfl⟩)
theorem bslice154 {A : AW} {a b : Option Addr} {n1 c1 n2 c2 : Nat} {K : Value → AW → Prop} (hf : Fine A) (h : A.next < maxId) (hk : ∀ A', Made A A' [.slice a n1 c1, .slice b n2 c2] 44 → K (.slice (some ⟨A.next, 0, none⟩) 2 2) A') : bothW (buildSliceA Tryz.prog A 154 2 [(0, .slice a n1 c1), (1, .slice b n2 c2)]) K := by
  rw [bs154]
  unfold AW.newRow AW.new
  have hc : ([Value.slice a n1 c1, .slice b n2 c2].all oneCell) = true := rfl
  simp only [hc, cond_true, blt_true.2 h]
  exact bothW_ok.2 (hk (A.push (.row [.slice a n1 c1, .slice b n2 c2] 44 A.next 0 false)) ⟨AW.push_ext _ h, rfl, by rw [AW.push_get _ h, if_pos rfl], hf.alone (Nat.le_refl _), hf.push _ h⟩)
theorem freshW_154 {a b : Option Addr} {n1 c1 n2 c2 : Nat} {A : AW} {q : Nat} {p : Prop} (ha : noSpot a) (hb : noSpot b) (h : A.get q = some (.row [.slice a n1 c1, .slice b n2 c2] 44 q 0 false)) (hp : p) : freshW (freshOf Tryz.prog (evalT (Tm.fill ⟨2, .nil⟩ 0 [.slice a n1 c1, .slice b n2 c2])) (.buildSlice 154 2 #[(0, .tmp 0), (1, .tmp 1)])) A (.slice (some ⟨q, 0, none⟩) 2 2) p := by
  refine ⟨⟨_, fresh154 a b n1 c1 n2 c2, ?_⟩, hp⟩
  simp only [stillFresh, rowHas, h, sameL, same_sl ha, same_sl hb, Bool.and_self, Option.isNone_none, Bool.true_and, Nat.beq_refl]
theorem join2 {v1 v2 : Value} {l1 l2 : List UInt8} {F1 F2 : List Nat} {A : AW} {K : Value → AW → Prop} (h1 : RdB A v1 l1 F1) (h2 : RdB A v2 l2 F2) (hf : Fine A) (hA : A.next + 20 < maxId) (hr : l1.length + l2.length < 1000000) (hp : 0 < l1.length)
    (hk : ∀ A' v F, Grow A A' 4 → Buf 5 A' v (l1 ++ l2) F → (∀ x ∈ F, A.next ≤ x) → K v A') : bothW (buildSliceA Tryz.prog A 154 2 [(0, v1), (1, v2)]) fun t A1 => Wc Tryz.prog theX W0 m0 18 [t] A1 K := by
  obtain ⟨a, c1, rfl⟩ := h1.slice
  obtain ⟨b, c2, rfl⟩ := h2.slice
  refine bslice154 hf (by omega) fun A1 m1 => ?_
  have n1 := m1.next
  have k1 := m1.keeps hf
  refine wc18 m1.row1 (h1.keeps k1 (by simp)) (h2.keeps k1 (by simp)) m1.fine (by omega) hr hp fun A2 v F g2 b2 hF => ?_
  exact hk A2 v F (((Grow.made m1 hf).trans g2).more (by omega)) b2 fun x hx => by have := hF x hx; omega
end
end Go.Proofs.YtjiglbmjhecobaaGreatDoor
