/-
  Frames that a cut gives are gathered to what was cut; what is gathered may be cut. Conditions: those of each theorem.
-/
import Derived.Test.YteiiledpfhopdaaFeedsD

namespace Go.Proofs.Yteiiledpfhopdaa
open Go Go.Abs

def fitO (o : Option Fr) (f : Fr) : Bool :=
  if 1 < f.tr then false else
  match o with
  | none => f.first && (f.beg && (f.ty == f.tr && (f.tr == 1 || f.last)))
  | some x => if !x.fin then !f.beg && (f.ty == x.ty && (f.first == x.first && f.last == x.last)) else f.beg && (!f.first && decide (x.ty < f.ty))
theorem fitsR_eq (ls : List Fr) (f : Fr) : fitsR ls f = fitO ls.getLast? f := rfl
def Chain : Option Fr → List Fr → Prop
  | _, [] => True
  | o, f :: r => fitO o f = true ∧ Chain (some f) r
theorem chain_append : ∀ (a : List Fr) (o : Option Fr) (b : List Fr), Chain o (a ++ b) ↔ Chain o a ∧ Chain (a.getLast?.or o) b
  | [], o, b => by simp [Chain]
  | x :: r, o, b => by
    have := chain_append r (some x) b
    simp only [List.cons_append, Chain, this, and_assoc]
    have e : (x :: r).getLast?.or o = r.getLast?.or (some x) := by
      cases hr : r.getLast? with
      | none => rw [List.getLast?_eq_none_iff] at hr; subst hr; rfl
      | some y => rw [List.getLast?_cons, hr]; rfl
    rw [e]
theorem chain_at {F : List Fr} (h : Chain none F) {k : Nat} {f : Fr} (hk : F[k]? = some f) : fitsR (F.take k) f = true := by
  have hs : F = F.take k ++ (f :: F.drop (k + 1)) := by
    have hd : F.drop k = f :: F.drop (k + 1) := by
      obtain ⟨h1, rfl⟩ := List.getElem?_eq_some_iff.1 hk
      exact List.drop_eq_getElem_cons h1
    rw [← hd, List.take_append_drop]
  rw [hs] at h
  have := ((chain_append _ _ _).1 h).2.1
  rw [fitsR_eq]
  simpa using this

theorem catB_empty (s : ByteArray) : catB ByteArray.empty s = s := by
  unfold catB
  have : (ByteArray.empty.data.toList) = [] := rfl
  rw [this, List.nil_append]
theorem slen_mk (l : List UInt8) : slen ⟨⟨l⟩⟩ = l.length := rfl
theorem catB_mk (p : ByteArray) (a b : List UInt8) : catB (catB p ⟨⟨a⟩⟩) ⟨⟨b⟩⟩ = catB p ⟨⟨a ++ b⟩⟩ := by simp [catB]

theorem segFr_facts {first last : Bool} {ty tr ch : Int} {m : Nat} (hm : 0 < m) (htr : tr ≤ 1) : ∀ (n : Nat) (beg : Bool) (l : List UInt8), l.length = n →
    (∀ x ∈ segFr first last ty tr ch m beg l, x.ty = ty ∧ x.tr = tr ∧ x.ch = ch ∧ x.first = first ∧ x.last = last ∧ slen x.pay ≤ m) ∧
    (∃ init z, segFr first last ty tr ch m beg l = init ++ [z] ∧ z.fin = true ∧ ∀ x ∈ init, x.fin = false) ∧ sumPay (segFr first last ty tr ch m beg l) = l.length ∧
    (∃ f r, segFr first last ty tr ch m beg l = f :: r ∧ f.beg = beg ∧ Chain (some f) r) ∧
    (∀ segs p, (segFr first last ty tr ch m beg l).foldl asmStep (if beg then segs else segs ++ [⟨ty, p⟩]) = segs ++ [⟨ty, catB (if beg then ByteArray.empty else p) ⟨⟨l⟩⟩⟩]) := by
  intro n
  induction n using Nat.strongRecOn with
  | _ n ih =>
    intro beg l hl
    have step : ∀ (b fin : Bool) (s : List UInt8) (segs : List Seg) (p : ByteArray), asmStep (if b then segs else segs ++ [⟨ty, p⟩]) ⟨first, last, b, fin, ty, tr, ch, ⟨⟨s⟩⟩⟩ = segs ++ [⟨ty, catB (if b then ByteArray.empty else p) ⟨⟨s⟩⟩⟩] := by
      intro b fin s segs p
      unfold asmStep begS
      cases b <;> simp [addLast_append]
    rcases Nat.lt_or_ge m l.length with h | h
    · have hd : (l.drop m).length < n := by simp; omega
      obtain ⟨i1, ⟨init, z, i2, i3, i4⟩, i5, ⟨f, r, i6, i7, i8⟩, i9⟩ := ih _ hd false (l.drop m) rfl
      rw [segFr_more h hm]
      refine ⟨fun x hx => ?_, ⟨⟨first, last, beg, false, ty, tr, ch, ⟨⟨l.take m⟩⟩⟩ :: init, z, by rw [i2]; rfl, i3, fun x hx => ?_⟩, ?_, ⟨_, _, rfl, rfl, ?_⟩, fun segs p => ?_⟩
      · rcases List.mem_cons.1 hx with rfl | hx
        · exact ⟨rfl, rfl, rfl, rfl, rfl, by rw [slen_mk]; simp; omega⟩
        · exact i1 x hx
      · rcases List.mem_cons.1 hx with rfl | hx
        · rfl
        · exact i4 x hx
      · have : sumPay (⟨first, last, beg, false, ty, tr, ch, ⟨⟨l.take m⟩⟩⟩ :: segFr first last ty tr ch m false (l.drop m)) = slen ⟨⟨l.take m⟩⟩ + sumPay (segFr first last ty tr ch m false (l.drop m)) := by simp [sumPay]
        rw [this, i5, slen_mk]
        simp
        omega
      · rw [i6]
        refine ⟨?_, i8⟩
        obtain ⟨g1, g2, _, g4, g5, _⟩ := i1 f (by rw [i6]; simp)
        unfold fitO
        rw [if_neg (by omega)]
        simp [i7, g1, g4, g5]
      · rw [List.foldl_cons, step, show (segs ++ [(⟨ty, catB (if beg = true then ByteArray.empty else p) ⟨⟨l.take m⟩⟩⟩ : Seg)]) = (if false = true then segs else segs ++ [⟨ty, catB (if beg = true then ByteArray.empty else p) ⟨⟨l.take m⟩⟩⟩]) from rfl, i9]
        simp only [Bool.false_eq_true, if_false]
        rw [catB_mk, List.take_append_drop]
    · rw [segFr_one h]
      refine ⟨fun x hx => ?_, ⟨[], _, rfl, rfl, by simp⟩, by simp [sumPay, slen_mk], ⟨_, [], rfl, rfl, trivial⟩, fun segs p => ?_⟩
      · obtain rfl := List.mem_singleton.1 hx
        exact ⟨rfl, rfl, rfl, rfl, rfl, h⟩
      · simp only [List.foldl_cons, List.foldl_nil, step]

theorem shape_tr {tr : Int} {l : List Seg} (h : shape tr l = true) : (tr = 0 ∨ tr = 1) ∧ tyAt l 0 = tr ∧ (tr = 0 → l.length = 1) ∧ 0 < l.length ∧ l.length ≤ 3 := by
  unfold shape at h
  simp only [Bool.or_eq_true, Bool.and_eq_true, beq_iff_eq] at h
  omega
theorem cutTo_facts {l : List Seg} {tr ch : Int} {m : Nat} (hm : 0 < m) (hs : shape tr l = true) : ∀ i, i ≤ l.length →
    (∀ x ∈ cutTo l tr ch m i, x.tr = tr ∧ x.ch = ch ∧ slen x.pay ≤ m ∧ 0 ≤ x.ty ∧ x.ty ≤ 3) ∧ Chain none (cutTo l tr ch m i) ∧
    (0 < i → ∃ init z, cutTo l tr ch m i = init ++ [z] ∧ z.fin = true ∧ z.ty = tyAt l (i - 1) ∧ z.last = (i == l.length) ∧ ∀ x ∈ init, (x.fin && x.last) = false) ∧
    asm (cutTo l tr ch m i) = l.take i ∧ sumPay (cutTo l tr ch m i) = total (l.take i)
  | 0, _ => ⟨by simp [cutTo], trivial, fun h => absurd h (Nat.lt_irrefl _), rfl, rfl⟩
  | i + 1, hi => by
    obtain ⟨h1, h2, h3, h4, h5⟩ := cutTo_facts (l := l) (tr := tr) (ch := ch) hm hs i (by omega)
    obtain ⟨s, hx⟩ : ∃ s, l[i]? = some s := ⟨l[i], List.getElem?_eq_getElem (by omega)⟩
    obtain ⟨t1, t2, t3, t4, t5⟩ := shape_tr hs
    have hr := shape_rises hs (i + 1) i s (by omega) hx
    have hpos : 0 ≤ s.ty := by
      rcases Nat.eq_zero_or_pos i with rfl | hp
      · have : tyAt l 0 = s.ty := by unfold tyAt; rw [hx]
        omega
      · obtain ⟨p, hp2⟩ : ∃ p, l[i - 1]? = some p := ⟨l[i - 1], List.getElem?_eq_getElem (by omega)⟩
        have a := hr.2 p hp hp2
        have hr0 := shape_rises hs i
        -- types rise from the first
        have key : ∀ j q, j < i → l[j]? = some q → 0 ≤ q.ty := by
          intro j
          induction j with
          | zero => intro q _ hq; have : tyAt l 0 = q.ty := by unfold tyAt; rw [hq]
                    omega
          | succ j ihj =>
            intro q hj hq
            obtain ⟨w, hw⟩ : ∃ w, l[j]? = some w := ⟨l[j], List.getElem?_eq_getElem (by omega)⟩
            have b := (hr0 (j + 1) q hj hq).2 w (by omega) (by simpa using hw)
            have := ihj w (by omega) hw
            omega
        have := key (i - 1) p (by omega) hp2
        omega
    obtain ⟨g1, ⟨init, z, g2, g3, g4⟩, g5, ⟨f, r, g6, g7, g8⟩, g9⟩ := segFr_facts (first := i == 0) (last := i + 1 == l.length) (ty := s.ty) (tr := tr) (ch := ch) hm (by omega) _ true s.pay.data.toList rfl
    have hseg : segAt l tr ch m i = segFr (i == 0) (i + 1 == l.length) s.ty tr ch m true s.pay.data.toList := by unfold segAt; rw [hx]
    simp only [cutTo, hseg]
    have htk : l.take (i + 1) = l.take i ++ [s] := by rw [List.take_add_one, hx]; rfl
    refine ⟨fun x hx2 => ?_, ?_, fun _ => ?_, ?_, ?_⟩
    · rcases List.mem_append.1 hx2 with hx2 | hx2
      · exact h1 x hx2
      · obtain ⟨a1, a2, a3, _, _, a6⟩ := g1 x hx2
        exact ⟨a2, a3, a6, by omega, by omega⟩
    · rw [chain_append]
      refine ⟨h2, ?_⟩
      rw [g6]
      refine ⟨?_, g8⟩
      obtain ⟨a1, a2, _, a4, a5, _⟩ := g1 f (by rw [g6]; simp)
      rcases Nat.eq_zero_or_pos i with rfl | hp
      · have : tyAt l 0 = s.ty := by unfold tyAt; rw [hx]
        have hlast : tr = 0 → f.last = true := fun h0 => by rw [a5, t3 h0]; rfl
        simp only [cutTo, List.getLast?_nil, Option.none_or]
        unfold fitO
        have htr : ¬ 1 < f.tr := by clear h3 g9; rw [a2]; omega
        rw [if_neg htr]
        have hst : s.ty = tr := this.symm.trans t2
        rcases t1 with h0 | h0
        · simp [a4, g7, a1, a2, hlast h0, hst]
        · simp [a4, g7, a1, a2, hst, h0]
      · obtain ⟨ini, z0, e1, e2, e3, e4, _⟩ := h3 hp
        rw [e1, List.getLast?_append]
        simp only [List.getLast?_singleton, Option.some_or]
        unfold fitO
        rw [if_neg (by omega)]
        obtain ⟨p, hp2⟩ : ∃ p, l[i - 1]? = some p := ⟨l[i - 1], List.getElem?_eq_getElem (by omega)⟩
        have a := hr.2 p hp hp2
        have hz : z0.ty = p.ty := by rw [e3]; unfold tyAt; rw [hp2]
        have : (i == 0) = false := by simp; omega
        simp [e2, g7, a4, this, hz, a1]
        omega
    · rw [g2]
      have hz : z ∈ segFr (i == 0) (i + 1 == l.length) s.ty tr ch m true s.pay.data.toList := by rw [g2]; simp
      obtain ⟨a1, _, _, _, a5, _⟩ := g1 z hz
      refine ⟨cutTo l tr ch m i ++ init, z, by rw [List.append_assoc], g3, ?_, a5, fun x hx2 => ?_⟩
      · rw [a1]; unfold tyAt; rw [Nat.add_sub_cancel, hx]
      · rcases List.mem_append.1 hx2 with hx2 | hx2
        · rcases Nat.eq_zero_or_pos i with rfl | hp
          · simp [cutTo] at hx2
          · obtain ⟨ini, z0, e1, e2, e3, e4, e5⟩ := h3 hp
            rw [e1] at hx2
            rcases List.mem_append.1 hx2 with hx2 | hx2
            · exact e5 x hx2
            · obtain rfl := List.mem_singleton.1 hx2
              rw [e4]
              have : (i == l.length) = false := by simp; omega
              rw [this]; simp
        · rw [g4 x hx2]; rfl
    · unfold asm at h4 ⊢
      rw [List.foldl_append, h4]
      have := g9 (l.take i) ByteArray.empty
      simp only [if_true] at this
      rw [this, htk, catB_empty]
    · rw [sumPay_append, h5, g5, htk, total_append]
      simp [total, slen]

theorem cut_final {l : List Seg} {tr ch : Int} {m : Nat} (hc : chk tr l = 0) (hm : 0 < m) (hm2 : m ≤ 4084) (hch : 0 ≤ ch ∧ ch < 65536) :
    cutTo l tr ch m l.length ≠ [] ∧ asm (cutTo l tr ch m l.length) = l ∧ sumPay (cutTo l tr ch m l.length) = total l ∧ total l ≤ 16384 ∧
    ∀ k f, (cutTo l tr ch m l.length)[k]? = some f → f.ok = true ∧ keyOf f = (ch, tr) ∧ fitsR ((cutTo l tr ch m l.length).take k) f = true ∧ (f.fin && f.last) = decide (k + 1 = (cutTo l tr ch m l.length).length) ∧ f.wf ∧ slen f.pay ≤ 4084 ∧ f.ch = ch ∧ f.tr = tr := by
  unfold chk at hc
  split at hc
  case isFalse => cases hc
  rename_i hh
  obtain ⟨ht, hs⟩ := hh
  obtain ⟨t1, t2, t3, t4, t5⟩ := shape_tr hs
  obtain ⟨h1, h2, h3, h4, h5⟩ := cutTo_facts (l := l) (tr := tr) (ch := ch) hm hs l.length (Nat.le_refl _)
  obtain ⟨init, z, e1, e2, e3, e4, e5⟩ := h3 t4
  rw [List.take_length] at h4 h5
  refine ⟨by rw [e1]; simp, h4, h5, ht, fun k f hk => ?_⟩
  obtain ⟨a1, a2, a3, a4, a5⟩ := h1 f (List.mem_of_getElem? hk)
  refine ⟨?_, by unfold keyOf; rw [a1, a2], chain_at h2 hk, ?_, ⟨a4, by omega, by omega, by omega, by omega, by omega⟩, by omega, a2, a1⟩
  · unfold Fr.ok
    simp
    omega
  · have hl : (cutTo l tr ch m l.length).length = init.length + 1 := by rw [e1]; simp
    rw [hl]
    rw [e1] at hk
    rcases Nat.lt_or_ge k init.length with h | h
    · rw [List.getElem?_append_left h] at hk
      rw [e5 f (List.mem_of_getElem? hk)]
      simp; omega
    · rw [List.getElem?_append_right h] at hk
      have hk0 : k - init.length = 0 := by
        have := (List.getElem?_eq_some_iff.1 hk).1
        simp at this; omega
      rw [hk0] at hk
      simp only [List.getElem?_cons_zero, Option.some.injEq] at hk
      subst hk
      rw [e2, e4]
      simp; omega

/-- what is fed of a cut -/
theorem feed_cut {l : List Seg} {tr ch : Int} {m : Nat} (hc : chk tr l = 0) (hm : 0 < m) (hm2 : m ≤ 4084) (hch : 0 ≤ ch ∧ ch < 65536) {R : GR} (hd : R.dead = false) {k : Nat} {f : Fr} (hk : (cutTo l tr ch m l.length)[k]? = some f)
    (ho : opK R.L (ch, tr) = (cutTo l tr ch m l.length).take k) : feedR R f = if k + 1 = (cutTo l tr ch m l.length).length then (⟨rests (R.L ++ [f]) f, false⟩, ⟨ch, tr, l, true, 0⟩) else (⟨R.L ++ [f], false⟩, rNo 0) := by
  obtain ⟨h0, h1, h2, h3, h4⟩ := cut_final hc hm hm2 hch
  obtain ⟨a1, a2, a3, a4, a5, a6, a7, a8⟩ := h4 k f hk
  have hop : opens R.L f = (cutTo l tr ch m l.length).take k := by rw [opens_eq, a2, ho]
  have hsnoc : (cutTo l tr ch m l.length).take (k + 1) = (cutTo l tr ch m l.length).take k ++ [f] := by rw [List.take_add_one, hk]; rfl
  have hsum : slen f.pay + sumPay ((cutTo l tr ch m l.length).take k) ≤ 16384 := by
    have e := sumPay_snoc hk
    have := sumPay_take (cutTo l tr ch m l.length) (k + 1)
    omega
  unfold feedR
  rw [hd, a1, hop, a3, a4]
  simp only [Bool.false_eq_true, if_false, Bool.not_true, decide_eq_true_eq]
  rw [if_neg (by omega)]
  split
  · rename_i hl
    have : (cutTo l tr ch m l.length).take k ++ [f] = cutTo l tr ch m l.length := by rw [← hsnoc, hl, List.take_length]
    rw [this, h1, a7, a8]
    rfl
  · rfl
end Go.Proofs.Yteiiledpfhopdaa

namespace Go.Proofs.Yteiiledpfhopdaa
open Go Go.Abs

/-! what is gathered may be -/
def tys (l : List Seg) : List Int := l.map Seg.ty
theorem tys_append (a b : List Seg) : tys (a ++ b) = tys a ++ tys b := List.map_append
theorem tys_addLast (s : ByteArray) : ∀ l : List Seg, tys (addLast l s) = tys l
  | [] => rfl
  | [x] => rfl
  | x :: y :: r => by
    have := tys_addLast s (y :: r)
    show x.ty :: tys (addLast (y :: r) s) = x.ty :: tys (y :: r)
    rw [this]
theorem tys_step (segs : List Seg) (f : Fr) : tys (asmStep segs f) = if f.beg then tys segs ++ [f.ty] else tys segs := by
  unfold asmStep begS
  rw [tys_addLast]
  cases f.beg
  · rfl
  · simp [tys_append]; rfl

theorem shape_of {tr : Int} {l : List Seg} (ht : tr = 0 ∨ tr = 1) (h0 : (tys l).head? = some tr) (hp : (tys l).Pairwise (· < ·)) (h3 : ∀ t ∈ tys l, t ≤ 3) (h1 : tr = 0 → l.length = 1) : shape tr l = true := by
  match l with
  | [] => simp [tys] at h0
  | [a] =>
    simp [tys] at h0
    rcases ht with rfl | rfl <;> simp [shape, tyAt, h0]
  | [a, b] =>
    simp [tys] at h0 hp h3 h1
    rcases ht with rfl | rfl
    · exact absurd rfl h1
    · simp [shape, tyAt, h0]; omega
  | [a, b, c] =>
    simp [tys] at h0 hp h3 h1
    rcases ht with rfl | rfl
    · exact absurd rfl h1
    · simp [shape, tyAt, h0]; omega
  | a :: b :: c :: e :: r =>
    simp [tys] at h0 hp h3 h1
    rcases ht with rfl | rfl
    · exact absurd rfl h1
    · omega

/-- what frames that fit one another make -/
theorem asm_chain {tr : Int} : ∀ (n : Nat) (ls : List Fr), ls.length = n → ls ≠ [] → Chain none ls → (∀ x ∈ ls, x.tr = tr ∧ x.ty ≤ 3) → (∀ x ∈ ls.dropLast, (x.fin && x.last) = false) →
    ∃ T z, tys (asm ls) = T ++ [z.ty] ∧ ls.getLast? = some z ∧ tr ≤ 1 ∧ (tys (asm ls)).head? = some tr ∧ (tys (asm ls)).Pairwise (· < ·) ∧ (∀ t ∈ tys (asm ls), t ≤ 3) ∧ (tr ≠ 1 → T = [] ∧ z.last = true) := by
  intro n
  induction n with
  | zero => intro ls h1 h2; exact absurd (List.eq_nil_of_length_eq_zero h1) h2
  | succ n ih =>
    intro ls hl hne hch hx hd
    obtain ⟨init, f, rfl⟩ := snoc_of_ne hne
    rw [List.dropLast_concat] at hd
    have hfx := hx f (by simp)
    obtain ⟨c1, c2⟩ := (chain_append _ _ _).1 hch
    have hfit : fitO init.getLast? f = true := by simpa using c2.1
    have htr : tr ≤ 1 := by
      unfold fitO at hfit
      split at hfit
      · cases hfit
      · have := hfx.1; omega
    have htr2 : ¬ 1 < f.tr := by rw [hfx.1]; omega
    rw [asm_snoc, tys_step]
    rcases List.eq_nil_or_concat init with rfl | ⟨ini, z, rfl⟩
    · simp only [List.getLast?_nil] at hfit
      unfold fitO at hfit
      rw [if_neg htr2] at hfit
      simp only [Bool.and_eq_true, Bool.or_eq_true, beq_iff_eq] at hfit
      obtain ⟨_, hb, hty, hl⟩ := hfit
      rw [hb]
      have : tys (asm []) = [] := rfl
      simp only [if_true, this, List.nil_append]
      refine ⟨[], f, rfl, rfl, htr, ?_, by simp, ?_, fun hne => ⟨rfl, ?_⟩⟩
      · rw [hty, hfx.1]; rfl
      · intro t ht; simp at ht; rw [ht]; exact hfx.2
      · rcases hl with h | h
        · exact absurd (by rw [← hfx.1]; exact h) hne
        · exact h
    · have hzl : (ini.concat z).length = n := by simp at hl ⊢; omega
      obtain ⟨T, z', t1, t2, t3, t4, t5, t6, t7⟩ := ih (ini.concat z) hzl (by simp) c1 (fun x hx2 => hx x (by simp at hx2 ⊢; rcases hx2 with h | h <;> simp [h])) (fun x hx2 => hd x (by
        have := List.dropLast_subset _ hx2
        exact this))
      have hz : z' = z := by simp at t2; exact t2.symm
      subst hz
      have hgl : (ini.concat z').getLast? = some z' := by simp
      rw [hgl] at hfit
      unfold fitO at hfit
      rw [if_neg htr2] at hfit
      have hz2 := hd z' (by simp)
      cases hfin : z'.fin with
      | false =>
        simp only [hfin, Bool.not_false, if_true, Bool.and_eq_true, Bool.not_eq_true', beq_iff_eq] at hfit
        obtain ⟨hb, hty, _, hl⟩ := hfit
        rw [hb]
        simp only [Bool.false_eq_true, if_false]
        exact ⟨T, f, by rw [t1, hty], by simp, htr, t4, t5, t6, fun h => ⟨(t7 h).1, by rw [hl]; exact (t7 h).2⟩⟩
      | true =>
        rw [hfin] at hz2
        simp only [hfin, Bool.not_true, Bool.false_eq_true, if_false, Bool.and_eq_true, decide_eq_true_eq] at hfit
        obtain ⟨hb, _, hty⟩ := hfit
        rw [hb]
        simp only [if_true]
        refine ⟨tys (asm (ini.concat z')), f, rfl, by simp, htr, ?_, ?_, fun t ht => ?_, fun h => ?_⟩
        · rw [List.head?_append, t4]; rfl
        · rw [List.pairwise_append]
          refine ⟨t5, by simp, fun a ha b hb2 => ?_⟩
          obtain rfl : b = f.ty := by simpa using hb2
          rw [t1] at ha t5
          rw [List.pairwise_append] at t5
          rcases List.mem_append.1 ha with ha | ha
          · have := t5.2.2 a ha z'.ty (by simp); omega
          · simp at ha; omega
        · rcases List.mem_append.1 ht with ht | ht
          · exact t6 t ht
          · simp at ht; rw [ht]; exact hfx.2
        · rw [(t7 h).2] at hz2; simp at hz2

theorem Fr.ok_ty {f : Fr} (h : f.ok = true) : f.ty ≤ 3 ∧ slen f.pay ≤ 4084 := by
  unfold Fr.ok at h
  simp only [Bool.and_eq_true, Bool.not_eq_true', decide_eq_false_iff_not] at h
  omega

/-- what holds of the document's gatherer, whatever it was fed -/
structure Good (R : GR) : Prop where
  chain : ∀ k, Chain none (opK R.L k)
  each : ∀ x ∈ R.L, x.ok = true ∧ x.wf ∧ (x.fin && x.last) = false
  dead : R.dead = true → R.L = []
theorem Good.empty {b : Bool} : Good ⟨[], b⟩ := ⟨fun _ => trivial, by simp, fun _ => rfl⟩
theorem mem_opK {L : List Fr} {k : Key} {x : Fr} (h : x ∈ opK L k) : x ∈ L ∧ keyOf x = k := by
  obtain ⟨h1, h2⟩ := List.mem_filter.1 h
  exact ⟨h1, of_decide_eq_true h2⟩
theorem good_step {R : GR} (h : Good R) {f : Fr} (hw : f.wf) : Good (feedR R f).1 ∧
    ((feedR R f).2.is = true → (feedR R f).2.e = 0 ∧ chk (feedR R f).2.tr (feedR R f).2.segs = 0 ∧ (feedR R f).2.tr = f.tr ∧ (feedR R f).2.ch = f.ch ∧ total (feedR R f).2.segs + sumPay (feedR R f).1.L = sumPay R.L + slen f.pay) ∧
    ((feedR R f).2.is = false → (feedR R f).2.segs = [] ∧ ((feedR R f).2.e ≠ 0 → (feedR R f).1.L = [])) := by
  unfold feedR
  split
  · rename_i hd
    exact ⟨h, fun h => Bool.noConfusion h, fun _ => ⟨rfl, fun _ => h.dead hd⟩⟩
  split
  · exact ⟨.empty, fun h => Bool.noConfusion h, fun _ => ⟨rfl, fun _ => rfl⟩⟩
  split
  · exact ⟨.empty, fun h => Bool.noConfusion h, fun _ => ⟨rfl, fun _ => rfl⟩⟩
  split
  · exact ⟨.empty, fun h => Bool.noConfusion h, fun _ => ⟨rfl, fun _ => rfl⟩⟩
  rename_i hd hok hfit hbig
  have hok : f.ok = true := by simpa using hok
  have hfit : fitsR (opens R.L f) f = true := by simpa using hfit
  rw [opens_eq] at hfit hbig
  have hchain : Chain none (opK R.L (keyOf f) ++ [f]) := by
    rw [chain_append]
    refine ⟨h.chain _, ?_, trivial⟩
    rw [fitsR_eq] at hfit
    simpa using hfit
  split
  · rename_i hfl
    refine ⟨⟨fun k => ?_, fun x hx => ?_, fun h => Bool.noConfusion h⟩, fun _ => ⟨rfl, ?_, rfl, rfl, ?_⟩, fun h => Bool.noConfusion h⟩
    · show Chain none (opK (rests (R.L ++ [f]) f) k)
      rw [opK_rests]
      split
      · trivial
      · rename_i hne
        rw [opK_snoc, if_neg (Ne.symm hne), List.append_nil]
        exact h.chain k
    · obtain ⟨h1, h2⟩ := List.mem_filter.1 hx
      rcases List.mem_append.1 h1 with h1 | h1
      · exact h.each x h1
      · obtain rfl := List.mem_singleton.1 h1
        rw [sameKey_eq] at h2
        simp at h2
    · show chk f.tr (asm (opens R.L f ++ [f])) = 0
      rw [opens_eq]
      have hx : ∀ x ∈ opK R.L (keyOf f) ++ [f], x.tr = f.tr ∧ x.ty ≤ 3 := by
        intro x hx
        rcases List.mem_append.1 hx with hx | hx
        · obtain ⟨h1, h2⟩ := mem_opK hx
          exact ⟨(Prod.ext_iff.1 h2).2, (Fr.ok_ty (h.each x h1).1).1⟩
        · obtain rfl := List.mem_singleton.1 hx
          exact ⟨rfl, (Fr.ok_ty hok).1⟩
      obtain ⟨T, z, t1, t2, t3, t4, t5, t6, t7⟩ := asm_chain _ _ rfl (by simp) hchain hx (fun x hx2 => by
        rw [List.dropLast_concat] at hx2
        exact (h.each x (mem_opK hx2).1).2.2)
      have hbeg : ∀ y, (opK R.L (keyOf f) ++ [f]).head? = some y → y.beg = true := by
        intro y hy
        have : fitO none y = true := by
          cases hl : opK R.L (keyOf f) ++ [f] with
          | nil => rw [hl] at hy; cases hy
          | cons a r =>
            rw [hl] at hy hchain
            simp only [List.head?_cons, Option.some.injEq] at hy
            subst hy
            exact hchain.1
        unfold fitO at this
        split at this
        · cases this
        · simp only [Bool.and_eq_true] at this; exact this.2.1
      obtain ⟨f1, _, _⟩ := asm_facts hbeg _ (Nat.le_refl _)
      rw [List.take_length] at f1
      have hs : sumPay (opK R.L (keyOf f) ++ [f]) = sumPay (opK R.L (keyOf f)) + slen f.pay := by rw [sumPay_append]; simp [sumPay]
      unfold chk
      rw [if_pos]
      refine ⟨by omega, shape_of ?_ t4 t5 t6 fun h0 => ?_⟩
      · have := hw.2.2.1; omega
      · have hT := (t7 (by omega)).1
        rw [hT] at t1
        have : (tys (asm (opK R.L (keyOf f) ++ [f]))).length = 1 := by rw [t1]; rfl
        simpa [tys] using this
    · show total (asm (opens R.L f ++ [f])) + sumPay (rests (R.L ++ [f]) f) = _
      have hbeg : ∀ y, (opens R.L f ++ [f]).head? = some y → y.beg = true := by
        rw [opens_eq]
        intro y hy
        have : fitO none y = true := by
          cases hl : opK R.L (keyOf f) ++ [f] with
          | nil => rw [hl] at hy; cases hy
          | cons a r =>
            rw [hl] at hy hchain
            simp only [List.head?_cons, Option.some.injEq] at hy
            subst hy
            exact hchain.1
        unfold fitO at this
        split at this
        · cases this
        · simp only [Bool.and_eq_true] at this; exact this.2.1
      obtain ⟨f1, _, _⟩ := asm_facts hbeg _ (Nat.le_refl _)
      rw [List.take_length] at f1
      rw [f1]
      have split : ∀ L : List Fr, sumPay (opens L f) + sumPay (rests L f) = sumPay L := by
        intro L
        induction L with
        | nil => rfl
        | cons x r ih =>
          unfold opens rests at *
          simp only [List.filter_cons]
          have e : ∀ l : List Fr, sumPay (x :: l) = slen x.pay + sumPay l := fun l => by simp [sumPay]
          cases sameKey f x <;> simp [e] <;> omega
      have e1 : opens (R.L ++ [f]) f = opens R.L f ++ [f] := by
        unfold opens
        rw [List.filter_append]
        congr 1
        simp [sameKey_eq]
      rw [← e1, split, sumPay_append]
      simp [sumPay]
  · rename_i hfl
    refine ⟨⟨fun k => ?_, fun x hx => ?_, fun h => Bool.noConfusion h⟩, fun h => Bool.noConfusion h, fun _ => ⟨rfl, fun h => absurd rfl h⟩⟩
    · show Chain none (opK (R.L ++ [f]) k)
      rw [opK_snoc]
      split
      · rename_i hk
        subst hk
        exact hchain
      · rw [List.append_nil]; exact h.chain k
    · rcases List.mem_append.1 hx with h1 | h1
      · exact h.each x h1
      · obtain rfl := List.mem_singleton.1 h1
        exact ⟨hok, hw, by simpa using hfl⟩
end Go.Proofs.Yteiiledpfhopdaa


namespace Go.Proofs.Yteiiledpfhopdaa
open Go Go.Abs

end Go.Proofs.Yteiiledpfhopdaa
namespace Go.Abs
theorem OwnAt.zero {lo : Nat} {A : AW} {e : TypeId} {size n : Nat} {cs : List Value} {b f : Nat} (h : OwnAt lo A e size n cs b f) : OwnAt 0 A e size n cs b f :=
  ⟨h.pos, h.row, h.len, Nat.zero_le _, Nat.zero_le _, h.ltf, fun i hi => ⟨Nat.zero_le _, (h.mem i hi).2⟩⟩
end Go.Abs
namespace Go.Proofs.Yteiiledpfhopdaa
open Go Go.Abs
theorem _root_.Go.Abs.OwnS.ownG {lo : Nat} {A : AW} {e : TypeId} {size : Nat} {v : Value} {n : Nat} {cs : List Value} (h : OwnS lo A e size v n cs) : ∃ F, OwnG A e size v n cs F ∧ ∀ x ∈ F, lo ≤ x := by
  rcases h with ⟨h1, h2, h3⟩ | ⟨b, f, h1, h2⟩
  · exact ⟨[], .inl ⟨h1, h2, h3, rfl⟩, by simp⟩
  · exact ⟨[f], .inr ⟨b, f, h1, h2.zero, rfl⟩, by simpa using h2.lof⟩
section
variable {W0 : World} {m0 : Inj Try.prog}
theorem asm_own {A A' : AW} {S : List Nat} {sv : Value} {l : List Seg} {F : List Nat} (h : OwnG A 28 2 sv l.length (segCells l) F) (k : Keeps A A' S) (hd : ∀ x ∈ F, x ∉ S) : OwnG A' 28 2 sv l.length (segCells l) F := h.keeps k hd

theorem opK_nil_of {L : List Fr} (h : ∀ k, opK L k = []) : L = [] := by
  cases L with
  | nil => rfl
  | cons x r =>
    have := h (keyOf x)
    simp [opK] at this

/-- feeding the frames of a cut, in the heap -/
theorem wc15cut {A : AW} {K : Value → AW → Prop} {g k m : Nat} {G : GI} {R : GR} {FP : List Nat} {f : Fr} {l : List Seg} {tr ch : Int} (hG : IsG A g G FP) (hf : Fine A) (hA : A.next + 20 ≤ maxId) (hS : Sim G R) (hRl : R.L.length < 100000) (hc : chk tr l = 0) (hm : 0 < m) (hm2 : m ≤ 4084) (hch : 0 ≤ ch ∧ ch < 65536) (hd : R.dead = false)
    (hk : (cutTo l tr ch m l.length)[k]? = some f) (ho : opK R.L (ch, tr) = (cutTo l tr ch m l.length).take k)
    (hK : ∀ A' FP' Fv sv G' R', IsG A' g G' FP' → Sim G' R' → R'.dead = false → R'.L.length ≤ R.L.length + 1 → (opK R'.L (ch, tr) = if k + 1 = (cutTo l tr ch m l.length).length then [] else (cutTo l tr ch m l.length).take (k + 1)) → (∀ j, j ≠ (ch, tr) → opK R'.L j = opK R.L j) →
      (if k + 1 = (cutTo l tr ch m l.length).length then OwnG A' 28 2 sv l.length (segCells l) Fv else sv = .slice none 0 0 ∧ Fv = []) → (∀ x ∈ FP', x ∈ FP ∨ A.next ≤ x) → (∀ x ∈ Fv, x ∈ FP ∨ A.next ≤ x) → (∀ x ∈ Fv, x ∉ FP') → Keeps A A' FP → A'.next ≤ A.next + 20 → Fine A' →
      K (.tuple ⟨[if k + 1 = (cutTo l tr ch m l.length).length then asmVal ch tr sv else asmVal 0 0 sv, .bool (decide (k + 1 = (cutTo l tr ch m l.length).length)), .int .i64 0]⟩) A') :
    Wc Try.prog theX W0 m0 15 [.pointer (some ⟨g, 0, none⟩), f.val] A K := by
  obtain ⟨_, _, _, _, h4⟩ := cut_final hc hm hm2 hch
  obtain ⟨a1, a2, a3, a4, a5, a6, a7, a8⟩ := h4 k f hk
  have hfc := feed_cut hc hm hm2 hch hd hk ho
  obtain ⟨st1, st2⟩ := hS.step f
  obtain ⟨fl1, _⟩ := feedR_len R f
  refine wc15 (N := R.L.length) hG hf hA (hS.good (Nat.le_refl _)) (by omega) a5 (by omega) fun A1 FP1 Fv1 v1 hG1 hR1 sP1 sv1 dv1 k1 n1 f1 => ?_
  obtain ⟨sv, rfl, hsv⟩ := hR1
  rw [st1, hfc] at hsv ⊢
  rw [hfc] at st2 fl1
  have hsnoc : (cutTo l tr ch m l.length).take (k + 1) = (cutTo l tr ch m l.length).take k ++ [f] := by rw [List.take_add_one, hk]; rfl
  by_cases hl : k + 1 = (cutTo l tr ch m l.length).length
  · have hdl : decide (k + 1 = (cutTo l tr ch m l.length).length) = true := decide_eq_true hl
    simp only [if_pos hl, hdl] at hsv st2 fl1 hK ⊢
    refine hK A1 FP1 Fv1 sv _ _ hG1 st2 rfl fl1 ?_ (fun j hj => ?_) hsv sP1 sv1 dv1 k1 n1 f1
    · show opK (rests (R.L ++ [f]) f) _ = _
      rw [opK_rests, if_pos a2.symm]
    · show opK (rests (R.L ++ [f]) f) _ = _
      rw [opK_rests, if_neg (by rw [a2]; exact hj), opK_snoc, if_neg (by rw [a2]; exact Ne.symm hj), List.append_nil]
  · have hdl : decide (k + 1 = (cutTo l tr ch m l.length).length) = false := decide_eq_false hl
    simp only [if_neg hl, hdl] at hsv st2 fl1 hK ⊢
    rcases hsv with ⟨rfl, _, _, rfl⟩ | ⟨b, ff, _, h2, _⟩
    · refine hK A1 FP1 [] _ _ _ hG1 st2 rfl fl1 ?_ (fun j hj => ?_) ⟨rfl, rfl⟩ sP1 (by simp) (by simp) k1 n1 f1
      · show opK (R.L ++ [f]) _ = _
        rw [opK_snoc, if_pos a2, ho, hsnoc]
      · show opK (R.L ++ [f]) _ = _
        rw [opK_snoc, if_neg (by rw [a2]; exact Ne.symm hj), List.append_nil]
    · exact absurd h2.pos (by simp [rNo])

theorem wc6 {A : AW} {lv : Value} {l : List Fr} {F : List Nat} (hf : Fine A) (hA : A.next + 4000000 ≤ maxId) (hl : RdFr A lv l F) (hF : ∀ x ∈ F, x < A.next) (hw : ∀ f ∈ l, f.wf) (hK : KC.Holds Try.prog W0 m0 ⟨8, [], [.bool true]⟩) :
    Wc Try.prog theX W0 m0 6 [lv] A fun v _ => v = .bool true := by
  have hmax : maxId = 4194304 := rfl
  have hkn : ∀ A', knW Try.prog W0 m0 8 [] A' fun v _ => v = .bool true := fun A' => ⟨[.bool true], by decide, hK, rfl, fun v hv => by simpa using hv⟩
  -- the outer loop's heap
  let Out : AW → Nat → Nat → Nat → Prop := fun A' i g left => ∃ (G : GI) (R : GR) (FP : List Nat), i ≤ l.length ∧ i ≤ 60 ∧ IsG A' g G FP ∧ (∀ x ∈ FP, A.next ≤ x) ∧ Sim G R ∧ Good R ∧ R.L.length ≤ i ∧ sumPay R.L + left ≤ 5000 ∧ Keeps A A' [] ∧ A'.next + 30 * (sumPay R.L + left) ≤ A.next + 10 + 62500 * i + 150000 ∧ Fine A'
  let I : Nat → Nat → List Value → AW → Prop := fun gg id vals A' =>
    (id = 0 ∧ ∃ (i g left : Nat), vals = [lv, .pointer (some ⟨g, 0, none⟩), .int .i64 (left : Nat), .int .i64 (i : Nat)] ∧ Out A' i g left ∧ gg = (l.length - i) * 100000) ∨
    (id = 2 ∧ ∃ (i g left h k n20 : Nat) (fv sv : Value) (tr ch : Int) (s : List Seg) (Fs Ff FH FP : List Nat) (G : GI) (R : GR) (GH : GI) (RH : GR), vals = [lv, .pointer (some ⟨g, 0, none⟩), .int .i64 (left : Nat), .int .i64 (i : Nat), .pointer (some ⟨n20, 0, none⟩), fv, .int .i64 0, .pointer (some ⟨h, 0, none⟩), .int .i64 (k : Nat)] ∧
      i < l.length ∧ i < 60 ∧ IsG A' g G FP ∧ (∀ x ∈ FP, A.next ≤ x) ∧ Sim G R ∧ Good R ∧ R.L.length ≤ i + 1 ∧ sumPay R.L + left ≤ 5000 ∧ Keeps A A' [] ∧ Fine A' ∧
      A'.next + 30 * (sumPay R.L + left) + 23 * ((cutTo s tr ch 100 s.length).length - k) ≤ A.next + 62510 + 62500 * i + 150000 ∧ chk tr s = 0 ∧ (0 ≤ ch ∧ ch < 65536) ∧ k ≤ (cutTo s tr ch 100 s.length).length ∧
      Row1 A' n20 (asmCells ch tr sv) 25 ∧ OwnG A' 28 2 sv s.length (segCells s) Fs ∧ OwnG A' 45 8 fv (cutTo s tr ch 100 s.length).length (frCells (cutTo s tr ch 100 s.length)) Ff ∧ IsG A' h GH FH ∧ Sim GH RH ∧ RH.dead = false ∧ RH.L.length ≤ k ∧
      (k < (cutTo s tr ch 100 s.length).length → opK RH.L (ch, tr) = (cutTo s tr ch 100 s.length).take k) ∧ (∀ x ∈ FH, A.next ≤ x ∧ x ∉ FP ∧ x ∉ Fs ∧ x ∉ Ff ∧ x ≠ n20) ∧ gg = (l.length - i) * 100000 - 1 - k)
  have hcutlen : ∀ (s : List Seg) (tr ch : Int), chk tr s = 0 → (cutTo s tr ch 100 s.length).length ≤ total s + 3 ∧ s.length ≤ 3 ∧ total s ≤ 16384 := by
    intro s tr ch hc
    unfold chk at hc
    split at hc
    case isFalse => cases hc
    rename_i hh
    have h1 := cutTo_length (l := s) (tr := tr) (ch := ch) (m := 100) (by omega) s.length (Nat.le_refl _)
    rw [List.take_length] at h1
    have h2 := shape_tr hh.2
    omega
  refine w6 _ _ (c6 (I := I) ?_) ?_
  · rintro gg id vals A' d hI hd
    rcases hI with ⟨rfl, i, g, left, rfl, hO, rfl⟩ | ⟨rfl, i, g, left, h, k, n20, fv, sv, tr, ch, s, Fs, Ff, FH, FP, G, R, GH, RH, rfl, hi, hi60, hG, bP, hS, hGd, hRl, hRs, kk, hf', hnx, hc, hch, hkl, r20, hs, hfr, hH, hSH, hdH, hlH, hoH, dH, rfl⟩
    · obtain ⟨G, R, FP, hi, hi60, hG, bP, hS, hGd, hRl, hRs, kk, hnx, hf'⟩ := hO
      rw [l6_0]
      have e0 : d 0 = lv := by simp [L6] at hd; exact hd.1
      have e3 : d 3 = .pointer (some ⟨g, 0, none⟩) := by simp [L6] at hd; exact hd.2.1
      have e4 : d 4 = .int .i64 (left : Nat) := by simp [L6] at hd; exact hd.2.2.1
      have e5 : d 5 = .int .i64 (i : Nat) := by simp [L6] at hd; exact hd.2.2.2
      have hl' := hl.keeps kk (by simp)
      simp only [e0, e3, e4, e5, hl'.len, pureW_some, bin_lss, forkW_dec]
      refine ⟨fun hlt => ⟨fun h60 => ?_, fun _ => hkn A'⟩, fun _ => hkn A'⟩
      have hlt : i < l.length := by omega
      obtain ⟨f, hx⟩ : ∃ f, l[i]? = some f := ⟨l[i], List.getElem?_eq_getElem hlt⟩
      have hfw : f.wf := hw f (List.mem_of_getElem? hx)
      obtain ⟨r, o, g1, g2⟩ := hl'.at hx
      simp only [g1, fa_45_7, ld_9, g2.c7, g2.ld, ln_9, pureW_some, bin_gtr, forkW_dec, bin_sub]
      refine ⟨fun _ => hkn A', fun hle => ?_⟩
      have hsl : slen f.pay = f.pay.data.toList.length := rfl
      have hle : slen f.pay ≤ left := by omega
      have wl : IntKind.i64.wrap ((left : Int) - (f.pay.data.toList.length : Nat)) = ((left - slen f.pay : Nat) : Int) := by
        rw [wrap_i64 (by omega) (by omega)]; omega
      have wi : IntKind.i64.wrap ((i : Int) + 1) = ((i + 1 : Nat) : Int) := by rw [wrap_i64 (by omega) (by omega)]; omega
      obtain ⟨st1, st2⟩ := hS.step f
      obtain ⟨fl1, fl2⟩ := feedR_len R f
      obtain ⟨gd1, gd2, gd3⟩ := good_step hGd hfw
      refine wc15 (N := 60) hG hf' (by omega) (hS.good (by omega)) (by omega) hfw (by omega) fun A1 FP1 Fv1 v1 hG1 hR1 sP1 sv1 dv1 k1 n1 f1 => ?_
      have lP := hG.lt
      have hk1n := k1.next
      have hkkn := kk.next
      obtain ⟨sv, rfl, hsv⟩ := hR1
      rw [st1] at hsv ⊢
      have kA1 : Keeps A A1 [] := kk.trans k1 (fun x hx => .inr (bP x hx))
      have bP1 : ∀ x ∈ FP1, A.next ≤ x := fun x hx => by
        rcases sP1 x hx with h2 | h2
        · exact bP x h2
        · omega
      simp only [extractP, List.getElem?_cons_zero, List.getElem?_cons_succ, pureW_some, wl, wi]
      refine allocP_made zt25 f1 (by omega) rfl fun A2 m2 => ?_
      have n2 := m2.next
      have k2 := m2.keeps f1
      refine m2.row1.store m2.fine (by omega) (st_25 _ _ _) rfl (by simp [asmVal, Value.cells]) (by simp only [asmVal, Value.cells, asmCells, List.all_cons, hsv.one.1]; rfl) fun A3 r3 k3 n3 f3 => ?_
      have r3 : Row1 A3 A1.next (asmCells (feedR R f).2.ch (feedR R f).2.tr sv) 25 := r3
      have k13 : Keeps A1 A3 [] := k2.trans k3 (by simp)
      have hG3 := hG1.keeps k13 (by simp)
      have hsv3 := hsv.keeps k13 (by simp)
      have kA3 : Keeps A A3 [] := kA1.trans k13 (by simp)
      simp only [un_not, pureW_some, forkW_bool]
      refine ⟨fun hnis => ?_, fun his => ?_⟩
      · have hnis : (feedR R f).2.is = false := by simpa using hnis
        obtain ⟨p1, p2⟩ := gd3 hnis
        have next : ∀ B, B = A3 → cutW (T6 0) (T6 0) (∃ g', g' < (l.length - i) * 100000 ∧ I g' 0 [lv, .pointer (some ⟨g, 0, none⟩), .int .i64 ((left - slen f.pay : Nat) : Int), .int .i64 ((i + 1 : Nat) : Int)] B) := by
          rintro B rfl
          refine cutW_self.2 ⟨(l.length - (i + 1)) * 100000, by omega, .inl ⟨rfl, i + 1, g, left - slen f.pay, rfl, ⟨(feedI G f).1, (feedR R f).1, FP1, by omega, by omega, hG3, bP1, st2, gd1, by omega, by omega, kA3, by omega, f3⟩, rfl⟩⟩
        rw [p1] at hsv
        have hnil : sv = .slice none 0 0 := by
          rcases hsv with ⟨h, _⟩ | ⟨b, ff, _, h2, _⟩
          · exact h
          · exact absurd h2.pos (by simp)
        subst hnil
        simp only [fa_25_2, ld_23, cell_row r3.row, asmCells, cellOf, isTuple, cond_false, pureW_some, ln_23, bin_neq, forkW_bne, bin_add, wi, Nat.zero_add]
        refine ⟨fun h => absurd rfl h, fun _ => ⟨fun hne => ?_, fun _ => next A3 rfl⟩⟩
        refine wc18 hG3 ?_
        have hz : (feedI G f).1.m.length = 0 := by
          rw [← st2.open, p2 hne]; rfl
        simp only [hz, bin_neq, pureW_some, forkW_bne]
        refine ⟨fun h => absurd rfl h, fun _ => next A3 rfl⟩
      · have his : (feedR R f).2.is = true := by simpa using his
        obtain ⟨p1, p2, p3, p4, p5⟩ := gd2 his
        have hse := hcutlen _ _ (feedR R f).2.ch p2
        have htr0 : 0 ≤ (feedR R f).2.tr := by rw [p3]; exact hfw.2.2.1
        have hch0 : 0 ≤ (feedR R f).2.ch ∧ (feedR R f).2.ch < 65536 := by rw [p4]; exact ⟨hfw.2.2.2.2.1, hfw.2.2.2.2.2⟩
        simp only [p1, bin_neq, pureW_some, forkW_bne]
        refine ⟨fun h => absurd rfl h, fun _ => ?_⟩
        have hld : ∀ B, Row1 B A1.next (asmCells (feedR R f).2.ch (feedR R f).2.tr sv) 25 → loadP Try.prog B 25 (.pointer (some ⟨A1.next, 0, none⟩)) = some (asmVal (feedR R f).2.ch (feedR R f).2.tr sv) := by
          intro B hB
          rw [ld_25, cells_row hB.row]
          simp only [asmCells, List.drop_zero, takeCells, isT_int, hsv.one.2, cond_false, asmVal]
        rw [hld _ r3, pureW_some]
        refine wc12 f3 (by omega) (OwnG.isSegs hsv3 f3) (by omega) htr0 fun A4 x4 f4 n4 => ?_
        have k4 := x4.keeps f3
        have r4 := r3.keeps k4 (by simp)
        simp only [p2, bin_neq, pureW_some, forkW_bne, hld _ r4]
        refine ⟨fun h => absurd rfl h, fun _ => ?_⟩
        have hsv4 := hsv3.keeps k4 (by simp)
        have hG4 := hG3.keeps k4 (by simp)
        have kA4 : Keeps A A4 [] := kA3.trans k4 (by simp)
        have hn4 := k4.next
        refine wc9 (m := 100) f4 (by omega) (OwnG.isSegs hsv4 f4) (by omega) htr0 (by omega) (by omega) p2 fun A5 fv x5 f5 n5 hfv => ?_
        have k5 := x5.keeps f4
        obtain ⟨Ff, hfv, bFf⟩ := OwnS.ownG hfv
        simp only [extractP, List.getElem?_cons_zero, List.getElem?_cons_succ, pureW_some]
        have hn5 := k5.next
        refine wc14 f5 (by omega) fun A6 hG6 k6 n6 f6 => ?_
        have hG5 := hG4.keeps k5 (by simp)
        have hGG := hG5.keeps k6 (by simp)
        have lP5 := hG5.lt
        have hsv5 := hsv4.keeps k5 (by simp)
        have lsv := hsv5.lt
        have r5 := r4.keeps k5 (by simp)
        have lr5 := r5.lt
        have lfv := hfv.lt
        refine cutW_self.2 ⟨(l.length - i) * 100000 - 1 - 0, by omega, .inr ⟨rfl, i, g, left - slen f.pay, A5.next + 1, 0, A1.next, fv, sv, (feedR R f).2.tr, (feedR R f).2.ch, (feedR R f).2.segs, Fv1, Ff, [A5.next + 1, A5.next], FP1, (feedI G f).1, (feedR R f).1, ⟨[], false⟩, ⟨[], false⟩, rfl, hlt, by omega, hGG, bP1, st2, gd1, by omega, by omega, (kA4.trans k5 (by simp)).trans k6 (by simp), f6, by omega, p2, hch0, Nat.zero_le _, r5.keeps k6 (by simp), hsv5.keeps k6 (by simp), hfv.keeps k6 (by simp), hG6, .empty, rfl, Nat.zero_le _, fun _ => rfl, fun x hx => ?_, rfl⟩⟩
        have hx : x = A5.next + 1 ∨ x = A5.next := by simpa using hx
        have q1 : ∀ y ∈ FP1, y < A5.next := lP5
        refine ⟨by omega, fun hm => ?_, fun hm => ?_, fun hm => ?_, by omega⟩
        · have := q1 x hm; omega
        · have := lsv x hm; omega
        · have := lfv x hm; omega
    · have e0 : d 0 = lv := by have := hd; simp only [L6, List.map_cons, List.cons.injEq] at this; exact this.1
      have e3 : d 3 = .pointer (some ⟨g, 0, none⟩) := by have := hd; simp only [L6, List.map_cons, List.cons.injEq] at this; exact this.2.1
      have e4 : d 4 = .int .i64 (left : Nat) := by have := hd; simp only [L6, List.map_cons, List.cons.injEq] at this; exact this.2.2.1
      have e5 : d 5 = .int .i64 (i : Nat) := by have := hd; simp only [L6, List.map_cons, List.cons.injEq] at this; exact this.2.2.2.1
      have e6 : d 6 = .pointer (some ⟨n20, 0, none⟩) := by have := hd; simp only [L6, List.map_cons, List.cons.injEq] at this; exact this.2.2.2.2.1
      have e9 : d 9 = fv := by have := hd; simp only [L6, List.map_cons, List.cons.injEq] at this; exact this.2.2.2.2.2.1
      have e10 : d 10 = .int .i64 0 := by have := hd; simp only [L6, List.map_cons, List.cons.injEq] at this; exact this.2.2.2.2.2.2.1
      have e11 : d 11 = .pointer (some ⟨h, 0, none⟩) := by have := hd; simp only [L6, List.map_cons, List.cons.injEq] at this; exact this.2.2.2.2.2.2.2.1
      have e12 : d 12 = .int .i64 (k : Nat) := by have := hd; simp only [L6, List.map_cons, List.cons.injEq] at this; exact this.2.2.2.2.2.2.2.2.1
      have hcl := hcutlen s tr ch hc
      obtain ⟨c1, c2, c3, c4, c5⟩ := cut_final (m := 100) hc (by omega) (by omega) hch
      have hrd := OwnG.rdFr hfr
      have wi : IntKind.i64.wrap ((i : Int) + 1) = ((i + 1 : Nat) : Int) := by rw [wrap_i64 (by omega) (by omega)]; omega
      have wk : IntKind.i64.wrap ((k : Int) + 1) = ((k + 1 : Nat) : Int) := by rw [wrap_i64 (by omega) (by omega)]; omega
      rw [l6_2]
      simp only [e0, e3, e4, e5, e6, e9, e10, e11, e12, hrd.len, pureW_some, bin_lss, forkW_dec]
      refine ⟨fun hlt => ?_, fun hge => ?_⟩
      · have hlt : k < (cutTo s tr ch 100 s.length).length := by omega
        obtain ⟨f, hx⟩ : ∃ f, (cutTo s tr ch 100 s.length)[k]? = some f := ⟨_, List.getElem?_eq_getElem hlt⟩
        obtain ⟨r, o, g1, g2⟩ := hrd.at hx
        simp only [g1, g2.ld, pureW_some]
        refine wc15cut hH hf' (by omega) hSH (by omega) hc (by omega) (by omega) hch hdH hx (hoH hlt) fun A1 FH1 Fv1 sv1 GH1 RH1 hH1 hSH1 hdH1 hlH1 hoH1 _ hsv1 sH1 sv1' dv1 k1 n1 f1 => ?_
        have hn1 := k1.next
        have lH := hH.lt
        have lH1 := hH1.lt
        have hkkn := kk.next
        have nFH : ∀ y, y ∈ FP ∨ y ∈ Fs ∨ y ∈ Ff ∨ y = n20 → y ∉ FH := fun y hy hm => by
          obtain ⟨_, q1, q2, q3, q4⟩ := dH y hm
          rcases hy with h | h | h | h
          · exact q1 h
          · exact q2 h
          · exact q3 h
          · exact q4 h
        have hG1 := hG.keeps k1 (fun x hx => nFH x (.inl hx))
        have hs1 := hs.keeps k1 (fun x hx => nFH x (.inr (.inl hx)))
        have hfr1 := hfr.keeps k1 (fun x hx => nFH x (.inr (.inr (.inl hx))))
        have r201 := r20.keeps k1 (nFH n20 (.inr (.inr (.inr rfl))))
        have kA1 : Keeps A A1 [] := kk.trans k1 (fun x hx => .inr (dH x hx).1)
        have lP := hG.lt
        have ls := hs.lt
        have lf := hfr.lt
        have l20 := r20.lt
        have dH1 : ∀ x ∈ FH1, A.next ≤ x ∧ x ∉ FP ∧ x ∉ Fs ∧ x ∉ Ff ∧ x ≠ n20 := fun x hx => by
          rcases sH1 x hx with h2 | h2
          · exact dH x h2
          · refine ⟨by omega, fun hm => ?_, fun hm => ?_, fun hm => ?_, by omega⟩
            · have := lP x hm; omega
            · have := ls x hm; omega
            · have := lf x hm; omega
        -- the answer's row
        have hone : oneCell sv1 = true ∧ isTuple sv1 = false := by
          split at hsv1
          · exact hsv1.one
          · rw [hsv1.1]; exact ⟨rfl, rfl⟩
        simp only [extractP, List.getElem?_cons_zero, List.getElem?_cons_succ, pureW_some]
        refine allocP_made zt25 f1 (by omega) rfl fun A2 m2 => ?_
        have n2 := m2.next
        have k2 := m2.keeps f1
        have hcells : (if k + 1 = (cutTo s tr ch 100 s.length).length then asmVal ch tr sv1 else asmVal 0 0 sv1) = .agg ⟨asmCells (if k + 1 = (cutTo s tr ch 100 s.length).length then ch else 0) (if k + 1 = (cutTo s tr ch 100 s.length).length then tr else 0) sv1⟩ := by split <;> rfl
        rw [hcells]
        refine m2.row1.store m2.fine (by omega) (st_25 _ _ _) rfl (by simp [asmCells, Value.cells]) (by simp only [Value.cells, asmCells, List.all_cons, hone.1]; rfl) fun A3 r3 k3 n3 f3 => ?_
        have r3 : Row1 A3 A1.next (asmCells (if k + 1 = (cutTo s tr ch 100 s.length).length then ch else 0) (if k + 1 = (cutTo s tr ch 100 s.length).length then tr else 0) sv1) 25 := r3
        have k13 : Keeps A1 A3 [] := k2.trans k3 (by simp)
        have hH3 := hH1.keeps k13 (by simp)
        have hG3 := hG1.keeps k13 (by simp)
        have hs3 := hs1.keeps k13 (by simp)
        have hfr3 := hfr1.keeps k13 (by simp)
        have r203 := r201.keeps k13 (by simp)
        have kA3 : Keeps A A3 [] := kA1.trans k13 (by simp)
        have hrd3 := OwnG.rdFr hfr3
        have wl : IntKind.i64.wrap (((cutTo s tr ch 100 s.length).length : Int) - 1) = (((cutTo s tr ch 100 s.length).length - 1 : Nat) : Int) := by rw [wrap_i64 (by omega) (by omega)]; omega
        have hbe : (((k : Int)) == (((cutTo s tr ch 100 s.length).length - 1 : Nat) : Int)) = decide (k + 1 = (cutTo s tr ch 100 s.length).length) := by
          rw [Bool.eq_iff_iff]; simp; omega
        simp only [hrd3.len, bin_neq, bin_sub, wl, bin_eql, hbe, bin_boolneq, bne_self_eq_false, pureW_some, forkW_bool, Bool.false_eq_true, false_implies, true_implies, true_and, bin_add, wk]
        have next : ∀ B GB RB FB, B.next ≤ A3.next + 2 → Keeps A3 B [] → Fine B → GB = GH1 → RB = RH1 → FB = FH1 → cutW (T6 2) (T6 2) (∃ g', g' < (l.length - i) * 100000 - 1 - k ∧ I g' 2 [lv, .pointer (some ⟨g, 0, none⟩), .int .i64 (left : Nat), .int .i64 (i : Nat), .pointer (some ⟨n20, 0, none⟩), fv, .int .i64 0, .pointer (some ⟨h, 0, none⟩), .int .i64 ((k + 1 : Nat) : Int)] B) := by
          rintro B GB RB FB hB kB fB rfl rfl rfl
          refine cutW_self.2 ⟨(l.length - i) * 100000 - 1 - (k + 1), by omega, .inr ⟨rfl, i, g, left, h, k + 1, n20, fv, sv, tr, ch, s, Fs, Ff, _, FP, G, R, _, _, rfl, hi, hi60, hG3.keeps kB (by simp), bP, hS, hGd, hRl, hRs, kA3.trans kB (by simp), fB, by omega, hc, hch, by omega, r203.keeps kB (by simp), hs3.keeps kB (by simp), hfr3.keeps kB (by simp), hH3.keeps kB (by simp), hSH1, hdH1, by omega, fun hlt2 => ?_, dH1, rfl⟩⟩
          rw [hoH1, if_neg (by omega)]
        refine ⟨fun hlast => ?_, fun _ => next A3 _ _ _ (by omega) (.refl _ _) f3 rfl rfl rfl⟩
        have hlast : k + 1 = (cutTo s tr ch 100 s.length).length := of_decide_eq_true hlast
        simp only [if_pos hlast] at hsv1 r3
        have hsv3 := hsv1.keeps k13 (by simp)
        have hld1 : loadP Try.prog A3 25 (.pointer (some ⟨n20, 0, none⟩)) = some (asmVal ch tr sv) := by
          rw [ld_25, cells_row r203.row]
          simp only [asmCells, List.drop_zero, takeCells, isT_int, hs.one.2, cond_false, asmVal]
        have hld2 : loadP Try.prog A3 25 (.pointer (some ⟨A1.next, 0, none⟩)) = some (asmVal ch tr sv1) := by
          rw [ld_25, cells_row r3.row]
          simp only [asmCells, List.drop_zero, takeCells, isT_int, hone.2, cond_false, asmVal]
        simp only [hld1, hld2, pureW_some]
        refine wc17 f3 (by omega) (OwnG.isSegs hs3 f3) (OwnG.isSegs hsv3 f3) (by omega) fun A4 k4 n4 f4 => ?_
        simp only [un_not, Bool.not_true, pureW_some, forkW_bool, Bool.false_eq_true, false_implies, true_and, true_implies]
        exact next A4 _ _ _ (by omega) k4 f4 rfl rfl rfl
      · have hk : k = (cutTo s tr ch 100 s.length).length := by omega
        have hpos : 0 < (cutTo s tr ch 100 s.length).length := List.length_pos_iff.2 c1
        have hz : (((cutTo s tr ch 100 s.length).length : Int) == 0) = false := by
          rw [beq_eq_false_iff_ne]; omega
        simp only [bin_neq, bin_eql, hz, bne_self_eq_false, pureW_some, forkW_bool, Bool.false_eq_true, false_implies, true_implies, true_and, bin_add, wi]
        exact cutW_self.2 ⟨(l.length - (i + 1)) * 100000, by omega, .inl ⟨rfl, i + 1, g, left, rfl, ⟨G, R, FP, by omega, by omega, hG, bP, hS, hGd, hRl, hRs, kk, by omega, hf'⟩, rfl⟩⟩
  · rw [e6]
    refine wc14 hf (by omega) fun A1 hG1 k1 n1 f1 => ?_
    refine cutW_self.2 ⟨(l.length - 0) * 100000, .inl ⟨rfl, 0, A.next + 1, 5000, rfl, ⟨⟨[], false⟩, ⟨[], false⟩, [A.next + 1, A.next], Nat.zero_le _, Nat.zero_le _, hG1, fun x hx => ?_, .empty, .empty, Nat.zero_le _, by simp [sumPay], k1, by simp [sumPay]; omega, f1⟩, rfl⟩⟩
    simp at hx; omega
end
end Go.Proofs.Yteiiledpfhopdaa
