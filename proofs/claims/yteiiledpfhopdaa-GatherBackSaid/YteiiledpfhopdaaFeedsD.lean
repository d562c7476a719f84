/-
  GatherFeeds: the law answers true, in the abstract machine. Conditions: those of each theorem.
-/
import Derived.Test.YteiiledpfhopdaaFeedsC
import Derived.Test.YteiiledpfhopdaaAbsI
import Derived.Test.YteiiledpfhopdaaFeedsB
namespace Go.Proofs.Yteiiledpfhopdaa
open Go Go.Abs

section
variable {W0 : World} {m0 : Inj Try.prog}
theorem opens_rests (L : List Fr) (f : Fr) : rests (L ++ [f]) f = (L ++ [f]).filter (fun x => !sameKey f x) := rfl
/-- the document's Feed -/
theorem wc16 {A : AW} {K : Value → AW → Prop} {q : Nat} {G : GR} {FQ : List Nat} {f : Fr} (h : IsQ A q G FQ) (hf : Fine A) (hA : A.next + 100 + 10 * G.L.length ≤ maxId) (hL : G.L.length < 100000) (hsum : sumPay G.L < 100000000) (hp : slen f.pay < 100000000) (hok : ∀ x, (opens G.L f).head? = some x → x.beg = true)
    (hk : ∀ A' FQ' Fv v, IsQ A' q (feedR G f).1 FQ' → ResIs A' v (feedR G f).2 Fv → (∀ x ∈ FQ', x ∈ FQ ∨ A.next ≤ x) → (∀ x ∈ Fv, A.next ≤ x) → (∀ x ∈ Fv, x ∉ FQ') → Keeps A A' FQ → A'.next ≤ A.next + 50 + 10 * G.L.length → Fine A' → K v A') :
    Wc Try.prog theX W0 m0 16 [.pointer (some ⟨q, 0, none⟩), f.val] A K := by
  have hlt := h.lt
  obtain ⟨L, dead⟩ := G
  simp only at hA hL hsum hok hk
  obtain ⟨vL, FL, rfl, hnd, hq, hvL⟩ := h
  replace hvL : OwnG A 45 8 vL L.length (frCells L) FL := hvL
  replace hq : Row1 A q [vL, .bool dead] 43 := hq
  have hqlt := hq.lt
  have lFL := hvL.lt
  simp only [List.nodup_cons] at hnd
  let ls := opens L f
  have hls : opens L f = ls := rfl
  have hlen : ls.length ≤ L.length := opens_len L f
  have hsl : sumPay ls ≤ sumPay L := sumPay_filter _ L
  let M := L.length + 5
  let I : Nat → Nat → List Value → AW → Prop := fun g id vals A' =>
    (id = 0 ∧ ∃ (i : Nat) (v8 : Value) (F8 : List Nat), vals = [.pointer (some ⟨q, 0, none⟩), .pointer (some ⟨A.next, 0, none⟩), .pointer (some ⟨A.next + 1, 0, none⟩), .pointer (some ⟨A.next + 2, 0, none⟩), v8, .int .i64 (slen f.pay + sumPay (ls.take i) : Nat), .int .i64 (i : Nat)] ∧ i ≤ ls.length ∧ dead = false ∧
      OwnG A' 45 8 v8 ls.length (frCells ls) F8 ∧ (∀ x ∈ F8, A.next + 3 ≤ x) ∧ Keeps A A' [] ∧ A.next + 3 ≤ A'.next ∧ A'.next ≤ A.next + 4 + 2 * L.length ∧ Fine A' ∧ Row1 A' A.next f.cells 45 ∧ Row1 A' (A.next + 1) (asmCells 0 0 (.slice none 0 0)) 25 ∧ Row1 A' (A.next + 2) (asmCells 0 0 (.slice none 0 0)) 25 ∧ g = 3 * M - i) ∨
    (id = 2 ∧ ∃ (i : Nat) (v8 : Value) (F8 : List Nat) (vL' : Value) (FL' : List Nat) (n59 : Nat) (sv : Value) (Fs : List Nat), vals = [.pointer (some ⟨q, 0, none⟩), .pointer (some ⟨A.next, 0, none⟩), .pointer (some ⟨A.next + 1, 0, none⟩), v8, .pointer (some ⟨n59, 0, none⟩), .int .i64 (i : Nat)] ∧ i ≤ (ls ++ [f]).length ∧
      Mid A A' q L f FL vL' FL' n59 sv Fs (asm ((ls ++ [f]).take i)) ∧ OwnG A' 45 8 v8 (ls ++ [f]).length (frCells (ls ++ [f])) F8 ∧ n59 ∉ F8 ∧ (∀ y ∈ Fs, y ∉ F8) ∧ A'.next ≤ A.next + 20 + 2 * L.length + 2 * i ∧
      feedR ⟨L, dead⟩ f = (⟨rests (L ++ [f]) f, false⟩, ⟨f.ch, f.tr, asm (ls ++ [f]), true, 0⟩) ∧ (∀ y, (ls ++ [f]).head? = some y → y.beg = true) ∧ g = 2 * M - i) ∨
    (id = 4 ∧ ∃ (i : Nat) (v15 : Value) (F15 : List Nat) (vL' : Value) (FL' : List Nat) (n59 : Nat) (sv : Value) (Fs : List Nat), vals = [.pointer (some ⟨q, 0, none⟩), .pointer (some ⟨A.next, 0, none⟩), .pointer (some ⟨A.next + 1, 0, none⟩), .pointer (some ⟨n59, 0, none⟩), v15, .int .i64 (i : Nat)] ∧ i ≤ (L ++ [f]).length ∧
      Mid A A' q L f FL vL' FL' n59 sv Fs (asm (ls ++ [f])) ∧ OwnG A' 45 8 v15 (rests ((L ++ [f]).take i) f).length (frCells (rests ((L ++ [f]).take i) f)) F15 ∧ (∀ y ∈ F15, A.next + 3 ≤ y) ∧ n59 ∉ F15 ∧ (∀ y ∈ Fs, y ∉ F15) ∧ (∀ y ∈ F15, y ∉ FL') ∧ A'.next ≤ A.next + 22 + 4 * L.length + 2 * i ∧
      feedR ⟨L, dead⟩ f = (⟨rests (L ++ [f]) f, false⟩, ⟨f.ch, f.tr, asm (ls ++ [f]), true, 0⟩) ∧ g = M - i)
  have hll : (ls ++ [f]).length = ls.length + 1 := by simp
  have hLl : (L ++ [f]).length = L.length + 1 := by simp
  have nq : q ≠ A.next ∧ q ≠ A.next + 1 ∧ q ≠ A.next + 2 := ⟨by omega, by omega, by omega⟩
  refine w16 _ _ _ (c16 (I := I) ?_) ?_
  · rintro g id vals A' d hI hd
    rcases hI with ⟨rfl, i, v8, F8, rfl, hi, rfl, h8, b8, kk, hn1, hn2, hf', r0, r1, r2, rfl⟩ | ⟨rfl, i, v8, F8, vL', FL', n59, sv, Fs, rfl, hi, hm, h8, d59, dis, hn, hfr, hbeg, rfl⟩ | ⟨rfl, i, v15, F15, vL', FL', n59, sv, Fs, rfl, hi, hm, h15, b15, d59, dis, disL, hn, hfr, rfl⟩
    · have e0 : d 0 = .pointer (some ⟨q, 0, none⟩) := by simp [L16] at hd; exact hd.1
      have e3 : d 3 = .pointer (some ⟨A.next, 0, none⟩) := by simp [L16] at hd; exact hd.2.1
      have e4 : d 4 = .pointer (some ⟨A.next + 1, 0, none⟩) := by simp [L16] at hd; exact hd.2.2.1
      have e7 : d 7 = .pointer (some ⟨A.next + 2, 0, none⟩) := by simp [L16] at hd; exact hd.2.2.2.1
      have e8 : d 8 = v8 := by simp [L16] at hd; exact hd.2.2.2.2.1
      have e9 : d 9 = .int .i64 (slen f.pay + sumPay (ls.take i) : Nat) := by have := hd; simp only [L16, List.map_cons, List.cons.injEq] at this; exact this.2.2.2.2.2.1
      have e10 : d 10 = .int .i64 (i : Nat) := by have := hd; simp only [L16, List.map_cons, List.cons.injEq] at this; exact this.2.2.2.2.2.2.1
      have h8r := OwnG.rdFr h8
      have hst := sumPay_take ls i
      rw [l16_0r]
      simp only [e8, e9, e10, h8r.len, pureW_some, bin_lss, forkW_dec]
      refine ⟨fun hlt => ?_, fun hge => ?_⟩
      · have hlt : i < ls.length := by omega
        obtain ⟨x, hx⟩ : ∃ x, ls[i]? = some x := ⟨ls[i], List.getElem?_eq_getElem hlt⟩
        obtain ⟨r, o, g1, g2⟩ := h8r.at hx
        have hst2 := sumPay_take ls (i + 1)
        have hsn := sumPay_snoc hx
        have w1 : IntKind.i64.wrap ((i : Int) + 1) = ((i + 1 : Nat) : Int) := by rw [wrap_i64 (by omega) (by omega)]; omega
        have w2 : IntKind.i64.wrap (((slen f.pay + sumPay (ls.take i) : Nat) : Int) + ((x.pay.data.toList.length : Nat) : Int)) = ((slen f.pay + sumPay (ls.take (i + 1)) : Nat) : Int) := by
          have : slen x.pay = x.pay.data.toList.length := rfl
          rw [wrap_i64 (by omega) (by omega)]; omega
        simp only [g1, fa_45_7, ld_9, g2.c7, ln_9, pureW_some, bin_add, w1, w2, e0, e3, e4, e7]
        exact cutW_self.2 ⟨3 * M - (i + 1), by show 3 * (L.length + 5) - (i + 1) < 3 * (L.length + 5) - i; omega, .inl ⟨rfl, i + 1, v8, F8, rfl, by omega, rfl, h8, b8, kk, hn1, hn2, hf', r0, r1, r2, rfl⟩⟩
      · have hi : i = ls.length := by omega
        subst hi
        rw [List.take_length] at e9 ⊢
        have hld0 : ∀ B, Row1 B A.next f.cells 45 → loadP Try.prog B 45 (.pointer (some ⟨A.next, 0, none⟩)) = some f.val := fun B h => by
          rw [ld_45, cells_row h.row]; rfl
        simp only [e3, hld0 _ r0, pureW_some]
        refine wc24m hf' (by omega) fun A1 k1 n1e f1 => ?_
        have r0 := r0.keeps k1 (by simp)
        have r1 := r1.keeps k1 (by simp)
        have r2 := r2.keeps k1 (by simp)
        have h8 := h8.keeps k1 (by simp)
        have kk1 : Keeps A A1 [] := kk.trans k1 (by simp)
        have hq1 := hq.keeps kk1 (by simp)
        have hvL1 := hvL.keeps kk1 (by simp)
        have nFL : ∀ y, A.next ≤ y → y ∉ FL := fun y hy hm => by have := lFL y hm; omega
        -- how it is given up
        have kill : ∀ (B : AW) (e : Int), Keeps A B [] → Row1 B (A.next + 1) (asmCells 0 0 (.slice none 0 0)) 25 → Row1 B (A.next + 2) (asmCells 0 0 (.slice none 0 0)) 25 → Fine B → B.next ≤ A1.next + 10 → feedR ⟨L, false⟩ f = (⟨[], true⟩, rNo e) →
            killR K (d 0) (d 4) (d 7) (.int .i64 e) B := by
          intro B e kB a1 a2 fB hB he
          rw [e0, e4, e7]
          refine killR_ok (hq.keeps kB (by simp)) a1 a2 nq.2.1 nq.2.2 (by omega) fB (by omega) fun C iC kC nC fC => ?_
          rw [he] at hk
          exact hk C [q] [] _ iC ⟨.slice none 0 0, rfl, OwnG.nil _ _ _⟩ (by simp) (by simp) (by simp) ((kB.more (T := q :: FL) (by simp)).trans kC (fun y hy => by
            rcases List.mem_cons.1 hy with rfl | hy
            · exact .inl (by simp)
            · obtain rfl : y = A.next + 1 := by simpa using hy
              exact .inr (by omega))) (by show C.next ≤ A.next + 50 + 10 * L.length; omega) fC
        cases hfo : f.ok with
        | false =>
          have he : feedR ⟨L, false⟩ f = (⟨[], true⟩, rNo 60) := by simp [feedR, hfo]
          simp only [Bool.false_eq_true, if_false, bin_eql, bin_neq, pureW_some, forkW_beq, forkW_bne]
          refine ⟨fun h => absurd h (by decide), fun _ => ⟨fun h => absurd h (by decide), fun _ => ⟨fun _ => ?_, fun h => absurd h (by decide)⟩⟩⟩
          exact kill A1 60 kk1 r1 r2 f1 (by omega) he
        | true =>
          simp only [if_true, bin_eql, bin_neq, pureW_some, forkW_beq, forkW_bne, hld0 _ r0]
          refine ⟨fun _ => ?_, fun h => absurd rfl h⟩
          refine wc25 (OwnG.rdFr h8) f1 (by omega) (by omega) fun A2 k2 n2e n2l f2 => ?_
          have r0 := r0.keeps k2 (by simp)
          have r1 := r1.keeps k2 (by simp)
          have r2 := r2.keeps k2 (by simp)
          have h8 := h8.keeps k2 (by simp)
          have kk2 : Keeps A A2 [] := kk1.trans k2 (by simp)
          have hq2 := hq.keeps kk2 (by simp)
          have hvL2 := hvL.keeps kk2 (by simp)
          cases hft : fitsR ls f with
          | false =>
            have he : feedR ⟨L, false⟩ f = (⟨[], true⟩, rNo 70) := by simp [feedR, hfo, hls, hft]
            simp only [un_not, Bool.not_false, pureW_some, forkW_bool]
            refine ⟨fun _ => ⟨fun h => absurd h (by decide), fun _ => ⟨fun _ => ?_, fun h => absurd h (by decide)⟩⟩, fun h => Bool.noConfusion h⟩
            exact kill A2 70 kk2 r1 r2 f2 (by omega) he
          | true =>
            simp only [un_not, Bool.not_true, pureW_some, forkW_bool, bin_gtr, forkW_dec]
            refine ⟨fun h => Bool.noConfusion h, fun _ => ⟨fun _ => ⟨fun hbig => ⟨fun _ => ?_, fun h => absurd h (by decide)⟩, fun hsmall => ⟨fun h => absurd rfl h, fun _ => ?_⟩⟩, fun h => absurd rfl h⟩⟩
            · have he : feedR ⟨L, false⟩ f = (⟨[], true⟩, rNo 3) := by
                have : 16384 < slen f.pay + sumPay ls := by have := of_decide_eq_true hbig; omega
                simp [feedR, hfo, hls, hft, this]
              exact kill A2 3 kk2 r1 r2 f2 (by omega) he
            · have hns : ¬ 16384 < slen f.pay + sumPay ls := by have := of_decide_eq_false hsmall; omega
              have hbeg : ∀ y, (ls ++ [f]).head? = some y → y.beg = true := by
                intro y hy
                rcases List.eq_nil_or_concat ls with hnil | ⟨init, z, hz⟩
                · rw [hnil] at hy hft
                  simp only [List.nil_append, List.head?_cons, Option.some.injEq] at hy
                  subst hy
                  simp only [fitsR, List.getLast?_nil] at hft
                  split at hft
                  · cases hft
                  · simp only [Bool.and_eq_true] at hft
                    exact hft.2.1
                · refine hok y ?_
                  rw [← hy]
                  show ls.head? = _
                  rw [List.head?_append]
                  cases hh : ls.head? with
                  | none => rw [List.head?_eq_none_iff] at hh; rw [hh] at hz; simp at hz
                  | some w => rfl
              refine goodR_ok (q := q) (n0 := A.next) (n1 := A.next + 1) (n2 := A.next + 2) (ls := ls) (f := f) e0 e3 e4 e7 e8 hq2 hvL2 r0 r1 r2 h8 hnd.1 (fun hm => by have := b8 q hm; omega) (by omega) (by omega) (by omega) (by omega) (by omega)
                (nFL _ (by omega)) (nFL _ (by omega)) (nFL _ (by omega)) (fun hm => by have := b8 _ hm; omega) (fun x hx hm => by have := b8 x hx; have := lFL x hm; omega) f2 (by omega) (by omega) (by omega) ?_ ?_
              · intro hnot B v' FL' rq rL subL kB nB fB
                have he : feedR ⟨L, false⟩ f = (⟨L ++ [f], false⟩, rNo 0) := by
                  have : (f.fin && f.last) = false := by
                    cases h1 : f.fin <;> cases h2 : f.last <;> simp_all
                  simp [feedR, hfo, hls, hft, hns, this]
                rw [he] at hk
                have subL' : ∀ x ∈ FL', x ∈ FL ∨ A.next ≤ x := fun x hx => by
                  rcases subL x hx with h | h
                  · exact .inl h
                  · exact .inr (by omega)
                refine hk B (q :: FL') [] _ ⟨v', FL', rfl, ?_, rq, rL⟩ ⟨.slice none 0 0, rfl, OwnG.nil _ _ _⟩ (fun x hx => ?_) (by simp) (by simp) ?_ (by show B.next ≤ A.next + 50 + 10 * L.length; omega) fB
                · simp only [List.nodup_cons]
                  refine ⟨fun hm => ?_, rL.nodup⟩
                  rcases subL' q hm with h | h
                  · exact hnd.1 h
                  · omega
                · rcases List.mem_cons.1 hx with rfl | hx
                  · exact .inl (by simp)
                  · rcases subL' x hx with h | h
                    · exact .inl (by simp [h])
                    · exact .inr h
                · refine (kk2.more (T := q :: FL) (by simp)).trans kB (fun y hy => ?_)
                  simp only [List.mem_cons] at hy ⊢
                  rcases hy with h | h | h
                  · exact .inl (.inl h)
                  · exact .inr (by omega)
                  · exact .inl (.inr h)
              · intro hfin hlast B v' FL' v8' F8' n59 rq rL subL r8 sub8 dis8 r59 b59 n59L n598 kB nB fB
                have he : feedR ⟨L, false⟩ f = (⟨rests (L ++ [f]) f, false⟩, ⟨f.ch, f.tr, asm (ls ++ [f]), true, 0⟩) := by
                  simp [feedR, hfo, hls, hft, hns, hfin, hlast, opens_rests]
                have kB' : Keeps A B (q :: FL) := (kk2.more (T := q :: FL) (by simp)).trans kB (fun y hy => by
                  simp only [List.cons_append, List.mem_cons, List.mem_append] at hy ⊢
                  rcases hy with h | h | h
                  · exact .inl (.inl h)
                  · exact .inl (.inr h)
                  · exact .inr (by have := b8 y h; omega))
                have nS : ∀ y, A.next ≤ y → y < A.next + 3 → y ∉ q :: FL ++ F8 := fun y h1 h2 hm => by
                  simp only [List.cons_append, List.mem_cons, List.mem_append] at hm
                  rcases hm with h | h | h
                  · omega
                  · exact nFL y h1 h
                  · have := b8 y h; omega
                have hlo : A2.next ≤ B.next := kB.next
                refine ⟨2 * M - 0, by show 2 * (L.length + 5) - 0 < 3 * (L.length + 5) - ls.length; omega, .inr (.inl ⟨rfl, 0, v8', F8', v', FL', n59, .slice none 0 0, [], rfl, Nat.zero_le _, ?_, r8, n598, by simp, by omega, he, hbeg, rfl⟩)⟩
                exact ⟨rq, rL, fun x hx => by
                    rcases subL x hx with h | h
                    · exact .inl h
                    · exact .inr (by omega), r59, by omega, n59L, OwnG.nil _ _ _, by simp, by simp, by simp, kB', by omega, fB, r0.keeps kB (nS _ (by omega) (by omega)), r1.keeps kB (nS _ (by omega) (by omega))⟩
    · have e0 : d 0 = .pointer (some ⟨q, 0, none⟩) := by simp [L16] at hd; exact hd.1
      have e3 : d 3 = .pointer (some ⟨A.next, 0, none⟩) := by simp [L16] at hd; exact hd.2.1
      have e4 : d 4 = .pointer (some ⟨A.next + 1, 0, none⟩) := by simp [L16] at hd; exact hd.2.2.1
      have e8 : d 8 = v8 := by simp [L16] at hd; exact hd.2.2.2.1
      have e12 : d 12 = .pointer (some ⟨n59, 0, none⟩) := by simp [L16] at hd; exact hd.2.2.2.2.1
      have e13 : d 13 = .int .i64 (i : Nat) := by simp [L16] at hd; exact hd.2.2.2.2.2
      rcases Nat.lt_or_ge i (ls ++ [f]).length with hlt | hge
      · have hss : sumPay (ls ++ [f]) < 1000000000 := by
          rw [sumPay_append]
          have : sumPay [f] = slen f.pay := by simp [sumPay]
          omega
        refine asmLoop e0 e3 e4 e8 e12 e13 hqlt hm h8 d59 dis (List.getElem?_eq_getElem hlt) hbeg (by omega) hss lFL (by omega) fun B sv' Fs' hmB h8B disB nB => ?_
        exact ⟨2 * M - (i + 1), by show 2 * (L.length + 5) - (i + 1) < 2 * (L.length + 5) - i; omega, .inr (.inl ⟨rfl, i + 1, v8, F8, vL', FL', n59, sv', Fs', rfl, by omega, hmB, h8B, d59, disB, by omega, hfr, hbeg, rfl⟩)⟩
      · have hi : i = (ls ++ [f]).length := by omega
        subst hi
        rw [List.take_length] at hm
        rw [l16_2r]
        simp only [e8, e13, (OwnG.rdFr h8).len, pureW_some, bin_lss, forkW_dec, e0, e3, e4, e12]
        refine ⟨fun h => absurd h (by omega), fun _ => ?_⟩
        refine cutW_self.2 ⟨M - 0, by show L.length + 5 - 0 < 2 * (L.length + 5) - (ls ++ [f]).length; omega, .inr (.inr ⟨rfl, 0, .slice none 0 0, [], vL', FL', n59, sv, Fs, rfl, Nat.zero_le _, hm, ?_, by simp, by simp, by simp, by simp, by omega, hfr, rfl⟩)⟩
        exact OwnG.nil _ _ _
    · have e0 : d 0 = .pointer (some ⟨q, 0, none⟩) := by simp [L16] at hd; exact hd.1
      have e3 : d 3 = .pointer (some ⟨A.next, 0, none⟩) := by simp [L16] at hd; exact hd.2.1
      have e4 : d 4 = .pointer (some ⟨A.next + 1, 0, none⟩) := by simp [L16] at hd; exact hd.2.2.1
      have e12 : d 12 = .pointer (some ⟨n59, 0, none⟩) := by simp [L16] at hd; exact hd.2.2.2.1
      have e15 : d 15 = v15 := by simp [L16] at hd; exact hd.2.2.2.2.1
      have e16 : d 16 = .int .i64 (i : Nat) := by simp [L16] at hd; exact hd.2.2.2.2.2
      have hqF : q ∉ FL' := fun hmm => by
        rcases hm.subL q hmm with h | h
        · exact hnd.1 h
        · omega
      refine restLoop e0 e3 e4 e12 e15 e16 hqlt hm h15 b15 d59 dis disL hi (by omega) (by omega) hqF ?_ ?_
      · intro hlt B v' F' hmB hB bB dB disB disLB nB
        exact ⟨M - (i + 1), by show L.length + 5 - (i + 1) < L.length + 5 - i; omega, .inr (.inr ⟨rfl, i + 1, v', F', vL', FL', n59, sv, Fs, rfl, by omega, hmB, hB, bB, dB, disB, disLB, by omega, hfr, rfl⟩)⟩
      · intro B iB sB kB nB fB
        rw [hfr] at hk
        refine hk B (q :: F15) Fs _ iB ⟨sv, rfl, sB⟩ (fun x hx => ?_) (fun x hx => by have := hm.sb x hx; omega) (fun x hx hx2 => ?_) kB (by show B.next ≤ A.next + 50 + 10 * L.length; omega) fB
        · rcases List.mem_cons.1 hx with rfl | hx
          · exact .inl (by simp)
          · exact .inr (by have := b15 x hx; omega)
        · rcases List.mem_cons.1 hx2 with rfl | hx2
          · have := hm.sb x hx; omega
          · exact dis x hx hx2
  · rw [e16]
    refine newP_made hf (by omega) rfl fun A1 m1 => ?_
    have n1 := m1.next
    refine allocP_made zt25 m1.fine (by omega) rfl fun A2 m2 => ?_
    have n2 := m2.next
    refine allocP_made zt25 m2.fine (by omega) rfl fun A3 m3 => ?_
    have n3 := m3.next
    have k3 : Keeps A A3 [] := ((m1.keeps hf).trans (m2.keeps m1.fine) (by simp)).trans (m3.keeps m2.fine) (by simp)
    have r0 : Row1 A3 A.next f.cells 45 := (m1.row1.keeps (m2.keeps m1.fine) (by simp)).keeps (m3.keeps m2.fine) (by simp)
    have r1 : Row1 A3 (A.next + 1) (asmCells 0 0 (.slice none 0 0)) 25 := by have := (m2.row1).keeps (m3.keeps m2.fine) (by simp); rw [n1] at this; exact this
    have r2 : Row1 A3 (A.next + 2) (asmCells 0 0 (.slice none 0 0)) 25 := by have := m3.row1; rw [n2, n1] at this; exact this
    have hq3 := hq.keeps k3 (by simp)
    have hv3 := hvL.keeps k3 (by simp)
    have hld0 : loadP Try.prog A3 45 (.pointer (some ⟨A.next, 0, none⟩)) = some f.val := by
      rw [ld_45, cells_row r0.row]; rfl
    rw [n1, show A2.next = A.next + 2 by omega]
    simp only [nilP_ptr, fa_43_1, ld_4, cell_row hq3.row, cellOf, hvL.one.2, isT_bool, cond_false, pureW_some, forkW_bool, Nat.zero_add, hld0]
    refine ⟨fun hdd => ?_, fun hdd => ?_⟩
    · have he : feedR ⟨L, dead⟩ f = (⟨L, dead⟩, rNo 9) := by simp [feedR, hdd]
      rw [he] at hk
      simp only [ld_25, cells_row r2.row, asmCells, List.drop_zero, takeCells, isT_int, isT_slice, cond_false, pureW_some]
      refine r1.store m3.fine (by omega) (st_25 _ _ _) rfl (by simp [asmCells, Value.cells]) rfl fun A4 a4 k4 n4e f4 => ?_
      have a4 : Row1 A4 (A.next + 1) (asmCells 0 0 (.slice none 0 0)) 25 := a4
      simp only [cells_row a4.row, asmCells, List.drop_zero, takeCells, isT_int, isT_slice, cond_false, pureW_some]
      refine hk A4 (q :: FL) [] _ ⟨vL, FL, rfl, by simp only [List.nodup_cons]; exact hnd, hq3.keeps k4 (by simp; omega), hv3.keeps k4 (fun x hx => by have := lFL x hx; simp; omega)⟩ ⟨.slice none 0 0, rfl, OwnG.nil _ _ _⟩ (fun x hx => .inl hx) (by simp) (by simp) ?_ (by show A4.next ≤ A.next + 50 + 10 * L.length; omega) f4
      exact (k3.more (T := q :: FL) (by simp)).trans k4 (by simp)
    · refine wc23 (F := FL) hq3 (OwnG.rdFr hv3) m3.fine (by omega) (by omega) fun A4 v8 F8 h8 b8 k4 n4e f4 => ?_
      have r0 := r0.keeps k4 (by simp)
      have r1 := r1.keeps k4 (by simp)
      have r2 := r2.keeps k4 (by simp)
      have hn4 := k4.next
      simp only [fa_45_7, ld_9, cell_row r0.row, Fr.cells, cellOf, isTuple, cond_false, pureW_some, ln_9, Nat.zero_add]
      exact cutW_self.2 ⟨3 * M - 0, .inl ⟨rfl, 0, v8, F8, by rw [show sumPay (ls.take 0) = 0 from rfl]; rfl, Nat.zero_le _, hdd, h8, fun x hx => by have := b8 x hx; omega, k3.trans k4 (by simp), by omega, by omega, f4, r0, r1, r2, rfl⟩⟩
end
end Go.Proofs.Yteiiledpfhopdaa

namespace Go.Proofs.Yteiiledpfhopdaa
open Go Go.Abs

/-! the gatherer and the document's go the same way -/
def opK (L : List Fr) (k : Key) : List Fr := L.filter (fun x => decide (keyOf x = k))
theorem sameKey_eq (f x : Fr) : sameKey f x = decide (keyOf x = keyOf f) := by
  unfold sameKey keyOf
  rw [Bool.eq_iff_iff]
  simp
theorem opens_eq (L : List Fr) (f : Fr) : opens L f = opK L (keyOf f) := by
  unfold opens opK
  congr 1
  funext x
  exact sameKey_eq f x
theorem opK_snoc (L : List Fr) (f : Fr) (k : Key) : opK (L ++ [f]) k = opK L k ++ (if keyOf f = k then [f] else []) := by
  unfold opK
  rw [List.filter_append]
  congr 1
  by_cases h : keyOf f = k <;> simp [h]
theorem opK_rests (L : List Fr) (f : Fr) (k : Key) : opK (rests L f) k = if k = keyOf f then [] else opK L k := by
  unfold opK rests
  rw [List.filter_filter]
  by_cases h : k = keyOf f
  · subst h
    rw [if_pos rfl, List.filter_eq_nil_iff]
    intro x _
    rw [sameKey_eq]
    by_cases h2 : keyOf x = keyOf f <;> simp [h2]
  · rw [if_neg h]
    congr 1
    funext x
    rw [sameKey_eq]
    by_cases h2 : keyOf x = k
    · simp [h2, h]
    · simp [h2]

theorem findP_putP (m : List (Key × Part)) (k : Key) (p : Part) (j : Key) : findP (putP m k p) j = if j = k then some p else findP m j := by
  induction m with
  | nil =>
    simp only [putP, findP]
    by_cases h : k = j
    · rw [if_pos h, if_pos h.symm]
    · rw [if_neg h, if_neg (Ne.symm h)]
  | cons x r ih =>
    obtain ⟨k', p'⟩ := x
    simp only [putP]
    by_cases h : k' = k
    · rw [if_pos h]
      subst h
      simp only [findP]
      by_cases h2 : k' = j
      · rw [if_pos h2, if_pos h2.symm]
      · rw [if_neg h2, if_neg (Ne.symm h2), if_neg h2]
    · rw [if_neg h]
      simp only [findP]
      by_cases h2 : k' = j
      · rw [if_pos h2, if_pos h2, if_neg (fun e => h (h2.trans e))]
      · rw [if_neg h2, if_neg h2, ih]
def keysP (m : List (Key × Part)) : List Key := m.map Prod.fst
theorem mem_keysP {m : List (Key × Part)} {k : Key} : k ∈ keysP m ↔ (findP m k).isSome = true := by
  induction m with
  | nil => simp [keysP, findP]
  | cons x r ih =>
    obtain ⟨k', p'⟩ := x
    unfold keysP at *
    simp only [List.map_cons, List.mem_cons, findP]
    by_cases h : k' = k
    · simp [h]
    · rw [if_neg h]
      constructor
      · rintro (h2 | h2)
        · exact absurd h2.symm h
        · exact ih.1 h2
      · intro h2; exact .inr (ih.2 h2)
theorem keysP_putP (m : List (Key × Part)) (k : Key) (p : Part) : keysP (putP m k p) = if (findP m k).isSome then keysP m else keysP m ++ [k] := by
  induction m with
  | nil => simp [putP, findP, keysP]
  | cons x r ih =>
    obtain ⟨k', p'⟩ := x
    have e : findP ((k', p') :: r) k = if k' = k then some p' else findP r k := rfl
    by_cases h : k' = k
    · subst h; simp [putP, findP, keysP]
    · have e2 : putP ((k', p') :: r) k p = (k', p') :: putP r k p := by simp [putP, h]
      have e3 : findP ((k', p') :: r) k = findP r k := by rw [e, if_neg h]
      rw [e2, e3]
      show k' :: keysP (putP r k p) = if (findP r k).isSome then k' :: keysP r else k' :: keysP r ++ [k]
      rw [ih]
      split <;> simp
theorem nodup_putP {m : List (Key × Part)} (k : Key) (p : Part) (h : (keysP m).Nodup) : (keysP (putP m k p)).Nodup := by
  rw [keysP_putP]
  split
  · exact h
  · rename_i hn
    rw [List.nodup_append]
    refine ⟨h, by simp, fun a ha b hb => ?_⟩
    simp only [List.mem_singleton] at hb
    subst hb
    rintro rfl
    exact hn (mem_keysP.1 ha)
theorem delP_eq (m : List (Key × Part)) (k : Key) (h : (keysP m).Nodup) : delP m k = m.filter (fun x => decide (x.1 ≠ k)) := by
  induction m with
  | nil => rfl
  | cons x r ih =>
    obtain ⟨k', p'⟩ := x
    unfold keysP at *
    simp only [List.map_cons, List.nodup_cons] at h
    simp only [delP, List.filter_cons]
    by_cases h2 : k' = k
    · subst h2
      simp only [if_true, ne_eq, not_true, decide_false, Bool.false_eq_true, if_false]
      refine (List.filter_eq_self.2 ?_).symm
      rintro ⟨a, b⟩ hab
      simp only [decide_eq_true_eq]
      rintro rfl
      exact h.1 (List.mem_map.2 ⟨_, hab, rfl⟩)
    · simp [h2, ih h.2]
theorem keysP_delP {m : List (Key × Part)} (k : Key) (h : (keysP m).Nodup) : keysP (delP m k) = (keysP m).filter (fun x => decide (x ≠ k)) := by
  rw [delP_eq m k h]
  unfold keysP
  rw [List.filter_map]
  rfl
theorem findP_delP {m : List (Key × Part)} (k : Key) (h : (keysP m).Nodup) (j : Key) : findP (delP m k) j = if j = k then none else findP m j := by
  induction m with
  | nil => simp [delP, findP]
  | cons x r ih =>
    obtain ⟨k', p'⟩ := x
    have h0 := h
    unfold keysP at h
    simp only [List.map_cons, List.nodup_cons] at h
    simp only [delP]
    by_cases h2 : k' = k
    · subst h2
      rw [if_pos rfl]
      by_cases h3 : j = k'
      · subst h3
        rw [if_pos rfl]
        cases hf : findP r j with
        | none => rfl
        | some p =>
          have : j ∈ keysP r := mem_keysP.2 (by rw [hf]; rfl)
          exact absurd this h.1
      · rw [if_neg h3]
        simp only [findP]
        rw [if_neg (Ne.symm h3)]
    · rw [if_neg h2]
      simp only [findP]
      by_cases h3 : k' = j
      · subst h3
        rw [if_pos rfl, if_neg h2, if_pos rfl]
      · rw [if_neg h3, if_neg h3]
        exact ih h.2

/-! how many are open -/
theorem distN_keys (L : List Fr) : ∀ i, i ≤ L.length → ∃ K : List Key, K.Nodup ∧ (∀ k, k ∈ K ↔ ∃ x ∈ L.take i, keyOf x = k) ∧ distN L i = K.length
  | 0, _ => ⟨[], by simp, by simp, rfl⟩
  | i + 1, hi => by
    obtain ⟨K, h1, h2, h3⟩ := distN_keys L i (by omega)
    obtain ⟨x, hx⟩ : ∃ x, L[i]? = some x := ⟨L[i], List.getElem?_eq_getElem (by omega)⟩
    have hta : L.take (i + 1) = L.take i ++ [x] := by rw [List.take_add_one, hx]; rfl
    simp only [distN, hx]
    cases ha : (L.take i).any (sameKey x) with
    | true =>
      refine ⟨K, h1, fun k => ?_, by simp [h3]⟩
      rw [h2, hta]
      simp only [List.mem_append, List.mem_singleton]
      constructor
      · rintro ⟨y, hy, e⟩; exact ⟨y, .inl hy, e⟩
      · rintro ⟨y, hy | hy, e⟩
        · exact ⟨y, hy, e⟩
        · subst hy
          obtain ⟨z, hz, e2⟩ := List.any_eq_true.1 ha
          rw [sameKey_eq] at e2
          exact ⟨z, hz, (of_decide_eq_true e2).trans e⟩
    | false =>
      refine ⟨K ++ [keyOf x], ?_, fun k => ?_, by simp [h3]⟩
      · rw [List.nodup_append]
        refine ⟨h1, by simp, fun a ha2 b hb => ?_⟩
        simp only [List.mem_singleton] at hb
        subst hb
        rintro rfl
        obtain ⟨y, hy, e⟩ := (h2 _).1 ha2
        have := List.any_eq_false.1 ha y hy
        rw [sameKey_eq] at this
        simp [e] at this
      · simp only [List.mem_append, List.mem_singleton, h2, hta]
        constructor
        · rintro (⟨y, hy, e⟩ | e)
          · exact ⟨y, .inl hy, e⟩
          · exact ⟨x, .inr rfl, e.symm⟩
        · rintro ⟨y, hy | hy, e⟩
          · exact .inl ⟨y, hy, e⟩
          · subst hy; exact .inr e.symm
theorem dist_eq {L : List Fr} {K : List Key} (h1 : K.Nodup) (h2 : ∀ k, k ∈ K ↔ opK L k ≠ []) : dist L = K.length := by
  obtain ⟨K', g1, g2, g3⟩ := distN_keys L L.length (Nat.le_refl _)
  unfold dist
  rw [g3]
  refine (List.Perm.length_eq ?_)
  rw [List.perm_ext_iff_of_nodup g1 h1]
  intro k
  rw [g2, h2, List.take_length]
  constructor
  · rintro ⟨x, hx, e⟩ hn
    have := List.filter_eq_nil_iff.1 hn x hx
    simp [e] at this
  · intro hn
    obtain ⟨x, hx⟩ := List.exists_mem_of_ne_nil _ hn
    obtain ⟨h3, h4⟩ := List.mem_filter.1 hx
    exact ⟨x, h3, of_decide_eq_true h4⟩

/-- what is open here is what is open there -/
structure Fits (p : Part) (l : List Fr) : Prop where
  last : ∃ x, l.getLast? = some x ∧ p.goes = !x.fin ∧ p.fr.ty = x.ty ∧ p.fr.first = x.first ∧ p.fr.last = x.last
  segs : p.segs = asm l
  size : p.size = (sumPay l : Nat)
  beg : ∀ y, l.head? = some y → y.beg = true
  small : sumPay l ≤ 16384
structure Sim (I : GI) (R : GR) : Prop where
  dead : I.dead = R.dead
  nd : (keysP I.m).Nodup
  none : ∀ k, findP I.m k = none → opK R.L k = []
  some : ∀ k p, findP I.m k = some p → Fits p (opK R.L k)

theorem Sim.open {I : GI} {R : GR} (h : Sim I R) : dist R.L = I.m.length := by
  rw [dist_eq h.nd fun k => ?_]
  · simp [keysP]
  · rw [mem_keysP]
    cases hf : findP I.m k with
    | none => simp [h.none k hf]
    | some p =>
      obtain ⟨x, hx, _⟩ := (h.some k p hf).last
      refine ⟨fun _ hn => ?_, fun _ => rfl⟩
      rw [hn] at hx; cases hx

theorem Sim.empty {b : Bool} : Sim ⟨[], b⟩ ⟨[], b⟩ := ⟨rfl, by simp [keysP], fun k _ => rfl, fun k p h => by cases h⟩

theorem Sim.fits {I : GI} {R : GR} (h : Sim I R) (f : Fr) : fitsI ((findP I.m (keyOf f)).getD part0) (findP I.m (keyOf f)).isSome f = fitsR (opens R.L f) f := by
  rw [opens_eq]
  cases hf : findP I.m (keyOf f) with
  | none =>
    rw [h.none _ hf]
    unfold fitsI fitsR
    simp only [Option.isSome_none, Bool.false_eq_true, if_false, List.getLast?_nil, Bool.or_comm]
  | some p =>
    obtain ⟨x, hx, h1, h2, h3, h4⟩ := (h.some _ p hf).last
    unfold fitsI fitsR
    simp only [Option.isSome_some, if_true, Option.getD_some, hx, h1, h2, h3, h4]

theorem Sim.step {I : GI} {R : GR} (h : Sim I R) (f : Fr) : (feedI I f).2 = (feedR R f).2 ∧ Sim (feedI I f).1 (feedR R f).1 := by
  unfold feedI feedR
  rw [h.dead]
  split
  · exact ⟨rfl, h⟩
  split
  · exact ⟨rfl, .empty⟩
  rw [h.fits]
  split
  · exact ⟨rfl, .empty⟩
  rename_i hd hok hfit
  have hfit : fitsR (opK R.L (keyOf f)) f = true := by
    rw [← opens_eq]; simpa using hfit
  rw [opens_eq]
  -- the part ahead of the frame, and behind it
  have key : ((findP I.m (keyOf f)).getD part0).size = (sumPay (opK R.L (keyOf f)) : Nat) ∧
      (slen f.pay + sumPay (opK R.L (keyOf f)) ≤ 16384 → Fits (stepP ((findP I.m (keyOf f)).getD part0) f) (opK R.L (keyOf f) ++ [f])) := by
    have hsum : ∀ l : List Fr, sumPay (l ++ [f]) = sumPay l + slen f.pay := fun l => by rw [sumPay_append]; simp [sumPay]
    cases hf : findP I.m (keyOf f) with
    | none =>
      rw [h.none _ hf] at hfit ⊢
      refine ⟨rfl, fun hs => ?_⟩
      have hb : f.beg = true := by
        simp only [fitsR, List.getLast?_nil] at hfit
        split at hfit
        · cases hfit
        · simp only [Bool.and_eq_true] at hfit; exact hfit.2.1
      refine ⟨⟨f, rfl, rfl, ?_, ?_, ?_⟩, ?_, ?_, fun y hy => ?_, ?_⟩
      · simp [stepP, begP, hb]
      · simp [stepP, begP, hb]
      · simp [stepP, begP, hb]
      · simp [stepP, begP, hb, part0, asm, asmStep, begS]
      · rw [hsum]; simp [stepP, begP, hb, part0, sumPay]
      · simp only [List.nil_append, List.head?_cons, Option.some.injEq] at hy; subst hy; exact hb
      · rw [hsum]; simp [sumPay] at hs ⊢; omega
    | some p =>
      have hp := h.some _ p hf
      obtain ⟨x, hx, h1, h2, h3, h4⟩ := hp.last
      refine ⟨hp.size, fun hs => ?_⟩
      simp only [Option.getD_some]
      have hne : opK R.L (keyOf f) ≠ [] := by intro hn; rw [hn] at hx; cases hx
      refine ⟨⟨f, by rw [List.getLast?_append]; rfl, rfl, ?_⟩, ?_, ?_, fun y hy => ?_, ?_⟩
      · simp only [fitsR, hx] at hfit
        split at hfit
        · cases hfit
        split at hfit
        · simp only [Bool.and_eq_true, Bool.not_eq_true', beq_iff_eq] at hfit
          obtain ⟨g1, g2, g3, g4⟩ := hfit
          simp only [stepP, begP, g1, Bool.false_eq_true, if_false]
          exact ⟨h2.trans g2.symm, h3.trans g3.symm, h4.trans g4.symm⟩
        · simp only [Bool.and_eq_true] at hfit
          simp [stepP, begP, hfit.1]
      · rw [asm_snoc]
        unfold asmStep stepP begP begS
        cases f.beg <;> simp [hp.segs]
      · rw [hsum]
        unfold stepP begP
        cases f.beg <;> simp [hp.size]
      · refine hp.beg y ?_
        rw [← hy, List.head?_append]
        cases hh : (opK R.L (keyOf f)).head? with
        | none => rw [List.head?_eq_none_iff] at hh; exact absurd hh hne
        | some w => rfl
      · rw [hsum]; omega
  obtain ⟨ksize, kfits⟩ := key
  by_cases hbig : 16384 < slen f.pay + sumPay (opK R.L (keyOf f))
  · rw [if_pos (by omega), if_pos hbig]
    exact ⟨rfl, .empty⟩
  rw [if_neg (by omega), if_neg hbig]
  have kf := kfits (by omega)
  split
  · refine ⟨by simp only [kf.segs], rfl, ?_, fun k hk => ?_, fun k p hk => ?_⟩
    · show (keysP (delP _ _)).Nodup
      rw [keysP_delP _ h.nd]; exact h.nd.filter _
    · show opK (rests (R.L ++ [f]) f) k = []
      rw [opK_rests]
      split
      · rfl
      · rename_i hne
        rw [findP_delP _ h.nd, if_neg hne] at hk
        rw [opK_snoc, if_neg (Ne.symm hne), List.append_nil]
        exact h.none k hk
    · show Fits p (opK (rests (R.L ++ [f]) f) k)
      rw [findP_delP _ h.nd] at hk
      split at hk
      · cases hk
      · rename_i hne
        rw [opK_rests, if_neg hne, opK_snoc, if_neg (Ne.symm hne), List.append_nil]
        exact h.some k p hk
  · refine ⟨rfl, rfl, nodup_putP _ _ h.nd, fun k hk => ?_, fun k p hk => ?_⟩
    · show opK (R.L ++ [f]) k = []
      rw [findP_putP] at hk
      split at hk
      · cases hk
      · rename_i hne
        rw [opK_snoc, if_neg (Ne.symm hne), List.append_nil]
        exact h.none k hk
    · show Fits p (opK (R.L ++ [f]) k)
      rw [findP_putP] at hk
      split at hk
      · rename_i he
        cases hk
        rw [opK_snoc, if_pos he.symm, he]
        exact kf
      · rename_i hne
        rw [opK_snoc, if_neg (Ne.symm hne), List.append_nil]
        exact h.some k p hk
end Go.Proofs.Yteiiledpfhopdaa


namespace Go.Proofs.Yteiiledpfhopdaa
open Go Go.Abs

theorem opK_len (L : List Fr) (k : Key) : (opK L k).length ≤ L.length := List.length_filter_le _ _
theorem Fits.good {p : Part} {l : List Fr} (h : Fits p l) {N : Nat} (hN : l.length ≤ N) : p.good N := by
  obtain ⟨x, hx, _⟩ := h.last
  have hne : 0 < l.length := by
    cases l with
    | nil => cases hx
    | cons a r => simp
  obtain ⟨h1, h2, h3⟩ := asm_facts h.beg l.length (Nat.le_refl _)
  rw [List.take_length] at h1 h2 h3
  refine ⟨?_, by rw [h.segs]; omega, by rw [h.size, h.segs, h1], by have := h.small; rw [h.size]; omega⟩
  rw [h.segs]
  exact List.length_pos_iff.2 (h3 hne)
theorem Sim.good {I : GI} {R : GR} (h : Sim I R) {N : Nat} (hN : R.L.length ≤ N) : I.good N := fun k p hk => (h.some k p hk).good (Nat.le_trans (opK_len _ _) hN)
theorem sim_begs {I : GI} {R : GR} (h : Sim I R) (f : Fr) : ∀ x, (opens R.L f).head? = some x → x.beg = true := by
  rw [opens_eq]
  cases hf : findP I.m (keyOf f) with
  | none => rw [h.none _ hf]; intro x hx; cases hx
  | some p => exact (h.some _ p hf).beg
theorem feedR_len (G : GR) (f : Fr) : (feedR G f).1.L.length ≤ G.L.length + 1 ∧ sumPay (feedR G f).1.L ≤ sumPay G.L + slen f.pay := by
  unfold feedR
  split
  · exact ⟨by simp, by simp⟩
  split
  · exact ⟨by simp, by simp [sumPay]⟩
  split
  · exact ⟨by simp, by simp [sumPay]⟩
  split
  · exact ⟨by simp, by simp [sumPay]⟩
  have hs : sumPay (G.L ++ [f]) = sumPay G.L + slen f.pay := by rw [sumPay_append]; simp [sumPay]
  split
  · refine ⟨?_, ?_⟩
    · have := List.length_filter_le (fun x => !sameKey f x) (G.L ++ [f])
      simpa using this
    · have := sumPay_filter (fun x => !sameKey f x) (G.L ++ [f])
      rw [hs] at this; exact this
  · exact ⟨by simp, by rw [hs]; exact Nat.le_refl _⟩

theorem feedR_segs {G : GR} (f : Fr) (hok : ∀ x, (opens G.L f).head? = some x → x.beg = true) : (feedR G f).2.segs.length ≤ G.L.length + 1 := by
  unfold feedR
  split
  · simp [rNo]
  split
  · simp [rNo]
  split
  · simp [rNo]
  rename_i hfit
  split
  · simp [rNo]
  split
  · have hbeg : ∀ y, (opens G.L f ++ [f]).head? = some y → y.beg = true := by
      intro y hy
      cases ho : opens G.L f with
      | nil =>
        rw [ho] at hy hfit
        simp only [List.nil_append, List.head?_cons, Option.some.injEq] at hy
        subst hy
        simp only [fitsR, List.getLast?_nil, Bool.not_eq_true', Bool.not_eq_false] at hfit
        split at hfit
        · cases hfit
        · simp only [Bool.and_eq_true] at hfit; exact hfit.2.1
      | cons a r =>
        rw [ho] at hy hok
        exact hok y (by simpa using hy)
    obtain ⟨_, h2, _⟩ := asm_facts hbeg (opens G.L f ++ [f]).length (Nat.le_refl _)
    rw [List.take_length] at h2
    have := opens_len G.L f
    simp only [List.length_append, List.length_cons, List.length_nil] at h2
    show (asm (opens G.L f ++ [f])).length ≤ _
    omega
  · simp [rNo]

theorem bin_boolneq (n m : Nat) (a b : Bool) : binA Try.prog .neq 4 (.tmp n) (.tmp m) (.bool a) (.bool b) = some (.bool (a != b)) := by cases a <;> cases b <;> kernel_rfl

section
variable {W0 : World} {m0 : Inj Try.prog}
theorem wc4 {A : AW} {lv : Value} {l : List Fr} {F : List Nat} (hf : Fine A) (hA : A.next + 100000 ≤ maxId) (hl : RdFr A lv l F) (hF : ∀ x ∈ F, x < A.next) (hw : ∀ f ∈ l, f.wf) (hK : KC.Holds Try.prog W0 m0 ⟨8, [], [.bool true]⟩) :
    Wc Try.prog theX W0 m0 4 [lv] A fun v _ => v = .bool true := by
  have hkn : ∀ A', knW Try.prog W0 m0 8 [] A' fun v _ => v = .bool true := fun A' => ⟨[.bool true], by decide, hK, rfl, fun v hv => by simpa using hv⟩
  let I : Nat → Nat → List Value → AW → Prop := fun gg id vals A' => id = 0 ∧ ∃ (i g q left : Nat) (G : GI) (R : GR) (FP FQ : List Nat), vals = [lv, .pointer (some ⟨g, 0, none⟩), .pointer (some ⟨q, 0, none⟩), .int .i64 (left : Nat), .int .i64 (i : Nat)] ∧ i ≤ l.length ∧ i ≤ 60 ∧
    IsG A' g G FP ∧ IsQ A' q R FQ ∧ (∀ x ∈ FP, x ∉ FQ) ∧ (∀ x ∈ FP, A.next ≤ x) ∧ (∀ x ∈ FQ, A.next ≤ x) ∧ Sim G R ∧ R.L.length ≤ i ∧ sumPay R.L + left ≤ 20000 ∧ Keeps A A' [] ∧ A'.next ≤ A.next + 10 + 1000 * i ∧ Fine A' ∧ gg = l.length - i
  refine w4 _ _ (c4 (I := I) ?_) ?_
  · rintro gg id vals A' d ⟨rfl, i, g, q, left, G, R, FP, FQ, rfl, hi, hi60, hG, hQ, dPQ, bP, bQ, hS, hRl, hRs, kk, hnx, hf', rfl⟩ hd
    rw [l4_0]
    have e0 : d 0 = lv := by simp [L4] at hd; exact hd.1
    have e3 : d 3 = .pointer (some ⟨g, 0, none⟩) := by simp [L4] at hd; exact hd.2.1
    have e4 : d 4 = .pointer (some ⟨q, 0, none⟩) := by simp [L4] at hd; exact hd.2.2.1
    have e5 : d 5 = .int .i64 (left : Nat) := by simp [L4] at hd; exact hd.2.2.2.1
    have e6 : d 6 = .int .i64 (i : Nat) := by simp [L4] at hd; exact hd.2.2.2.2
    have hl' := hl.keeps kk (by simp)
    simp only [e0, e3, e4, e5, e6, hl'.len, pureW_some, bin_lss, forkW_dec]
    refine ⟨fun hlt => ⟨fun h60 => ?_, fun _ => hkn A'⟩, fun _ => hkn A'⟩
    have hlt : i < l.length := by omega
    obtain ⟨f, hx⟩ : ∃ f, l[i]? = some f := ⟨l[i], List.getElem?_eq_getElem hlt⟩
    have hfw : f.wf := hw f (List.mem_of_getElem? hx)
    obtain ⟨r, o, g1, g2⟩ := hl'.at hx
    simp only [g1, fa_45_7, ld_9, g2.c7, g2.ld, ln_9, pureW_some, bin_gtr, forkW_dec, bin_sub]
    refine ⟨fun _ => hkn A', fun hle => ?_⟩
    have hsl : slen f.pay = f.pay.data.toList.length := rfl
    have hle : slen f.pay ≤ left := by omega
    have wl : IntKind.i64.wrap ((left : Int) - (f.pay.data.toList.length : Nat)) = ((left - slen f.pay : Nat) : Int) := by
      rw [wrap_i64 (by omega) (by omega)]; omega
    have wi : IntKind.i64.wrap ((i : Int) + 1) = ((i + 1 : Nat) : Int) := by rw [wrap_i64 (by omega) (by omega)]; omega
    obtain ⟨st1, st2⟩ := hS.step f
    obtain ⟨fl1, fl2⟩ := feedR_len R f
    have fl3 := feedR_segs (G := R) f (sim_begs hS f)
    refine wc15 (N := 60) hG hf' (by omega) (hS.good (by omega)) (by omega) hfw (by omega) fun A1 FP1 Fv1 v1 hG1 hR1 sP1 sv1 dv1 k1 n1 f1 => ?_
    have lP := hG.lt
    have lQ := hQ.lt
    have hk1n := k1.next
    obtain ⟨sv, rfl, hsv⟩ := hR1
    have hQ1 := hQ.keeps k1 (fun x hx h => dPQ x h hx)
    have kA1 : Keeps A A1 [] := kk.trans k1 (fun x hx => .inr (bP x hx))
    have dP1Q : ∀ x ∈ FP1, x ∉ FQ := fun x hx h => by
      rcases sP1 x hx with h2 | h2
      · exact dPQ x h2 h
      · have := lQ x h; omega
    have dv1Q : ∀ x ∈ Fv1, x ∉ FQ := fun x hx h => by
      rcases sv1 x hx with h2 | h2
      · exact dPQ x h2 h
      · have := lQ x h; omega
    simp only [extractP, List.getElem?_cons_zero, List.getElem?_cons_succ, pureW_some, wl, wi]
    refine allocP_made zt25 f1 (by omega) rfl fun A2 m2 => ?_
    have n2 := m2.next
    have k2 := m2.keeps f1
    refine m2.row1.store m2.fine (by omega) (st_25 _ _ _) rfl (by simp [asmVal, Value.cells, asmCells]) (by simp only [asmVal, Value.cells, asmCells, List.all_cons, hsv.one.1]; rfl) fun A3 r3 k3 n3 f3 => ?_
    have r3 : Row1 A3 A1.next (asmCells (feedI G f).2.ch (feedI G f).2.tr sv) 25 := r3
    have k13 : Keeps A1 A3 [] := k2.trans k3 (by simp)
    have hG3 := hG1.keeps k13 (by simp)
    have hQ3 := hQ1.keeps k13 (by simp)
    have hsv3 := hsv.keeps k13 (by simp)
    have kA3 : Keeps A A3 [] := kA1.trans k13 (by simp)
    have hl3 := hl.keeps kA3 (by simp)
    obtain ⟨r', o', g1', g2'⟩ := hl3.at hx
    have lsv := hsv.lt
    have lP1 := hG1.lt
    have hro : r' = r ∧ o' = o := by
      rw [g1] at g1'
      simp only [Option.some.injEq, Value.pointer.injEq, Addr.mk.injEq] at g1'
      exact ⟨g1'.1.symm, g1'.2.1.symm⟩
    obtain ⟨rfl, rfl⟩ := hro
    simp only [g2'.ld, pureW_some]
    refine wc16 hQ3 f3 (by omega) (by omega) (by omega) (by omega) (sim_begs hS f) fun A4 FQ4 Fv4 v4 hQ4 hR4 sQ4 sv4 dv4 k4 n4 f4 => ?_
    obtain ⟨sw, rfl, hsw⟩ := hR4
    have hk4n := k4.next
    have hG4 := hG3.keeps k4 dP1Q
    have hsv4 := hsv3.keeps k4 dv1Q
    have r4 := r3.keeps k4 (fun h => by have := lQ _ h; omega)
    have kA4 : Keeps A A4 [] := kA3.trans k4 (fun x hx => .inr (bQ x hx))
    simp only [extractP, List.getElem?_cons_zero, List.getElem?_cons_succ, pureW_some]
    refine allocP_made zt25 f4 (by omega) rfl fun A5 m5 => ?_
    have n5 := m5.next
    have k5 := m5.keeps f4
    refine m5.row1.store m5.fine (by omega) (st_25 _ _ _) rfl (by simp [asmVal, Value.cells, asmCells]) (by simp only [asmVal, Value.cells, asmCells, List.all_cons, hsw.one.1]; rfl) fun A6 r6 k6 n6 f6 => ?_
    have r6 : Row1 A6 A4.next (asmCells (feedR R f).2.ch (feedR R f).2.tr sw) 25 := r6
    have k46 : Keeps A4 A6 [] := k5.trans k6 (by simp)
    have r46 := r4.keeps k46 (by simp)
    have hsv6 := hsv4.keeps k46 (by simp)
    have hsw6 := hsw.keeps k46 (by simp)
    have hG6 := hG4.keeps k46 (by simp)
    have hQ6 := hQ4.keeps k46 (by simp)
    simp only [ld_25, cells_row r46.row, cells_row r6.row, asmCells, List.drop_zero, takeCells, isT_int, hsv.one.2, hsw.one.2, cond_false, pureW_some]
    rw [st1] at hsv6 ⊢
    refine wc17 f6 (by omega) (OwnG.isSegs hsv6 f6) (OwnG.isSegs hsw6 f6) (by omega) fun A7 k7 n7 f7 => ?_
    have hG7 := hG6.keeps k7 (by simp)
    have hQ7 := hQ6.keeps k7 (by simp)
    simp only [un_not, Bool.not_true, pureW_some, forkW_bool, bin_boolneq, bin_neq, bne_self_eq_false, Bool.false_eq_true, false_implies, true_and, true_implies]
    refine wc18 hG7 ?_
    obtain ⟨vq, Fq, hFq, hndq, hq1, hq2⟩ := hQ7
    refine wc19 hq1 (OwnG.rdFr hq2) (by omega) ?_
    have ho : dist (feedR R f).1.L = (feedI G f).1.m.length := st2.open
    simp only [ho, bin_neq, bin_add, wi, pureW_some, forkW_bool, bne_self_eq_false, Bool.false_eq_true, false_implies, true_and, true_implies]
    have kA7 : Keeps A A7 [] := (kA4.trans k46 (by simp)).trans k7 (by simp)
    refine cutW_self.2 ⟨l.length - (i + 1), by omega, rfl, i + 1, g, q, left - slen f.pay, (feedI G f).1, (feedR R f).1, FP1, FQ4, rfl, by omega, by omega, hG7, ⟨vq, Fq, hFq, hndq, hq1, hq2⟩, fun x hx h => ?_, fun x hx => ?_, fun x hx => ?_, st2, by omega, by omega, kA7, by omega, f7, rfl⟩
    · rcases sQ4 x h with h2 | h2
      · exact dP1Q x hx h2
      · have := lP1 x hx; omega
    · rcases sP1 x hx with h2 | h2
      · exact bP x h2
      · have := kk.next; omega
    · rcases sQ4 x hx with h2 | h2
      · exact bQ x h2
      · have := kA3.next; omega
  · rw [e4]
    refine wc14 hf (by omega) fun A1 hG1 k1 n1 f1 => ?_
    simp only [bd43, pureW_some]
    refine newP_made f1 (by omega) rfl fun A2 m2 => ?_
    have n2 := m2.next
    have k2 := m2.keeps f1
    refine cutW_self.2 ?_
    show ∃ g, I g 0 _ _
    refine ⟨l.length - 0, rfl, 0, A.next + 1, A1.next, 20000, ⟨[], false⟩, ⟨[], false⟩, [A.next + 1, A.next], [A1.next], rfl, Nat.zero_le _, Nat.zero_le _, hG1.keeps k2 (by simp), ⟨.slice none 0 0, [], rfl, by simp, m2.row1, OwnG.nil _ _ _⟩, fun x hx h => ?_, fun x hx => ?_, fun x hx => ?_, .empty, Nat.zero_le _, by simp [sumPay], k1.trans k2 (by simp), by omega, m2.fine, rfl⟩
    · simp at hx h; omega
    · simp at hx; omega
    · simp at hx; omega
end
end Go.Proofs.Yteiiledpfhopdaa

namespace Go.Proofs.Yteiiledpfhopdaa
open Go Go.Abs Go.ChangeShapes Go.WideShapes Go.ChangeAt Go.RowKit Go.Joins Go.Deep

/-! frames that came in -/
theorem Try.c4 : Try.prog.cellsOf 4 = 1 := by kernel_rfl
theorem Try.c5 : Try.prog.cellsOf 5 = 1 := by kernel_rfl
theorem Try.c9 : Try.prog.cellsOf 9 = 1 := by kernel_rfl
theorem Try.c22 : Try.prog.cellsOf 22 = 1 := by kernel_rfl
theorem Try.c45 : Try.prog.cellsOf 45 = 8 := by kernel_rfl
theorem read_fr {H : Type} {enc : TypeId × Value → H} {w : World} {q : Nat} {cs : List Value} {y : DataW H × List MemPlace} (h : DataW.trod enc Try.prog w 0 (fun _ => true) true q 45 cs = some y) : ∃ f : Fr, cs = f.cells ∧ f.wf := by
  obtain ⟨xs, n, _, _, hl, hlen, hg⟩ := DataW.trod_struct Try.underlying45 h
  have hl : cs.length = 8 := hl.trans Try.c45
  match cs, hl, xs, hlen with
  | [c0, c1, c2, c3, c4, c5, c6, c7], _, [y0, y1, y2, y3, y4, y5, y6, y7], _ =>
    have g0 : DataW.trod enc Try.prog w 0 (fun _ => true) true n 4 [c0] = some y0 := by simpa [Try.c4] using hg 0 _ rfl
    have g1 : DataW.trod enc Try.prog w 0 (fun _ => true) true n 4 [c1] = some y1 := by simpa [Try.c4] using hg 1 _ rfl
    have g2 : DataW.trod enc Try.prog w 0 (fun _ => true) true n 4 [c2] = some y2 := by simpa [Try.c4] using hg 2 _ rfl
    have g3 : DataW.trod enc Try.prog w 0 (fun _ => true) true n 4 [c3] = some y3 := by simpa [Try.c4] using hg 3 _ rfl
    have g4 : DataW.trod enc Try.prog w 0 (fun _ => true) true n 5 [c4] = some y4 := by simpa [Try.c5] using hg 4 _ rfl
    have g5 : DataW.trod enc Try.prog w 0 (fun _ => true) true n 5 [c5] = some y5 := by simpa [Try.c5] using hg 5 _ rfl
    have g6 : DataW.trod enc Try.prog w 0 (fun _ => true) true n 22 [c6] = some y6 := by simpa [Try.c22] using hg 6 _ rfl
    have g7 : DataW.trod enc Try.prog w 0 (fun _ => true) true n 9 [c7] = some y7 := by simpa [Try.c9] using hg 7 _ rfl
    obtain ⟨b0, e0, _⟩ := DataW.trod_bool Try.underlying4 g0
    obtain ⟨b1, e1, _⟩ := DataW.trod_bool Try.underlying4 g1
    obtain ⟨b2, e2, _⟩ := DataW.trod_bool Try.underlying4 g2
    obtain ⟨b3, e3, _⟩ := DataW.trod_bool Try.underlying4 g3
    obtain ⟨n4, e4, _, w4⟩ := DataW.trod_int Try.underlying5 g4
    obtain ⟨n5, e5, _, w5⟩ := DataW.trod_int Try.underlying5 g5
    obtain ⟨n6, e6, _, w6⟩ := DataW.trod_int Try.underlying22 g6
    obtain ⟨s7, e7, _⟩ := DataW.trod_string Try.underlying9 g7
    cases e0; cases e1; cases e2; cases e3; cases e4; cases e5; cases e6; cases e7
    refine ⟨⟨b0, b1, b2, b3, n4, n5, n6, s7⟩, rfl, ?_⟩
    simp only [Lit.wf, Bool.and_eq_true, decide_eq_true_eq] at w4 w5 w6
    have a4 : n4 < 256 := Int.lt_of_le_of_lt w4.2 (by decide)
    have a5 : n5 < 256 := Int.lt_of_le_of_lt w5.2 (by decide)
    have a6 : n6 < 65536 := Int.lt_of_le_of_lt w6.2 (by decide)
    exact ⟨w4.1, a4, w5.1, a5, w6.1, a6⟩
theorem fr_closed (f : Fr) : f.cells.all (closedV 4) = true := rfl
theorem fr_length (f : Fr) : f.cells.length = 8 := rfl

theorem rdFr_of {l : List Fr} {s' : Value} {L : List Arg} {j : Nat} (hk : Try.prog.globals.size + L.length + 1 ≤ maxId) (h : (l = [] ∧ ∃ o c, s' = .slice o 0 c) ∨ ∃ c p e, s' = .slice (some ⟨Try.prog.globals.size + j, 0, none⟩) l.length c ∧ L[j]? = some (p, some (flat Fr.cells l, e))) :
    ∃ F, RdFr (wR Try.prog.globals.size [] L) s' l F ∧ ∀ x ∈ F, x < (wR Try.prog.globals.size [] L).next := by
  rcases h with ⟨hl, h⟩ | ⟨c, p, e, rfl, hj⟩
  · exact ⟨[], .inl ⟨hl, rfl, h⟩, by simp⟩
  · refine ⟨[Try.prog.globals.size + L.length], .inr ⟨_, 0, c, _, e, _, 0, true, rfl, wR_arg (by omega) hj, by show _ < _ + 1; omega, rfl, fun i f hi => ?_⟩, fun x hx => ?_⟩
    · rw [Nat.zero_add]
      exact flat_drop fr_length l i f hi
    · obtain rfl : x = Try.prog.globals.size + L.length := by simpa using hx
      show _ < _ + 1
      omega

theorem feeds_calls {W : World} {s : Value} {l : List Fr} {La : Arg} (h : InSlice W Fr.cells s l La) (hw : ∀ f ∈ l, f.wf) : Calls Try.prog 4 #[s] W fun e W' => e = .returned (.bool true) ∧ Below W.heap.size W W' := by
  have hok : okG Try.prog.globals.size ([] : List (Nat × List Value × TypeId)) = true := by kernel_rfl
  have hk : Try.prog.globals.size + [La].length + 1 ≤ maxId := by rw [nG]; show 0 + 1 + 1 ≤ maxId; decide
  obtain ⟨s', hv, hs⟩ := h.rel (P := Try.prog) (L := [La]) (j := 0) rfl
  obtain ⟨F, hr, hF⟩ := rdFr_of hk hs
  refine calls_trueR (L := [La]) (gl := []) (args := [s']) gP hok hk (fun x hx => by cases hx) ?_ (.cons hv .nil) (wc4 (wR_fine hok hk) ?_ hr hF hw (head_kc W _))
  · intro j p cs e hj
    match j, hj with
    | 0, hj => exact h.args fr_closed (Option.some.inj hj)
    | j + 1, hj => simp at hj
  · show Try.prog.globals.size + 1 + 1 + 100000 ≤ maxId
    rw [nG]; decide
end Go.Proofs.Yteiiledpfhopdaa
