/-
  GatherCuts: whatever the assembly and the bound, the law answers true, and what came in reads as it did. Conditions: none.
-/
import Derived.Test.YteiiledpfhopdaaCutsB

namespace Go.Proofs.Yteiiledpfhopdaa
open Go.Abs Go.ChangeShapes Go.WideShapes Go.ChangeAt Go.RowKit Go.Joins Go.Deep

theorem cuts_fin {W : World} {m : Inj Try.prog} {A : AW} {ch tr most : Int} {sv s : Value} {l : List Seg} (r : Rel m A W) (hf : Fine A) (hn : A.next ≤ 10) (hl : IsSegs A sv l) (htr : 0 ≤ tr) (hv : VRel m sv s) (hno : ∀ c, ¬ Own m A c) :
    Calls Try.prog 3 #[asmVal ch tr s, .int .i64 most] W fun e W' => e = .returned (.bool true) ∧ Below W.heap.size W W' := by
  have hmax : maxId = 4194304 := rfl
  refine (calls_of_wc (args := [asmVal ch tr sv, .int .i64 most]) (args' := [asmVal ch tr s, .int .i64 most]) gP (wc3 (W0 := W) (m0 := m) hf (by omega) hl htr (head_kc W m)) r (fun i hi => by rw [nG] at hi; omega) hno
    (.cons (.agg (.cons (.int _ _) (.cons (.int _ _) (.cons hv .nil)))) (.cons (.int _ _) .nil))).mono ?_
  rintro e w' ⟨v, v', m', A', rfl, rfl, h2, h3⟩
  cases h2
  exact ⟨rfl, below_of h3 hno⟩

theorem cuts_calls {W : World} {ch tr most : Int} {s : Value} {l : List Seg} (hs : ArgSegs W s l) (htr : 0 ≤ tr) :
    Calls Try.prog 3 #[asmVal ch tr s, .int .i64 most] W fun e W' => e = .returned (.bool true) ∧ Below W.heap.size W W' := by
  rcases hs with ⟨rfl, hsl, o, c, rfl⟩ | ⟨a, c, cs, e, fr, rfl, h1, h2, h3, h4, h5, h6⟩
  · have hok : okG Try.prog.globals.size ([] : List (Nat × List Value × TypeId)) = true := by kernel_rfl
    have hrel : Rel (mA Try.prog [placeOf (.slice o 0 c)]) (wA Try.prog.globals.size 1 []) W := relA (l := [placeOf (.slice o 0 c)]) hok (by rw [nG]; show 0 + 1 ≤ maxId; decide) (fun x hx => by cases hx)
    rw [nG] at hrel
    obtain ⟨o2, n2, c2, hv⟩ := hsl.rel (P := Try.prog) (l := [placeOf (.slice o 0 c)]) 0 rfl
    have hn2 : n2 = 0 := by cases hv <;> rfl
    subst hn2
    have hno := ownA (P := Try.prog) (rows := []) (l := [placeOf (.slice o 0 c)]) hok
    rw [nG] at hno
    exact cuts_fin hrel ⟨fun i _ => by simp [wA, Trie.get?], fun i _ => by simp [wA, AW.get, rowsT, Trie.get?]⟩ (by decide) (.inl ⟨rfl, o2, c2, rfl⟩) htr hv hno
  · -- the row's cells
    have hcell : ∀ k, k < l.length * 2 → ∃ v, cs[a.off + k]? = some v ∧ closedV 4 v = true := by
      intro k hk
      obtain ⟨sg, hsg⟩ : ∃ sg, l[k / 2]? = some sg := ⟨l[k / 2]'(by omega), List.getElem?_eq_getElem (by omega)⟩
      obtain ⟨g1, g2⟩ := h6 (k / 2) sg hsg
      rcases Nat.mod_two_eq_zero_or_one k with hm | hm
      · exact ⟨_, by rw [show a.off + k = a.off + k / 2 * 2 by omega]; exact g1, rfl⟩
      · exact ⟨_, by rw [show a.off + k = a.off + k / 2 * 2 + 1 by omega]; exact g2, rfl⟩
    let row : List Value := (cs.toList.drop a.off).take (l.length * 2)
    have hrow : ∀ k, k < l.length * 2 → row[k]? = cs[a.off + k]? := by
      intro k hk
      show ((cs.toList.drop a.off).take (l.length * 2))[k]? = _
      rw [List.getElem?_take, if_pos hk, List.getElem?_drop, Array.getElem?_toList]
    have hsz : a.off ≤ cs.size := by
      obtain ⟨v, hv, _⟩ := hcell 0 (by omega)
      have := (Array.getElem?_eq_some_iff.1 hv).1
      omega
    have hrel : Rel (mRow Try.prog a) (aRow row e) W := relRow h5 hsz fun i v hv => by
      have hi : i < l.length * 2 := by
        have := (List.getElem?_eq_some_iff.1 hv).1
        have h8 : row.length ≤ l.length * 2 := List.length_take_le _ _
        omega
      rw [hrow i hi] at hv
      obtain ⟨v', g1, g2⟩ := hcell i hi
      rw [g1] at hv
      cases hv
      exact ⟨g1, g2⟩
    have hv : VRel (mRow Try.prog a) (.slice (some ⟨0, 0, none⟩) l.length c) (.slice (some a) l.length c) :=
      .slice (.inl ⟨h2, rfl⟩) h1 fun _ => ⟨rfl, h3, a.off, by show (if 0 = 0 then some (a.block, a.off) else none) = _; rw [if_pos rfl], by rfl⟩
    refine cuts_fin hrel (aRow_fine _ _) (by show 2 ≤ 10; decide) (.inr ⟨0, 0, c, row, e, 1, 0, true, rfl, by rw [aRow_get, if_pos rfl], by show 0 < 2; decide, fun i sg hsg => ?_⟩) htr hv ownRow
    have hi : i < l.length := (List.getElem?_eq_some_iff.1 hsg).1
    obtain ⟨g1, g2⟩ := h6 i sg hsg
    rw [Nat.zero_add, hrow _ (by omega), hrow _ (by omega)]
    exact ⟨g1, g2⟩

/-! reading the arguments -/
theorem Try.cells5 : Try.prog.cellsOf 5 = 1 := by kernel_rfl
theorem Try.cells9 : Try.prog.cellsOf 9 = 1 := by kernel_rfl
theorem Try.cells22 : Try.prog.cellsOf 22 = 1 := by kernel_rfl
theorem Try.cells23 : Try.prog.cellsOf 23 = 1 := by kernel_rfl
theorem Try.cells25 : Try.prog.cellsOf 25 = 3 := by kernel_rfl
theorem Try.cells28 : Try.prog.cellsOf 28 = 2 := by kernel_rfl

theorem addr_add (a : Addr) (n : Nat) (h : a.spot = none) : a.add n = ⟨a.block, a.off + n, none⟩ := by
  unfold Addr.add
  split
  · rename_i h0; subst h0; obtain ⟨b, o, s⟩ := a; simp only at h; subst h; rfl
  · rfl

theorem read_segs {H : Type} {enc : TypeId × Value → H} {w : World} {fuel : Nat} {cs : List Value} {x : DataW H × List MemPlace} (h : DataW.trod enc Try.prog w 0 (fun _ => true) true fuel 23 cs = some x) :
    ∃ s l, cs = [s] ∧ ArgSegs w s l := by
  have hsl := read_slice Try.underlying23 (by rw [Try.cells28]; decide) h
  rcases open_slice Try.underlying23 h with ⟨rfl, _⟩ | ⟨a, n, c, m, k, D, Pl, rfl, _, hn, hc, hm, _, hx⟩
  · exact ⟨_, [], rfl, .inl ⟨rfl, .inl rfl, none, 0, rfl⟩⟩
  · obtain ⟨s', hs1, hs2⟩ := hsl
    simp only [List.cons.injEq, and_true] at hs1
    subst hs1
    have hm : m = c := hm
    subst hm
    have hcap : m < capU := by
      have h1 : maxLen < capU := by decide
      omega
    rcases Nat.eq_zero_or_pos n with rfl | hpos
    · exact ⟨_, [], rfl, .inl ⟨rfl, hs2, some a, m, rfl⟩⟩
    · have key : ∀ i, i < n → ∃ sg : Seg, w.cell? (a.add (i * 2)) = some (.int .u8 sg.ty) ∧ w.cell? ((a.add (i * 2)).add 1) = some (.string sg.pay) := by
        intro i hi
        obtain ⟨cs', g1, g2⟩ := hx i (by omega)
        rw [Try.cells28] at g1
        obtain ⟨_, hl, g3⟩ := World.cells?_some g1
        obtain ⟨y0, y1, q, _, _, k0, k1⟩ := trod_struct2 Try.underlying28 g2
        match cs', hl with
        | [c0, c1], _ =>
          have k0 : DataW.trod enc Try.prog w 0 (fun _ => true) true q 5 [c0] = some y0 := by simpa [Try.cells5] using k0
          have k1 : DataW.trod enc Try.prog w 0 (fun _ => true) true q 9 [c1] = some y1 := by simpa [Try.cells9] using k1
          obtain ⟨t, e0, _⟩ := DataW.trod_int Try.underlying5 k0
          obtain ⟨p, e1, _⟩ := DataW.trod_string Try.underlying9 k1
          cases e0; cases e1
          refine ⟨⟨t, p⟩, ?_, ?_⟩
          · have := g3 0 (by omega)
            simpa [Addr.add] using this
          · simpa using g3 1 (by omega)
      obtain ⟨sg0, q1, q2⟩ := key 0 hpos
      -- the block
      have hblk : a.spot = none ∧ ∃ cs e fr, w.heap[a.block]? = some (.cells cs e fr) := by
        have : w.cell? a = some (.int .u8 sg0.ty) := by simpa [Addr.add] using q1
        unfold World.cell? at this
        split at this
        · rename_i cs e fr hh
          split at this
          · cases this
          · rename_i hsp
            refine ⟨?_, cs, e, fr, hh⟩
            cases hq : a.spot with
            | none => rfl
            | some z => exact absurd (by simp [hq]) hsp
        · cases this
      obtain ⟨hsp, cs, e, fr, hh⟩ := hblk
      let f : Nat → Seg := fun i => if h : i < n then Classical.choose (key i h) else ⟨0, .empty⟩
      have hfl : ((List.range n).map f).length = n := by simp
      refine ⟨_, (List.range n).map f, rfl, .inr ⟨a, m, cs, e, fr, by rw [hfl], by rw [hfl]; exact hn, hcap, hsp, by rw [hfl]; exact hpos, hh, fun i sg hi => ?_⟩⟩
      simp only [List.getElem?_map] at hi
      have hin : i < n := by
        rcases Nat.lt_or_ge i n with h | h
        · exact h
        · rw [List.getElem?_eq_none (by simpa using h)] at hi; cases hi
      rw [List.getElem?_range hin] at hi
      simp only [Option.map_some, Option.some.injEq] at hi
      have hfi : f i = Classical.choose (key i hin) := by show (if h : i < n then _ else _) = _; rw [dif_pos hin]
      obtain ⟨p1, p2⟩ := Classical.choose_spec (key i hin)
      rw [← hfi, hi] at p1 p2
      have hcl : ∀ j v, w.cell? ⟨a.block, j, none⟩ = some v → cs[j]? = some v := by
        intro j v hv
        unfold World.cell? at hv
        rw [hh] at hv
        simpa using hv
      rw [addr_add a _ hsp] at p1 p2
      rw [addr_add _ _ rfl] at p2
      exact ⟨hcl _ _ p1, hcl _ _ p2⟩

set_option maxRecDepth 100000 in
theorem read_asm {H : Type} {enc : TypeId × Value → H} {w : World} {b0 : Nat} {v : Value} {d : DataW H} {p : List MemPlace} (hv : Value.okWide Try.prog w .any b0 25 v) (h : DataW.Trod enc Try.prog w 0 (fun _ => true) true 25 v d p) :
    ∃ (ch tr : Int) (s : Value) (l : List Seg), v = asmVal ch tr s ∧ 0 ≤ tr ∧ ArgSegs w s l := by
  obtain ⟨⟨cs⟩, rfl, _⟩ := okWide_struct Try.underlying25 hv
  obtain ⟨fuel, hf⟩ := h
  obtain ⟨y0, y1, y2, n, _, hl, h0, h1, h2⟩ := trod_struct3 Try.underlying25 hf
  have hl : cs.length = 3 := hl.trans Try.cells25
  match cs, hl with
  | [c0, c1, c2], _ =>
    have h0 : DataW.trod enc Try.prog w 0 (fun _ => true) true n 22 [c0] = some y0 := by simpa [Value.cells, Try.cells22] using h0
    have h1 : DataW.trod enc Try.prog w 0 (fun _ => true) true n 5 [c1] = some y1 := by simpa [Value.cells, Try.cells5] using h1
    have h2 : DataW.trod enc Try.prog w 0 (fun _ => true) true n 23 [c2] = some y2 := by simpa [Value.cells, Try.cells23] using h2
    obtain ⟨ch, e0, _⟩ := DataW.trod_int Try.underlying22 h0
    obtain ⟨tr, e1, _, w1⟩ := DataW.trod_int Try.underlying5 h1
    obtain ⟨s, l, e2, hs⟩ := read_segs h2
    cases e0; cases e1; cases e2
    simp only [Lit.wf, Bool.and_eq_true, decide_eq_true_eq] at w1
    exact ⟨ch, tr, _, l, rfl, w1.1, hs⟩

theorem Try.own : ownKnob Try.prog.godebug = none := by kernel_rfl
theorem Try.laidOut : laidOutB Try.prog = true := by kernel_rfl
set_option maxRecDepth 100000 in
theorem gatherCuts_lifted (os : Os) (started : os.Started) (H : Type) (enc : TypeId × Value → H) :
    ReturnsInHanded {} Try.checked os 3 .any (Rows.gatherCutsSpec.pre6 enc Try.prog Try.f3 Rows.gatherCutsRow.domain false) (Rows.gatherCutsSpec.post enc Try.prog Try.f3 false true false false) := by
  refine returnsInHanded_of_change (C := Try.checked) Try.own started (by kernel_rfl) Try.func3
    (ChangeSpec.witness6 (enc := enc) (C := Try.checked) false ⟨#[], #[.agg #[.int .u16 0, .int .u8 0, .slice none 0 0], .int .i64 0], []⟩ 8 (by kernel_rfl) (by kernel_rfl) (by kernel_rfl) (by kernel_rfl)) ?_
  intro W base args ds gs before hval0 hW hcnd _
  have hval : ∀ (j : Nat) t v, Try.f3.params[j]? = some t → args[j]? = some v → Value.okWide Try.prog W .any base t v := hval0
  have hW' := hW
  obtain ⟨p, q, hA0, hV, rfl, hfz, hnd⟩ := hW
  have hA : DataW.TrodAll enc Try.prog W 0 (fun _ => true) true Try.f3.params.toList args.toList ds p := hA0
  rw [Try.params3] at hA hval
  obtain ⟨v0, v1, d0, d1, p0, p1, rfl, rfl, rfl, h0, h1⟩ := trodAll_two hA
  obtain ⟨rfl, rfl⟩ := trodVars_none hV
  obtain ⟨ch, tr, s, l, rfl, htr, hs⟩ := read_asm (hval 0 25 v0 rfl rfl) h0
  have h1k := h1
  obtain ⟨fuel, hf1⟩ := h1
  obtain ⟨most, e1, _⟩ := DataW.trod_int Try.underlying3 hf1
  clear hA0 hval0
  have hv1 : v1 = .int .i64 most := by
    have hone := (okWide_int Try.underlying3 (hval 1 3 v1 rfl rfl))
    obtain ⟨z, hz⟩ := hone
    subst hz
    simpa [Value.cells] using e1
  subst hv1
  simp only [List.append_nil] at hW'
  have hlt : ∀ x ∈ p0 ++ p1, x.block < W.heap.size := fun x hx => by simpa using hW'.lt x hx
  refine (cuts_calls (W := W) (ch := ch) (tr := tr) (most := most) hs htr).mono fun e W' ⟨he, hb⟩ => ?_
  subst he
  exact ⟨_, rfl, post_of_below (pa := p0 ++ p1) (pv := []) hW' (fun _ _ _ => trodAll_mk1 (shut_bool Try.underlying4 _)) (fun sp hsp => trodAll_mk2
      (WideElems.Trod_stays Try.laidOut (by kernel_rfl) (of_decide_eq_true (by kernel_rfl)) h0 (fun x hx => hb.same (hlt x (by simp [hx]))) (fun x hx => hsp x (by simp [hx])))
      (WideElems.Trod_stays Try.laidOut (by kernel_rfl) (of_decide_eq_true (by kernel_rfl)) h1k (fun x hx => hb.same (hlt x (by simp [hx]))) (fun x hx => hsp x (by simp [hx])))) (fun _ _ => rfl) (by simp) hb
    (ok_one (by kernel_rfl) rfl (okWide_bool_mk Try.underlying4 _))⟩

theorem gatherCuts_holds : Rows.GatherCutsSaid :=
  OpenClaim.holds_of_wide 3 Try.f3 rfl rfl rfl rfl rfl rfl rfl ⟨rfl, rfl, rfl, rfl, rfl⟩ rfl rfl rfl rfl rfl (by kernel_rfl) Try.func3 (by kernel_rfl)
    (of_decide_eq_true (by kernel_rfl)) (by unfold Func.isWrapper; first | (rw [if_pos (by decide +kernel)]; kernel_rfl) | (rw [if_neg (by decide +kernel)]; exact ⟨rfl, rfl⟩))
    (fun os started H enc _ => gatherCuts_lifted os started H enc)
#print axioms gatherCuts_holds
end Go.Proofs.Yteiiledpfhopdaa
