/-
  GatherBack: whatever the assemblies and the turns, the law answers true, and what came in reads as it did. Conditions: none.
-/
import Derived.Test.YteiiledpfhopdaaFeedsD
import Derived.Test.YteiiledpfhopdaaBackA

namespace Go.Proofs.Yteiiledpfhopdaa
open Go Go.Abs Go.ChangeShapes Go.WideShapes Go.ChangeAt Go.RowKit Go.Joins Go.Deep

theorem Try.c3 : Try.prog.cellsOf 3 = 1 := by kernel_rfl
theorem Try.c23 : Try.prog.cellsOf 23 = 1 := by kernel_rfl
theorem Try.c25 : Try.prog.cellsOf 25 = 3 := by kernel_rfl
theorem Try.c28 : Try.prog.cellsOf 28 = 2 := by kernel_rfl
theorem Try.c54 : Try.prog.cellsOf 54 = 1 := by kernel_rfl
def segOne (s : Seg) : List Value := [.int .u8 s.ty, .string s.pay]
def boolOne (b : Bool) : List Value := [.bool b]
theorem read_seg {H : Type} {enc : TypeId × Value → H} {w : World} {q : Nat} {cs : List Value} {y : DataW H × List MemPlace} (h : DataW.trod enc Try.prog w 0 (fun _ => true) true q 28 cs = some y) : ∃ s : Seg, cs = segOne s ∧ 0 ≤ s.ty := by
  obtain ⟨xs, n, _, _, hl, hlen, hg⟩ := DataW.trod_struct Try.underlying28 h
  have hl : cs.length = 2 := hl.trans Try.c28
  match cs, hl, xs, hlen with
  | [c0, c1], _, [y0, y1], _ =>
    have g0 : DataW.trod enc Try.prog w 0 (fun _ => true) true n 5 [c0] = some y0 := by simpa [Try.c5] using hg 0 _ rfl
    have g1 : DataW.trod enc Try.prog w 0 (fun _ => true) true n 9 [c1] = some y1 := by simpa [Try.c9] using hg 1 _ rfl
    obtain ⟨n0, e0, _, w0⟩ := DataW.trod_int Try.underlying5 g0
    obtain ⟨s1, e1, _⟩ := DataW.trod_string Try.underlying9 g1
    cases e0; cases e1
    simp only [Lit.wf, Bool.and_eq_true, decide_eq_true_eq] at w0
    exact ⟨⟨n0, s1⟩, rfl, w0.1⟩
theorem read_bool {H : Type} {enc : TypeId × Value → H} {w : World} {q : Nat} {cs : List Value} {y : DataW H × List MemPlace} (h : DataW.trod enc Try.prog w 0 (fun _ => true) true q 54 cs = some y) : ∃ b : Bool, cs = boolOne b ∧ True := by
  obtain ⟨b, e0, _⟩ := DataW.trod_bool Try.underlying54 h
  exact ⟨b, e0, trivial⟩

theorem read_asmI {H : Type} {enc : TypeId × Value → H} {w : World} {b0 : Nat} {v : Value} {d : DataW H} {p : List MemPlace} (hv : Value.okWide Try.prog w .any b0 25 v) (h : DataW.Trod enc Try.prog w 0 (fun _ => true) true 25 v d p) :
    ∃ (ch tr : Int) (s : Value) (l : List Seg) (La : Arg), v = asmVal ch tr s ∧ 0 ≤ tr ∧ (0 ≤ ch ∧ ch < 65536) ∧ InSlice w segOne s l La ∧ ∀ x ∈ l, 0 ≤ x.ty := by
  obtain ⟨⟨cs⟩, rfl, _⟩ := okWide_struct Try.underlying25 hv
  obtain ⟨fuel, hf⟩ := h
  obtain ⟨y0, y1, y2, n, _, hl, h0, h1, h2⟩ := trod_struct3 Try.underlying25 hf
  have hl : cs.length = 3 := hl.trans Try.c25
  match cs, hl with
  | [c0, c1, c2], _ =>
    have h0 : DataW.trod enc Try.prog w 0 (fun _ => true) true n 22 [c0] = some y0 := by simpa [Value.cells, Try.c22] using h0
    have h1 : DataW.trod enc Try.prog w 0 (fun _ => true) true n 5 [c1] = some y1 := by simpa [Value.cells, Try.c5] using h1
    have h2 : DataW.trod enc Try.prog w 0 (fun _ => true) true n 23 [c2] = some y2 := by simpa [Value.cells, Try.c23] using h2
    obtain ⟨ch, e0, _, w0⟩ := DataW.trod_int Try.underlying22 h0
    obtain ⟨tr, e1, _, w1⟩ := DataW.trod_int Try.underlying5 h1
    obtain ⟨s, l, La, e2, hs, hok⟩ := read_flat (f := segOne) (ok := fun s => 0 ≤ s.ty) ⟨0, .empty⟩ Try.underlying23 (by rw [Try.c28]; decide) (fun f => by rw [Try.c28]; rfl) (fun q cs y hy => read_seg hy) h2
    cases e0; cases e1; cases e2
    simp only [Lit.wf, Bool.and_eq_true, decide_eq_true_eq] at w0 w1
    exact ⟨ch, tr, _, l, La, rfl, w1.1, ⟨w0.1, Int.lt_of_le_of_lt w0.2 (by decide)⟩, hs, hok⟩

theorem rdSegs_of {l : List Seg} {s' : Value} {L : List Arg} {j : Nat} (hk : Try.prog.globals.size + L.length + 1 ≤ maxId) (h : (l = [] ∧ ∃ o c, s' = .slice o 0 c) ∨ ∃ c p e, s' = .slice (some ⟨Try.prog.globals.size + j, 0, none⟩) l.length c ∧ L[j]? = some (p, some (flat segOne l, e))) :
    ∃ F, RdSegs (wR Try.prog.globals.size [] L) s' l F ∧ ∀ x ∈ F, x < (wR Try.prog.globals.size [] L).next := by
  rcases h with ⟨hl, h⟩ | ⟨c, p, e, rfl, hj⟩
  · exact ⟨[], .inl ⟨hl, rfl, h⟩, by simp⟩
  · refine ⟨[Try.prog.globals.size + L.length], .inr ⟨_, 0, c, _, e, _, 0, true, rfl, wR_arg (by omega) hj, by show _ < _ + 1; omega, rfl, fun i f hi => ?_⟩, fun x hx => ?_⟩
    · have hn : ∀ s : Seg, (segOne s).length = 2 := fun _ => rfl
      have h0 := flat_get hn hi (k := 0) (by omega)
      have h1 := flat_get hn hi (k := 1) (by omega)
      rw [Nat.zero_add]
      exact ⟨h0, h1⟩
    · obtain rfl : x = Try.prog.globals.size + L.length := by simpa using hx
      show _ < _ + 1
      omega
theorem rdBools_of {l : List Bool} {s' : Value} {L : List Arg} {j : Nat} (hk : Try.prog.globals.size + L.length + 1 ≤ maxId) (h : (l = [] ∧ ∃ o c, s' = .slice o 0 c) ∨ ∃ c p e, s' = .slice (some ⟨Try.prog.globals.size + j, 0, none⟩) l.length c ∧ L[j]? = some (p, some (flat boolOne l, e))) :
    ∃ F, RdBools (wR Try.prog.globals.size [] L) s' l F ∧ ∀ x ∈ F, x < (wR Try.prog.globals.size [] L).next := by
  rcases h with ⟨hl, h⟩ | ⟨c, p, e, rfl, hj⟩
  · exact ⟨[], .inl ⟨hl, rfl, h⟩, by simp⟩
  · refine ⟨[Try.prog.globals.size + L.length], .inr ⟨_, 0, c, _, e, _, 0, true, rfl, wR_arg (by omega) hj, by show _ < _ + 1; omega, rfl, fun i f hi => ?_⟩, fun x hx => ?_⟩
    · have hn : ∀ s : Bool, (boolOne s).length = 1 := fun _ => rfl
      have h0 := flat_get hn hi (k := 0) (by omega)
      rw [Nat.zero_add]
      rw [Nat.mul_one, Nat.add_zero] at h0
      exact h0
    · obtain rfl : x = Try.prog.globals.size + L.length := by simpa using hx
      show _ < _ + 1
      omega

theorem back_calls {W : World} {chA trA chB trB : Int} {sA sB tv : Value} {lA lB : List Seg} {tl : List Bool} {La Lb Lt : Arg} (hA : InSlice W segOne sA lA La) (hB : InSlice W segOne sB lB Lb) (hT : InSlice W boolOne tv tl Lt)
    (tyA : ∀ s ∈ lA, 0 ≤ s.ty) (tyB : ∀ s ∈ lB, 0 ≤ s.ty) (htrA : 0 ≤ trA) (htrB : 0 ≤ trB) (hchA : 0 ≤ chA ∧ chA < 65536) (hchB : 0 ≤ chB ∧ chB < 65536) :
    Calls Try.prog 5 #[asmVal chA trA sA, asmVal chB trB sB, tv] W fun e W' => e = .returned (.bool true) ∧ Below W.heap.size W W' := by
  have hok : okG Try.prog.globals.size ([] : List (Nat × List Value × TypeId)) = true := by kernel_rfl
  have hk : Try.prog.globals.size + [La, Lb, Lt].length + 1 ≤ maxId := by rw [nG]; show 0 + 3 + 1 ≤ maxId; decide
  obtain ⟨sA', hvA, hsA⟩ := hA.rel (P := Try.prog) (L := [La, Lb, Lt]) (j := 0) rfl
  obtain ⟨sB', hvB, hsB⟩ := hB.rel (P := Try.prog) (L := [La, Lb, Lt]) (j := 1) rfl
  obtain ⟨tv', hvT, hsT⟩ := hT.rel (P := Try.prog) (L := [La, Lb, Lt]) (j := 2) rfl
  obtain ⟨FA, rA, bA⟩ := rdSegs_of hk hsA
  obtain ⟨FB, rB, bB⟩ := rdSegs_of hk hsB
  obtain ⟨FT, rT, bT⟩ := rdBools_of hk hsT
  have hv : ∀ {ch tr : Int} {s' s : Value}, VRel (mR Try.prog [La, Lb, Lt]) s' s → VRel (mR Try.prog [La, Lb, Lt]) (asmVal ch tr s') (asmVal ch tr s) := fun h => .agg (.cons (.int _ _) (.cons (.int _ _) (.cons h .nil)))
  refine calls_trueR (L := [La, Lb, Lt]) (gl := []) (args := [asmVal chA trA sA', asmVal chB trB sB', tv']) gP hok hk (fun x hx => by cases hx) ?_ (.cons (hv hvA) (.cons (hv hvB) (.cons hvT .nil))) (wc5 (wR_fine hok hk) ?_ rT rA rB bT bA bB tyA tyB htrA htrB hchA hchB (head_kc W _))
  · intro j p cs e hj
    match j, hj with
    | 0, hj => exact hA.args (fun _ => rfl) (Option.some.inj hj)
    | 1, hj => exact hB.args (fun _ => rfl) (Option.some.inj hj)
    | 2, hj => exact hT.args (fun _ => rfl) (Option.some.inj hj)
    | j + 3, hj => simp at hj
  · show Try.prog.globals.size + 3 + 1 + 250000 ≤ maxId
    rw [nG]; decide

theorem Try.own : ownKnob Try.prog.godebug = none := by kernel_rfl
theorem Try.laidOut : laidOutB Try.prog = true := by kernel_rfl
set_option maxRecDepth 100000 in
theorem gatherBack_lifted (os : Os) (started : os.Started) (H : Type) (enc : TypeId × Value → H) :
    ReturnsInHanded {} Try.checked os 5 .any (Rows.gatherBackSpec.pre6 enc Try.prog Try.f5 Rows.gatherBackRow.domain false) (Rows.gatherBackSpec.post enc Try.prog Try.f5 false true false false) := by
  refine returnsInHanded_of_change (C := Try.checked) Try.own started (by kernel_rfl) Try.func5
    (ChangeSpec.witness6 (enc := enc) (C := Try.checked) false ⟨#[], #[.agg #[.int .u16 0, .int .u8 0, .slice none 0 0], .agg #[.int .u16 0, .int .u8 0, .slice none 0 0], .slice none 0 0], []⟩ 8 (by kernel_rfl) (by kernel_rfl) (by kernel_rfl) (by kernel_rfl)) ?_
  intro W base args ds gs before hval0 hW hcnd _
  have hval : ∀ (j : Nat) t v, Try.f5.params[j]? = some t → args[j]? = some v → Value.okWide Try.prog W .any base t v := hval0
  have hW' := hW
  obtain ⟨p, q, hA0, hV, rfl, hfz, hnd⟩ := hW
  have hA : DataW.TrodAll enc Try.prog W 0 (fun _ => true) true Try.f5.params.toList args.toList ds p := hA0
  rw [Try.params5] at hA hval
  obtain ⟨v0, v1, v2, d0, d1, d2, p0, p1, p2, rfl, rfl, rfl, h0, h1, h2⟩ := trodAll_three hA
  obtain ⟨rfl, rfl⟩ := trodVars_none hV
  obtain ⟨chA, trA, sA, lA, La, rfl, htrA, hchA, hsA, tyA⟩ := read_asmI (hval 0 25 v0 rfl rfl) h0
  obtain ⟨chB, trB, sB, lB, Lb, rfl, htrB, hchB, hsB, tyB⟩ := read_asmI (hval 1 25 v1 rfl rfl) h1
  have h2k := h2
  obtain ⟨fuel, hf⟩ := h2
  obtain ⟨tv, tl, Lt, hc, hT, _⟩ := read_flat (f := boolOne) (ok := fun _ => True) false Try.underlying53 (by rw [Try.c54]; decide) (fun f => by rw [Try.c54]; rfl) (fun q cs y hy => read_bool hy) hf
  have hv2 : v2 = tv := by
    obtain ⟨a, n, c, rfl⟩ := okWide_slice Try.underlying53 (hval 2 53 v2 rfl rfl)
    simpa [Value.cells] using hc
  subst hv2
  clear hA0 hval0
  simp only [List.append_nil] at hW'
  have hlt : ∀ x ∈ p0 ++ (p1 ++ p2), x.block < W.heap.size := fun x hx => by simpa using hW'.lt x (by simpa [List.append_assoc] using hx)
  refine (back_calls hsA hsB hT tyA tyB htrA htrB hchA hchB).mono fun e W' ⟨he, hb⟩ => ?_
  subst he
  exact ⟨_, rfl, post_of_below (pa := p0 ++ (p1 ++ p2)) (pv := []) hW' (fun _ _ _ => trodAll_mk1 (shut_bool Try.underlying4 _)) (fun sp hsp => trodAll_mk3
      (WideElems.Trod_stays Try.laidOut (by kernel_rfl) (of_decide_eq_true (by kernel_rfl)) h0 (fun x hx => hb.same (hlt x (by simp [hx]))) (fun x hx => hsp x (by simp [hx])))
      (WideElems.Trod_stays Try.laidOut (by kernel_rfl) (of_decide_eq_true (by kernel_rfl)) h1 (fun x hx => hb.same (hlt x (by simp [hx]))) (fun x hx => hsp x (by simp [hx])))
      (WideElems.Trod_stays Try.laidOut (by kernel_rfl) (of_decide_eq_true (by kernel_rfl)) h2k (fun x hx => hb.same (hlt x (by simp [hx]))) (fun x hx => hsp x (by simp [hx])))) (fun _ _ => rfl) (by simp) hb
    (ok_one (by kernel_rfl) rfl (okWide_bool_mk Try.underlying4 _))⟩

theorem gatherBack_holds : Rows.GatherBackSaid :=
  OpenClaim.holds_of_wide 5 Try.f5 rfl rfl rfl rfl rfl rfl rfl ⟨rfl, rfl, rfl, rfl, rfl⟩ rfl rfl rfl rfl rfl (by kernel_rfl) Try.func5 (by kernel_rfl)
    (of_decide_eq_true (by kernel_rfl)) (by unfold Func.isWrapper; first | (rw [if_pos (by decide +kernel)]; kernel_rfl) | (rw [if_neg (by decide +kernel)]; exact ⟨rfl, rfl⟩))
    (fun os started H enc _ => gatherBack_lifted os started H enc)
#print axioms gatherBack_holds
end Go.Proofs.Yteiiledpfhopdaa
