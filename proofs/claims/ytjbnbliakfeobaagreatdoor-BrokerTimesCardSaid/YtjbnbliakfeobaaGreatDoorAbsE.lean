/-
  The steps of the abstract machine, the second part: a run that ends gives a call of the model that returns the same. Conditions: none beside those of each theorem.
-/
import Derived.Test.YtjbnbliakfeobaaGreatDoorAbsD
set_option linter.all false
namespace Go.Abs

section
variable {P : Program} {X : XNames} {f0 : FuncId} {base lo : Nat} {m : Inj P} {A : AW} {w : World} {fr : AFr} {cs : List AFr} {f : Frame} {csW cs0 : List Frame}

theorem exitTo_rel {m : Inj P} (id : Nat) : ∀ {k k' : List Item}, All2 (IRel m) k k' → (match exitToA id k with | none => exitTo id k' = none | some r => ∃ r', exitTo id k' = some r' ∧ All2 (IRel m) r r')
  | _, _, .nil => rfl
  | x :: _, _, .cons h t => by
    have ih := exitTo_rel id t
    cases x with
    | inBlock id' =>
      have h : _ = _ := h
      subst h
      simp only [exitToA, exitTo]
      cases hb : Nat.beq id' id with
      | true =>
        have := beq_true.1 hb
        subst this
        simp only [cond_true, beq_self_eq_true, if_true]
        exact ⟨_, rfl, t⟩
      | false =>
        have := beq_false.1 hb
        simp only [cond_false, beq_iff_eq, if_neg this]
        exact ih
    | code c => obtain ⟨rfl, _⟩ := h; exact ih
    | inLoop c => obtain ⟨rfl, _⟩ := h; exact ih
    | inScope c => obtain ⟨rfl, _⟩ := h; exact ih
    | inRegion ops l => obtain ⟨rfl, _⟩ := h; exact ih
    | inRangeFunc l => obtain ⟨l', rfl, _⟩ := h; exact ih
    | endRangeFunc l => obtain ⟨l', rfl, _⟩ := h; exact ih
    | beginRound => have h : _ = _ := h; subst h; exact ih
    | call => exact h.elim
    | extern => exact h.elim

theorem findLabel_ok : ∀ (c : Code) (l : Nat) (r : Code), codeOk P c = true → findLabel c l = some r → codeOk P r = true := by
  intro c
  induction c with
  | seq a b iha ihb =>
    intro l r hc h
    simp only [codeOk, Bool.and_eq_true] at hc
    simp only [findLabel] at h
    split at h
    · rename_i rest hr
      cases h
      simp only [codeOk, Bool.and_eq_true]
      exact ⟨iha l rest hc.1 hr, hc.2⟩
    · exact ihb l r hc.2 h
  | label l' =>
    intro l r hc h
    simp only [findLabel] at h
    split at h
    · cases h; rfl
    · cases h
  | _ => intro l r hc h; simp [findLabel] at h

theorem gotoIn_rel {m : Inj P} (l : Nat) : ∀ {k k' : List Item}, All2 (IRel m) k k' → (match gotoIn l k with | none => gotoIn l k' = none | some r => ∃ r', gotoIn l k' = some r' ∧ All2 (IRel m) r r')
  | _, _, .nil => rfl
  | x :: _, _, .cons h t => by
    have ih := gotoIn_rel l t
    cases x with
    | inScope body =>
      obtain ⟨rfl, hb⟩ := h
      simp only [gotoIn]
      cases hf : findLabel body l with
      | none => exact ih
      | some rest => exact ⟨_, rfl, .cons ⟨rfl, findLabel_ok body l rest hb hf⟩ (.cons ⟨rfl, hb⟩ t)⟩
    | code c => obtain ⟨rfl, _⟩ := h; exact ih
    | inLoop c => obtain ⟨rfl, _⟩ := h; exact ih
    | inBlock c => have h : _ = _ := h; subst h; exact ih
    | inRegion ops l => obtain ⟨rfl, _⟩ := h; exact ih
    | inRangeFunc l => obtain ⟨l', rfl, _⟩ := h; exact ih
    | endRangeFunc l => obtain ⟨l', rfl, _⟩ := h; exact ih
    | beginRound => have h : _ = _ := h; subst h; exact ih
    | call => exact h.elim
    | extern => exact h.elim

theorem SRel.fmode {s : ASt} (h : SRel P X f0 base lo m s f csW w) (hm : s.fr.mode = .run) : f.mode = .run := by
  have := h.top.core.mode
  rw [hm] at this
  generalize f.mode = u at this
  cases this; rfl

theorem SRel.plain {s : ASt} (h : SRel P X f0 base lo m s f csW w) (hd : s.fr.dr = false) : TmRel m s.fr.tm f.tmps ∧ All2 (IRel m) s.fr.todo f.todo := by
  cases h.top.body with
  | plain h1 tm todo => exact ⟨tm, todo⟩
  | draw ops S C rl pl rest j j' h1 => rw [hd] at h1; cases h1

/-- an operation of a region without a draw -/
theorem op_sim (hX : XOk P X) (hP : POk P) {s s' : ASt} {ops : Array Oper} {i : Nat} {rest : List Nat} {k : List Item} (h : SRel P X f0 base lo m s f csW w) (hm : s.fr.mode = .run) (hd : s.fr.dr = false) (ht : s.fr.todo = .inRegion ops (i :: rest) :: k)
    (hout : (match ops.toList[i]? with
      | some o => bif wantedA ops s.fr.tm o then applyA P s.fr s.cs false (execA P X s.fr.eval o s.w) else .next ⟨s.fr.finish undef, s.cs, s.w⟩
      | none => .fail "no operation") = .next s') : Sim P X f0 base cs0 m s.w w (lone f (csW ++ cs0) w) s' := by
  obtain ⟨htm, htodo⟩ := h.plain hd
  rw [ht] at htodo
  generalize htf : f.todo = y at htodo
  cases htodo with
  | cons hx hk =>
    rename_i x' k'
    obtain ⟨rfl, hops⟩ := hx
    have hfm := h.fmode hm
    have hw1 : FRel P X m s.w false lo s.w.next s.fr f := h.top.plainLive hd
    split at hout
    rotate_left
    · cases hout
    rename_i o ho
    have ho' : ops[i]? = some o := by simpa using ho
    have hwr : Region.wanted o (yielded ops f.tmps) = wantedA ops s.fr.tm o := wanted_rel fun _ _ _ _ d _ _ => htm.val d
    cases hwa : wantedA ops s.fr.tm o with
    | false =>
      rw [hwa] at hout hwr
      simp only [cond_false, AOut.next.injEq] at hout
      subst hout
      refine ⟨lo, m, _, csW, w, .one (w_unwanted hfm htf ho' hwr), .refl h.rel base, h.rel, h.glob, h.below, hw1.finish (undef_rel m) (Nat.le_refl _), h.stk, h.bot.finish undef⟩
    | true =>
      rw [hwa] at hout hwr
      simp only [cond_true] at hout
      have hoo : opOk P o = true := List.all_eq_true.1 hops o (List.mem_of_getElem? ho)
      have hrn : RNext P m s.w w (execA P X s.fr.eval o s.w) (execOp f.eval o) := by
        rw [eval_evalT, eval_evalW]
        exact exec_sound hX h.rel fun x hx => evalT_rel h.glob (List.all_eq_true.1 hoo x hx) fun t _ => htm.val t
      obtain ⟨f', csW', w', h1, lo', m', h2, h3⟩ := apply_sim (cs0 := cs0) hP hrn h.glob h.below hw1 h.stk h.bot (by
        intro j A' he
        rw [he] at hout
        simp only [applyA, cond_false] at hout
        repeat' split at hout
        all_goals first | (cases hout; done) | skip
        all_goals (revert hout; generalize (_ && _ : Bool) = z; cases z <;> intro hout <;> cases hout)) hout
      refine ⟨lo', m', f', csW', w', .one (w_op hfm htf ho' hwr ?_ h1), h2, h3⟩
      cases hro : f.roundOf with
      | none => exact .inl rfl
      | some l' =>
        right
        intro c hc
        have hra := h.top.core.round
        rw [hro] at hra
        cases hq : s.fr.roundOf with
        | none => rw [hq] at hra; exact hra
        | some l =>
          unfold execA at hout
          rw [hc] at hout
          simp only at hout
          split at hout
          · cases hout
          · simp only [applyA, cond_false] at hout
            rw [hq] at hout
            cases hout
          · cases hout

end
end Go.Abs

namespace Go.Abs

section
variable {P : Program} {X : XNames} {f0 : FuncId} {base lo : Nat} {m : Inj P} {A : AW} {w : World} {fr : AFr} {cs : List AFr} {f : Frame} {csW cs0 : List Frame}

/-- the loop over a function begins -/
theorem enterLoop_sound {m : Inj P} {A : AW} {w : World} (r : Rel m A w) {ro ro' : Option Nat} (hro : RoundRel m ro ro') {fn : FuncId} {tm : Tm} {tmps : Array Value} (htm : TmRel m tm tmps) {ps : Array Tmp} {assign body : Code}
    (hc1 : codeOk P assign = true) (hc2 : codeOk P body = true) {d : Nat} {mark : List Deferred} {A1 A2 : AW} {l : Nat}
    (h1 : (match (generalizing := false) ro with
        | some l => (match A.get l with | some (.loop r) => some (r.defers, ([] : List Deferred), A) | _ => none)
        | none => (match A.new (.deferred (some [])) with | some (r, w') => some (r, [{ target := .collected r, args := #[] }], w') | none => none)) = some (d, mark, A1))
    (h2 : A1.new (.loop { state := .ready, pending := none, fn, tm, params := ps.toList, assign, body, defers := d }) = some (l, A2)) :
    ∃ l' mark' w' m', (Instr.enterLoop fn tmps ps assign body ro').run P w = .ok (l', mark') w' ∧ Ev m A w m' A2 w' ∧ m' l = some (l', 0) ∧ All2 (DRel m') mark mark' := by
  have part2 : ∀ (m1 : Inj P) (w1 : World) (d' : Nat), Ev m A w m1 A1 w1 → m1 d = some (d', 0) → ∃ m', Ev m A w m' A2 { w1 with heap := w1.heap.push (.loop { state := .ready, pending := none, fn, tmps, params := ps, assign, body, defers := d' }) } ∧ m1.le m' ∧ m' l = some (w1.heap.size, 0) := by
    intro m1 w1 d' hev hd
    obtain ⟨m', g1, g2⟩ := newObj_sound (o' := .loop { state := .ready, pending := none, fn, tmps, params := ps, assign, body, defers := d' }) hev.rel h2
      ⟨rfl, _, rfl, rfl, rfl, rfl, htm.mono hev.ext, rfl, rfl, rfl, hd, hc1, hc2, fun c hc => by cases hc⟩ rfl
    exact ⟨m', hev.trans g1, g1.ext, g2⟩
  cases ro with
  | some lr =>
    cases ro' with
    | none => exact hro.elim
    | some lr' =>
      have hro : m lr = some (lr', 0) := hro
      simp only at h1
      split at h1
      rotate_left
      · cases h1
      rename_i lp hg
      simp only [Option.some.injEq, Prod.mk.injEq] at h1
      obtain ⟨rfl, rfl, rfl⟩ := h1
      obtain ⟨lp', g1, g2⟩ := r.loopAt hg hro
      obtain ⟨m', k1, k2, k3⟩ := part2 m w lp'.defers (.refl r) g2.defers
      refine ⟨w.heap.size, [], _, m', ?_, k1, k3, .nil⟩
      simp only [Instr.enterLoop, Sem.run_bind, run_getLoop g1, Result.andThen_ok, Sem.run_pure]
      rfl
  | none =>
    cases ro' with
    | some l => exact hro.elim
    | none =>
      simp only at h1
      split at h1
      rotate_left
      · cases h1
      rename_i b A' hn
      simp only [Option.some.injEq, Prod.mk.injEq] at h1
      obtain ⟨rfl, rfl, rfl⟩ := h1
      obtain ⟨m1, g1, g2⟩ := newObj_sound (o' := .deferred (some [])) r hn ⟨rfl, [], rfl, .nil⟩ rfl
      obtain ⟨m', k1, k2, k3⟩ := part2 m1 _ _ g1 g2
      refine ⟨_, [{ target := .collected w.heap.size, args := #[] }], _, m', ?_, k1, k3, .cons ⟨⟨_, rfl, k2.map _ _ g2⟩, .nil⟩ .nil⟩
      simp only [Instr.enterLoop, Sem.run_bind, Result.andThen_ok, Sem.run_pure]
      rfl

theorem rangeFunc_sim (hX : XOk P X) (hP : POk P) {s s' : ASt} {g : Operand} {ps : Array Tmp} {assign body : Code} {k : List Item} (h : SRel P X f0 base lo m s f csW w) (hm : s.fr.mode = .run) (hd : s.fr.dr = false)
    (ht : s.fr.todo = .code (.rangeFunc g ps assign body) :: k)
    (hout : (match (match s.fr.roundOf with
        | some l => (match s.w.get l with | some (.loop r) => some (r.defers, ([] : List Deferred), s.w) | _ => none)
        | none => (match s.w.new (.deferred (some [])) with | some (r, w') => some (r, [{ target := .collected r, args := #[] }], w') | none => none)) with
      | none => AOut.fail "enterLoop"
      | some (d, mark, w) => (match w.new (.loop { state := .ready, pending := none, fn := s.fr.fn, tm := s.fr.tm, params := ps.toList, assign, body, defers := d }) with
        | none => .fail "enterLoop"
        | some (l, w) =>
          let fr' := { s.fr with todo := .inRangeFunc l :: k, defers := mark ++ s.fr.defers }
          match s.fr.eval g with
          | .func fn first captured => applyA P fr' s.cs false (invokeA P X w (.fn fn captured) (first.toList ++ [Value.func (.yield l) #[] #[]]))
          | _ => .fail "rangeFunc")) = .next s') : Sim P X f0 base cs0 m s.w w (lone f (csW ++ cs0) w) s' := by
  obtain ⟨htm, htodo⟩ := h.plain hd
  have hbase := h.baseLe
  have hlo := h.below
  rw [ht] at htodo
  generalize htf : f.todo = y at htodo
  cases htodo with
  | cons hx hk =>
    rename_i x' k'
    obtain ⟨rfl, hcode⟩ := hx
    simp only [codeOk, Bool.and_eq_true] at hcode
    have hfm := h.fmode hm
    split at hout
    · cases hout
    rename_i d mark A1 h1
    split at hout
    · cases hout
    rename_i l A2 h2
    simp only at hout
    split at hout
    rotate_left
    · cases hout
    rename_i fn first captured he
    obtain ⟨l', mark', w1, m1, g1, g2, g3, g4⟩ := enterLoop_sound h.rel h.top.core.round htm hcode.2.1 hcode.2.2 h1 h2
    have hg : VRel m1 (s.fr.eval g) (f.eval g) := by
      rw [eval_evalT, eval_evalW]
      exact (evalT_rel h.glob hcode.1 fun t _ => htm.val t).mono g2.ext
    rw [he] at hg
    generalize hfe : f.eval g = y at hg
    cases hg with
    | func hf ha hc =>
      rename_i f' a a' c c'
      have hwait : FRel P X m1 A2 false lo A2.next { s.fr with todo := .inRangeFunc l :: k, defers := mark ++ s.fr.defers } { f with todo := .inRangeFunc l' :: k', defers := mark' ++ f.defers } := by
        refine ⟨⟨h.top.core.fn, h.top.core.kind, h.top.core.kindOk, h.top.core.mode.mono g2.ext, h.top.core.round.mono g2.ext, g4.append (h.top.core.defers.mono fun _ _ x => x.mono g2.ext)⟩, ?_⟩
        exact .plain hd (htm.mono g2.ext) (.cons ⟨l', rfl, g3⟩ (hk.mono fun _ _ x => x.mono g2.ext))
      have hyield : VRel m1 (.func (.yield l) #[] #[]) (.func (.yield l') #[] #[]) := .func (.inr ⟨l, l', rfl, rfl, g3⟩) .nil .nil
      have hinv := invokeFn_sound hX g2.rel (c := ⟨c⟩) hf hc (ha.append (.cons hyield .nil))
      have hn : ∀ i A', invokeA P X A2 (.fn fn ⟨c⟩) (a ++ [Value.func (.yield l) #[] #[]]) ≠ .ok (.rangeNext i) A' := by
        intro i A' he2
        rw [he2] at hout
        simp only [applyA, cond_false] at hout
        repeat' split at hout
        all_goals first | (cases hout; done) | skip
        all_goals (revert hout; generalize (_ && _ : Bool) = z; cases z <;> intro hout <;> cases hout)
      have hstk := h.stk.mono (A' := A2) g2.ext fun i hi => g2.same i (by omega)
      obtain ⟨f2, csW', w', k1, lo', m', k2, k3⟩ := apply_sim (cs0 := cs0) hP hinv (h.glob.mono g2.ext) (by have := g2.next; omega) hwait hstk (h.bot.top rfl rfl rfl) hn hout
      refine ⟨lo', m', f2, csW', w', .one (w_rangeFunc (l := l') (mark := mark') (w1 := w1) hfm htf (by rw [h.top.core.fn]; exact g1) rfl ?_), (g2.low (by omega)).trans k2, k3⟩
      have hev : ({ f with todo := .inRangeFunc l' :: k', defers := mark' ++ f.defers } : Frame).eval = f.eval := by rw [eval_evalW, eval_evalW]
      rw [hev]
      rw [← k1]
      have : (do let d ← resolve f.eval { callee := .value g, args := #[.const (.func (.yield l') #[] #[])], argTypes := #[] } 0; invoke d.target d.args : Sem Next).run P w1 = (invoke (.fn f' ⟨c'⟩) ⟨a' ++ [Value.func (.yield l') #[] #[]]⟩).run P w1 := by
        simp only [Sem.run_bind, resolve, hfe, Deferred.ofValue, Sem.run_pure, Result.andThen_ok]
        simp [Frame.eval]
      rw [this]

theorem beginRound_sim {s s' : ASt} {k : List Item} (h : SRel P X f0 base lo m s f csW w) (hm : s.fr.mode = .run) (hd : s.fr.dr = false) (ht : s.fr.todo = .beginRound :: k)
    (hout : (match s.fr.roundOf with
      | some l => (match s.w.get l with
        | some (.loop r) => (match r.state with
          | .ready => AOut.next ⟨s.fr.finish undef, s.cs, s.w.put l (.loop { r with state := .busy })⟩
          | _ => .fail "beginRound")
        | _ => .fail "beginRound")
      | none => .fail "beginRound") = .next s') : Sim P X f0 base cs0 m s.w w (lone f (csW ++ cs0) w) s' := by
  obtain ⟨htm, htodo⟩ := h.plain hd
  have hbase := h.baseLe
  have hlo := h.below
  rw [ht] at htodo
  generalize htf : f.todo = y at htodo
  cases htodo with
  | cons hx hk =>
    rename_i x' k'
    have hx : x' = .beginRound := hx
    subst hx
    have hfm := h.fmode hm
    have hr := h.top.core.round
    split at hout
    rotate_left
    · cases hout
    rename_i l hro
    rw [hro] at hr
    cases hfr : f.roundOf with
    | none => rw [hfr] at hr; exact hr.elim
    | some l' =>
      rw [hfr] at hr
      have hr : m l = some (l', 0) := hr
      split at hout
      rotate_left
      · cases hout
      rename_i lp hg
      split at hout
      rotate_left
      · cases hout
      rename_i hst
      simp only [AOut.next.injEq] at hout
      subst hout
      obtain ⟨w', g1, g2⟩ := round_begin h.rel hg hr hst
      have hw1 : FRel P X m (s.w.put l (.loop { lp with state := .busy })) false lo s.w.next s.fr f := ((h.top.plainLive (live' := false) (hi' := s.w.next) hd).mono g2.ext (fun _ _ => rfl) (Nat.le_refl _))
      refine ⟨lo, m, _, csW, w', .one (w_beginRound hfm hfr htf g1), g2.low (by omega), g2.rel, h.glob, hlo, hw1.finish (undef_rel m) (Nat.le_refl _), h.stk.mono g2.ext fun _ _ => rfl, h.bot.finish undef⟩

theorem endRange_sim {s s' : ASt} {l : Nat} {k : List Item} (h : SRel P X f0 base lo m s f csW w) (hm : s.fr.mode = .run) (hd : s.fr.dr = false) (ht : s.fr.todo = .endRangeFunc l :: k)
    (hout : (match s.w.get l with
      | some (.loop r) => (match r.state with
        | .busy => AOut.fail "endLoop"
        | _ => .next ⟨{ s.fr with todo := (match r.pending with | some c => .code c :: k | none => k) }, s.cs, s.w.put l (.loop { r with state := .exhausted })⟩)
      | _ => .fail "endLoop") = .next s') : Sim P X f0 base cs0 m s.w w (lone f (csW ++ cs0) w) s' := by
  obtain ⟨htm, htodo⟩ := h.plain hd
  have hbase := h.baseLe
  have hlo := h.below
  rw [ht] at htodo
  generalize htf : f.todo = y at htodo
  cases htodo with
  | cons hx hk =>
    rename_i x' k'
    obtain ⟨l', rfl, hl⟩ := hx
    have hfm := h.fmode hm
    split at hout
    rotate_left
    · cases hout
    rename_i lp hg
    have hne : lp.state ≠ .busy := by
      intro e
      rw [e] at hout
      cases hout
    have hout : AOut.next ⟨{ s.fr with todo := (match lp.pending with | some c => .code c :: k | none => k) }, s.cs, s.w.put l (.loop { lp with state := .exhausted })⟩ = .next s' := by
      cases hq : lp.state with
      | busy => exact absurd hq hne
      | ready => rw [hq] at hout; exact hout
      | done => rw [hq] at hout; exact hout
      | exhausted => rw [hq] at hout; exact hout
    simp only [AOut.next.injEq] at hout
    subst hout
    obtain ⟨w', g1, g2⟩ := loop_end h.rel hg hl hne
    obtain ⟨lp', q1, q2⟩ := h.rel.loopAt hg hl
    refine ⟨lo, m, _, csW, w', .one (w_endRange hfm htf g1), g2.low (by omega), g2.rel, h.glob, hlo, ⟨⟨h.top.core.fn, h.top.core.kind, h.top.core.kindOk, h.top.core.mode, h.top.core.round, h.top.core.defers⟩, .plain hd htm ?_⟩,
      h.stk.mono g2.ext fun _ _ => rfl, h.bot.top rfl rfl rfl⟩
    cases hp : lp.pending with
    | none => simpa [hp] using hk
    | some c => exact .cons ⟨rfl, q2.ok.2.2 c hp⟩ hk

end
end Go.Abs

namespace Go.Abs

section
variable {P : Program} {X : XNames} {f0 : FuncId} {base lo : Nat} {m : Inj P} {A : AW} {w : World} {fr : AFr} {cs : List AFr} {f : Frame} {csW cs0 : List Frame}

/-- a region that draws its order begins -/
theorem drawStart_sim (hP : POk P) {s : ASt} {id : Nat} {ops : Array Oper} {k : List Item} {p : List Nat} (h : SRel P X f0 base lo m s f csW w) (hm : s.fr.mode = .run) (hd : s.fr.dr = false) (ht : s.fr.todo = .code (.region id ops true) :: k)
    (hin : dstsIn s.fr.tm.sz ops.toList = true) (hp : planA P ops.toList = some p) :
    Sim P X f0 base cs0 m s.w w (lone f (csW ++ cs0) w) { s with fr := { s.fr with todo := .inRegion ops p :: k, dr := true } } := by
  obtain ⟨htm, htodo⟩ := h.plain hd
  have hbase := h.baseLe
  have hlo := h.below
  rw [ht] at htodo
  generalize htf : f.todo = y at htodo
  cases htodo with
  | cons hx hk =>
    rename_i x' k'
    obtain ⟨rfl, hcode⟩ := hx
    have hfm := h.fmode hm
    obtain ⟨t, hstep⟩ := w_draw (P := P) (cs := csW ++ cs0) (w := w) hfm htf
    have hsched : Region.schedule (P.follows .mixedOrders) ops t = Region.linearise .any ops t := by simp [Region.schedule, hP.mixed]
    rw [hsched] at hstep
    have hev := Ev.drawn h.rel (w.drawn + 1) (Nat.le_succ _)
    have hso := (planA_spec hp).1
    refine ⟨lo, m, _, csW, _, .one hstep, hev.low (by omega), hev.rel, h.glob, hlo, ⟨⟨h.top.core.fn, h.top.core.kind, h.top.core.kindOk, h.top.core.mode, h.top.core.round, h.top.core.defers⟩, ?_⟩, h.stk.mono (.refl m) fun _ _ => rfl, h.bot.top rfl rfl rfl⟩
    exact .draw ops (fun _ => False) 0 [] p _ k k' rfl hm rfl rfl hk (DrawAt.start htm hp hcode (dstsIn_spec hin) (lin_of hso.back t))

/-- it ends -/
theorem drawEnd_sim (hX : XOk P X) {s : ASt} {ops : Array Oper} {S : Nat → Prop} {C : Nat} {rest : List Nat} {k k' : List Item} (h : SRel P X f0 base lo m s f csW w) (hm : s.fr.mode = .run)
    (htf : f.todo = .inRegion ops rest :: k') (hk : All2 (IRel m) k k') (D : DrawAt P X m s.w true lo s.w.next s.fr.tm f.tmps ops S C [] [] rest) :
    Sim P X f0 base cs0 m s.w w (lone f (csW ++ cs0) w) ⟨{ s.fr with todo := k, dr := false }, s.cs, s.w⟩ := by
  have hbase := h.baseLe
  have hlo := h.below
  have hfm := h.fmode hm
  have hall : ∀ i, i < ops.size → C.testBit i = true := by
    intro i hi
    have := D.plan
    cases this with
    | stop _ hh => exact hh i (by simpa using hi)
  obtain ⟨S', tmps', rest', m', w', t1, t2, t3, t4⟩ := DrawAt.catchTo hX (cs := csW ++ cs0) (k := k') none (Nat.le_refl _) hlo rest h.glob h.rel D (fun i hi => .inl (hall i hi)) (fun x hx => by cases hx) hfm htf
  have t4 : rest' = [] := t4
  subst t4
  refine ⟨lo, m', _, csW, w', t1.trans (.one (w_end (k := k') (by exact hfm) rfl)), t2.weak hbase, t2.rel, h.glob.mono t2.ext, hlo, ⟨⟨h.top.core.fn, h.top.core.kind, h.top.core.kindOk, h.top.core.mode.mono t2.ext, h.top.core.round.mono t2.ext, h.top.core.defers.mono fun _ _ x => x.mono t2.ext⟩, ?_⟩,
    h.stk.mono t2.ext t2.same, h.bot.top rfl rfl rfl⟩
  exact .plain rfl t3.done (hk.mono fun _ _ x => x.mono t2.ext)

/-- an operation in it -/
theorem drawOp_sim (hX : XOk P X) (hP : POk P) {s s' : ASt} {ops : Array Oper} {S : Nat → Prop} {C : Nat} {x : Nat} {q rest : List Nat} {k k' : List Item} (h : SRel P X f0 base lo m s f csW w) (hm : s.fr.mode = .run) (hd : s.fr.dr = true)
    (ht : s.fr.todo = .inRegion ops (x :: q) :: k) (htf : f.todo = .inRegion ops rest :: k') (hk : All2 (IRel m) k k') (D : DrawAt P X m s.w true lo s.w.next s.fr.tm f.tmps ops S C [] (x :: q) rest)
    (hout : (match ops.toList[x]? with
      | some o => bif wantedA ops s.fr.tm o then applyA P s.fr s.cs false (execA P X s.fr.eval o s.w) else .next ⟨s.fr.finish undef, s.cs, s.w⟩
      | none => .fail "no operation") = .next s') : Sim P X f0 base cs0 m s.w w (lone f (csW ++ cs0) w) s' := by
  have hbase := h.baseLe
  have hlo := h.below
  have hfm := h.fmode hm
  split at hout
  rotate_left
  · cases hout
  rename_i o ho
  have hfinA := fun v => finishA_region ht ho v
  have hplan := D.plan
  -- an operation that the world does later
  have ahead : ∀ (d : Tmp) (v : Value) (A' : AW) (p' rl' : List Nat), o.dst = some d → q = rl' ++ p' → EvL lo m s.w w m A' w → DrawAt P X m A' true lo A'.next (s.fr.tm.set d v) f.tmps ops S (C ||| (1 <<< x)) rl' p' rest →
      Sim P X f0 base cs0 m s.w w (lone f (csW ++ cs0) w) ⟨s.fr.finish v, s.cs, A'⟩ := by
    intro d v A' p' rl' hod hq hev D'
    refine ⟨lo, m, f, csW, w, .refl P _, hev.weak hbase, hev.rel, h.glob, by have := hev.next; show lo ≤ A'.next; omega, ?_, h.stk.mono (.refl m) fun _ _ => rfl, h.bot.finish v⟩
    refine ⟨by
      obtain ⟨a1, a2, a3, a4, a5, a6⟩ := finishA_same s.fr v
      exact ⟨by rw [a1]; exact h.top.core.fn, by rw [a2]; exact h.top.core.kind, by rw [a2]; exact h.top.core.kindOk, by rw [a3]; exact h.top.core.mode, by rw [a4]; exact h.top.core.round, by rw [a5]; exact h.top.core.defers⟩, ?_⟩
    rw [hfinA v, hod]
    exact .draw ops S (C ||| (1 <<< x)) rl' p' rest k k' hd hm (by rw [hq]) htf hk D'
  cases hplan with
  | pure _ _ p g1 g2 g3 g4 g5 g6 =>
    have hq : quietOp P o.op = true := by
      cases hq : quietOp P o.op with
      | true => rfl
      | false =>
        cases ha : allocOp P (clsOf P ops.toList) o.op with
        | true => rw [(alc_op ho).2 ha] at g3; cases g3
        | false => rw [(eff_op ho).2 ⟨hq, ha⟩] at g2; cases g2
    obtain ⟨d, hod⟩ : ∃ d, o.dst = some d := by
      cases hh : o.dst with
      | some d => exact ⟨d, rfl⟩
      | none => rw [D.slotsOk.dst x o ho hh] at g2; cases g2
    have hsz := D.inb x o d ho hod
    have hself : ∀ (v : Value) (t : Tmp), looksAtA ops.toList o t = true → (s.fr.tm.set d v).get t = s.fr.tm.get t := by
      intro v t hl
      rw [Tm.get_set _ D.small, if_neg]
      rintro ⟨rfl, _⟩
      rcases D.slotsOk.looks x o t ho hod x o ho hl with h | ⟨h, _⟩
      · have := anc_lt D.slotsOk.back x x g1 h
        omega
      · rw [g2] at h; cases h
    have adv : ∀ v, ((wantedA ops s.fr.tm o = false ∧ v = undef) ∨ (wantedA ops s.fr.tm o = true ∧ ∃ A', execA P X (evalT s.fr.tm) o s.w = .ok (.value v) A')) → Sim P X f0 base cs0 m s.w w (lone f (csW ++ cs0) w) ⟨s.fr.finish v, s.cs, s.w⟩ := by
      intro v hv
      refine ahead d v s.w q [] hod rfl (.refl h.rel lo) ?_
      refine D.advance (by simpa using g1) g4 g2 g5 ho hod (Nat.le_refl _) hlo (fun hh => by rw [hq] at hh; cases hh) g6 (fun y hy => by cases hy) fun j hj hs => .inr ?_
      rw [or_bit] at hj
      by_cases e : j = x
      · subst e
        intro o' d' ho' hd'
        rw [ho] at ho'
        cases ho'
        rw [hod] at hd'
        cases hd'
        rw [wantedA_congr (hself v), execA_congr (evalT_congr (hself v)), Tm.get_set _ D.small, if_pos ⟨rfl, hsz⟩]
        rcases hv with ⟨h1, rfl⟩ | ⟨h1, h2⟩
        · exact ⟨fun _ => rfl, fun hh => by rw [h1] at hh; cases hh⟩
        · exact ⟨fun hh => by (rw [h1] at hh; cases hh), fun _ => ⟨fun _ => h2, fun hh => by rw [hq] at hh; cases hh⟩⟩
      · exact D.keepValid v g4 g2 ho hod (by simpa [e] using hj) hs
    cases hwa : wantedA ops s.fr.tm o with
    | false =>
      rw [hwa] at hout
      simp only [cond_false, AOut.next.injEq] at hout
      subst hout
      exact adv undef (.inl ⟨hwa, rfl⟩)
    | true =>
      rw [hwa] at hout
      simp only [cond_true] at hout
      rw [eval_evalT] at hout
      cases he : execA P X (evalT s.fr.tm) o s.w with
      | fail y => rw [he] at hout; cases hout
      | panic v A' => rw [he] at hout; simp only [applyA, hd, cond_true] at hout; cases hout
      | ok n A' =>
        obtain ⟨rfl, v, rfl⟩ := quiet_exec hq he
        rw [he] at hout
        simp only [applyA, cond_false, AOut.next.injEq] at hout
        subst hout
        exact adv v (.inr ⟨hwa, _, he⟩)
  | alloc _ _ p g1 g2 g3 g4 g5 g6 =>
    have hal := (alc_op ho).1 g3
    have hq : quietOp P o.op = false := quiet_alloc hal
    obtain ⟨d, hod⟩ : ∃ d, o.dst = some d := by
      cases hh : o.dst with
      | some d => exact ⟨d, rfl⟩
      | none => rw [D.slotsOk.dst x o ho hh] at g2; cases g2
    have adv : ∀ v A', EvL lo m s.w w m A' w → s.w.next ≤ A'.next → (wantedA ops s.fr.tm o = true → ∃ b, idOf v = some b ∧ m b = none ∧ s.w.next ≤ b ∧ b < A'.next) → Sim P X f0 base cs0 m s.w w (lone f (csW ++ cs0) w) ⟨s.fr.finish v, s.cs, A'⟩ := by
      intro v A' hev hnx hg
      refine ahead d v A' p _ hod rfl hev ?_
      refine D.advance (by simpa using g1) g4 g2 g5 ho hod hnx hlo (fun _ => hg) g6 (fun y hy => ?_) fun j hj hs => .inl ?_
      · obtain ⟨i, _, rfl, _⟩ := (again_mem _ _ _ _ _ y).1 hy
        simp
      · refine (again_mem _ _ _ _ _ _).2 ⟨j, ?_, by simp, hj, ?_, by simp⟩
        · rw [or_bit] at hj
          by_cases e : j = x
          · subst e; exact g1
          · simpa using D.bits j (by simpa [e] using hj)
        · cases hh : (effOf P ops.toList).testBit j with
          | false => rfl
          | true =>
            rw [or_bit] at hj
            by_cases e : j = x
            · subst e; rw [g2] at hh; cases hh
            · exact absurd (D.effs j (by simpa [e] using hj) hh) hs
    cases hwa : wantedA ops s.fr.tm o with
    | false =>
      rw [hwa] at hout
      simp only [cond_false, AOut.next.injEq] at hout
      subst hout
      exact adv undef s.w (.refl h.rel lo) (Nat.le_refl _) fun hh => by rw [hwa] at hh; cases hh
    | true =>
      rw [hwa] at hout
      simp only [cond_true] at hout
      rw [eval_evalT] at hout
      cases he : execA P X (evalT s.fr.tm) o s.w with
      | fail y => rw [he] at hout; cases hout
      | panic v A' => rw [he] at hout; simp only [applyA, hd, cond_true] at hout; cases hout
      | ok n A' =>
        obtain ⟨v, ob, b, rfl, h1, h2, h3⟩ := alloc_exec hal he
        rw [he] at hout
        simp only [applyA, cond_false, AOut.next.injEq] at hout
        subst hout
        obtain ⟨q1, q2, q3, q4, q5⟩ := h.rel.ghost h1 h2
        exact adv v A' (EvL.ghost h.rel h1 h2 lo) (by omega) fun _ => ⟨b, h3, q4, by omega, by omega⟩
  | effect _ _ p g1 g2 g3 g4 g5 g6 =>
    obtain ⟨S', tmps', rest', m1, w1, t1, t2, t3, r, t4⟩ := DrawAt.catchTo hX (cs := csW ++ cs0) (k := k') (some x) (Nat.le_refl _) hlo rest h.glob h.rel D (fun i hi => by
      rcases g5 i (by simpa using hi) with hh | rfl | hh
      · exact .inl hh
      · exact .inr (.inl ⟨rfl, fun hs => by rw [D.sub i hs] at g3; cases g3⟩)
      · exact .inr (.inr ⟨x, rfl, hh⟩)) (fun y hy => by cases hy; exact ⟨by simpa using g1, g3⟩) hfm htf
    subst t4
    obtain ⟨_, _, hanc, _⟩ := t3.lin
    have hG1 := h.glob.mono t2.ext
    have hops := t3.operands hG1 hanc ho
    have hwr := t3.wanted hanc ho
    have hW : FRel P X m1 s.w false lo s.w.next s.fr { f with tmps := tmps', todo := .inRegion ops (x :: r) :: k' } := by
      refine ⟨⟨h.top.core.fn, h.top.core.kind, h.top.core.kindOk, h.top.core.mode.mono t2.ext, h.top.core.round.mono t2.ext, h.top.core.defers.mono fun _ _ x => x.mono t2.ext⟩, ?_⟩
      exact .draw ops S' C [] _ (x :: r) k k' hd hm ht rfl (hk.mono fun _ _ x => x.mono t2.ext) (t3.toWait g2 _ (Nat.le_refl _))
    have hstk := h.stk.mono (A' := s.w) t2.ext t2.same
    have ho' : ops[x]? = some o := by simpa using ho
    cases hwa : wantedA ops s.fr.tm o with
    | false =>
      rw [hwa] at hout hwr
      simp only [cond_false, AOut.next.injEq] at hout
      subst hout
      exact ⟨lo, m1, _, csW, w1, t1.trans (.one (w_unwanted (by exact hfm) rfl ho' hwr)), t2.weak hbase, t2.rel, hG1, hlo, hW.finish (undef_rel m1) (Nat.le_refl _), hstk, h.bot.finish undef⟩
    | true =>
      rw [hwa] at hout hwr
      simp only [cond_true] at hout
      have hrn : RNext P m1 s.w w1 (execA P X s.fr.eval o s.w) (execOp (evalW tmps') o) := by
        rw [eval_evalT]
        exact exec_sound hX t2.rel hops
      obtain ⟨f', csW', w', h1, lo', m', h2, h3⟩ := apply_sim (cs0 := cs0) hP hrn hG1 hlo hW hstk h.bot (by
        intro j A' he
        rw [he] at hout
        simp only [applyA, cond_false] at hout
        repeat' split at hout
        all_goals first | (cases hout; done) | skip
        all_goals (revert hout; generalize (_ && _ : Bool) = z; cases z <;> intro hout <;> cases hout)) hout
      refine ⟨lo', m', f', csW', w', t1.trans (.one (w_op (by exact hfm) rfl ho' hwr ?_ ?_)), (t2.weak hbase).trans h2, h3⟩
      · cases hro : f.roundOf with
        | none => exact .inl rfl
        | some l' =>
          right
          intro c hc
          have hra := h.top.core.round
          rw [hro] at hra
          cases hq : s.fr.roundOf with
          | none => rw [hq] at hra; exact hra
          | some l =>
            unfold execA at hout
            rw [hc] at hout
            simp only at hout
            split at hout
            · cases hout
            · simp only [applyA, cond_false] at hout
              rw [hq] at hout
              cases hout
            · cases hout
      · rw [← h1, eval_evalW]

end
end Go.Abs

namespace Go.Abs

section
variable {P : Program} {X : XNames} {f0 : FuncId} {base lo : Nat} {m : Inj P} {A : AW} {w : World} {fr : AFr} {cs : List AFr} {f : Frame} {csW cs0 : List Frame}

theorem FRel.raise {live live' : Bool} {hi : Nat} {a : AFr} {f : Frame} (r : FRel P X m A live lo hi a f) (hd : a.dr = false) {vs vs' : List PanicEntry} (hv : All2 (PRel m) vs vs') : FRel P X m A live' lo hi (a.raise vs) (f.raise vs') := by
  have hmode := r.core.mode
  simp only [AFr.raise, Frame.raise]
  generalize hcm : a.mode = cm at hmode
  generalize hgm : f.mode = gm at hmode
  cases hmode with
  | run => exact r.setMode hd (.panicking hv)
  | returning => exact r.setMode hd (.panicking hv)
  | panicking hch => exact r.setMode hd (.panicking (hv.append hch))

/-! results -/
def oneW (tmps : Array Value) : ResultVar → Sem Value
  | .tmp t => pure (tmps.getD t undef)
  | .cell a t => do loadVar t (← asAddr (tmps.getD a undef))
def oneA (P : Program) (A : AW) (tm : Tm) : ResultVar → Option Value
  | .tmp t => some (tm.get t)
  | .cell a t => (match tm.get a with | .pointer (some a) => loadVarA P A t a | _ => none)
theorem results_eq (fn : Func) (tmps : Array Value) : results fn tmps = (do let vs ← fn.results.mapM (oneW tmps); pure (if h : vs.size = 1 then vs[0] else .tuple vs)) := by
  unfold results
  congr 1
theorem resultsA_eq (fn : Func) (tm : Tm) : resultsA P A fn tm = (match resultsA.go (oneA P A tm) fn.results.toList with | some [v] => some v | some l => some (.tuple ⟨l⟩) | none => none) := by
  unfold resultsA
  simp only
  have : (fun x => match x with | .tmp t => some (tm.get t) | .cell a t => (match tm.get a with | .pointer (some a) => loadVarA P A t a | _ => none) : ResultVar → Option Value) = oneA P A tm := by
    funext x
    cases x <;> rfl
  rw [← this]
  rfl

theorem one_result (r : Rel m A w) {tm : Tm} {tmps : Array Value} (ht : TmRel m tm tmps) {x : ResultVar} {v : Value} (h : oneA P A tm x = some v) : ∃ v', (oneW tmps x).run P w = .ok v' w ∧ VRel m v v' := by
  cases x with
  | tmp t =>
    simp only [oneA, Option.some.injEq] at h
    subst h
    exact ⟨_, rfl, ht.val t⟩
  | cell a t =>
    simp only [oneA] at h
    have hv := ht.val a
    generalize tm.get a = y at h hv
    split at h
    · generalize hq : tmps.getD a undef = z at hv
      cases hv with
      | ptr ha =>
        obtain ⟨v', h1, h2⟩ := loadVar_sound r h ha
        refine ⟨v', ?_, h2⟩
        simp only [oneW, hq, Sem.run_bind, asAddr, Sem.run_pure, Result.andThen_ok]
        exact h1
    · cases h

theorem go_results (r : Rel m A w) {tm : Tm} {tmps : Array Value} (ht : TmRel m tm tmps) : ∀ {l : List ResultVar} {vs : List Value}, resultsA.go (oneA P A tm) l = some vs →
    ∃ vs', (l.mapM (oneW tmps)).run P w = .ok vs' w ∧ VRels m vs vs'
  | [], vs, h => by
    simp only [resultsA.go, Option.some.injEq] at h
    subst h
    exact ⟨[], by simp, .nil⟩
  | x :: l, vs, h => by
    simp only [resultsA.go] at h
    split at h
    · rename_i v vs1 h1 h2
      simp only [Option.some.injEq] at h
      subst h
      obtain ⟨v', g1, g2⟩ := one_result r ht h1
      obtain ⟨vs', g3, g4⟩ := go_results r ht h2
      refine ⟨v' :: vs', ?_, .cons g2 g4⟩
      simp only [List.mapM_cons, Sem.run_bind, g1, Result.andThen_ok, g3, Sem.run_pure]
    · cases h

theorem results_sound (r : Rel m A w) {fn : Func} {tm : Tm} {tmps : Array Value} (ht : TmRel m tm tmps) {v : Value} (h : resultsA P A fn tm = some v) : ∃ v', (results fn tmps).run P w = .ok v' w ∧ VRel m v v' := by
  rw [resultsA_eq] at h
  have key : ∀ vs', (fn.results.toList.mapM (oneW tmps)).run P w = .ok vs' w → (results fn tmps).run P w = .ok (if h : vs'.length = 1 then vs'[0] else .tuple ⟨vs'⟩) w := by
    intro vs' hv
    rw [results_eq, Array.mapM_eq_mapM_toList]
    simp only [Sem.run_bind, map_eq_pure_bind, hv, Result.andThen_ok, Sem.run_pure]
    simp
  split at h
  · rename_i u hg
    simp only [Option.some.injEq] at h
    subst h
    obtain ⟨vs', g1, g2⟩ := go_results r ht hg
    cases g2 with
    | cons hv hn =>
      cases hn
      exact ⟨_, key _ g1, hv⟩
  · rename_i l hne hg
    simp only [Option.some.injEq] at h
    subst h
    obtain ⟨vs', g1, g2⟩ := go_results r ht hg
    have hl := g2.length
    refine ⟨_, key _ g1, ?_⟩
    rw [dif_neg]
    · exact .tuple g2
    · intro h1
      rw [hl] at h1
      obtain ⟨u, rfl⟩ := List.length_eq_one_iff.1 h1
      exact hne u rfl
  · cases h

theorem take_sound (r : Rel m A w) {b b' : Nat} {calls : List Deferred} (hg : A.get b = some (.deferred (some calls))) (hm : m b = some (b', 0)) :
    ∃ calls' w', (Instr.takeDeferred b').run P w = .ok calls' w' ∧ Ev m A w m (A.put b (.deferred none)) w' ∧ All2 (DRel m) calls calls' := by
  obtain ⟨c0, d0, o', g1, g2, g3⟩ := r.objAt hg hm
  rw [hm] at g1
  simp only [Option.some.injEq, Prod.mk.injEq] at g1
  obtain ⟨rfl, rfl⟩ := g1
  obtain ⟨_, ds', rfl, h⟩ := g3
  refine ⟨ds', _, ?_, Ev.putObj r hg rfl rfl hm g2 (o2 := .deferred none) (o2' := .deferred none) ⟨rfl, rfl⟩ rfl rfl, h⟩
  simp only [Instr.takeDeferred, Sem.run_bind, run_getObj_ok P w b' _ g2 (by simp), Result.andThen_ok, run_setObj_ok P w b' _ _ g2 (by simp), Sem.run_pure]

/-- a frame that has more of its own to do than to run -/
theorem collected_sim {s : ASt} {b : Nat} {args : Array Value} {ds calls : List Deferred} (h : SRel P X f0 base lo m s f csW w) (hm : s.fr.mode ≠ .run) (hd : s.fr.defers = { target := .collected b, args } :: ds)
    (hg : s.w.get b = some (.deferred (some calls))) : Sim P X f0 base cs0 m s.w w (lone f (csW ++ cs0) w) ⟨{ s.fr with defers := calls ++ ds }, s.cs, s.w.put b (.deferred none)⟩ := by
  have hbase := h.baseLe
  have hlo := h.below
  have hdr := h.top.plainOf hm
  obtain ⟨htm, htodo⟩ := h.plain hdr
  have hdf := h.top.core.defers
  rw [hd] at hdf
  generalize hfd : f.defers = y at hdf
  cases hdf with
  | cons hx ht =>
    rename_i d' ds'
    obtain ⟨tg, ar⟩ := d'
    obtain ⟨b', hb', hmb⟩ := hx.target
    simp only at hb'
    subst hb'
    obtain ⟨calls', w', g1, g2, g3⟩ := take_sound h.rel hg hmb
    have hfm : f.mode ≠ .run := by
      intro e
      have := h.top.core.mode
      rw [e] at this
      generalize hq : s.fr.mode = u at this
      cases this
      exact hm hq
    exact ⟨lo, m, _, csW, w', .one (w_collected hfm hfd g1), g2.low (by omega), g2.rel, h.glob, hlo,
      ⟨⟨h.top.core.fn, h.top.core.kind, h.top.core.kindOk, h.top.core.mode, h.top.core.round, g3.append ht⟩, .plain hdr htm htodo⟩, h.stk.mono g2.ext fun _ _ => rfl, h.bot.top rfl rfl rfl⟩

theorem deferred_sim (hX : XOk P X) (hP : POk P) {s s' : ASt} {d : Deferred} {ds : List Deferred} (h : SRel P X f0 base lo m s f csW w) (hm : s.fr.mode ≠ .run) (hd : s.fr.defers = d :: ds) (hnc : ∀ b, d.target ≠ .collected b)
    (hout : applyA P { s.fr with defers := ds } s.cs true (invokeA P X s.w d.target d.args.toList) = .next s') : Sim P X f0 base cs0 m s.w w (lone f (csW ++ cs0) w) s' := by
  have hbase := h.baseLe
  have hlo := h.below
  have hdr := h.top.plainOf hm
  obtain ⟨htm, htodo⟩ := h.plain hdr
  have hdf := h.top.core.defers
  rw [hd] at hdf
  generalize hfd : f.defers = y at hdf
  cases hdf with
  | cons hx ht =>
    rename_i d' ds'
    obtain ⟨tg', ar'⟩ := d'
    obtain ⟨tg, ar⟩ := d
    obtain ⟨ar'⟩ := ar'
    have htg := hx.target
    have har := hx.args
    simp only at htg har hnc hout
    cases tg with
    | collected b => exact absurd rfl (hnc b)
    | fn fv c =>
      obtain ⟨fv', c', rfl, hf, hc⟩ := htg
      have hinv := invokeFn_sound hX h.rel hf hc har
      have hfm : f.mode ≠ .run := by
        intro e
        have := h.top.core.mode
        rw [e] at this
        generalize hq : s.fr.mode = u at this
        cases this
        exact hm hq
      -- the frame, this call taken off
      have hF : ∀ (live : Bool) (m' : Inj P) (A' : AW) (hi : Nat), m.le m' → FRel P X m' A' live lo hi { s.fr with defers := ds } { f with defers := ds' } := fun live m' A' hi hle =>
        ⟨⟨h.top.core.fn, h.top.core.kind, h.top.core.kindOk, h.top.core.mode.mono hle, h.top.core.round.mono hle, ht.mono fun _ _ x => x.mono hle⟩, .plain hdr (htm.mono hle) (htodo.mono fun _ _ x => x.mono hle)⟩
      have hB : Bot f0 ({ s.fr with defers := ds } :: s.cs) := h.bot.top rfl rfl rfl
      generalize hres : invokeA P X s.w (.fn fv c) ar.toList = res at hout hinv
      cases res with
      | fail y => cases hout
      | panic v A' =>
        obtain ⟨v', w', m', h1, h2, h3⟩ := hinv
        simp only [applyA, hdr, cond_false, AOut.next.injEq] at hout
        subst hout
        refine ⟨lo, m', _, csW, w', .one (w_deferred hfm hfd (by rw [h1]; rfl)), h2.low (by omega), h2.rel, h.glob.mono h2.ext, by have := h2.next; show lo ≤ A'.next; omega, ?_, h.stk.mono h2.ext fun i hi => h2.same i (by omega), ?_⟩
        · have hq : FRel P X m' A' true lo A'.next _ _ := (hF true m' A' A'.next h2.ext).raise hdr (vs := [{ v, recovered := false }]) (vs' := [{ v := v', recovered := false }]) (.cons ⟨h3, rfl, rfl⟩ .nil)
          simpa only [hdr] using hq
        · refine h.bot.top ?_ ?_ ?_ <;> (unfold AFr.raise; split <;> rfl)
      | ok n A' =>
        cases n with
        | value v =>
          obtain ⟨n', w', m', h1, h2, v', rfl, h3⟩ := hinv
          simp only [applyA, cond_true, AOut.next.injEq] at hout
          subst hout
          exact ⟨lo, m', _, csW, w', .one (w_deferred hfm hfd (by rw [h1]; rfl)), h2.low (by omega), h2.rel, h.glob.mono h2.ext, by have := h2.next; show lo ≤ A'.next; omega, hF true m' A' A'.next h2.ext, h.stk.mono h2.ext fun i hi => h2.same i (by omega), hB⟩
        | skip =>
          obtain ⟨n', w', m', h1, h2, h3⟩ := hinv
          have h3 : n' = .skip := h3
          subst h3
          simp only [applyA, cond_true, AOut.next.injEq] at hout
          subst hout
          exact ⟨lo, m', _, csW, w', .one (w_deferred hfm hfd (by rw [h1]; rfl)), h2.low (by omega), h2.rel, h.glob.mono h2.ext, by have := h2.next; show lo ≤ A'.next; omega, hF true m' A' A'.next h2.ext, h.stk.mono h2.ext fun i hi => h2.same i (by omega), hB⟩
        | enter g args =>
          obtain ⟨n', w', m', h1, h2, args', rfl, h3⟩ := hinv
          simp only [applyA, cond_true] at hout
          split at hout
          rotate_left
          · cases hout
          rename_i fr' he
          simp only [AOut.next.injEq] at hout
          subst hout
          obtain ⟨g1, g2, g3, g4⟩ := enter_rel (X := X) (A := A') hP he h3 (.inr rfl) A'.next A'.next
          refine ⟨A'.next, m', _, { f with defers := ds' } :: csW, w', .one (w_deferred hfm hfd (by rw [h1]; rfl)), h2.low (by omega), h2.rel, h.glob.mono h2.ext, Nat.le_refl _, g1, ?_, hB.push⟩
          exact .cons lo A'.next _ _ s.cs csW (by have := h2.next; omega) (hF false m' A' A'.next h2.ext) (h.stk.mono h2.ext fun i hi => h2.same i (by omega))
        | round l fn tm assign body =>
          obtain ⟨n', w', m', h1, h2, l', tmps', rfl, h3, h4, h5, h6⟩ := hinv
          simp only [applyA, cond_true, AOut.next.injEq] at hout
          subst hout
          refine ⟨A'.next, m', _, { f with defers := ds' } :: csW, w', .one (w_deferred hfm hfd (by rw [h1]; rfl)), h2.low (by omega), h2.rel, h.glob.mono h2.ext, Nat.le_refl _, ?_, ?_, hB.push⟩
          · refine ⟨⟨rfl, rfl, .inr rfl, .run, h3, .nil⟩, .plain rfl h4 (.cons ⟨rfl, h5⟩ (.cons rfl (.cons ⟨rfl, h6⟩ .nil)))⟩
          · exact .cons lo A'.next _ _ s.cs csW (by have := h2.next; omega) (hF false m' A' A'.next h2.ext) (h.stk.mono h2.ext fun i hi => h2.same i (by omega))
        | defer d => simp only [applyA, cond_true] at hout; cases hout
        | recover => simp only [applyA, Bool.true_or, cond_true] at hout; cases hout
        | rangeNext i => simp only [applyA, cond_true] at hout; cases hout
    | _ => exact htg.elim

/-- a frame's answer, when nothing is left to do -/
theorem return_sim {s s' : ASt} {fn : Func} {v : Value} (h : SRel P X f0 base lo m s f csW w) (hm : s.fr.mode = .returning) (hd : s.fr.defers = []) (hf : P.funcs[s.fr.fn]? = some fn) (hr : resultsA P s.w fn s.fr.tm = some v)
    {c : AFr} {rest : List AFr} (hcs : s.cs = c :: rest) (hout : doReturnA s.fr (c :: rest) v s.w = .next s') : Sim P X f0 base cs0 m s.w w (lone f (csW ++ cs0) w) s' := by
  have hdr := h.top.plainOf (by rw [hm]; simp)
  obtain ⟨htm, htodo⟩ := h.plain hdr
  obtain ⟨v', g1, g2⟩ := results_sound h.rel htm hr
  have hfm : f.mode = .returning := by
    have := h.top.core.mode
    rw [hm] at this
    generalize f.mode = u at this
    cases this; rfl
  have hfd : f.defers = [] := by
    have := h.top.core.defers
    rw [hd] at this
    generalize f.defers = u at this
    cases this; rfl
  have hff : P.funcs[f.fn]? = some fn := by rw [h.top.core.fn]; exact hf
  rcases h.top.core.kindOk with hk | hk
  · rw [doReturnA_normal hk hout]
    exact h.answer hcs (.refl h.rel) g2 fun g l hl => by
      subst hl
      exact .one (w_return hfm hfd hff g1 (h.top.core.kind.trans hk))
  · obtain ⟨h1, rfl⟩ := doReturnA_deferred hk hout
    exact h.settle hcs h1 (.refl h.rel) fun g l hl => by
      subst hl
      exact .one (w_return_deferred hfm hfd hff g1 (h.top.core.kind.trans hk))

theorem raise_sim {s : ASt} {chain : List PanicEntry} (h : SRel P X f0 base lo m s f csW w) (hm : s.fr.mode = .panicking chain) (hd : s.fr.defers = []) {c : AFr} {rest : List AFr} (hcs : s.cs = c :: rest) (hc : c.dr = false) :
    Sim P X f0 base cs0 m s.w w (lone f (csW ++ cs0) w) ⟨c.raise chain, rest, s.w⟩ := by
  have hbase := h.baseLe
  have hlo := h.below
  have hmode := h.top.core.mode
  rw [hm] at hmode
  generalize hfm : f.mode = u at hmode
  cases hmode with
  | panicking hch =>
    rename_i chain'
    have hfd : f.defers = [] := by
      have := h.top.core.defers
      rw [hd] at this
      generalize f.defers = u at this
      cases this; rfl
    have hstk := h.stk
    rw [hcs] at hstk
    have hb := h.bot
    rw [hcs] at hb
    obtain ⟨lo1, g, l, rfl, h1, h2, h3⟩ := hstk.inv
    refine ⟨lo1, m, g.raise chain', l, w, .one (w_unwind hfm hfd h.top.noHand), .refl h.rel base, h.rel, h.glob, by show lo1 ≤ s.w.next; omega, ?_, h3, ?_⟩
    · have h4 := h2.mono (A' := s.w) (hi' := s.w.next) (.refl m) (fun _ _ => rfl) hlo
      exact h4.raise hc hch
    · refine (Bot.tail hb).top ?_ ?_ ?_ <;> (unfold AFr.raise; split <;> rfl)

end
end Go.Abs

namespace Go.Abs

section
variable {P : Program} {X : XNames} {f0 : FuncId} {base lo : Nat} {m : Inj P} {A : AW} {w : World} {fr : AFr} {cs : List AFr} {f : Frame} {csW cs0 : List Frame}

/-! range over a map: which entry comes next -/
def cands (es : List MapEntry) (seen : List Nat) (since : Nat) : List (Option MapEntry) :=
  let left := es.filter fun e => !seen.contains e.born
  let old := left.filter fun e => Nat.blt e.born since
  let new := left.filter fun e => Nat.ble since e.born
  (if old.isEmpty then [none] else []) ++ (old ++ new).map some

theorem All2.filter {m : Inj P} {p : MapEntry → Bool} (hp : ∀ a b : MapEntry, a.born = b.born → p a = p b) : ∀ {l l' : List MapEntry}, All2 (ERel m) l l' → All2 (ERel m) (l.filter p) (l'.filter p)
  | _, _, .nil => .nil
  | a :: l, b :: l', .cons h t => by
    have ih := All2.filter hp t
    have he : p b = p a := hp b a h.born
    simp only [List.filter_cons, he]
    cases p a with
    | false => exact ih
    | true => exact .cons h ih

def CRel (m : Inj P) : Option MapEntry → Option MapEntry → Prop
  | none, none => True
  | some e, some e' => ERel m e e'
  | _, _ => False

theorem All2.mapSome {m : Inj P} : ∀ {l l' : List MapEntry}, All2 (ERel m) l l' → All2 (CRel m) (l.map some) (l'.map some)
  | _, _, .nil => .nil
  | _, _, .cons h t => .cons h (All2.mapSome t)

theorem cands_rel {m : Inj P} {es es' : List MapEntry} (h : All2 (ERel m) es es') (seen : List Nat) (since : Nat) : All2 (CRel m) (cands es seen since) (cands es' seen since) := by
  have h1 := All2.filter (p := fun e => !seen.contains e.born) (fun a b e => by simp only [e]) h
  have h2 := All2.filter (p := fun e => Nat.blt e.born since) (fun a b e => by simp only [e]) h1
  have h3 := All2.filter (p := fun e => Nat.ble since e.born) (fun a b e => by simp only [e]) h1
  unfold cands
  simp only
  refine All2.append ?_ (All2.mapSome (h2.append h3))
  have hl := h2.length
  generalize (es.filter fun e => !seen.contains e.born).filter (fun e => Nat.blt e.born since) = a at hl
  generalize (es'.filter fun e => !seen.contains e.born).filter (fun e => Nat.blt e.born since) = b at hl
  cases a with
  | nil =>
    cases b with
    | nil => exact .cons trivial .nil
    | cons => simp at hl
  | cons x a =>
    cases b with
    | nil => simp at hl
    | cons y b => exact .nil

theorem all_born {m : Inj P} {p : Nat → Bool} : ∀ {l l' : List MapEntry}, All2 (ERel m) l l' → (l'.all fun e => p e.born) = (l.all fun e => p e.born)
  | _, _, .nil => rfl
  | _, _, .cons h t => by simp only [List.all_cons, all_born t, h.born]

theorem arr_filter (p : MapEntry → Bool) (l : List MapEntry) : (⟨l⟩ : Array MapEntry).filter p = ⟨l.filter p⟩ := by simp

theorem cands_arr (es : List MapEntry) (seen : List Nat) (since : Nat) :
    ((if (((⟨es⟩ : Array MapEntry).filter fun e => !(⟨seen⟩ : Array Nat).contains e.born).filter (·.born < since)).isEmpty then #[none] else #[]) ++
      ((((⟨es⟩ : Array MapEntry).filter fun e => !(⟨seen⟩ : Array Nat).contains e.born).filter (·.born < since)) ++ (((⟨es⟩ : Array MapEntry).filter fun e => !(⟨seen⟩ : Array Nat).contains e.born).filter (·.born ≥ since))).map some : Array (Option MapEntry)) = ⟨cands es seen since⟩ := by
  have e1 : (fun e : MapEntry => decide (e.born < since)) = fun e => Nat.blt e.born since := by
    funext e
    cases h : Nat.blt e.born since with
    | true => have := blt_true.1 h; simpa using this
    | false => have := blt_false.1 h; simpa using this
  have e2 : (fun e : MapEntry => decide (e.born ≥ since)) = fun e => Nat.ble since e.born := by
    funext e
    cases h : Nat.ble since e.born with
    | true => have := ble_true.1 h; simpa using this
    | false => have := ble_false.1 h; simpa using this
  rw [e1, e2]
  unfold cands
  simp only [List.contains_toArray, arr_filter]
  generalize ((es.filter fun e => !seen.contains e.born).filter fun e => Nat.blt e.born since) = a
  generalize ((es.filter fun e => !seen.contains e.born).filter fun e => Nat.ble since e.born) = b
  cases a with
  | nil => simp
  | cons x a => simp

theorem nextMap_sound (r : Rel m A w) {i mm since last clock : Nat} {seen : List Nat} {es : List MapEntry} {ro : Bool} {x' : Value} {ty : TypeId} {a : Addr} (ha : a.block = i ∧ a.off = 0) (hx : VRel m (.pointer (some a)) x')
    (hg : A.get i = some (.mit (some mm) since seen last)) (hgm : A.get mm = some (.map es clock ro)) (hcond : (!seen.isEmpty && !es.isEmpty && es.all (fun e => Nat.ble last e.born)) = false) :
    ∃ c ∈ cands es seen since, ∃ v' w', (Instr.next x' false ty).run P w = .ok v' w' ∧ (match c with
      | some e => Ev m A w m (A.put i (.mit (some mm) since (seen ++ [e.born]) clock)) w' ∧ VRel m (.tuple #[.bool true, e.key, e.val]) v'
      | none => Ev m A w m A w' ∧ VRel m (.tuple #[.bool false]) v') := by
  obtain ⟨ab, ao, as⟩ := a
  obtain ⟨rfl, rfl⟩ := ha
  cases hx with
  | ptr har =>
    rename_i a'
    obtain ⟨h1, h2, d, h3, h4⟩ := har
    simp only at h1 h3 h4
    obtain ⟨c0, d0, o', g1, g2, g3⟩ := r.objAt hg h3
    rw [h3] at g1
    simp only [Option.some.injEq, Prod.mk.injEq] at g1
    obtain ⟨rfl, rfl⟩ := g1
    obtain ⟨rfl, r', rfl, hmm⟩ := g3
    obtain ⟨c1, d1, o1, k1, k2, k3, es', rfl, hes⟩ := r.objAt hgm hmm
    rw [hmm] at k1
    simp only [Option.some.injEq, Prod.mk.injEq] at k1
    obtain ⟨rfl, _⟩ := k1
    obtain ⟨b', o', s'⟩ := a'
    simp only at h2 h4 g2
    subst h2
    simp only [Nat.add_zero] at h4
    subst h4
    have hcr := cands_rel hes seen since
    have hlen := hcr.length
    have hpos : 0 < (cands es' seen since).length := by
      unfold cands
      simp only
      split
      · simp
      · rename_i hne
        simp only [List.nil_append, List.length_map, List.length_append]
        have : ((es'.filter fun e => !seen.contains e.born).filter fun e => Nat.blt e.born since).length ≠ 0 := fun h0 => hne (by simpa using List.eq_nil_of_length_eq_zero h0)
        omega
    have hch : ∃ (j : Nat) (n : Nat), j < (cands es' seen since).length ∧ w.drawn ≤ n ∧ (choose (Question.mapNext (cands es' seen since).length)).run P w = .ok j { w with drawn := n } := by
      by_cases hf : (cands es' seen since).length ≤ 1
      · exact ⟨0, w.drawn, hpos, Nat.le_refl _, by simp [choose, Sem.run, Question.forced, hf]⟩
      · exact ⟨_, w.drawn + 1, Nat.mod_lt _ hpos, Nat.le_succ _, by
          simp only [choose, Sem.run, Question.forced, decide_eq_true_eq, hf, if_false, Question.cut]
          rfl⟩
    obtain ⟨j, n, hj, hdn, hrun⟩ := hch
    obtain ⟨c, hc, hcc⟩ : ∃ c, (cands es seen since)[j]? = some c ∧ ∃ c', (cands es' seen since)[j]? = some c' ∧ CRel m c c' := by
      have hj2 : j < (cands es seen since).length := by omega
      obtain ⟨c', h1, h2⟩ := hcr.get (List.getElem?_eq_getElem hj2)
      exact ⟨_, List.getElem?_eq_getElem hj2, c', h1, h2⟩
    obtain ⟨c', hc', hrel⟩ := hcc
    have hcond' : (!(⟨seen⟩ : Array Nat).isEmpty && !(⟨es'⟩ : Array MapEntry).isEmpty && (⟨es'⟩ : Array MapEntry).all (·.born ≥ last)) = false := by
      have e1 : (fun e : MapEntry => decide (e.born ≥ last)) = fun e => Nat.ble last e.born := by
        funext e
        cases h : Nat.ble last e.born with
        | true => have := ble_true.1 h; simpa using this
        | false => have := ble_false.1 h; simpa using this
      rw [e1, List.isEmpty_toArray, List.isEmpty_toArray, List.all_toArray, isEmpty_eq hes]
      rw [all_born (p := fun b => Nat.ble last b) hes]
      exact hcond
    have hd : Ev m A w m A { w with drawn := n } := Ev.drawn r n hdn
    have hnext : ∀ (res : Result Value), (match (⟨cands es' seen since⟩ : Array (Option MapEntry))[j]? with
        | some (some e) => (do setObj b' (.mapIter (some r') since ((⟨seen⟩ : Array Nat).push e.born) clock); pure (.tuple #[.bool true, e.key, e.val]) : Sem Value)
        | some none => pure (.tuple #[.bool false])
        | none => stuck "Next: no such candidate").run P { w with drawn := n } = res →
        (Instr.next (.pointer (some ⟨b', 0, none⟩)) false ty).run P w = res := by
      intro res hres
      rw [← hres]
      simp only [Instr.next, Sem.run_bind, run_getObj_ok P w b' _ g2 (by simp), Result.andThen_ok, run_getObj_ok P w r' _ k2 (by simp), hcond', Bool.false_eq_true, if_false]
      rw [cands_arr]
      simp only [List.size_toArray, hrun, Result.andThen_ok]
      rfl
    have hc'' : (⟨cands es' seen since⟩ : Array (Option MapEntry))[j]? = some c' := by simpa using hc'
    refine ⟨c, List.mem_of_getElem? hc, ?_⟩
    rw [hc''] at hnext
    cases c with
    | none =>
      cases c' with
      | some e => exact hrel.elim
      | none => exact ⟨_, _, hnext _ rfl, hd, .tuple (.cons (.bool false) .nil)⟩
    | some e =>
      cases c' with
      | none => exact hrel.elim
      | some e' =>
        have hrel : ERel m e e' := hrel
        refine ⟨_, _, hnext _ ?_, hd.trans (Ev.putObj hd.rel hg rfl rfl h3 (by exact g2) (o2 := .mit (some mm) since (seen ++ [e.born]) clock) (o2' := .mapIter (some r') since ((⟨seen⟩ : Array Nat).push e'.born) clock) ⟨rfl, r', ?_, hmm⟩ rfl rfl), .tuple (.cons (.bool true) (.cons hrel.key (.cons hrel.val .nil)))⟩
        · simp only [Sem.run_bind, run_setObj_ok P _ b' _ _ (show ({ w with drawn := n } : World).heap[b']? = _ from g2) (by simp), Result.andThen_ok, Sem.run_pure]
        · rw [hrel.born]
          simp

end
end Go.Abs

namespace Go.Abs

section
variable {P : Program} {X : XNames} {f0 : FuncId} {base lo : Nat} {m : Inj P} {A : AW} {w : World} {fr : AFr} {cs : List AFr} {f : Frame} {csW cs0 : List Frame}

theorem callFunc_norange {g : FuncId} {args : List Value} {i : Nat} {A' : AW} : callFuncA P X A g args ≠ .ok (.rangeNext i) A' := by
  intro h
  unfold callFuncA at h
  simp only [Bool.cond_eq_ite] at h
  repeat' split at h
  all_goals (cases h)

theorem callMethod_norange {v : Value} {name : String} {args : List Value} {i : Nat} {A' : AW} : callMethodA P X A v name args ≠ .ok (.rangeNext i) A' := by
  intro h
  unfold callMethodA at h
  repeat' split at h
  all_goals first | (cases h; done) | exact callFunc_norange h

theorem builtin_norange {b : Builtin} {ts : List TypeId} {ty : TypeId} {args : List Value} {i : Nat} {A' : AW} : builtinA P A b ts ty args ≠ .ok (.rangeNext i) A' := by
  intro h
  unfold builtinA at h
  simp only [Bool.cond_eq_ite] at h
  repeat' split at h
  all_goals (cases h)

theorem invoke_norange {t : Target} {args : List Value} {i : Nat} {A' : AW} : invokeA P X A t args ≠ .ok (.rangeNext i) A' := by
  intro h
  unfold invokeA at h
  simp only [Bool.cond_eq_ite] at h
  repeat' split at h
  all_goals first | (cases h; done) | exact callFunc_norange h | exact callMethod_norange h | exact builtin_norange h

theorem exec_range_inv {ρ : Operand → Value} {o : Oper} {i : Nat} {A' : AW} (h : execA P X ρ o A = .ok (.rangeNext i) A') :
    ∃ it a, o.op = .next it false ∧ ρ it = .pointer (some a) ∧ a.block = i ∧ a.off = 0 ∧ A' = A := by
  obtain ⟨dst, op, type, pos, after, guard⟩ := o
  cases op
  case next it isS =>
    unfold execA nextA at h
    simp only [Bool.cond_eq_ite] at h
    repeat' split at h
    all_goals first | (cases h; done) | skip
    rename_i hit _ _ _ _ _ _ _
    cases h
    exact ⟨it, _, rfl, hit, rfl, rfl, rfl⟩
  case call c =>
    unfold execA at h
    simp only at h
    split at h
    · exact absurd h invoke_norange
    · cases h
  all_goals
    exfalso
    unfold execA at h
    simp only at h
    repeat' split at h
    all_goals (cases h)

/-- a range over a map goes on -/
theorem branch_sim {fr : AFr} {f : Frame} {ρ ρ' : Operand → Value} {o : Oper} {i : Nat} {A' : AW} {l : List ASt} (hr : Rel m A w) (hρ : ∀ x ∈ o.op.operands.toList, VRel m (ρ x) (ρ' x)) (hG : GOk m) (hlo : lo ≤ A.next)
    (ht : FRel P X m A false lo A.next fr f) (hs : Stk P X m A base lo cs csW) (hb : Bot f0 (fr :: cs)) (he : execA P X ρ o A = .ok (.rangeNext i) A') (hout : applyA P fr cs false (.ok (.rangeNext i) A') = .branch l) :
    ∃ s' ∈ l, ∃ v' w', (execOp ρ' o).run P w = .ok (.value v') w' ∧ EvL base m A w m s'.w w' ∧ SRel P X f0 base lo m s' (f.finish v') csW w' := by
  have hbase := hs.base
  obtain ⟨it, a, hop, hit, hab, hao, rfl⟩ := exec_range_inv he
  simp only [applyA, cond_false] at hout
  split at hout
  rotate_left
  · cases hout
  rename_i mm since seen last hg
  split at hout
  rotate_left
  · cases hout
  rename_i es clock ro hgm
  cases hcond : (!seen.isEmpty && !es.isEmpty && es.all (fun e => Nat.ble last e.born)) with
  | true => rw [hcond] at hout; cases hout
  | false =>
    rw [hcond] at hout
    simp only [cond_false, AOut.branch.injEq] at hout
    have hx := hρ it (by rw [hop]; simp [Op.operands])
    rw [hit] at hx
    obtain ⟨c, hc, v', w', h1, h2⟩ := nextMap_sound (ty := o.type) hr ⟨hab, hao⟩ hx hg hgm hcond
    have hrun : (execOp ρ' o).run P w = .ok (.value v') w' := by
      have : execOp ρ' o = (do pure (.value (← Instr.next (ρ' it) false o.type))) := by
        obtain ⟨dst, op, type, pos, after, guard⟩ := o
        simp only at hop
        subst hop
        rfl
      rw [this, Sem.run_bind, h1, Result.andThen_ok, Sem.run_pure]
    have hl : l = (cands es seen since).map fun c => match c with
        | some e => ⟨fr.finish (.tuple #[.bool true, e.key, e.val]), cs, A'.put i (.mit (some mm) since (seen ++ [e.born]) clock)⟩
        | none => ⟨fr.finish (.tuple #[.bool false]), cs, A'⟩ := hout.symm
    subst hl
    refine ⟨_, List.mem_map.2 ⟨c, hc, rfl⟩, v', w', hrun, ?_⟩
    cases c with
    | none =>
      obtain ⟨g1, g2⟩ := h2
      exact ⟨g1.low (by omega), g1.rel, hG, hlo, (ht.mono (.refl m) (fun _ _ => rfl) (Nat.le_refl _)).finish g2 (Nat.le_refl _), hs.mono (.refl m) fun _ _ => rfl, hb.finish _⟩
    | some e =>
      obtain ⟨g1, g2⟩ := h2
      exact ⟨g1.low (by omega), g1.rel, hG, hlo, (ht.mono (.refl m) (fun _ _ => rfl) g1.next).finish g2 (Nat.le_refl _), hs.mono (.refl m) fun _ _ => rfl, hb.finish _⟩

theorem op_branch {s : ASt} {l : List ASt} {ops : Array Oper} {i : Nat} {rest : List Nat} {k : List Item} (h : SRel P X f0 base lo m s f csW w) (hm : s.fr.mode = .run) (hd : s.fr.dr = false) (ht : s.fr.todo = .inRegion ops (i :: rest) :: k)
    (hout : (match ops.toList[i]? with
      | some o => bif wantedA ops s.fr.tm o then applyA P s.fr s.cs false (execA P X s.fr.eval o s.w) else .next ⟨s.fr.finish undef, s.cs, s.w⟩
      | none => .fail "no operation") = .branch l) : ∃ s' ∈ l, Sim P X f0 base cs0 m s.w w (lone f (csW ++ cs0) w) s' := by
  obtain ⟨htm, htodo⟩ := h.plain hd
  rw [ht] at htodo
  generalize htf : f.todo = y at htodo
  cases htodo with
  | cons hx hk =>
    rename_i x' k'
    obtain ⟨rfl, hops⟩ := hx
    have hfm := h.fmode hm
    have hw1 : FRel P X m s.w false lo s.w.next s.fr f := h.top.plainLive hd
    split at hout
    rotate_left
    · cases hout
    rename_i o ho
    have ho' : ops[i]? = some o := by simpa using ho
    have hwr : Region.wanted o (yielded ops f.tmps) = wantedA ops s.fr.tm o := wanted_rel fun _ _ _ _ d _ _ => htm.val d
    cases hwa : wantedA ops s.fr.tm o with
    | false => rw [hwa] at hout; cases hout
    | true =>
      rw [hwa] at hout hwr
      simp only [cond_true] at hout
      have hoo : opOk P o = true := List.all_eq_true.1 hops o (List.mem_of_getElem? ho)
      have hρ : ∀ x ∈ o.op.operands.toList, VRel m (s.fr.eval x) (f.eval x) := by
        intro x hx
        rw [eval_evalT, eval_evalW]
        exact evalT_rel h.glob (List.all_eq_true.1 hoo x hx) fun t _ => htm.val t
      have hex : ∃ j A', execA P X s.fr.eval o s.w = .ok (.rangeNext j) A' := by
        cases he : execA P X s.fr.eval o s.w with
        | fail y => rw [he] at hout; cases hout
        | panic v A' => rw [he] at hout; simp only [applyA, hd, cond_false] at hout; cases hout
        | ok n A' =>
          cases n with
          | rangeNext j => exact ⟨j, A', rfl⟩
          | value v => rw [he] at hout; cases hout
          | skip => rw [he] at hout; cases hout
          | enter g args => rw [he] at hout; simp only [applyA] at hout; split at hout <;> cases hout
          | round l fn tm a b => rw [he] at hout; cases hout
          | defer d => rw [he] at hout; simp only [applyA, cond_false] at hout; split at hout <;> cases hout
          | recover =>
            rw [he] at hout
            simp only [applyA, Bool.false_or] at hout
            cases hq : s.fr.roundOf with
            | some l => rw [hq] at hout; cases hout
            | none => rw [hq] at hout; simp only [Option.isSome_none, cond_false] at hout; split at hout <;> cases hout
      obtain ⟨j, A', he⟩ := hex
      rw [he] at hout
      obtain ⟨s', hs', v', w', h1, h2, h3⟩ := branch_sim h.rel hρ h.glob h.below hw1 h.stk h.bot he hout
      obtain ⟨it, _, hop, _⟩ := exec_range_inv he
      refine ⟨s', hs', lo, m, _, csW, w', .one (w_op hfm htf ho' hwr (.inr fun c hc => by rw [hop] at hc; cases hc) (by rw [h1]; rfl)), h2, h3⟩

theorem drawOp_branch (hX : XOk P X) {s : ASt} {l : List ASt} {ops : Array Oper} {S : Nat → Prop} {C : Nat} {x : Nat} {q rest : List Nat} {k k' : List Item} (h : SRel P X f0 base lo m s f csW w) (hm : s.fr.mode = .run) (hd : s.fr.dr = true)
    (ht : s.fr.todo = .inRegion ops (x :: q) :: k) (htf : f.todo = .inRegion ops rest :: k') (hk : All2 (IRel m) k k') (D : DrawAt P X m s.w true lo s.w.next s.fr.tm f.tmps ops S C [] (x :: q) rest)
    (hout : (match ops.toList[x]? with
      | some o => bif wantedA ops s.fr.tm o then applyA P s.fr s.cs false (execA P X s.fr.eval o s.w) else .next ⟨s.fr.finish undef, s.cs, s.w⟩
      | none => .fail "no operation") = .branch l) : ∃ s' ∈ l, Sim P X f0 base cs0 m s.w w (lone f (csW ++ cs0) w) s' := by
  have hbase := h.baseLe
  have hlo := h.below
  have hfm := h.fmode hm
  split at hout
  rotate_left
  · cases hout
  rename_i o ho
  have hplan := D.plan
  cases hwa : wantedA ops s.fr.tm o with
  | false => rw [hwa] at hout; cases hout
  | true =>
    rw [hwa] at hout
    simp only [cond_true] at hout
    have hex : ∃ j A', execA P X s.fr.eval o s.w = .ok (.rangeNext j) A' := by
      cases he : execA P X s.fr.eval o s.w with
      | fail y => rw [he] at hout; cases hout
      | panic v A' => rw [he] at hout; simp only [applyA, hd, cond_true] at hout; cases hout
      | ok n A' =>
        cases n with
        | rangeNext j => exact ⟨j, A', rfl⟩
        | value v => rw [he] at hout; cases hout
        | skip => rw [he] at hout; cases hout
        | enter g args => rw [he] at hout; simp only [applyA] at hout; split at hout <;> cases hout
        | round l fn tm a b => rw [he] at hout; cases hout
        | defer d => rw [he] at hout; simp only [applyA, cond_false] at hout; split at hout <;> cases hout
        | recover =>
          rw [he] at hout
          simp only [applyA, Bool.false_or] at hout
          cases hq : s.fr.roundOf with
          | some l => rw [hq] at hout; cases hout
          | none => rw [hq] at hout; simp only [Option.isSome_none, cond_false] at hout; split at hout <;> cases hout
    obtain ⟨j, A', he⟩ := hex
    rw [he] at hout
    obtain ⟨it, _, hop, _⟩ := exec_range_inv he
    have heff : (effOf P ops.toList).testBit x = true := (eff_op ho).2 ⟨by rw [hop]; rfl, by rw [hop]; rfl⟩
    cases hplan with
    | pure _ _ p g1 g2 => rw [g2] at heff; cases heff
    | alloc _ _ p g1 g2 => rw [g2] at heff; cases heff
    | effect _ _ p g1 g2 g3 g4 g5 g6 =>
      obtain ⟨S', tmps', rest', m1, w1, t1, t2, t3, r, t4⟩ := DrawAt.catchTo hX (cs := csW ++ cs0) (k := k') (some x) (Nat.le_refl _) hlo rest h.glob h.rel D (fun i hi => by
        rcases g5 i (by simpa using hi) with hh | rfl | hh
        · exact .inl hh
        · exact .inr (.inl ⟨rfl, fun hs => by rw [D.sub i hs] at g3; cases g3⟩)
        · exact .inr (.inr ⟨x, rfl, hh⟩)) (fun y hy => by cases hy; exact ⟨by simpa using g1, g3⟩) hfm htf
      subst t4
      obtain ⟨_, _, hanc, _⟩ := t3.lin
      have hG1 := h.glob.mono t2.ext
      have hops := t3.operands hG1 hanc ho
      have hwr := t3.wanted hanc ho
      rw [hwa] at hwr
      have hW : FRel P X m1 s.w false lo s.w.next s.fr { f with tmps := tmps', todo := .inRegion ops (x :: r) :: k' } := by
        refine ⟨⟨h.top.core.fn, h.top.core.kind, h.top.core.kindOk, h.top.core.mode.mono t2.ext, h.top.core.round.mono t2.ext, h.top.core.defers.mono fun _ _ x => x.mono t2.ext⟩, ?_⟩
        exact .draw ops S' C [] _ (x :: r) k k' hd hm ht rfl (hk.mono fun _ _ x => x.mono t2.ext) (t3.toWait g2 _ (Nat.le_refl _))
      have hstk := h.stk.mono (A' := s.w) t2.ext t2.same
      have ho' : ops[x]? = some o := by simpa using ho
      rw [eval_evalT] at he
      obtain ⟨s', hs', v', w', h1, h2, h3⟩ := branch_sim (ρ' := evalW tmps') t2.rel hops hG1 hlo hW hstk h.bot he hout
      refine ⟨s', hs', lo, m1, _, csW, w', t1.trans (.one (w_op (by exact hfm) rfl ho' hwr (.inr fun c hc => by rw [hop] at hc; cases hc) (by rw [eval_evalW, h1]; rfl))), (t2.weak hbase).trans h2, h3⟩

end
end Go.Abs

namespace Go.Abs

section
variable {P : Program} {X : XNames} {f0 : FuncId} {base lo : Nat} {m : Inj P} {A : AW} {w : World} {fr : AFr} {cs : List AFr} {f : Frame} {csW cs0 : List Frame}

/-- the call is made: the frame at the top of s' waits for it -/
def CSim (P : Program) (X : XNames) (f0 : FuncId) (base : Nat) (cs0 : List Frame) (m : Inj P) (A : AW) (w : World) (mach : Machine) (g : FuncId) (args : List Value) (s' : ASt) : Prop :=
  ∃ lo' m' f' cs' w' args', Steps P mach (lone (Frame.enter P g ⟨args'⟩ .normal) (f' :: (cs' ++ cs0)) w') ∧ EvL base m A w m' s'.w w' ∧ VRels m' args args' ∧
    GOk m' ∧ lo' ≤ s'.w.next ∧ FRel P X m' s'.w false lo' s'.w.next s'.fr f' ∧ Stk P X m' s'.w base lo' s'.cs cs' ∧ Bot f0 (s'.fr :: s'.cs)

/-- what a step of the abstract machine says -/
def Says (P : Program) (X : XNames) (f0 : FuncId) (base : Nat) (m : Inj P) (s : ASt) (f : Frame) (csW cs0 : List Frame) (w : World) : AOut → Prop
  | .next s' => Sim P X f0 base cs0 m s.w w (lone f (csW ++ cs0) w) s'
  | .branch l => ∃ s' ∈ l, Sim P X f0 base cs0 m s.w w (lone f (csW ++ cs0) w) s'
  | .calls g args s' => CSim P X f0 base cs0 m s.w w (lone f (csW ++ cs0) w) g args s'
  | .asks v v' s' => v = v' → Sim P X f0 base cs0 m s.w w (lone f (csW ++ cs0) w) s'
  | .done v A' => A' = s.w ∧ csW = [] ∧ ∃ v', VRel m v v' ∧ f.leaving P w (.returned v') ∧ f.fn = f0
  | _ => True

/-- a step that goes on, or fails -/
def Goes : AOut → Prop
  | .next _ => True
  | .fail _ => True
  | _ => False

theorem doReturn_goes (fr : AFr) (cs : List AFr) (v : Value) (A : AW) : Goes (doReturnA fr cs v A) := by
  unfold doReturnA
  simp only [Bool.cond_eq_ite]
  repeat' split
  all_goals trivial

theorem Says.of_goes {s : ASt} {o : AOut} (hg : Goes o) (h : ∀ s', o = .next s' → Sim P X f0 base cs0 m s.w w (lone f (csW ++ cs0) w) s') : Says P X f0 base m s f csW cs0 w o := by
  cases o with
  | next s' => exact h s' rfl
  | fail y => trivial
  | branch l => exact hg.elim
  | calls g args s' => exact hg.elim
  | asks v v' s' => exact hg.elim
  | done v A' => exact hg.elim
  | died c A' => exact hg.elim

def leaveA (fr : AFr) (cs : List AFr) (w : AW) (jump : Option Code) : AOut :=
  match fr.roundOf with
  | none => (match jump with
    | none => .next ⟨{ fr with mode := .returning }, cs, w⟩
    | some .ret => .next ⟨{ fr with mode := .returning }, cs, w⟩
    | _ => .fail "leave")
  | some l => (match w.get l with
    | some (.loop r) => doReturnA fr cs (.bool jump.isNone) (w.put l (.loop { r with state := if jump.isNone then .ready else .done, pending := jump }))
    | _ => .fail "endRound")

theorem leave_says {s : ASt} {jump : Option Code} (h : SRel P X f0 base lo m s f csW w) (hm : s.fr.mode = .run) (hd : s.fr.dr = false) (hj : Jump f.todo jump) : Says P X f0 base m s f csW cs0 w (leaveA s.fr s.cs s.w jump) := by
  refine .of_goes ?_ fun s' hs' => leave_sim h hm hj (by cases jump <;> simp) hs' hd
  unfold leaveA
  split
  · split <;> trivial
  · split
    · exact doReturn_goes _ _ _ _
    · trivial

theorem SRel.dr_false {s : ASt} (h : SRel P X f0 base lo m s f csW w) (ht : ∀ ops l k, s.fr.todo ≠ .inRegion ops l :: k) : s.fr.dr = false := by
  cases h.top.body with
  | plain h1 => exact h1
  | draw ops S C rl pl rest k k' h1 h2 h3 => exact absurd h3 (ht _ _ _)

theorem apply_outs {fr : AFr} {cs : List AFr} {r : R AN} (hn : ∀ i A', r ≠ .ok (.rangeNext i) A') : Goes (applyA P fr cs false r) := by
  cases r with
  | fail y => trivial
  | panic v A' => simp only [applyA, Bool.cond_eq_ite]; split <;> trivial
  | ok n A' =>
    cases n with
    | rangeNext j => exact absurd rfl (hn j A')
    | value v => trivial
    | skip => trivial
    | enter g args => simp only [applyA]; split <;> trivial
    | round l fn tm a b => trivial
    | defer d => simp only [applyA, cond_false]; split <;> trivial
    | recover => simp only [applyA, Bool.cond_eq_ite]; repeat' split
                 all_goals trivial

/-- a step that does not end the run -/
def Lives : AOut → Prop
  | .done .. => False
  | .died .. => False
  | _ => True

theorem apply_outs_branch {fr : AFr} {cs : List AFr} {r : R AN} : Lives (applyA P fr cs false r) := by
  by_cases hn : ∃ i A', r = .ok (.rangeNext i) A'
  · obtain ⟨i, A', rfl⟩ := hn
    simp only [applyA, Bool.cond_eq_ite]
    repeat' split
    all_goals first | trivial | (exfalso; rename_i h; cases h; done)
  · have h := apply_outs (P := P) (fr := fr) (cs := cs) (r := r) (fun i A' e => hn ⟨i, A', e⟩)
    revert h
    generalize applyA P fr cs false r = o
    intro h
    cases o <;> first | trivial | exact False.elim h

theorem apply_nocalls {fr : AFr} {cs : List AFr} {r : R AN} {g : FuncId} {args : List Value} {s' : ASt} : applyA P fr cs false r ≠ .calls g args s' := by
  by_cases hn : ∃ i A', r = .ok (.rangeNext i) A'
  · obtain ⟨i, A', rfl⟩ := hn
    simp only [applyA, Bool.cond_eq_ite]
    intro h
    repeat' split at h
    all_goals (cases h)
  · have h := apply_outs (P := P) (fr := fr) (cs := cs) (r := r) (fun i A' e => hn ⟨i, A', e⟩)
    intro he
    rw [he] at h
    exact h

theorem apply_noasks {fr : AFr} {cs : List AFr} {r : R AN} {v v' : Value} {s' : ASt} : applyA P fr cs false r ≠ .asks v v' s' := by
  by_cases hn : ∃ i A', r = .ok (.rangeNext i) A'
  · obtain ⟨i, A', rfl⟩ := hn
    simp only [applyA, Bool.cond_eq_ite]
    intro h
    repeat' split at h
    all_goals (cases h)
  · have h := apply_outs (P := P) (fr := fr) (cs := cs) (r := r) (fun i A' e => hn ⟨i, A', e⟩)
    intro he
    rw [he] at h
    exact h

theorem applyT_goes {fr : AFr} {cs : List AFr} {r : R AN} : Goes (applyA P fr cs true r) := by
  cases r with
  | fail y => trivial
  | panic v A' => simp only [applyA, Bool.cond_eq_ite]; split <;> trivial
  | ok n A' =>
    cases n with
    | enter g args => simp only [applyA]; split <;> trivial
    | _ => trivial

theorem knownA_spec {s : ASt} {ops : Array Oper} {i : Nat} {g : FuncId} {args : List Value} {A' : AW} (h : knownA P X s ops i = some (g, args, A')) :
    ∃ o, ops.toList[i]? = some o ∧ wantedA ops s.fr.tm o = true ∧ execA P X s.fr.eval o s.w = .ok (.enter g args) A' := by
  unfold knownA at h
  split at h
  · cases h
  · split at h
    · rename_i o ho
      cases hw : wantedA ops s.fr.tm o with
      | false => rw [hw] at h; cases h
      | true =>
        rw [hw, cond_true] at h
        split at h
        · rename_i f as w he
          cases hm : memN f X.known with
          | false => rw [hm] at h; cases h
          | true => rw [hm] at h; cases h; exact ⟨o, ho, hw, he⟩
        · cases h
    · cases h

theorem no_defer {ρ : Operand → Value} {o : Oper} {g : FuncId} {args : List Value} {A A' : AW} (h : execA P X ρ o A = .ok (.enter g args) A') : ∀ c, o.op ≠ .defer c := by
  intro c hc
  unfold execA at h
  rw [hc] at h
  simp only at h
  split at h <;> cases h

theorem op_calls (hX : XOk P X) {s : ASt} {ops : Array Oper} {i : Nat} {rest : List Nat} {k : List Item} {g : FuncId} {args : List Value} {A' : AW} (h : SRel P X f0 base lo m s f csW w) (hm : s.fr.mode = .run) (ht : s.fr.todo = .inRegion ops (i :: rest) :: k)
    (hi : s.fr.dr = false ∨ i < ops.size) (hk : knownA P X s ops i = some (g, args, A')) : CSim P X f0 base cs0 m s.w w (lone f (csW ++ cs0) w) g args ⟨s.fr, s.cs, A'⟩ := by
  have hbase := h.baseLe
  have hlo := h.below
  have hfm := h.fmode hm
  obtain ⟨o, ho, hwa, he⟩ := knownA_spec hk
  have ho' : ops[i]? = some o := by simpa using ho
  have hnd := no_defer he
  cases h.top.body with
  | plain hd htm htodo =>
    rw [ht] at htodo
    generalize htf : f.todo = y at htodo
    cases htodo with
    | cons hx hkk =>
      rename_i x' k'
      obtain ⟨rfl, hops⟩ := hx
      have hwr : Region.wanted o (yielded ops f.tmps) = wantedA ops s.fr.tm o := wanted_rel fun _ _ _ _ d _ _ => htm.val d
      rw [hwa] at hwr
      have hoo : opOk P o = true := List.all_eq_true.1 hops o (List.mem_of_getElem? ho)
      have hrn : RNext P m s.w w (execA P X s.fr.eval o s.w) (execOp f.eval o) := by
        rw [eval_evalT, eval_evalW]
        exact exec_sound hX h.rel fun x hx => evalT_rel h.glob (List.all_eq_true.1 hoo x hx) fun t _ => htm.val t
      rw [he] at hrn
      obtain ⟨n', w', m', h1, h2, args', rfl, h3⟩ := hrn
      refine ⟨lo, m', f, csW, w', args', .one (w_op hfm htf ho' hwr (.inr hnd) (by rw [h1]; rfl)), h2.low (by omega), h3, h.glob.mono h2.ext, by have := h2.next; show lo ≤ A'.next; omega, ?_, h.stk.mono h2.ext fun i hi => h2.same i (by omega), h.bot⟩
      exact (h.top.plainLive (live' := false) (hi' := s.w.next) hd).mono h2.ext h2.same h2.next
  | draw ops' S C rl pl rest' k0 k' hd hmode ta tf hkk D =>
    rw [ht] at ta
    simp only [List.cons.injEq, Item.inRegion.injEq] at ta
    obtain ⟨⟨rfl, hl⟩, rfl⟩ := ta
    have hi : i < ops.size := by
      rcases hi with hi | hi
      · rw [hd] at hi; cases hi
      · exact hi
    have hrl : rl = [] := by
      cases rl with
      | nil => rfl
      | cons y rl =>
        simp only [List.cons_append, List.cons.injEq] at hl
        have := D.rls y (by simp)
        omega
    subst hrl
    rw [List.nil_append] at hl
    subst hl
    have heff : (effOf P ops.toList).testBit i = true := by
      refine (eff_op ho).2 ⟨?_, ?_⟩
      · cases hq : quietOp P o.op with
        | false => rfl
        | true => obtain ⟨_, v, hv⟩ := quiet_exec hq he; cases hv
      · cases hq : allocOp P (clsOf P ops.toList) o.op with
        | false => rfl
        | true => obtain ⟨v, _, _, hv, _⟩ := alloc_exec hq he; cases hv
    have hplan := D.plan
    cases hplan with
    | pure _ _ p g1 g2 => rw [g2] at heff; cases heff
    | alloc _ _ p g1 g2 => rw [g2] at heff; cases heff
    | effect _ _ p g1 g2 g3 g4 g5 g6 =>
      obtain ⟨S', tmps', rest2, m1, w1, t1, t2, t3, r, t4⟩ := DrawAt.catchTo hX (cs := csW ++ cs0) (k := k') (some i) (Nat.le_refl _) hlo rest' h.glob h.rel D (fun j hj => by
        rcases g5 j (by simpa using hj) with hh | rfl | hh
        · exact .inl hh
        · exact .inr (.inl ⟨rfl, fun hs => by rw [D.sub j hs] at g3; cases g3⟩)
        · exact .inr (.inr ⟨i, rfl, hh⟩)) (fun y hy => by cases hy; exact ⟨by simpa using g1, g3⟩) hfm tf
      subst t4
      obtain ⟨_, _, hanc, _⟩ := t3.lin
      have hG1 := h.glob.mono t2.ext
      have hops := t3.operands hG1 hanc ho
      have hwr := t3.wanted hanc ho
      rw [hwa] at hwr
      have hW : FRel P X m1 s.w false lo s.w.next s.fr { f with tmps := tmps', todo := .inRegion ops (i :: r) :: k' } := by
        refine ⟨⟨h.top.core.fn, h.top.core.kind, h.top.core.kindOk, h.top.core.mode.mono t2.ext, h.top.core.round.mono t2.ext, h.top.core.defers.mono fun _ _ x => x.mono t2.ext⟩, ?_⟩
        exact .draw ops S' C [] _ (i :: r) k k' hd hm ht rfl (hkk.mono fun _ _ x => x.mono t2.ext) (t3.toWait g2 _ (Nat.le_refl _))
      have hstk := h.stk.mono (A' := s.w) t2.ext t2.same
      have hrn : RNext P m1 s.w w1 (execA P X s.fr.eval o s.w) (execOp (evalW tmps') o) := by
        rw [eval_evalT]
        exact exec_sound hX t2.rel hops
      rw [he] at hrn
      obtain ⟨n', w', m', h1, h2, args', rfl, h3⟩ := hrn
      refine ⟨lo, m', _, csW, w', args', t1.trans (.one (w_op (by exact hfm) rfl ho' hwr (.inr hnd) (by rw [eval_evalW, h1]; rfl))), (t2.weak hbase).trans (h2.low (by omega)), h3, hG1.mono h2.ext, by have := h2.next; show lo ≤ A'.next; omega, ?_, hstk.mono h2.ext fun i hi => h2.same i (by omega), h.bot⟩
      exact hW.mono h2.ext h2.same h2.next

/-- one operation, anywhere -/
theorem oper_says (hX : XOk P X) (hP : POk P) {s : ASt} {ops : Array Oper} {i : Nat} {rest : List Nat} {k : List Item} (h : SRel P X f0 base lo m s f csW w) (hm : s.fr.mode = .run) (ht : s.fr.todo = .inRegion ops (i :: rest) :: k)
    (hi : s.fr.dr = false ∨ i < ops.size) :
    Says P X f0 base m s f csW cs0 w (match ops.toList[i]? with
      | some o => bif wantedA ops s.fr.tm o then applyA P s.fr s.cs false (execA P X s.fr.eval o s.w) else .next ⟨s.fr.finish undef, s.cs, s.w⟩
      | none => .fail "no operation") := by
  have shape : ∀ v A', (match ops.toList[i]? with
      | some o => bif wantedA ops s.fr.tm o then applyA P s.fr s.cs false (execA P X s.fr.eval o s.w) else .next ⟨s.fr.finish undef, s.cs, s.w⟩
      | none => .fail "no operation") ≠ .done v A' := by
    intro v A' he
    split at he
    · rename_i o ho
      cases hw : wantedA ops s.fr.tm o with
      | false => rw [hw] at he; cases he
      | true =>
        rw [hw, cond_true] at he
        have := apply_outs_branch (P := P) (fr := s.fr) (cs := s.cs) (r := execA P X s.fr.eval o s.w)
        rw [he] at this
        exact this
    · cases he
  have nocalls : ∀ g args s', (match ops.toList[i]? with
      | some o => bif wantedA ops s.fr.tm o then applyA P s.fr s.cs false (execA P X s.fr.eval o s.w) else .next ⟨s.fr.finish undef, s.cs, s.w⟩
      | none => .fail "no operation") ≠ .calls g args s' := by
    intro g args s' he
    split at he
    · rename_i o ho
      cases hw : wantedA ops s.fr.tm o with
      | false => rw [hw] at he; cases he
      | true =>
        rw [hw, cond_true] at he
        exact apply_nocalls he
    · cases he
  have noasks : ∀ v v' s', (match ops.toList[i]? with
      | some o => bif wantedA ops s.fr.tm o then applyA P s.fr s.cs false (execA P X s.fr.eval o s.w) else .next ⟨s.fr.finish undef, s.cs, s.w⟩
      | none => .fail "no operation") ≠ .asks v v' s' := by
    intro v v' s' he
    split at he
    · rename_i o ho
      cases hw : wantedA ops s.fr.tm o with
      | false => rw [hw] at he; cases he
      | true =>
        rw [hw, cond_true] at he
        exact apply_noasks he
    · cases he
  generalize hout : (match ops.toList[i]? with
      | some o => bif wantedA ops s.fr.tm o then applyA P s.fr s.cs false (execA P X s.fr.eval o s.w) else AOut.next ⟨s.fr.finish undef, s.cs, s.w⟩
      | none => .fail "no operation") = out at shape
  cases h.top.body with
  | plain hd tm todo =>
    cases out with
    | next s' => exact op_sim hX hP h hm hd ht hout
    | branch l => exact op_branch h hm hd ht hout
    | calls g args s' => exact absurd hout (nocalls g args s')
    | asks v v' s' => exact absurd hout (noasks v v' s')
    | done v A' => exact absurd rfl (shape v A')
    | died => trivial
    | fail => trivial
  | draw ops' S C rl pl rest' k0 k' hd hmode ta tf hk D =>
    rw [ht] at ta
    simp only [List.cons.injEq, Item.inRegion.injEq] at ta
    obtain ⟨⟨rfl, hl⟩, rfl⟩ := ta
    have hi : i < ops.size := by
      rcases hi with hi | hi
      · rw [hd] at hi; cases hi
      · exact hi
    have hrl : rl = [] := by
      cases rl with
      | nil => rfl
      | cons y rl =>
        simp only [List.cons_append, List.cons.injEq] at hl
        have := D.rls y (by simp)
        omega
    subst hrl
    rw [List.nil_append] at hl
    subst hl
    cases out with
    | next s' => exact drawOp_sim hX hP h hm hd ht tf hk D hout
    | branch l => exact drawOp_branch hX h hm hd ht tf hk D hout
    | calls g args s' => exact absurd hout (nocalls g args s')
    | asks v v' s' => exact absurd hout (noasks v v' s')
    | done v A' => exact absurd rfl (shape v A')
    | died => trivial
    | fail => trivial

end
end Go.Abs

namespace Go.Abs

section
variable {P : Program} {X : XNames} {f0 : FuncId} {base lo : Nat} {m : Inj P} {A : AW} {w : World} {fr : AFr} {cs : List AFr} {f : Frame} {csW cs0 : List Frame}

theorem rangeFunc_says (hX : XOk P X) (hP : POk P) {s : ASt} {g : Operand} {ps : Array Tmp} {assign body : Code} {k : List Item} (h : SRel P X f0 base lo m s f csW w) (hm : s.fr.mode = .run) (hd : s.fr.dr = false)
    (ht : s.fr.todo = .code (.rangeFunc g ps assign body) :: k) : Says P X f0 base m s f csW cs0 w (stepA P X s) := by
  have e : stepA P X s = (match (match s.fr.roundOf with
        | some l => (match s.w.get l with | some (.loop r) => some (r.defers, ([] : List Deferred), s.w) | _ => none)
        | none => (match s.w.new (.deferred (some [])) with | some (r, w') => some (r, [{ target := .collected r, args := #[] }], w') | none => none)) with
      | none => AOut.fail "enterLoop"
      | some (d, mark, w) => (match w.new (.loop { state := .ready, pending := none, fn := s.fr.fn, tm := s.fr.tm, params := ps.toList, assign, body, defers := d }) with
        | none => .fail "enterLoop"
        | some (l, w) =>
          let fr' := { s.fr with todo := .inRangeFunc l :: k, defers := mark ++ s.fr.defers }
          match s.fr.eval g with
          | .func fn first captured => applyA P fr' s.cs false (invokeA P X w (.fn fn captured) (first.toList ++ [Value.func (.yield l) #[] #[]]))
          | _ => .fail "rangeFunc")) := by
    (obtain ⟨⟨fn, tm, todo, defers, mode, kind, ro, dr⟩, cs, A⟩ := s; simp only at hm ht; subst hm ht; rfl)
  rw [e]
  refine .of_goes ?_ fun s' hs' => rangeFunc_sim hX hP h hm hd ht hs'
  split
  · trivial
  · split
    · trivial
    · simp only
      split
      · exact apply_outs fun i A' => invoke_norange
      · trivial

theorem forkA_some {s : ASt} {ops : Array Oper} {i : Nat} {A' : AW} (h : forkA P X s ops i = some A') :
    ∃ o b, ops.toList[i]? = some o ∧ wantedA ops s.fr.tm o = true ∧ execA P X s.fr.eval o s.w = .ok (.value (.bool b)) A' := by
  unfold forkA at h
  split at h
  · cases h
  · cases hm : memN s.fr.fn X.forks with
    | false => rw [hm] at h; cases h
    | true =>
      rw [hm] at h
      simp only [cond_true] at h
      split at h
      · rename_i o ho
        split at h
        · generalize hq : (_ && wantedA ops s.fr.tm o) = q at h
          cases q with
          | false => cases h
          | true =>
            simp only [cond_true] at h
            simp only [Bool.and_eq_true] at hq
            split at h
            · rename_i b w he
              cases h
              exact ⟨o, b, ho, hq.2, he⟩
            · cases h
        · cases h
      · cases h

theorem saysA_some {s : ASt} {ops : Array Oper} {i : Nat} {v v' : Value} {A' : AW} (h : saysA P X s ops i = some (v, v', A')) :
    ∃ o, ops.toList[i]? = some o ∧ wantedA ops s.fr.tm o = true ∧ execA P X s.fr.eval o s.w = .ok (.value v) A' := by
  unfold saysA at h
  split at h
  · cases h
  · split at h
    · rename_i o ho
      split at h
      · split at h
        · cases hw : wantedA ops s.fr.tm o with
          | false => rw [hw] at h; cases h
          | true =>
            rw [hw, cond_true] at h
            split at h
            · rename_i v0 w0 he
              simp only [Option.some.injEq, Prod.mk.injEq] at h
              obtain ⟨rfl, rfl, rfl⟩ := h
              exact ⟨o, ho, hw, he⟩
            · cases h
        · cases h
      · cases h
    · cases h

theorem asks_valid {s : ASt} {ops : Array Oper} {j : Nat} {v v' : Value} (h : asksA P X s ops j = some (v, v')) (hv : v = v') : Valid P X s.w ops s.fr.tm j := by
  unfold asksA at h
  split at h
  · cases h
  · cases hm : memN s.fr.fn X.asks with
    | false => rw [hm] at h; cases h
    | true =>
      rw [hm, cond_true] at h
      split at h
      · rename_i o ho
        split at h
        · rename_i d hd
          cases hw : wantedA ops s.fr.tm o && quietOp P o.op with
          | false => rw [hw] at h; cases h
          | true =>
            rw [hw, cond_true] at h
            simp only [Bool.and_eq_true] at hw
            split at h
            · rename_i v0 A0 he
              simp only [Option.some.injEq, Prod.mk.injEq] at h
              obtain ⟨rfl, rfl⟩ := h
              intro o' d' ho' hd'
              rw [ho] at ho'
              cases ho'
              rw [hd] at hd'
              cases hd'
              rw [eval_evalT] at he
              refine And.intro (fun h => absurd hw.1 (by rw [h]; exact Bool.false_ne_true)) (fun _ => ⟨fun _ => ⟨A0, by rw [← hv]; exact he⟩, fun hq => absurd hw.2 (by rw [hq]; exact Bool.false_ne_true)⟩)
            · cases h
        · cases h
      · cases h

theorem recheck_sim {s : ASt} {ops : Array Oper} {i : Nat} {rest : List Nat} {k : List Item} (h : SRel P X f0 base lo m s f csW w) (hm : s.fr.mode = .run) (ht : s.fr.todo = .inRegion ops (i :: rest) :: k)
    (hb : s.fr.dr = true) (hge : ops.toList.length ≤ i) (hrc : Valid P X s.w ops s.fr.tm (i - ops.toList.length)) : Sim P X f0 base cs0 m s.w w (lone f (csW ++ cs0) w) { s with fr := { s.fr with todo := .inRegion ops rest :: k } } := by
  cases h.top.body with
  | plain hd tm todo => rw [hb] at hd; cases hd
  | draw ops' S C rl pl rest' k0 k' hd hmode ta tf hk D =>
    rw [ht] at ta
    simp only [List.cons.injEq, Item.inRegion.injEq] at ta
    obtain ⟨⟨rfl, hl⟩, rfl⟩ := ta
    cases rl with
    | nil =>
      exfalso
      rw [List.nil_append] at hl
      have hp := D.plan
      rw [← hl] at hp
      cases hp with
      | pure _ _ _ g1 => omega
      | alloc _ _ _ g1 => omega
      | effect _ _ _ g1 => omega
    | cons y rl =>
      simp only [List.cons_append, List.cons.injEq] at hl
      obtain ⟨rfl, rfl⟩ := hl
      have hsz : ops.toList.length = ops.size := by simp
      rw [hsz] at hrc
      have D' := D.recheck hrc
      refine ⟨lo, m, f, csW, w, .refl P _, .refl h.rel base, h.rel, h.glob, h.below, ⟨⟨h.top.core.fn, h.top.core.kind, h.top.core.kindOk, h.top.core.mode, h.top.core.round, h.top.core.defers⟩, ?_⟩, h.stk, h.bot.top rfl rfl rfl⟩
      exact .draw ops S C rl pl rest' k k' hd hm rfl tf hk D'

theorem run_says (hX : XOk P X) (hP : POk P) {s : ASt} (h : SRel P X f0 base lo m s f csW w) (hm : s.fr.mode = .run) : Says P X f0 base m s f csW cs0 w (stepD P X s) := by
  have hfm := h.fmode hm
  have plainCase : ∀ {x : Item} {k : List Item}, s.fr.todo = x :: k → (∀ ops l, x ≠ .inRegion ops l) → s.fr.dr = false ∧ ∃ x' k', f.todo = x' :: k' ∧ IRel m x x' ∧ All2 (IRel m) k k' := by
    intro x k ht hx
    have hd := h.dr_false (by rw [ht]; intro ops l k e; cases e; exact hx _ _ rfl)
    obtain ⟨htm, htodo⟩ := h.plain hd
    rw [ht] at htodo
    generalize htf : f.todo = y at htodo
    cases htodo with
    | cons hx hk => exact ⟨hd, _, _, rfl, hx, hk⟩
  cases ht : s.fr.todo with
  | nil =>
    have hd := h.dr_false (by rw [ht]; simp)
    obtain ⟨htm, htodo⟩ := h.plain hd
    rw [ht] at htodo
    have hft : f.todo = [] := by
      generalize f.todo = y at htodo
      cases htodo; rfl
    have e : stepD P X s = leaveA s.fr s.cs s.w none := by (obtain ⟨⟨fn, tm, todo, defers, mode, kind, ro, dr⟩, cs, A⟩ := s; simp only at hm ht; subst hm ht; rfl)
    rw [e]
    exact leave_says h hm hd (by rw [hft]; exact .done)
  | cons x k =>
    cases x with
    | inRegion ops l =>
      cases l with
      | nil =>
        have e : stepD P X s = .next ⟨{ s.fr with todo := k, dr := false }, s.cs, s.w⟩ := by (obtain ⟨⟨fn, tm, todo, defers, mode, kind, ro, dr⟩, cs, A⟩ := s; simp only at hm ht; subst hm ht; rfl)
        rw [e]
        cases h.top.body with
        | plain hd tm todo =>
          obtain ⟨htm, htodo⟩ := h.plain hd
          rw [ht] at htodo
          generalize htf : f.todo = y at htodo
          cases htodo with
          | cons hx hk =>
            obtain ⟨rfl, _⟩ := hx
            have := h.todo (mach := lone f (csW ++ cs0) w) (cs0 := cs0) hd hk (.one (w_end hfm htf))
            have e2 : ({ s.fr with todo := k, dr := false } : AFr) = { s.fr with todo := k } := by
              rw [← hd]
            rw [e2]
            exact this
        | draw ops' S C rl pl rest' k0 k' hd hmode ta tf hk D =>
          rw [ht] at ta
          simp only [List.cons.injEq, Item.inRegion.injEq] at ta
          obtain ⟨⟨rfl, hl⟩, rfl⟩ := ta
          obtain ⟨rfl, rfl⟩ := List.append_eq_nil_iff.1 hl.symm
          exact drawEnd_sim hX h hm tf hk D
      | cons i rest =>
        have e : stepD P X s = (bif s.fr.dr && !Nat.blt i ops.toList.length then
            (match asksA P X s ops (i - ops.toList.length) with
            | some (v, v') => .asks v v' { s with fr := { s.fr with todo := .inRegion ops rest :: k } }
            | none => bif recheckA P X s.fr s.w ops (i - ops.toList.length) then .next { s with fr := { s.fr with todo := .inRegion ops rest :: k } } else .fail "recheck")
          else (match knownA P X s ops i with
            | some (f, args, w) => .calls f args ⟨s.fr, s.cs, w⟩
            | none => (match forkA P X s ops i with
              | some w => .branch [⟨s.fr.finish (.bool true), s.cs, w⟩, ⟨s.fr.finish (.bool false), s.cs, w⟩]
              | none => (match saysA P X s ops i with
              | some (v, v', w) => .asks v v' ⟨s.fr.finish v', s.cs, w⟩
              | none => (match ops.toList[i]? with
              | some o => bif wantedA ops s.fr.tm o then applyA P s.fr s.cs false (execA P X s.fr.eval o s.w) else .next ⟨s.fr.finish undef, s.cs, s.w⟩
              | none => .fail "no operation"))))) := by
          (obtain ⟨⟨fn, tm, todo, defers, mode, kind, ro, dr⟩, cs, A⟩ := s; simp only at hm ht; subst hm ht; rfl)
        rw [e]
        cases hb : (s.fr.dr && !Nat.blt i ops.toList.length) with
        | false =>
          simp only [cond_false]
          have hi : s.fr.dr = false ∨ i < ops.size := by
            cases hdr : s.fr.dr with
            | false => exact .inl rfl
            | true =>
              rw [hdr] at hb
              simp only [Bool.true_and, Bool.not_eq_false'] at hb
              exact .inr (by simpa using blt_true.1 hb)
          cases hkn : knownA P X s ops i with
          | some x =>
            obtain ⟨g, args, A'⟩ := x
            exact op_calls hX h hm ht hi hkn
          | none =>
            have hop := oper_says (cs0 := cs0) hX hP h hm ht hi
            cases hfk : forkA P X s ops i with
            | none =>
              cases hsy : saysA P X s ops i with
              | none => exact hop
              | some x =>
                obtain ⟨v, v', A'⟩ := x
                obtain ⟨o, h1, h2, h3⟩ := saysA_some hsy
                rw [h1] at hop
                simp only [h2, cond_true, h3] at hop
                intro hv
                subst hv
                exact hop
            | some A' =>
              obtain ⟨o, b, h1, h2, h3⟩ := forkA_some hfk
              rw [h1] at hop
              simp only [h2, cond_true, h3] at hop
              cases b with
              | true => exact ⟨_, .head _, hop⟩
              | false => exact ⟨_, .tail _ (.head _), hop⟩
        | true =>
          simp only [cond_true]
          simp only [Bool.and_eq_true, Bool.not_eq_true'] at hb
          have hge := blt_false.1 hb.2
          have key : Valid P X s.w ops s.fr.tm (i - ops.toList.length) → Sim P X f0 base cs0 m s.w w (lone f (csW ++ cs0) w) { s with fr := { s.fr with todo := .inRegion ops rest :: k } } := fun hrc => recheck_sim h hm ht hb.1 hge hrc
          cases hak : asksA P X s ops (i - ops.toList.length) with
          | some x =>
            obtain ⟨v, v'⟩ := x
            exact fun hv => key (asks_valid hak hv)
          | none =>
            cases hrc : recheckA P X s.fr s.w ops (i - ops.toList.length) with
            | false => trivial
            | true => exact key (recheck_valid hrc)
    | code c =>
      obtain ⟨hd, x', k', htf, hx, hk⟩ := plainCase ht (by intro ops l e; cases e)
      obtain ⟨rfl, hc⟩ := hx
      have go : ∀ {j j' : List Item}, All2 (IRel m) j j' → step P (lone f (csW ++ cs0) w) = .next (lone { f with todo := j' } (csW ++ cs0) w) → stepD P X s = .next ⟨{ s.fr with todo := j }, s.cs, s.w⟩ →
          Says P X f0 base m s f csW cs0 w (stepD P X s) := by
        intro j j' hj hst e
        rw [e]
        exact h.todo hd hj (.one hst)
      have lv : ∀ {jump : Option Code}, Jump f.todo jump → stepD P X s = leaveA s.fr s.cs s.w jump → Says P X f0 base m s f csW cs0 w (stepD P X s) := by
        intro jump hj e
        rw [e]
        exact leave_says h hm hd hj
      cases c with
      | skip => exact go hk (w_skip hfm htf) (by (obtain ⟨⟨fn, tm, todo, defers, mode, kind, ro, dr⟩, cs, A⟩ := s; simp only at hm ht; subst hm ht; rfl))
      | label l => exact go hk (w_label hfm htf) (by (obtain ⟨⟨fn, tm, todo, defers, mode, kind, ro, dr⟩, cs, A⟩ := s; simp only at hm ht; subst hm ht; rfl))
      | seq a b =>
        simp only [codeOk, Bool.and_eq_true] at hc
        exact go (j := .code a :: .code b :: k) (j' := .code a :: .code b :: k') (.cons ⟨rfl, hc.1⟩ (.cons ⟨rfl, hc.2⟩ hk)) (w_seq hfm htf) (by (obtain ⟨⟨fn, tm, todo, defers, mode, kind, ro, dr⟩, cs, A⟩ := s; simp only at hm ht; subst hm ht; rfl))
      | cond c a b =>
        simp only [codeOk, Bool.and_eq_true] at hc
        obtain ⟨htm, _⟩ := h.plain hd
        have hv : VRel m (s.fr.eval c) (f.eval c) := by
          rw [eval_evalT, eval_evalW]
          exact evalT_rel h.glob hc.1 fun t _ => htm.val t
        cases hfk : memN s.fr.fn X.forks with
        | true =>
          cases he : s.fr.eval c with
          | bool t =>
            rw [he] at hv
            have hfe : f.eval c = .bool t := by
              generalize f.eval c = y at hv
              cases hv; rfl
            have e : stepD P X s = .branch [{ s with fr := { s.fr with todo := .code a :: k } }, { s with fr := { s.fr with todo := .code b :: k } }] := by (obtain ⟨⟨fn, tm, todo, defers, mode, kind, ro, dr⟩, cs, A⟩ := s; simp only at hm ht hfk; subst hm ht; unfold stepD; simp only [he, hfk, cond_true])
            rw [e]
            cases t with
            | true => exact ⟨_, .head _, h.todo hd (show All2 (IRel m) (.code a :: k) (.code a :: k') from .cons ⟨rfl, hc.2.1⟩ hk) (.one (w_cond hfm htf hfe))⟩
            | false => exact ⟨_, .tail _ (.head _), h.todo hd (show All2 (IRel m) (.code b :: k) (.code b :: k') from .cons ⟨rfl, hc.2.2⟩ hk) (.one (w_cond hfm htf hfe))⟩
          | _ =>
            have e : stepD P X s = .fail "cond" := by (obtain ⟨⟨fn, tm, todo, defers, mode, kind, ro, dr⟩, cs, A⟩ := s; simp only at hm ht hfk; subst hm ht; unfold stepD; simp only [he, hfk, cond_true])
            rw [e]
            trivial
        | false =>
          cases he : s.fr.eval c with
          | bool t =>
            rw [he] at hv
            have hfe : f.eval c = .bool t := by
              generalize f.eval c = y at hv
              cases hv; rfl
            have hcc : codeOk P (if t then a else b) = true := by cases t; exact hc.2.2; exact hc.2.1
            refine go (j := .code (bif t then a else b) :: k) (j' := .code (if t then a else b) :: k') ?_ (w_cond hfm htf hfe) (by (obtain ⟨⟨fn, tm, todo, defers, mode, kind, ro, dr⟩, cs, A⟩ := s; simp only at hm ht hfk; subst hm ht; unfold stepD; simp only [hfk, cond_false]; unfold stepA; simp only [he]))
            have : (bif t then a else b) = if t then a else b := by cases t <;> rfl
            rw [this]
            exact .cons ⟨rfl, hcc⟩ hk
          | _ =>
            have e : stepD P X s = .fail "cond" := by (obtain ⟨⟨fn, tm, todo, defers, mode, kind, ro, dr⟩, cs, A⟩ := s; simp only at hm ht hfk; subst hm ht; unfold stepD; simp only [hfk, cond_false]; unfold stepA; simp only [he])
            rw [e]
            trivial
      | block id b => exact go (j := .code b :: .inBlock id :: k) (j' := .code b :: .inBlock id :: k') (.cons ⟨rfl, hc⟩ (.cons rfl hk)) (w_block hfm htf) (by (obtain ⟨⟨fn, tm, todo, defers, mode, kind, ro, dr⟩, cs, A⟩ := s; simp only at hm ht; subst hm ht; rfl))
      | loop b => exact go (j := .code b :: .inLoop b :: k) (j' := .code b :: .inLoop b :: k') (.cons ⟨rfl, hc⟩ (.cons ⟨rfl, hc⟩ hk)) (w_loop hfm htf) (by (obtain ⟨⟨fn, tm, todo, defers, mode, kind, ro, dr⟩, cs, A⟩ := s; simp only at hm ht; subst hm ht; rfl))
      | scope b => exact go (j := .code b :: .inScope b :: k) (j' := .code b :: .inScope b :: k') (.cons ⟨rfl, hc⟩ (.cons ⟨rfl, hc⟩ hk)) (w_scope hfm htf) (by (obtain ⟨⟨fn, tm, todo, defers, mode, kind, ro, dr⟩, cs, A⟩ := s; simp only at hm ht; subst hm ht; rfl))
      | exit id =>
        have hex := exitTo_rel id hk
        cases hq : exitToA id k with
        | none =>
          rw [hq] at hex
          exact lv (jump := some (.exit id)) (by rw [htf]; exact .exit id k' hex) (by (obtain ⟨⟨fn, tm, todo, defers, mode, kind, ro, dr⟩, cs, A⟩ := s; simp only at hm ht; subst hm ht; unfold stepD stepA; simp only [hq]; rfl))
        | some r =>
          rw [hq] at hex
          obtain ⟨r', h1, h2⟩ := hex
          exact go h2 (w_exit hfm htf h1) (by (obtain ⟨⟨fn, tm, todo, defers, mode, kind, ro, dr⟩, cs, A⟩ := s; simp only at hm ht; subst hm ht; unfold stepD stepA; simp only [hq]))
      | goto l =>
        have hex := gotoIn_rel l hk
        cases hq : gotoIn l k with
        | none =>
          rw [hq] at hex
          exact lv (jump := some (.goto l)) (by rw [htf]; exact .goto l k' hex) (by (obtain ⟨⟨fn, tm, todo, defers, mode, kind, ro, dr⟩, cs, A⟩ := s; simp only at hm ht; subst hm ht; unfold stepD stepA; simp only [hq]; rfl))
        | some r =>
          rw [hq] at hex
          obtain ⟨r', h1, h2⟩ := hex
          exact go h2 (w_goto hfm htf h1) (by (obtain ⟨⟨fn, tm, todo, defers, mode, kind, ro, dr⟩, cs, A⟩ := s; simp only at hm ht; subst hm ht; unfold stepD stepA; simp only [hq]))
      | ret => exact lv (jump := some .ret) (by rw [htf]; exact .ret k') (by (obtain ⟨⟨fn, tm, todo, defers, mode, kind, ro, dr⟩, cs, A⟩ := s; simp only at hm ht; subst hm ht; rfl))
      | refuse y =>
        have e : stepD P X s = .fail ("refused " ++ y) := by (obtain ⟨⟨fn, tm, todo, defers, mode, kind, ro, dr⟩, cs, A⟩ := s; simp only at hm ht; subst hm ht; rfl)
        rw [e]
        trivial
      | rangeFunc g ps assign body =>
        have e : stepD P X s = stepA P X s := by (obtain ⟨⟨fn, tm, todo, defers, mode, kind, ro, dr⟩, cs, A⟩ := s; simp only at hm ht; subst hm ht; rfl)
        rw [e]
        exact rangeFunc_says hX hP h hm hd ht
      | region id ops draw =>
        cases draw with
        | false =>
          refine go (j := .inRegion ops (List.range ops.toList.length) :: k) (j' := .inRegion ops (List.range ops.size) :: k') ?_ (w_region hfm htf) (by (obtain ⟨⟨fn, tm, todo, defers, mode, kind, ro, dr⟩, cs, A⟩ := s; simp only at hm ht; subst hm ht; rfl))
          exact .cons ⟨by simp, hc⟩ hk
        | true =>
          cases hin : dstsIn s.fr.tm.sz ops.toList with
          | false =>
            have e : stepD P X s = .fail "no slot" := by (obtain ⟨⟨fn, tm, todo, defers, mode, kind, ro, dr⟩, cs, A⟩ := s; simp only at hm ht; subst hm ht; unfold stepD; simp only at hin; simp only [hin, cond_false])
            rw [e]
            trivial
          | true =>
            cases hp : planA P ops.toList with
            | none =>
              have e : stepD P X s = .fail "no plan" := by (obtain ⟨⟨fn, tm, todo, defers, mode, kind, ro, dr⟩, cs, A⟩ := s; simp only at hm ht; subst hm ht; unfold stepD; simp only at hin; simp only [hin, cond_true, hp])
              rw [e]
              trivial
            | some p =>
              have e : stepD P X s = .next { s with fr := { s.fr with todo := .inRegion ops p :: k, dr := true } } := by (obtain ⟨⟨fn, tm, todo, defers, mode, kind, ro, dr⟩, cs, A⟩ := s; simp only at hm ht; subst hm ht; unfold stepD; simp only at hin; simp only [hin, cond_true, hp])
              rw [e]
              exact drawStart_sim hP h hm hd ht hin hp
    | inBlock id =>
      obtain ⟨hd, x', k', htf, hx, hk⟩ := plainCase ht (by intro ops l e; cases e)
      have hx : x' = .inBlock id := hx
      subst hx
      have e : stepD P X s = .next ⟨{ s.fr with todo := k }, s.cs, s.w⟩ := by (obtain ⟨⟨fn, tm, todo, defers, mode, kind, ro, dr⟩, cs, A⟩ := s; simp only at hm ht; subst hm ht; rfl)
      rw [e]
      exact h.todo hd hk (.one (w_inBlock hfm htf))
    | inScope b =>
      obtain ⟨hd, x', k', htf, hx, hk⟩ := plainCase ht (by intro ops l e; cases e)
      obtain ⟨rfl, _⟩ := hx
      have e : stepD P X s = .next ⟨{ s.fr with todo := k }, s.cs, s.w⟩ := by (obtain ⟨⟨fn, tm, todo, defers, mode, kind, ro, dr⟩, cs, A⟩ := s; simp only at hm ht; subst hm ht; rfl)
      rw [e]
      exact h.todo hd hk (.one (w_inScope hfm htf))
    | inLoop b =>
      obtain ⟨hd, x', k', htf, hx, hk⟩ := plainCase ht (by intro ops l e; cases e)
      obtain ⟨rfl, hb⟩ := hx
      have e : stepD P X s = .next ⟨{ s.fr with todo := .code b :: .inLoop b :: k }, s.cs, s.w⟩ := by (obtain ⟨⟨fn, tm, todo, defers, mode, kind, ro, dr⟩, cs, A⟩ := s; simp only at hm ht; subst hm ht; rfl)
      rw [e]
      exact h.todo hd (.cons ⟨rfl, hb⟩ (.cons ⟨rfl, hb⟩ hk)) (.one (w_inLoop hfm htf))
    | inRangeFunc l =>
      have e : stepD P X s = .fail "todo" := by (obtain ⟨⟨fn, tm, todo, defers, mode, kind, ro, dr⟩, cs, A⟩ := s; simp only at hm ht; subst hm ht; rfl)
      rw [e]
      trivial
    | call d wr rs sv =>
      have e : stepD P X s = .fail "todo" := by (obtain ⟨⟨fn, tm, todo, defers, mode, kind, ro, dr⟩, cs, A⟩ := s; simp only at hm ht; subst hm ht; rfl)
      rw [e]
      trivial
    | extern r a =>
      have e : stepD P X s = .fail "todo" := by (obtain ⟨⟨fn, tm, todo, defers, mode, kind, ro, dr⟩, cs, A⟩ := s; simp only at hm ht; subst hm ht; rfl)
      rw [e]
      trivial
    | beginRound =>
      obtain ⟨hd, x', k', htf, hx, hk⟩ := plainCase ht (by intro ops l e; cases e)
      have e : stepD P X s = (match s.fr.roundOf with
        | some l => (match s.w.get l with
          | some (.loop r) => (match r.state with
            | .ready => AOut.next ⟨s.fr.finish undef, s.cs, s.w.put l (.loop { r with state := .busy })⟩
            | _ => .fail "beginRound")
          | _ => .fail "beginRound")
        | none => .fail "beginRound") := by (obtain ⟨⟨fn, tm, todo, defers, mode, kind, ro, dr⟩, cs, A⟩ := s; simp only at hm ht; subst hm ht; rfl)
      rw [e]
      refine .of_goes ?_ fun s' hs' => beginRound_sim h hm hd ht hs'
      repeat' split
      all_goals trivial
    | endRangeFunc l =>
      obtain ⟨hd, x', k', htf, hx, hk⟩ := plainCase ht (by intro ops l e; cases e)
      have e : stepD P X s = (match s.w.get l with
        | some (.loop r) => (match r.state with
          | .busy => AOut.fail "endLoop"
          | _ => .next ⟨{ s.fr with todo := (match r.pending with | some c => .code c :: k | none => k) }, s.cs, s.w.put l (.loop { r with state := .exhausted })⟩)
        | _ => .fail "endLoop") := by (obtain ⟨⟨fn, tm, todo, defers, mode, kind, ro, dr⟩, cs, A⟩ := s; simp only at hm ht; subst hm ht; rfl)
      rw [e]
      refine .of_goes ?_ fun s' hs' => endRange_sim h hm hd ht hs'
      repeat' split
      all_goals trivial

end
end Go.Abs

namespace Go.Abs

section
variable {P : Program} {X : XNames} {f0 : FuncId} {base lo : Nat} {m : Inj P} {A : AW} {w : World} {fr : AFr} {cs : List AFr} {f : Frame} {csW cs0 : List Frame}

theorem unwind_says (hX : XOk P X) (hP : POk P) {s : ASt} (h : SRel P X f0 base lo m s f csW w) (hm : s.fr.mode ≠ .run) : Says P X f0 base m s f csW cs0 w (stepD P X s) := by
  have hdr := h.top.plainOf hm
  obtain ⟨htm, htodo⟩ := h.plain hdr
  cases hd : s.fr.defers with
  | cons d ds =>
    by_cases hcol : ∃ b, d.target = .collected b
    · obtain ⟨b, hb⟩ := hcol
      obtain ⟨tg, args⟩ := d
      simp only at hb
      subst hb
      cases hg : s.w.get b with
      | some o =>
        cases o with
        | deferred calls =>
          cases calls with
          | some calls =>
            have e : stepD P X s = .next ⟨{ s.fr with defers := calls ++ ds }, s.cs, s.w.put b (.deferred none)⟩ := by
              (obtain ⟨⟨fn, tm, todo, defers, mode, kind, ro, dr⟩, cs, A⟩ := s; simp only at hm hd hg; subst hd; cases mode <;> first | exact absurd rfl hm | (unfold stepD stepA; simp only [hg]))
            rw [e]
            exact collected_sim h hm hd hg
          | none =>
            have e : stepD P X s = .fail "takeDeferred" := by
              (obtain ⟨⟨fn, tm, todo, defers, mode, kind, ro, dr⟩, cs, A⟩ := s; simp only at hm hd hg; subst hd; cases mode <;> first | exact absurd rfl hm | (unfold stepD stepA; simp only [hg]))
            rw [e]; trivial
        | _ =>
          have e : stepD P X s = .fail "takeDeferred" := by
            (obtain ⟨⟨fn, tm, todo, defers, mode, kind, ro, dr⟩, cs, A⟩ := s; simp only at hm hd hg; subst hd; cases mode <;> first | exact absurd rfl hm | (unfold stepD stepA; simp only [hg]))
          rw [e]; trivial
      | none =>
        have e : stepD P X s = .fail "takeDeferred" := by
          (obtain ⟨⟨fn, tm, todo, defers, mode, kind, ro, dr⟩, cs, A⟩ := s; simp only at hm hd hg; subst hd; cases mode <;> first | exact absurd rfl hm | (unfold stepD stepA; simp only [hg]))
        rw [e]; trivial
    · have hnc : ∀ b, d.target ≠ .collected b := fun b hb => hcol ⟨b, hb⟩
      by_cases hnil : d.target = .nil
      · have e : stepD P X s = .fail "nil deferred" := by
          (obtain ⟨⟨fn, tm, todo, defers, mode, kind, ro, dr⟩, cs, A⟩ := s; obtain ⟨tg, ar⟩ := d; simp only at hm hd hnil; subst hd hnil; cases mode <;> first | exact absurd rfl hm | rfl)
        rw [e]; trivial
      · have e : stepD P X s = applyA P { s.fr with defers := ds } s.cs true (invokeA P X s.w d.target d.args.toList) := by
          (obtain ⟨⟨fn, tm, todo, defers, mode, kind, ro, dr⟩, cs, A⟩ := s; obtain ⟨tg, ar⟩ := d; simp only at hm hd hnil hnc; subst hd; cases mode <;> first | exact absurd rfl hm | (cases tg <;> first | exact absurd rfl (hnc _) | exact absurd rfl hnil | rfl))
        rw [e]
        exact .of_goes applyT_goes fun s' hs' => deferred_sim hX hP h hm hd hnc hs'
  | nil =>
    cases hmode : s.fr.mode with
    | run => exact absurd hmode hm
    | panicking chain =>
      cases hcs : s.cs with
      | nil =>
        have e : stepD P X s = .died chain s.w := by
          (obtain ⟨⟨fn, tm, todo, defers, mode, kind, ro, dr⟩, cs, A⟩ := s; simp only at hd hmode hcs; subst hd hmode hcs; rfl)
        rw [e]; trivial
      | cons c rest =>
        cases hc : c.dr with
        | true =>
          have e : stepD P X s = .fail "raise into a drawn region" := by
            (obtain ⟨⟨fn, tm, todo, defers, mode, kind, ro, dr⟩, cs, A⟩ := s; simp only at hd hmode hcs; subst hd hmode hcs; unfold stepD stepA; simp only [hc, cond_true])
          rw [e]; trivial
        | false =>
          have e : stepD P X s = .next ⟨c.raise chain, rest, s.w⟩ := by
            (obtain ⟨⟨fn, tm, todo, defers, mode, kind, ro, dr⟩, cs, A⟩ := s; simp only at hd hmode hcs; subst hd hmode hcs; unfold stepD stepA; simp only [hc, cond_false])
          rw [e]
          exact raise_sim h hmode hd hcs hc
    | returning =>
      cases hf : P.funcs[s.fr.fn]? with
      | none =>
        have e : stepD P X s = .fail "unwind fn" := by
          (obtain ⟨⟨fn, tm, todo, defers, mode, kind, ro, dr⟩, cs, A⟩ := s; simp only at hd hmode hf; subst hd hmode; unfold stepD stepA; simp only [hf])
        rw [e]; trivial
      | some fn0 =>
        cases hr : resultsA P s.w fn0 s.fr.tm with
        | none =>
          have e : stepD P X s = .fail "results" := by
            (obtain ⟨⟨fn, tm, todo, defers, mode, kind, ro, dr⟩, cs, A⟩ := s; simp only at hd hmode hf hr; subst hd hmode; unfold stepD stepA; simp only [hf, hr])
          rw [e]; trivial
        | some v =>
          cases hcs : s.cs with
          | cons c rest =>
            have e : stepD P X s = doReturnA s.fr (c :: rest) v s.w := by
              (obtain ⟨⟨fn, tm, todo, defers, mode, kind, ro, dr⟩, cs, A⟩ := s; simp only at hd hmode hf hr hcs; subst hd hmode hcs; unfold stepD stepA; simp only [hf, hr])
            rw [e]
            exact .of_goes (doReturn_goes _ _ _ _) fun s' hs' => return_sim h hmode hd hf hr hcs hs'
          | nil =>
            have e : stepD P X s = .done v s.w := by
              (obtain ⟨⟨fn, tm, todo, defers, mode, kind, ro, dr⟩, cs, A⟩ := s; simp only at hd hmode hf hr hcs; subst hd hmode hcs; unfold stepD stepA; simp only [hf, hr])
            rw [e]
            have hb := h.bot
            rw [hcs] at hb
            have hstk := h.stk
            rw [hcs] at hstk
            obtain ⟨v', g1, g2⟩ := results_sound h.rel htm hr
            refine ⟨rfl, ?_, v', g2, ⟨?_, ?_, h.top.core.kind.trans hb.1, fn0, by rw [h.top.core.fn]; exact hf, g1⟩, h.top.core.fn.trans hb.2.1⟩
            · generalize csW = y at hstk
              cases hstk; rfl
            · have := h.top.core.mode
              rw [hmode] at this
              generalize f.mode = u at this
              cases this; rfl
            · have := h.top.core.defers
              rw [hd] at this
              generalize f.defers = u at this
              cases this; rfl

theorem step_says (hX : XOk P X) (hP : POk P) {s : ASt} (h : SRel P X f0 base lo m s f csW w) : Says P X f0 base m s f csW cs0 w (stepD P X s) := by
  by_cases hm : s.fr.mode = .run
  · exact run_says hX hP h hm
  · exact unwind_says hX hP h hm

/-- the abstract machine, with so much fuel; 'ok' is asked of each answer -/
def runD (P : Program) (X : XNames) (ok : Value → AW → Bool) : Nat → ASt → Bool
  | 0, _ => false
  | n + 1, s => match stepD P X s with
    | .next s' => runD P X ok n s'
    | .branch l => l.all (runD P X ok n)
    | .done v A => ok v A
    | _ => false

theorem run_sound (hX : XOk P X) (hP : POk P) {ok : Value → AW → Bool} (cs0 : List Frame) : ∀ (n : Nat) {s : ASt} {lo : Nat} {m : Inj P} {f : Frame} {csW : List Frame} {w : World}, runD P X ok n s = true → SRel P X f0 base lo m s f csW w →
    ∃ v v' m' A' w' f', Steps P (lone f (csW ++ cs0) w) (lone f' cs0 w') ∧ ok v A' = true ∧ VRel m' v v' ∧ EvL base m s.w w m' A' w' ∧ f'.leaving P w' (.returned v') ∧ f'.fn = f0
  | 0, s, lo, m, f, csW, w, h, _ => by cases h
  | n + 1, s, lo, m, f, csW, w, h, hr => by
    have hs := step_says (cs0 := cs0) hX hP hr
    unfold runD at h
    have go : ∀ s', runD P X ok n s' = true → Sim P X f0 base cs0 m s.w w (lone f (csW ++ cs0) w) s' →
        ∃ v v' m' A' w' f', Steps P (lone f (csW ++ cs0) w) (lone f' cs0 w') ∧ ok v A' = true ∧ VRel m' v v' ∧ EvL base m s.w w m' A' w' ∧ f'.leaving P w' (.returned v') ∧ f'.fn = f0 := by
      rintro s' h' ⟨lo', m1, f1, cs1, w1, t1, t2, t3⟩
      obtain ⟨v, v', m', A', w', f', g1, g2, g3, g4, g5, g6⟩ := run_sound hX hP cs0 n h' t3
      exact ⟨v, v', m', A', w', f', t1.trans g1, g2, g3, t2.trans g4, g5, g6⟩
    cases ho : stepD P X s with
    | next s' => rw [ho] at h hs; exact go s' h hs
    | branch l =>
      rw [ho] at h hs
      obtain ⟨s', hl, hsim⟩ := hs
      exact go s' (List.all_eq_true.1 h s' hl) hsim
    | done v A' =>
      rw [ho] at h hs
      obtain ⟨rfl, rfl, v', g1, g2, g3⟩ := hs
      exact ⟨v, v', m, s.w, w, f, .refl P _, h, g1, .refl hr.rel base, g2, g3⟩
    | calls => rw [ho] at h; cases h
    | asks => rw [ho] at h; cases h
    | died => rw [ho] at h; cases h
    | fail => rw [ho] at h; cases h

theorem calls_of_run (hX : XOk P X) (hP : POk P) {ok : Value → AW → Bool} {n : Nat} {g : FuncId} {args args' : List Value} {fr : AFr} (he : enterA P g args .normal = some fr) (hrun : runD P X ok n ⟨fr, [], A⟩ = true) (r : Rel m A w) (hG : GOk m)
    (ha : VRels m args args') : Calls P g ⟨args'⟩ w fun e w' => ∃ v v' m' A', ok v A' = true ∧ e = .returned v' ∧ VRel m' v v' ∧ EvL A.next m A w m' A' w' := by
  intro cs0
  obtain ⟨g1, g2, g3, g4⟩ := enter_rel (X := X) (A := A) hP he ha (.inl rfl) A.next A.next
  have hs : SRel P X g A.next A.next m ⟨fr, [], A⟩ (Frame.enter P g ⟨args'⟩ .normal) [] w := ⟨r, hG, Nat.le_refl _, g1, .nil _ (Nat.le_refl _), ⟨g2, g3, g4⟩⟩
  obtain ⟨v, v', m', A', w', f', k1, k2, k3, k4, k5, k6⟩ := run_sound hX hP cs0 n hrun hs
  exact ⟨.returned v', w', f', ⟨v, v', m', A', k2, rfl, k3, k4⟩, k1, k6, k5⟩

end
end Go.Abs
