/-
  This text prints what the functions reached ask of their memory, and shows what they answer. Conditions: none for the last theorem, those that each theorem states for the others.
-/
import Derived.Test.YtkjlldaddekegaaGreatDoorPb
import Derived.Below
import Derived.Carry
import Derived.ChangeSame
import Derived.Deep.Strs
import Derived.HandedShaped
import Derived.Laws.StructEq
import Derived.ProofKit
import Derived.Stop.Joined
set_option maxRecDepth 100000
set_option maxHeartbeats 1000000
namespace Go.Abs
section
variable {P : Program} {X : XNames} {f0 : FuncId} {base lo : Nat} {m : Inj P} {A : AW} {w : World} {fr : AFr} {cs : List AFr} {f : Frame} {csW cs0 : List Frame}
def CSim (P : Program) (X : XNames) (f0 : FuncId) (base : Nat) (cs0 : List Frame) (m : Inj P) (A : AW) (w : World) (mach : Machine) (g : FuncId) (args : List Value) (s' : ASt) : Prop :=
  ∃ lo' m' f' cs' w' args', Steps P mach (lone (Frame.enter P g ⟨args'⟩ .normal) (f' :: (cs' ++ cs0)) w') ∧ EvL base m A w m' s'.w w' ∧ VRels m' args args' ∧
    GOk m' ∧ lo' ≤ s'.w.next ∧ FRel P X m' s'.w false lo' s'.w.next s'.fr f' ∧ Stk P X m' s'.w base lo' s'.cs cs' ∧ Bot f0 (s'.fr :: s'.cs)
def Says (P : Program) (X : XNames) (f0 : FuncId) (base : Nat) (m : Inj P) (s : ASt) (f : Frame) (csW cs0 : List Frame) (w : World) : AOut → Prop
  | .next s' => Sim P X f0 base cs0 m s.w w (lone f (csW ++ cs0) w) s'
  | .branch l => ∃ s' ∈ l, Sim P X f0 base cs0 m s.w w (lone f (csW ++ cs0) w) s'
  | .calls g args s' => CSim P X f0 base cs0 m s.w w (lone f (csW ++ cs0) w) g args s'
  | .asks v v' s' => v = v' → Sim P X f0 base cs0 m s.w w (lone f (csW ++ cs0) w) s'
  | .done v A' => A' = s.w ∧ csW = [] ∧ ∃ v', VRel m v v' ∧ f.leaving P w (.returned v') ∧ f.fn = f0
  | _ => True
def Goes : AOut → Prop
  | .next _ => True
  | .fail _ => True
  | _ => False
theorem doReturn_goes (fr : AFr) (cs : List AFr) (v : Value) (A : AW) : Goes (doReturnA fr cs v A) := by
  unfold doReturnA
  simp only [Bool.cond_eq_ite]
  repeat' split
  all_goals trivial
theorem Says.of_goes {s : ASt} {o : AOut} (hg : Goes o) (h : ∀ s', o = .next s' → Sim P X f0 base cs0 m s.w w (lone f (csW ++ cs0) w) s') : Says P X f0 base m s f csW cs0 w o := by
  cases o with
  | next s' => exact h s' rfl
  | fail y => trivial
  | branch l => exact hg.elim
  | calls g args s' => exact hg.elim
  | asks v v' s' => exact hg.elim
  | done v A' => exact hg.elim
  | died c A' => exact hg.elim
def leaveA (fr : AFr) (cs : List AFr) (w : AW) (jump : Option Code) : AOut :=
  match fr.roundOf with
  | none => (match jump with
    | none => .next ⟨{ fr with mode := .returning }, cs, w⟩
    | some .ret => .next ⟨{ fr with mode := .returning }, cs, w⟩
    | _ => .fail "leave")
  | some l => (match w.get l with
    | some (.loop r) => doReturnA fr cs (.bool jump.isNone) (w.put l (.loop { r with state := if jump.isNone then .ready else .done, pending := jump }))
    | _ => .fail "endRound")
theorem leave_says {s : ASt} {jump : Option Code} (h : SRel P X f0 base lo m s f csW w) (hm : s.fr.mode = .run) (hd : s.fr.dr = false) (hj : Jump f.todo jump) : Says P X f0 base m s f csW cs0 w (leaveA s.fr s.cs s.w jump) := by
  refine .of_goes ?_ fun s' hs' => leave_sim h hm hj (by cases jump <;> simp) hs' hd
  unfold leaveA
  split
  · split <;> trivial
  · split
    · exact doReturn_goes _ _ _ _
    · trivial
theorem SRel.dr_false {s : ASt} (h : SRel P X f0 base lo m s f csW w) (ht : ∀ ops l k, s.fr.todo ≠ .inRegion ops l :: k) : s.fr.dr = false := by
  cases h.top.body with
  | plain h1 => exact h1
  | draw ops S C rl pl rest k k' h1 h2 h3 => exact absurd h3 (ht _ _ _)
theorem apply_outs {fr : AFr} {cs : List AFr} {r : R AN} (hn : ∀ i A', r ≠ .ok (.rangeNext i) A') : Goes (applyA P fr cs false r) := by
  cases r with
  | fail y => trivial
  | panic v A' => simp only [applyA, Bool.cond_eq_ite]; split <;> trivial
  | ok n A' =>
    cases n with
    | rangeNext j => exact absurd rfl (hn j A')
    | value v => trivial
    | skip => trivial
    | enter g args => simp only [applyA]; split <;> trivial
    | round l fn tm a b => trivial
    | defer d => simp only [applyA, cond_false]; split <;> trivial
    | recover => simp only [applyA, Bool.cond_eq_ite]; repeat' split
                 all_goals trivial
def Lives : AOut → Prop
  | .done .. => False
  | .died .. => False
  | _ => True
theorem apply_outs_branch {fr : AFr} {cs : List AFr} {r : R AN} : Lives (applyA P fr cs false r) := by
  by_cases hn : ∃ i A', r = .ok (.rangeNext i) A'
  · obtain ⟨i, A', rfl⟩ := hn
    simp only [applyA, Bool.cond_eq_ite]
    repeat' split
    all_goals first | trivial | (exfalso; rename_i h; cases h; done)
  · have h := apply_outs (P := P) (fr := fr) (cs := cs) (r := r) (fun i A' e => hn ⟨i, A', e⟩)
    revert h
    generalize applyA P fr cs false r = o
    intro h
    cases o <;> first | trivial | exact False.elim h
theorem apply_nocalls {fr : AFr} {cs : List AFr} {r : R AN} {g : FuncId} {args : List Value} {s' : ASt} : applyA P fr cs false r ≠ .calls g args s' := by
  by_cases hn : ∃ i A', r = .ok (.rangeNext i) A'
  · obtain ⟨i, A', rfl⟩ := hn
    simp only [applyA, Bool.cond_eq_ite]
    intro h
    repeat' split at h
    all_goals (cases h)
  · have h := apply_outs (P := P) (fr := fr) (cs := cs) (r := r) (fun i A' e => hn ⟨i, A', e⟩)
    intro he
    rw [he] at h
    exact h
theorem apply_noasks {fr : AFr} {cs : List AFr} {r : R AN} {v v' : Value} {s' : ASt} : applyA P fr cs false r ≠ .asks v v' s' := by
  by_cases hn : ∃ i A', r = .ok (.rangeNext i) A'
  · obtain ⟨i, A', rfl⟩ := hn
    simp only [applyA, Bool.cond_eq_ite]
    intro h
    repeat' split at h
    all_goals (cases h)
  · have h := apply_outs (P := P) (fr := fr) (cs := cs) (r := r) (fun i A' e => hn ⟨i, A', e⟩)
    intro he
    rw [he] at h
    exact h
theorem applyT_goes {fr : AFr} {cs : List AFr} {r : R AN} : Goes (applyA P fr cs true r) := by
  cases r with
  | fail y => trivial
  | panic v A' => simp only [applyA, Bool.cond_eq_ite]; split <;> trivial
  | ok n A' =>
    cases n with
    | enter g args => simp only [applyA]; split <;> trivial
    | _ => trivial
theorem knownA_spec {s : ASt} {ops : Array Oper} {i : Nat} {g : FuncId} {args : List Value} {A' : AW} (h : knownA P X s ops i = some (g, args, A')) :
    ∃ o, ops.toList[i]? = some o ∧ wantedA ops s.fr.tm o = true ∧ execA P X s.fr.eval o s.w = .ok (.enter g args) A' := by
  unfold knownA at h
  split at h
  · cases h
  · split at h
    · rename_i o ho
      cases hw : wantedA ops s.fr.tm o with
      | false => rw [hw] at h; cases h
      | true =>
        rw [hw, cond_true] at h
        split at h
        · rename_i f as w he
          cases hm : memN f X.known with
          | false => rw [hm] at h; cases h
          | true => rw [hm] at h; cases h; exact ⟨o, ho, hw, he⟩
        · cases h
    · cases h
theorem no_defer {ρ : Operand → Value} {o : Oper} {g : FuncId} {args : List Value} {A A' : AW} (h : execA P X ρ o A = .ok (.enter g args) A') : ∀ c, o.op ≠ .defer c := by
  intro c hc
  unfold execA at h
  rw [hc] at h
  simp only at h
  split at h <;> cases h
theorem op_calls (hX : XOk P X) {s : ASt} {ops : Array Oper} {i : Nat} {rest : List Nat} {k : List Item} {g : FuncId} {args : List Value} {A' : AW} (h : SRel P X f0 base lo m s f csW w) (hm : s.fr.mode = .run) (ht : s.fr.todo = .inRegion ops (i :: rest) :: k)
    (hi : s.fr.dr = false ∨ i < ops.size) (hk : knownA P X s ops i = some (g, args, A')) : CSim P X f0 base cs0 m s.w w (lone f (csW ++ cs0) w) g args ⟨s.fr, s.cs, A'⟩ := by
  have hbase := h.baseLe
  have hlo := h.below
  have hfm := h.fmode hm
  obtain ⟨o, ho, hwa, he⟩ := knownA_spec hk
  have ho' : ops[i]? = some o := by simpa using ho
  have hnd := no_defer he
  cases h.top.body with
  | plain hd htm htodo =>
    rw [ht] at htodo
    generalize htf : f.todo = y at htodo
    cases htodo with
    | cons hx hkk =>
      rename_i x' k'
      obtain ⟨rfl, hops⟩ := hx
      have hwr : Region.wanted o (yielded ops f.tmps) = wantedA ops s.fr.tm o := wanted_rel fun _ _ _ _ d _ _ => htm.val d
      rw [hwa] at hwr
      have hoo : opOk P o = true := List.all_eq_true.1 hops o (List.mem_of_getElem? ho)
      have hrn : RNext P m s.w w (execA P X s.fr.eval o s.w) (execOp f.eval o) := by
        rw [eval_evalT, eval_evalW]
        exact exec_sound hX h.rel fun x hx => evalT_rel h.glob (List.all_eq_true.1 hoo x hx) fun t _ => htm.val t
      rw [he] at hrn
      obtain ⟨n', w', m', h1, h2, args', rfl, h3⟩ := hrn
      refine ⟨lo, m', f, csW, w', args', .one (w_op hfm htf ho' hwr (.inr hnd) (by rw [h1]; rfl)), h2.low (by omega), h3, h.glob.mono h2.ext, by have := h2.next; show lo ≤ A'.next; omega, ?_, h.stk.mono h2.ext fun i hi => h2.same i (by omega), h.bot⟩
      exact (h.top.plainLive (live' := false) (hi' := s.w.next) hd).mono h2.ext h2.same h2.next
  | draw ops' S C rl pl rest' k0 k' hd hmode ta tf hkk D =>
    rw [ht] at ta
    simp only [List.cons.injEq, Item.inRegion.injEq] at ta
    obtain ⟨⟨rfl, hl⟩, rfl⟩ := ta
    have hi : i < ops.size := by
      rcases hi with hi | hi
      · rw [hd] at hi; cases hi
      · exact hi
    have hrl : rl = [] := by
      cases rl with
      | nil => rfl
      | cons y rl =>
        simp only [List.cons_append, List.cons.injEq] at hl
        have := D.rls y (by simp)
        omega
    subst hrl
    rw [List.nil_append] at hl
    subst hl
    have heff : (effOf P ops.toList).testBit i = true := by
      refine (eff_op ho).2 ⟨?_, ?_⟩
      · cases hq : quietOp P o.op with
        | false => rfl
        | true => obtain ⟨_, v, hv⟩ := quiet_exec hq he; cases hv
      · cases hq : allocOp o.op with
        | false => rfl
        | true => obtain ⟨v, _, _, hv, _⟩ := alloc_exec hq he; cases hv
    have hplan := D.plan
    cases hplan with
    | pure _ _ p g1 g2 => rw [g2] at heff; cases heff
    | alloc _ _ p g1 g2 => rw [g2] at heff; cases heff
    | effect _ _ p g1 g2 g3 g4 g5 g6 =>
      obtain ⟨S', tmps', rest2, m1, w1, t1, t2, t3, r, t4⟩ := DrawAt.catchTo hX (cs := csW ++ cs0) (k := k') (some i) (Nat.le_refl _) hlo rest' h.glob h.rel D (fun j hj => by
        rcases g5 j (by simpa using hj) with hh | rfl | hh
        · exact .inl hh
        · exact .inr (.inl ⟨rfl, fun hs => by rw [D.sub j hs] at g3; cases g3⟩)
        · exact .inr (.inr ⟨i, rfl, hh⟩)) (fun y hy => by cases hy; exact ⟨by simpa using g1, g3⟩) hfm tf
      subst t4
      obtain ⟨_, _, hanc, _⟩ := t3.lin
      have hG1 := h.glob.mono t2.ext
      have hops := t3.operands hG1 hanc ho
      have hwr := t3.wanted hanc ho
      rw [hwa] at hwr
      have hW : FRel P X m1 s.w false lo s.w.next s.fr { f with tmps := tmps', todo := .inRegion ops (i :: r) :: k' } := by
        refine ⟨⟨h.top.core.fn, h.top.core.kind, h.top.core.kindOk, h.top.core.mode.mono t2.ext, h.top.core.round.mono t2.ext, h.top.core.defers.mono fun _ _ x => x.mono t2.ext⟩, ?_⟩
        exact .draw ops S' C [] _ (i :: r) k k' hd hm ht rfl (hkk.mono fun _ _ x => x.mono t2.ext) (t3.toWait g2 _ (Nat.le_refl _))
      have hstk := h.stk.mono (A' := s.w) t2.ext t2.same
      have hrn : RNext P m1 s.w w1 (execA P X s.fr.eval o s.w) (execOp (evalW tmps') o) := by
        rw [eval_evalT]
        exact exec_sound hX t2.rel hops
      rw [he] at hrn
      obtain ⟨n', w', m', h1, h2, args', rfl, h3⟩ := hrn
      refine ⟨lo, m', _, csW, w', args', t1.trans (.one (w_op (by exact hfm) rfl ho' hwr (.inr hnd) (by rw [eval_evalW, h1]; rfl))), (t2.weak hbase).trans (h2.low (by omega)), h3, hG1.mono h2.ext, by have := h2.next; show lo ≤ A'.next; omega, ?_, hstk.mono h2.ext fun i hi => h2.same i (by omega), h.bot⟩
      exact hW.mono h2.ext h2.same h2.next
theorem oper_says (hX : XOk P X) (hP : POk P) {s : ASt} {ops : Array Oper} {i : Nat} {rest : List Nat} {k : List Item} (h : SRel P X f0 base lo m s f csW w) (hm : s.fr.mode = .run) (ht : s.fr.todo = .inRegion ops (i :: rest) :: k)
    (hi : s.fr.dr = false ∨ i < ops.size) :
    Says P X f0 base m s f csW cs0 w (match ops.toList[i]? with
      | some o => bif wantedA ops s.fr.tm o then applyA P s.fr s.cs false (execA P X s.fr.eval o s.w) else .next ⟨s.fr.finish undef, s.cs, s.w⟩
      | none => .fail "no operation") := by
  have shape : ∀ v A', (match ops.toList[i]? with
      | some o => bif wantedA ops s.fr.tm o then applyA P s.fr s.cs false (execA P X s.fr.eval o s.w) else .next ⟨s.fr.finish undef, s.cs, s.w⟩
      | none => .fail "no operation") ≠ .done v A' := by
    intro v A' he
    split at he
    · rename_i o ho
      cases hw : wantedA ops s.fr.tm o with
      | false => rw [hw] at he; cases he
      | true =>
        rw [hw, cond_true] at he
        have := apply_outs_branch (P := P) (fr := s.fr) (cs := s.cs) (r := execA P X s.fr.eval o s.w)
        rw [he] at this
        exact this
    · cases he
  have nocalls : ∀ g args s', (match ops.toList[i]? with
      | some o => bif wantedA ops s.fr.tm o then applyA P s.fr s.cs false (execA P X s.fr.eval o s.w) else .next ⟨s.fr.finish undef, s.cs, s.w⟩
      | none => .fail "no operation") ≠ .calls g args s' := by
    intro g args s' he
    split at he
    · rename_i o ho
      cases hw : wantedA ops s.fr.tm o with
      | false => rw [hw] at he; cases he
      | true =>
        rw [hw, cond_true] at he
        exact apply_nocalls he
    · cases he
  have noasks : ∀ v v' s', (match ops.toList[i]? with
      | some o => bif wantedA ops s.fr.tm o then applyA P s.fr s.cs false (execA P X s.fr.eval o s.w) else .next ⟨s.fr.finish undef, s.cs, s.w⟩
      | none => .fail "no operation") ≠ .asks v v' s' := by
    intro v v' s' he
    split at he
    · rename_i o ho
      cases hw : wantedA ops s.fr.tm o with
      | false => rw [hw] at he; cases he
      | true =>
        rw [hw, cond_true] at he
        exact apply_noasks he
    · cases he
  generalize hout : (match ops.toList[i]? with
      | some o => bif wantedA ops s.fr.tm o then applyA P s.fr s.cs false (execA P X s.fr.eval o s.w) else AOut.next ⟨s.fr.finish undef, s.cs, s.w⟩
      | none => .fail "no operation") = out at shape
  cases h.top.body with
  | plain hd tm todo =>
    cases out with
    | next s' => exact op_sim hX hP h hm hd ht hout
    | branch l => exact op_branch h hm hd ht hout
    | calls g args s' => exact absurd hout (nocalls g args s')
    | asks v v' s' => exact absurd hout (noasks v v' s')
    | done v A' => exact absurd rfl (shape v A')
    | died => trivial
    | fail => trivial
  | draw ops' S C rl pl rest' k0 k' hd hmode ta tf hk D =>
    rw [ht] at ta
    simp only [List.cons.injEq, Item.inRegion.injEq] at ta
    obtain ⟨⟨rfl, hl⟩, rfl⟩ := ta
    have hi : i < ops.size := by
      rcases hi with hi | hi
      · rw [hd] at hi; cases hi
      · exact hi
    have hrl : rl = [] := by
      cases rl with
      | nil => rfl
      | cons y rl =>
        simp only [List.cons_append, List.cons.injEq] at hl
        have := D.rls y (by simp)
        omega
    subst hrl
    rw [List.nil_append] at hl
    subst hl
    cases out with
    | next s' => exact drawOp_sim hX hP h hm hd ht tf hk D hout
    | branch l => exact drawOp_branch hX h hm hd ht tf hk D hout
    | calls g args s' => exact absurd hout (nocalls g args s')
    | asks v v' s' => exact absurd hout (noasks v v' s')
    | done v A' => exact absurd rfl (shape v A')
    | died => trivial
    | fail => trivial
end
section
variable {P : Program} {X : XNames} {f0 : FuncId} {base lo : Nat} {m : Inj P} {A : AW} {w : World} {fr : AFr} {cs : List AFr} {f : Frame} {csW cs0 : List Frame}
theorem rangeFunc_says (hX : XOk P X) (hP : POk P) {s : ASt} {g : Operand} {ps : Array Tmp} {assign body : Code} {k : List Item} (h : SRel P X f0 base lo m s f csW w) (hm : s.fr.mode = .run) (hd : s.fr.dr = false)
    (ht : s.fr.todo = .code (.rangeFunc g ps assign body) :: k) : Says P X f0 base m s f csW cs0 w (stepA P X s) := by
  have e : stepA P X s = (match (match s.fr.roundOf with
        | some l => (match s.w.get l with | some (.loop r) => some (r.defers, ([] : List Deferred), s.w) | _ => none)
        | none => (match s.w.new (.deferred (some [])) with | some (r, w') => some (r, [{ target := .collected r, args := #[] }], w') | none => none)) with
      | none => AOut.fail "enterLoop"
      | some (d, mark, w) => (match w.new (.loop { state := .ready, pending := none, fn := s.fr.fn, tm := s.fr.tm, params := ps.toList, assign, body, defers := d }) with
        | none => .fail "enterLoop"
        | some (l, w) =>
          let fr' := { s.fr with todo := .inRangeFunc l :: k, defers := mark ++ s.fr.defers }
          match s.fr.eval g with
          | .func fn first captured => applyA P fr' s.cs false (invokeA P X w (.fn fn captured) (first.toList ++ [Value.func (.yield l) #[] #[]]))
          | _ => .fail "rangeFunc")) := by
    (obtain ⟨⟨fn, tm, todo, defers, mode, kind, ro, dr⟩, cs, A⟩ := s; simp only at hm ht; subst hm ht; rfl)
  rw [e]
  refine .of_goes ?_ fun s' hs' => rangeFunc_sim hX hP h hm hd ht hs'
  split
  · trivial
  · split
    · trivial
    · simp only
      split
      · exact apply_outs fun i A' => invoke_norange
      · trivial
theorem forkA_some {s : ASt} {ops : Array Oper} {i : Nat} {A' : AW} (h : forkA P X s ops i = some A') :
    ∃ o b, ops.toList[i]? = some o ∧ wantedA ops s.fr.tm o = true ∧ execA P X s.fr.eval o s.w = .ok (.value (.bool b)) A' := by
  unfold forkA at h
  split at h
  · cases h
  · cases hm : memN s.fr.fn X.forks with
    | false => rw [hm] at h; cases h
    | true =>
      rw [hm] at h
      simp only [cond_true] at h
      split at h
      · rename_i o ho
        split at h
        · generalize hq : (_ && wantedA ops s.fr.tm o) = q at h
          cases q with
          | false => cases h
          | true =>
            simp only [cond_true] at h
            simp only [Bool.and_eq_true] at hq
            split at h
            · rename_i b w he
              cases h
              exact ⟨o, b, ho, hq.2, he⟩
            · cases h
        · cases h
      · cases h
theorem saysA_some {s : ASt} {ops : Array Oper} {i : Nat} {v v' : Value} {A' : AW} (h : saysA P X s ops i = some (v, v', A')) :
    ∃ o, ops.toList[i]? = some o ∧ wantedA ops s.fr.tm o = true ∧ execA P X s.fr.eval o s.w = .ok (.value v) A' := by
  unfold saysA at h
  split at h
  · cases h
  · split at h
    · rename_i o ho
      split at h
      · split at h
        · cases hw : wantedA ops s.fr.tm o with
          | false => rw [hw] at h; cases h
          | true =>
            rw [hw, cond_true] at h
            split at h
            · rename_i v0 w0 he
              simp only [Option.some.injEq, Prod.mk.injEq] at h
              obtain ⟨rfl, rfl, rfl⟩ := h
              exact ⟨o, ho, hw, he⟩
            · cases h
        · cases h
      · cases h
    · cases h
theorem asks_valid {s : ASt} {ops : Array Oper} {j : Nat} {v v' : Value} (h : asksA P X s ops j = some (v, v')) (hv : v = v') : Valid P X s.w ops s.fr.tm j := by
  unfold asksA at h
  split at h
  · cases h
  · cases hm : memN s.fr.fn X.asks with
    | false => rw [hm] at h; cases h
    | true =>
      rw [hm, cond_true] at h
      split at h
      · rename_i o ho
        split at h
        · rename_i d hd
          cases hw : wantedA ops s.fr.tm o && quietOp P o.op with
          | false => rw [hw] at h; cases h
          | true =>
            rw [hw, cond_true] at h
            simp only [Bool.and_eq_true] at hw
            split at h
            · rename_i v0 A0 he
              simp only [Option.some.injEq, Prod.mk.injEq] at h
              obtain ⟨rfl, rfl⟩ := h
              intro o' d' ho' hd'
              rw [ho] at ho'
              cases ho'
              rw [hd] at hd'
              cases hd'
              rw [eval_evalT] at he
              refine And.intro (fun h => absurd hw.1 (by rw [h]; exact Bool.false_ne_true)) (fun _ => ⟨fun _ => ⟨A0, by rw [← hv]; exact he⟩, fun hq => absurd hw.2 (by rw [hq]; exact Bool.false_ne_true)⟩)
            · cases h
        · cases h
      · cases h
theorem recheck_sim {s : ASt} {ops : Array Oper} {i : Nat} {rest : List Nat} {k : List Item} (h : SRel P X f0 base lo m s f csW w) (hm : s.fr.mode = .run) (ht : s.fr.todo = .inRegion ops (i :: rest) :: k)
    (hb : s.fr.dr = true) (hge : ops.toList.length ≤ i) (hrc : Valid P X s.w ops s.fr.tm (i - ops.toList.length)) : Sim P X f0 base cs0 m s.w w (lone f (csW ++ cs0) w) { s with fr := { s.fr with todo := .inRegion ops rest :: k } } := by
  cases h.top.body with
  | plain hd tm todo => rw [hb] at hd; cases hd
  | draw ops' S C rl pl rest' k0 k' hd hmode ta tf hk D =>
    rw [ht] at ta
    simp only [List.cons.injEq, Item.inRegion.injEq] at ta
    obtain ⟨⟨rfl, hl⟩, rfl⟩ := ta
    cases rl with
    | nil =>
      exfalso
      rw [List.nil_append] at hl
      have hp := D.plan
      rw [← hl] at hp
      cases hp with
      | pure _ _ _ g1 => omega
      | alloc _ _ _ g1 => omega
      | effect _ _ _ g1 => omega
    | cons y rl =>
      simp only [List.cons_append, List.cons.injEq] at hl
      obtain ⟨rfl, rfl⟩ := hl
      have hsz : ops.toList.length = ops.size := by simp
      rw [hsz] at hrc
      have D' := D.recheck hrc
      refine ⟨lo, m, f, csW, w, .refl P _, .refl h.rel base, h.rel, h.glob, h.below, ⟨⟨h.top.core.fn, h.top.core.kind, h.top.core.kindOk, h.top.core.mode, h.top.core.round, h.top.core.defers⟩, ?_⟩, h.stk, h.bot.top rfl rfl rfl⟩
      exact .draw ops S C rl pl rest' k k' hd hm rfl tf hk D'
theorem run_says (hX : XOk P X) (hP : POk P) {s : ASt} (h : SRel P X f0 base lo m s f csW w) (hm : s.fr.mode = .run) : Says P X f0 base m s f csW cs0 w (stepD P X s) := by
  have hfm := h.fmode hm
  have plainCase : ∀ {x : Item} {k : List Item}, s.fr.todo = x :: k → (∀ ops l, x ≠ .inRegion ops l) → s.fr.dr = false ∧ ∃ x' k', f.todo = x' :: k' ∧ IRel m x x' ∧ All2 (IRel m) k k' := by
    intro x k ht hx
    have hd := h.dr_false (by rw [ht]; intro ops l k e; cases e; exact hx _ _ rfl)
    obtain ⟨htm, htodo⟩ := h.plain hd
    rw [ht] at htodo
    generalize htf : f.todo = y at htodo
    cases htodo with
    | cons hx hk => exact ⟨hd, _, _, rfl, hx, hk⟩
  cases ht : s.fr.todo with
  | nil =>
    have hd := h.dr_false (by rw [ht]; simp)
    obtain ⟨htm, htodo⟩ := h.plain hd
    rw [ht] at htodo
    have hft : f.todo = [] := by
      generalize f.todo = y at htodo
      cases htodo; rfl
    have e : stepD P X s = leaveA s.fr s.cs s.w none := by (obtain ⟨⟨fn, tm, todo, defers, mode, kind, ro, dr⟩, cs, A⟩ := s; simp only at hm ht; subst hm ht; rfl)
    rw [e]
    exact leave_says h hm hd (by rw [hft]; exact .done)
  | cons x k =>
    cases x with
    | inRegion ops l =>
      cases l with
      | nil =>
        have e : stepD P X s = .next ⟨{ s.fr with todo := k, dr := false }, s.cs, s.w⟩ := by (obtain ⟨⟨fn, tm, todo, defers, mode, kind, ro, dr⟩, cs, A⟩ := s; simp only at hm ht; subst hm ht; rfl)
        rw [e]
        cases h.top.body with
        | plain hd tm todo =>
          obtain ⟨htm, htodo⟩ := h.plain hd
          rw [ht] at htodo
          generalize htf : f.todo = y at htodo
          cases htodo with
          | cons hx hk =>
            obtain ⟨rfl, _⟩ := hx
            have := h.todo (mach := lone f (csW ++ cs0) w) (cs0 := cs0) hd hk (.one (w_end hfm htf))
            have e2 : ({ s.fr with todo := k, dr := false } : AFr) = { s.fr with todo := k } := by
              rw [← hd]
            rw [e2]
            exact this
        | draw ops' S C rl pl rest' k0 k' hd hmode ta tf hk D =>
          rw [ht] at ta
          simp only [List.cons.injEq, Item.inRegion.injEq] at ta
          obtain ⟨⟨rfl, hl⟩, rfl⟩ := ta
          obtain ⟨rfl, rfl⟩ := List.append_eq_nil_iff.1 hl.symm
          exact drawEnd_sim hX h hm tf hk D
      | cons i rest =>
        have e : stepD P X s = (bif s.fr.dr && !Nat.blt i ops.toList.length then
            (match asksA P X s ops (i - ops.toList.length) with
            | some (v, v') => .asks v v' { s with fr := { s.fr with todo := .inRegion ops rest :: k } }
            | none => bif recheckA P X s.fr s.w ops (i - ops.toList.length) then .next { s with fr := { s.fr with todo := .inRegion ops rest :: k } } else .fail "recheck")
          else (match knownA P X s ops i with
            | some (f, args, w) => .calls f args ⟨s.fr, s.cs, w⟩
            | none => (match forkA P X s ops i with
              | some w => .branch [⟨s.fr.finish (.bool true), s.cs, w⟩, ⟨s.fr.finish (.bool false), s.cs, w⟩]
              | none => (match saysA P X s ops i with
              | some (v, v', w) => .asks v v' ⟨s.fr.finish v', s.cs, w⟩
              | none => (match ops.toList[i]? with
              | some o => bif wantedA ops s.fr.tm o then applyA P s.fr s.cs false (execA P X s.fr.eval o s.w) else .next ⟨s.fr.finish undef, s.cs, s.w⟩
              | none => .fail "no operation"))))) := by
          (obtain ⟨⟨fn, tm, todo, defers, mode, kind, ro, dr⟩, cs, A⟩ := s; simp only at hm ht; subst hm ht; rfl)
        rw [e]
        cases hb : (s.fr.dr && !Nat.blt i ops.toList.length) with
        | false =>
          simp only [cond_false]
          have hi : s.fr.dr = false ∨ i < ops.size := by
            cases hdr : s.fr.dr with
            | false => exact .inl rfl
            | true =>
              rw [hdr] at hb
              simp only [Bool.true_and, Bool.not_eq_false'] at hb
              exact .inr (by simpa using blt_true.1 hb)
          cases hkn : knownA P X s ops i with
          | some x =>
            obtain ⟨g, args, A'⟩ := x
            exact op_calls hX h hm ht hi hkn
          | none =>
            have hop := oper_says (cs0 := cs0) hX hP h hm ht hi
            cases hfk : forkA P X s ops i with
            | none =>
              cases hsy : saysA P X s ops i with
              | none => exact hop
              | some x =>
                obtain ⟨v, v', A'⟩ := x
                obtain ⟨o, h1, h2, h3⟩ := saysA_some hsy
                rw [h1] at hop
                simp only [h2, cond_true, h3] at hop
                intro hv
                subst hv
                exact hop
            | some A' =>
              obtain ⟨o, b, h1, h2, h3⟩ := forkA_some hfk
              rw [h1] at hop
              simp only [h2, cond_true, h3] at hop
              cases b with
              | true => exact ⟨_, .head _, hop⟩
              | false => exact ⟨_, .tail _ (.head _), hop⟩
        | true =>
          simp only [cond_true]
          simp only [Bool.and_eq_true, Bool.not_eq_true'] at hb
          have hge := blt_false.1 hb.2
          have key : Valid P X s.w ops s.fr.tm (i - ops.toList.length) → Sim P X f0 base cs0 m s.w w (lone f (csW ++ cs0) w) { s with fr := { s.fr with todo := .inRegion ops rest :: k } } := fun hrc => recheck_sim h hm ht hb.1 hge hrc
          cases hak : asksA P X s ops (i - ops.toList.length) with
          | some x =>
            obtain ⟨v, v'⟩ := x
            exact fun hv => key (asks_valid hak hv)
          | none =>
            cases hrc : recheckA P X s.fr s.w ops (i - ops.toList.length) with
            | false => trivial
            | true => exact key (recheck_valid hrc)
    | code c =>
      obtain ⟨hd, x', k', htf, hx, hk⟩ := plainCase ht (by intro ops l e; cases e)
      obtain ⟨rfl, hc⟩ := hx
      have go : ∀ {j j' : List Item}, All2 (IRel m) j j' → step P (lone f (csW ++ cs0) w) = .next (lone { f with todo := j' } (csW ++ cs0) w) → stepD P X s = .next ⟨{ s.fr with todo := j }, s.cs, s.w⟩ →
          Says P X f0 base m s f csW cs0 w (stepD P X s) := by
        intro j j' hj hst e
        rw [e]
        exact h.todo hd hj (.one hst)
      have lv : ∀ {jump : Option Code}, Jump f.todo jump → stepD P X s = leaveA s.fr s.cs s.w jump → Says P X f0 base m s f csW cs0 w (stepD P X s) := by
        intro jump hj e
        rw [e]
        exact leave_says h hm hd hj
      cases c with
      | skip => exact go hk (w_skip hfm htf) (by (obtain ⟨⟨fn, tm, todo, defers, mode, kind, ro, dr⟩, cs, A⟩ := s; simp only at hm ht; subst hm ht; rfl))
      | label l => exact go hk (w_label hfm htf) (by (obtain ⟨⟨fn, tm, todo, defers, mode, kind, ro, dr⟩, cs, A⟩ := s; simp only at hm ht; subst hm ht; rfl))
      | seq a b =>
        simp only [codeOk, Bool.and_eq_true] at hc
        exact go (j := .code a :: .code b :: k) (j' := .code a :: .code b :: k') (.cons ⟨rfl, hc.1⟩ (.cons ⟨rfl, hc.2⟩ hk)) (w_seq hfm htf) (by (obtain ⟨⟨fn, tm, todo, defers, mode, kind, ro, dr⟩, cs, A⟩ := s; simp only at hm ht; subst hm ht; rfl))
      | cond c a b =>
        simp only [codeOk, Bool.and_eq_true] at hc
        obtain ⟨htm, _⟩ := h.plain hd
        have hv : VRel m (s.fr.eval c) (f.eval c) := by
          rw [eval_evalT, eval_evalW]
          exact evalT_rel h.glob hc.1 fun t _ => htm.val t
        cases hfk : memN s.fr.fn X.forks with
        | true =>
          cases he : s.fr.eval c with
          | bool t =>
            rw [he] at hv
            have hfe : f.eval c = .bool t := by
              generalize f.eval c = y at hv
              cases hv; rfl
            have e : stepD P X s = .branch [{ s with fr := { s.fr with todo := .code a :: k } }, { s with fr := { s.fr with todo := .code b :: k } }] := by (obtain ⟨⟨fn, tm, todo, defers, mode, kind, ro, dr⟩, cs, A⟩ := s; simp only at hm ht hfk; subst hm ht; unfold stepD; simp only [he, hfk, cond_true])
            rw [e]
            cases t with
            | true => exact ⟨_, .head _, h.todo hd (show All2 (IRel m) (.code a :: k) (.code a :: k') from .cons ⟨rfl, hc.2.1⟩ hk) (.one (w_cond hfm htf hfe))⟩
            | false => exact ⟨_, .tail _ (.head _), h.todo hd (show All2 (IRel m) (.code b :: k) (.code b :: k') from .cons ⟨rfl, hc.2.2⟩ hk) (.one (w_cond hfm htf hfe))⟩
          | _ =>
            have e : stepD P X s = .fail "cond" := by (obtain ⟨⟨fn, tm, todo, defers, mode, kind, ro, dr⟩, cs, A⟩ := s; simp only at hm ht hfk; subst hm ht; unfold stepD; simp only [he, hfk, cond_true])
            rw [e]
            trivial
        | false =>
          cases he : s.fr.eval c with
          | bool t =>
            rw [he] at hv
            have hfe : f.eval c = .bool t := by
              generalize f.eval c = y at hv
              cases hv; rfl
            have hcc : codeOk P (if t then a else b) = true := by cases t; exact hc.2.2; exact hc.2.1
            refine go (j := .code (bif t then a else b) :: k) (j' := .code (if t then a else b) :: k') ?_ (w_cond hfm htf hfe) (by (obtain ⟨⟨fn, tm, todo, defers, mode, kind, ro, dr⟩, cs, A⟩ := s; simp only at hm ht hfk; subst hm ht; unfold stepD; simp only [hfk, cond_false]; unfold stepA; simp only [he]))
            have : (bif t then a else b) = if t then a else b := by cases t <;> rfl
            rw [this]
            exact .cons ⟨rfl, hcc⟩ hk
          | _ =>
            have e : stepD P X s = .fail "cond" := by (obtain ⟨⟨fn, tm, todo, defers, mode, kind, ro, dr⟩, cs, A⟩ := s; simp only at hm ht hfk; subst hm ht; unfold stepD; simp only [hfk, cond_false]; unfold stepA; simp only [he])
            rw [e]
            trivial
      | block id b => exact go (j := .code b :: .inBlock id :: k) (j' := .code b :: .inBlock id :: k') (.cons ⟨rfl, hc⟩ (.cons rfl hk)) (w_block hfm htf) (by (obtain ⟨⟨fn, tm, todo, defers, mode, kind, ro, dr⟩, cs, A⟩ := s; simp only at hm ht; subst hm ht; rfl))
      | loop b => exact go (j := .code b :: .inLoop b :: k) (j' := .code b :: .inLoop b :: k') (.cons ⟨rfl, hc⟩ (.cons ⟨rfl, hc⟩ hk)) (w_loop hfm htf) (by (obtain ⟨⟨fn, tm, todo, defers, mode, kind, ro, dr⟩, cs, A⟩ := s; simp only at hm ht; subst hm ht; rfl))
      | scope b => exact go (j := .code b :: .inScope b :: k) (j' := .code b :: .inScope b :: k') (.cons ⟨rfl, hc⟩ (.cons ⟨rfl, hc⟩ hk)) (w_scope hfm htf) (by (obtain ⟨⟨fn, tm, todo, defers, mode, kind, ro, dr⟩, cs, A⟩ := s; simp only at hm ht; subst hm ht; rfl))
      | exit id =>
        have hex := exitTo_rel id hk
        cases hq : exitToA id k with
        | none =>
          rw [hq] at hex
          exact lv (jump := some (.exit id)) (by rw [htf]; exact .exit id k' hex) (by (obtain ⟨⟨fn, tm, todo, defers, mode, kind, ro, dr⟩, cs, A⟩ := s; simp only at hm ht; subst hm ht; unfold stepD stepA; simp only [hq]; rfl))
        | some r =>
          rw [hq] at hex
          obtain ⟨r', h1, h2⟩ := hex
          exact go h2 (w_exit hfm htf h1) (by (obtain ⟨⟨fn, tm, todo, defers, mode, kind, ro, dr⟩, cs, A⟩ := s; simp only at hm ht; subst hm ht; unfold stepD stepA; simp only [hq]))
      | goto l =>
        have hex := gotoIn_rel l hk
        cases hq : gotoIn l k with
        | none =>
          rw [hq] at hex
          exact lv (jump := some (.goto l)) (by rw [htf]; exact .goto l k' hex) (by (obtain ⟨⟨fn, tm, todo, defers, mode, kind, ro, dr⟩, cs, A⟩ := s; simp only at hm ht; subst hm ht; unfold stepD stepA; simp only [hq]; rfl))
        | some r =>
          rw [hq] at hex
          obtain ⟨r', h1, h2⟩ := hex
          exact go h2 (w_goto hfm htf h1) (by (obtain ⟨⟨fn, tm, todo, defers, mode, kind, ro, dr⟩, cs, A⟩ := s; simp only at hm ht; subst hm ht; unfold stepD stepA; simp only [hq]))
      | ret => exact lv (jump := some .ret) (by rw [htf]; exact .ret k') (by (obtain ⟨⟨fn, tm, todo, defers, mode, kind, ro, dr⟩, cs, A⟩ := s; simp only at hm ht; subst hm ht; rfl))
      | refuse y =>
        have e : stepD P X s = .fail ("refused " ++ y) := by (obtain ⟨⟨fn, tm, todo, defers, mode, kind, ro, dr⟩, cs, A⟩ := s; simp only at hm ht; subst hm ht; rfl)
        rw [e]
        trivial
      | rangeFunc g ps assign body =>
        have e : stepD P X s = stepA P X s := by (obtain ⟨⟨fn, tm, todo, defers, mode, kind, ro, dr⟩, cs, A⟩ := s; simp only at hm ht; subst hm ht; rfl)
        rw [e]
        exact rangeFunc_says hX hP h hm hd ht
      | region id ops draw =>
        cases draw with
        | false =>
          refine go (j := .inRegion ops (List.range ops.toList.length) :: k) (j' := .inRegion ops (List.range ops.size) :: k') ?_ (w_region hfm htf) (by (obtain ⟨⟨fn, tm, todo, defers, mode, kind, ro, dr⟩, cs, A⟩ := s; simp only at hm ht; subst hm ht; rfl))
          exact .cons ⟨by simp, hc⟩ hk
        | true =>
          cases hin : dstsIn s.fr.tm.sz ops.toList with
          | false =>
            have e : stepD P X s = .fail "no slot" := by (obtain ⟨⟨fn, tm, todo, defers, mode, kind, ro, dr⟩, cs, A⟩ := s; simp only at hm ht; subst hm ht; unfold stepD; simp only at hin; simp only [hin, cond_false])
            rw [e]
            trivial
          | true =>
            cases hp : planA P ops.toList with
            | none =>
              have e : stepD P X s = .fail "no plan" := by (obtain ⟨⟨fn, tm, todo, defers, mode, kind, ro, dr⟩, cs, A⟩ := s; simp only at hm ht; subst hm ht; unfold stepD; simp only at hin; simp only [hin, cond_true, hp])
              rw [e]
              trivial
            | some p =>
              have e : stepD P X s = .next { s with fr := { s.fr with todo := .inRegion ops p :: k, dr := true } } := by (obtain ⟨⟨fn, tm, todo, defers, mode, kind, ro, dr⟩, cs, A⟩ := s; simp only at hm ht; subst hm ht; unfold stepD; simp only at hin; simp only [hin, cond_true, hp])
              rw [e]
              exact drawStart_sim hP h hm hd ht hin hp
    | inBlock id =>
      obtain ⟨hd, x', k', htf, hx, hk⟩ := plainCase ht (by intro ops l e; cases e)
      have hx : x' = .inBlock id := hx
      subst hx
      have e : stepD P X s = .next ⟨{ s.fr with todo := k }, s.cs, s.w⟩ := by (obtain ⟨⟨fn, tm, todo, defers, mode, kind, ro, dr⟩, cs, A⟩ := s; simp only at hm ht; subst hm ht; rfl)
      rw [e]
      exact h.todo hd hk (.one (w_inBlock hfm htf))
    | inScope b =>
      obtain ⟨hd, x', k', htf, hx, hk⟩ := plainCase ht (by intro ops l e; cases e)
      obtain ⟨rfl, _⟩ := hx
      have e : stepD P X s = .next ⟨{ s.fr with todo := k }, s.cs, s.w⟩ := by (obtain ⟨⟨fn, tm, todo, defers, mode, kind, ro, dr⟩, cs, A⟩ := s; simp only at hm ht; subst hm ht; rfl)
      rw [e]
      exact h.todo hd hk (.one (w_inScope hfm htf))
    | inLoop b =>
      obtain ⟨hd, x', k', htf, hx, hk⟩ := plainCase ht (by intro ops l e; cases e)
      obtain ⟨rfl, hb⟩ := hx
      have e : stepD P X s = .next ⟨{ s.fr with todo := .code b :: .inLoop b :: k }, s.cs, s.w⟩ := by (obtain ⟨⟨fn, tm, todo, defers, mode, kind, ro, dr⟩, cs, A⟩ := s; simp only at hm ht; subst hm ht; rfl)
      rw [e]
      exact h.todo hd (.cons ⟨rfl, hb⟩ (.cons ⟨rfl, hb⟩ hk)) (.one (w_inLoop hfm htf))
    | inRangeFunc l =>
      have e : stepD P X s = .fail "todo" := by (obtain ⟨⟨fn, tm, todo, defers, mode, kind, ro, dr⟩, cs, A⟩ := s; simp only at hm ht; subst hm ht; rfl)
      rw [e]
      trivial
    | call d wr rs sv =>
      have e : stepD P X s = .fail "todo" := by (obtain ⟨⟨fn, tm, todo, defers, mode, kind, ro, dr⟩, cs, A⟩ := s; simp only at hm ht; subst hm ht; rfl)
      rw [e]
      trivial
    | extern r a =>
      have e : stepD P X s = .fail "todo" := by (obtain ⟨⟨fn, tm, todo, defers, mode, kind, ro, dr⟩, cs, A⟩ := s; simp only at hm ht; subst hm ht; rfl)
      rw [e]
      trivial
    | beginRound =>
      obtain ⟨hd, x', k', htf, hx, hk⟩ := plainCase ht (by intro ops l e; cases e)
      have e : stepD P X s = (match s.fr.roundOf with
        | some l => (match s.w.get l with
          | some (.loop r) => (match r.state with
            | .ready => AOut.next ⟨s.fr.finish undef, s.cs, s.w.put l (.loop { r with state := .busy })⟩
            | _ => .fail "beginRound")
          | _ => .fail "beginRound")
        | none => .fail "beginRound") := by (obtain ⟨⟨fn, tm, todo, defers, mode, kind, ro, dr⟩, cs, A⟩ := s; simp only at hm ht; subst hm ht; rfl)
      rw [e]
      refine .of_goes ?_ fun s' hs' => beginRound_sim h hm hd ht hs'
      repeat' split
      all_goals trivial
    | endRangeFunc l =>
      obtain ⟨hd, x', k', htf, hx, hk⟩ := plainCase ht (by intro ops l e; cases e)
      have e : stepD P X s = (match s.w.get l with
        | some (.loop r) => (match r.state with
          | .busy => AOut.fail "endLoop"
          | _ => .next ⟨{ s.fr with todo := (match r.pending with | some c => .code c :: k | none => k) }, s.cs, s.w.put l (.loop { r with state := .exhausted })⟩)
        | _ => .fail "endLoop") := by (obtain ⟨⟨fn, tm, todo, defers, mode, kind, ro, dr⟩, cs, A⟩ := s; simp only at hm ht; subst hm ht; rfl)
      rw [e]
      refine .of_goes ?_ fun s' hs' => endRange_sim h hm hd ht hs'
      repeat' split
      all_goals trivial
end
section
variable {P : Program} {X : XNames} {f0 : FuncId} {base lo : Nat} {m : Inj P} {A : AW} {w : World} {fr : AFr} {cs : List AFr} {f : Frame} {csW cs0 : List Frame}
theorem unwind_says (hX : XOk P X) (hP : POk P) {s : ASt} (h : SRel P X f0 base lo m s f csW w) (hm : s.fr.mode ≠ .run) : Says P X f0 base m s f csW cs0 w (stepD P X s) := by
  have hdr := h.top.plainOf hm
  obtain ⟨htm, htodo⟩ := h.plain hdr
  cases hd : s.fr.defers with
  | cons d ds =>
    by_cases hcol : ∃ b, d.target = .collected b
    · obtain ⟨b, hb⟩ := hcol
      obtain ⟨tg, args⟩ := d
      simp only at hb
      subst hb
      cases hg : s.w.get b with
      | some o =>
        cases o with
        | deferred calls =>
          cases calls with
          | some calls =>
            have e : stepD P X s = .next ⟨{ s.fr with defers := calls ++ ds }, s.cs, s.w.put b (.deferred none)⟩ := by
              (obtain ⟨⟨fn, tm, todo, defers, mode, kind, ro, dr⟩, cs, A⟩ := s; simp only at hm hd hg; subst hd; cases mode <;> first | exact absurd rfl hm | (unfold stepD stepA; simp only [hg]))
            rw [e]
            exact collected_sim h hm hd hg
          | none =>
            have e : stepD P X s = .fail "takeDeferred" := by
              (obtain ⟨⟨fn, tm, todo, defers, mode, kind, ro, dr⟩, cs, A⟩ := s; simp only at hm hd hg; subst hd; cases mode <;> first | exact absurd rfl hm | (unfold stepD stepA; simp only [hg]))
            rw [e]; trivial
        | _ =>
          have e : stepD P X s = .fail "takeDeferred" := by
            (obtain ⟨⟨fn, tm, todo, defers, mode, kind, ro, dr⟩, cs, A⟩ := s; simp only at hm hd hg; subst hd; cases mode <;> first | exact absurd rfl hm | (unfold stepD stepA; simp only [hg]))
          rw [e]; trivial
      | none =>
        have e : stepD P X s = .fail "takeDeferred" := by
          (obtain ⟨⟨fn, tm, todo, defers, mode, kind, ro, dr⟩, cs, A⟩ := s; simp only at hm hd hg; subst hd; cases mode <;> first | exact absurd rfl hm | (unfold stepD stepA; simp only [hg]))
        rw [e]; trivial
    · have hnc : ∀ b, d.target ≠ .collected b := fun b hb => hcol ⟨b, hb⟩
      by_cases hnil : d.target = .nil
      · have e : stepD P X s = .fail "nil deferred" := by
          (obtain ⟨⟨fn, tm, todo, defers, mode, kind, ro, dr⟩, cs, A⟩ := s; obtain ⟨tg, ar⟩ := d; simp only at hm hd hnil; subst hd hnil; cases mode <;> first | exact absurd rfl hm | rfl)
        rw [e]; trivial
      · have e : stepD P X s = applyA P { s.fr with defers := ds } s.cs true (invokeA P X s.w d.target d.args.toList) := by
          (obtain ⟨⟨fn, tm, todo, defers, mode, kind, ro, dr⟩, cs, A⟩ := s; obtain ⟨tg, ar⟩ := d; simp only at hm hd hnil hnc; subst hd; cases mode <;> first | exact absurd rfl hm | (cases tg <;> first | exact absurd rfl (hnc _) | exact absurd rfl hnil | rfl))
        rw [e]
        exact .of_goes applyT_goes fun s' hs' => deferred_sim hX hP h hm hd hnc hs'
  | nil =>
    cases hmode : s.fr.mode with
    | run => exact absurd hmode hm
    | panicking chain =>
      cases hcs : s.cs with
      | nil =>
        have e : stepD P X s = .died chain s.w := by
          (obtain ⟨⟨fn, tm, todo, defers, mode, kind, ro, dr⟩, cs, A⟩ := s; simp only at hd hmode hcs; subst hd hmode hcs; rfl)
        rw [e]; trivial
      | cons c rest =>
        cases hc : c.dr with
        | true =>
          have e : stepD P X s = .fail "raise into a drawn region" := by
            (obtain ⟨⟨fn, tm, todo, defers, mode, kind, ro, dr⟩, cs, A⟩ := s; simp only at hd hmode hcs; subst hd hmode hcs; unfold stepD stepA; simp only [hc, cond_true])
          rw [e]; trivial
        | false =>
          have e : stepD P X s = .next ⟨c.raise chain, rest, s.w⟩ := by
            (obtain ⟨⟨fn, tm, todo, defers, mode, kind, ro, dr⟩, cs, A⟩ := s; simp only at hd hmode hcs; subst hd hmode hcs; unfold stepD stepA; simp only [hc, cond_false])
          rw [e]
          exact raise_sim h hmode hd hcs hc
    | returning =>
      cases hf : P.funcs[s.fr.fn]? with
      | none =>
        have e : stepD P X s = .fail "unwind fn" := by
          (obtain ⟨⟨fn, tm, todo, defers, mode, kind, ro, dr⟩, cs, A⟩ := s; simp only at hd hmode hf; subst hd hmode; unfold stepD stepA; simp only [hf])
        rw [e]; trivial
      | some fn0 =>
        cases hr : resultsA P s.w fn0 s.fr.tm with
        | none =>
          have e : stepD P X s = .fail "results" := by
            (obtain ⟨⟨fn, tm, todo, defers, mode, kind, ro, dr⟩, cs, A⟩ := s; simp only at hd hmode hf hr; subst hd hmode; unfold stepD stepA; simp only [hf, hr])
          rw [e]; trivial
        | some v =>
          cases hcs : s.cs with
          | cons c rest =>
            have e : stepD P X s = doReturnA s.fr (c :: rest) v s.w := by
              (obtain ⟨⟨fn, tm, todo, defers, mode, kind, ro, dr⟩, cs, A⟩ := s; simp only at hd hmode hf hr hcs; subst hd hmode hcs; unfold stepD stepA; simp only [hf, hr])
            rw [e]
            exact .of_goes (doReturn_goes _ _ _ _) fun s' hs' => return_sim h hmode hd hf hr hcs hs'
          | nil =>
            have e : stepD P X s = .done v s.w := by
              (obtain ⟨⟨fn, tm, todo, defers, mode, kind, ro, dr⟩, cs, A⟩ := s; simp only at hd hmode hf hr hcs; subst hd hmode hcs; unfold stepD stepA; simp only [hf, hr])
            rw [e]
            have hb := h.bot
            rw [hcs] at hb
            have hstk := h.stk
            rw [hcs] at hstk
            obtain ⟨v', g1, g2⟩ := results_sound h.rel htm hr
            refine ⟨rfl, ?_, v', g2, ⟨?_, ?_, h.top.core.kind.trans hb.1, fn0, by rw [h.top.core.fn]; exact hf, g1⟩, h.top.core.fn.trans hb.2.1⟩
            · generalize csW = y at hstk
              cases hstk; rfl
            · have := h.top.core.mode
              rw [hmode] at this
              generalize f.mode = u at this
              cases this; rfl
            · have := h.top.core.defers
              rw [hd] at this
              generalize f.defers = u at this
              cases this; rfl
theorem step_says (hX : XOk P X) (hP : POk P) {s : ASt} (h : SRel P X f0 base lo m s f csW w) : Says P X f0 base m s f csW cs0 w (stepD P X s) := by
  by_cases hm : s.fr.mode = .run
  · exact run_says hX hP h hm
  · exact unwind_says hX hP h hm
end
section
variable {P : Program} {X : XNames} {W0 : World} {m0 : Inj P}
structure Old (W0 : World) (m0 m : Inj P) (A : AW) (w : World) : Prop where
  le : m0.le m
  below : Go.RowKit.Below W0.heap.size W0 w
  own : ∀ c, c < W0.heap.size → ¬ Own m A c
theorem Old.next {m m' : Inj P} {A A' : AW} {w w' : World} {lo : Nat} (h : Old W0 m0 m A w) (e : EvL lo m A w m' A' w') : Old W0 m0 m' A' w' := by
  have hs := h.below.size
  refine ⟨h.le.trans e.ext, ⟨e.os.trans h.below.os, e.tape.trans h.below.tape, e.output.trans h.below.output, Nat.le_trans hs e.size, fun k hk => ?_⟩, fun c hc ho => ?_⟩
  · rw [e.keep k (by omega) (h.own k hk), h.below.block k hk]
  · exact h.own c hc (e.own c (by omega) ho)
def Reach (P : Program) (X : XNames) (W0 : World) (m0 : Inj P) (s : ASt) (L : List ASt) : Prop :=
  ∀ (f0 : FuncId) (base lo : Nat) (cs0 : List Frame) (m : Inj P) (f : Frame) (csW : List Frame) (w : World), SRel P X f0 base lo m s f csW w → Old W0 m0 m s.w w → ∃ s' ∈ L, Sim P X f0 base cs0 m s.w w (lone f (csW ++ cs0) w) s'
def Res (P : Program) (X : XNames) (W0 : World) (m0 : Inj P) (s : ASt) (l : List (Value × AW)) : Prop :=
  ∀ (f0 : FuncId) (base lo : Nat) (cs0 : List Frame) (m : Inj P) (f : Frame) (csW : List Frame) (w : World), SRel P X f0 base lo m s f csW w → Old W0 m0 m s.w w →
    ∃ x ∈ l, ∃ v' m' w' f', Steps P (lone f (csW ++ cs0) w) (lone f' cs0 w') ∧ VRel m' x.1 v' ∧ EvL base m s.w w m' x.2 w' ∧ f'.leaving P w' (.returned v') ∧ f'.fn = f0
theorem Reach.refl (s : ASt) : Reach P X W0 m0 s [s] := fun f0 base lo cs0 m f csW w h _ => ⟨s, by simp, h.sim (.refl P _) (.refl h.rel base)⟩
theorem Sim.trans {f0 : FuncId} {base : Nat} {cs0 : List Frame} {m : Inj P} {A : AW} {w : World} {mach : Machine} {s : ASt} {L : List ASt} (h : Sim P X f0 base cs0 m A w mach s) (hr : Reach P X W0 m0 s L) (ho : Old W0 m0 m A w) : ∃ s' ∈ L, Sim P X f0 base cs0 m A w mach s' := by
  obtain ⟨lo1, m1, f1, cs1, w1, t1, t2, t3⟩ := h
  obtain ⟨s', hs', lo2, m2, f2, cs2, w2, u1, u2, u3⟩ := hr f0 base lo1 cs0 m1 f1 cs1 w1 t3 (ho.next t2)
  exact ⟨s', hs', lo2, m2, f2, cs2, w2, t1.trans u1, t2.trans u2, u3⟩
theorem Reach.trans {s : ASt} {L L' : List ASt} (h : Reach P X W0 m0 s L) (h' : ∀ x ∈ L, Reach P X W0 m0 x L') : Reach P X W0 m0 s L' := by
  intro f0 base lo cs0 m f csW w hr ho
  obtain ⟨s', hs', hsim⟩ := h f0 base lo cs0 m f csW w hr ho
  exact hsim.trans (h' s' hs') ho
theorem Reach.res {s : ASt} {L : List ASt} {l : List (Value × AW)} (h : Reach P X W0 m0 s L) (h' : ∀ x ∈ L, Res P X W0 m0 x l) : Res P X W0 m0 s l := by
  intro f0 base lo cs0 m f csW w hr ho
  obtain ⟨s', hs', lo1, m1, f1, cs1, w1, t1, t2, t3⟩ := h f0 base lo cs0 m f csW w hr ho
  obtain ⟨x, hx, v', m', w', f', u1, u2, u3, u4, u5⟩ := h' s' hs' f0 base lo1 cs0 m1 f1 cs1 w1 t3 (ho.next t2)
  exact ⟨x, hx, v', m', w', f', t1.trans u1, u2, t2.trans u3, u4, u5⟩
theorem Res.mono {s : ASt} {l l' : List (Value × AW)} (h : Res P X W0 m0 s l) (hl : ∀ x ∈ l, x ∈ l') : Res P X W0 m0 s l' := by
  intro f0 base lo cs0 m f csW w hr ho
  obtain ⟨x, hx, r⟩ := h f0 base lo cs0 m f csW w hr ho
  exact ⟨x, hl x hx, r⟩
theorem reach_next (hX : XOk P X) (hP : POk P) {s s' : ASt} (h : stepD P X s = .next s') : Reach P X W0 m0 s [s'] := by
  intro f0 base lo cs0 m f csW w hr _
  have hs := step_says (cs0 := cs0) hX hP hr
  rw [h] at hs
  exact ⟨s', by simp, hs⟩
theorem reach_branch (hX : XOk P X) (hP : POk P) {s : ASt} {l : List ASt} (h : stepD P X s = .branch l) : Reach P X W0 m0 s l := by
  intro f0 base lo cs0 m f csW w hr _
  have hs := step_says (cs0 := cs0) hX hP hr
  rw [h] at hs
  exact hs
theorem res_done (hX : XOk P X) (hP : POk P) {s : ASt} {v : Value} {A : AW} (h : stepD P X s = .done v A) : Res P X W0 m0 s [(v, A)] := by
  intro f0 base lo cs0 m f csW w hr _
  have hs := step_says (cs0 := cs0) hX hP hr
  rw [h] at hs
  obtain ⟨rfl, rfl, v', g1, g2, g3⟩ := hs
  exact ⟨(v, s.w), by simp, v', m, w, f, .refl P _, g1, .refl hr.rel base, g2, g3⟩
theorem reach_sub {fr c : AFr} {rest : List AFr} {A : AW} {l : List (Value × AW)} (hk : fr.kind = .normal) (hro : fr.roundOf = none) (h : Res P X W0 m0 ⟨fr, [], A⟩ l) :
    Reach P X W0 m0 ⟨fr, c :: rest, A⟩ (l.map fun x => ⟨c.finish x.1, rest, x.2⟩) := by
  intro f0 base lo cs0 m f csW w hr ho
  obtain ⟨lo1, g, l', rfl, h1, h2, h3⟩ := hr.stk.inv
  have hbase := hr.stk.base
  have hlo := hr.below
  have hs : SRel P X fr.fn lo lo m ⟨fr, [], A⟩ f [] w := ⟨hr.rel, hr.glob, hr.below, hr.top, .nil lo (Nat.le_refl _), ⟨hk, rfl, hro⟩⟩
  obtain ⟨x, hx, v', m', w', f', u1, u2, u3, u4, u5⟩ := h fr.fn lo lo (g :: l' ++ cs0) m f [] w hs ho
  refine ⟨_, List.mem_map.2 ⟨x, hx, rfl⟩, lo1, m', g.finish v', l', w', ?_, u3.weak hbase, u3.rel, hr.glob.mono u3.ext, ?_, ?_, ?_, ?_⟩
  · exact u1.trans (.one (step_leave_returned u4))
  · have := u3.next
    show lo1 ≤ x.2.next
    have : A.next ≤ x.2.next := u3.next
    have : lo ≤ A.next := hlo
    omega
  · refine (h2.mono (A' := x.2) u3.ext (fun i hi => u3.same i hi) (Nat.le_refl lo)).finish u2 ?_
    have : A.next ≤ x.2.next := u3.next
    have : lo ≤ A.next := hlo
    show lo ≤ x.2.next
    omega
  · exact h3.mono u3.ext fun i hi => u3.same i (by omega)
  · have hb : Bot f0 (c :: rest) := hr.bot
    exact hb.finish x.1
def sameEs : List MapEntry → List MapEntry → Bool
  | [], [] => true
  | a :: r, b :: s => sameV 6 a.key b.key && (sameV 6 a.val b.val && (Nat.beq a.born b.born && sameEs r s))
  | _, _ => false
def sameNs : List Nat → List Nat → Bool
  | [], [] => true
  | a :: r, b :: s => Nat.beq a b && sameNs r s
  | _, _ => false
def sameON : Option Nat → Option Nat → Bool
  | none, none => true
  | some a, some b => Nat.beq a b
  | _, _ => false
def sameC (a b : Value) : Bool := sameV 6 a b
def sameAO : AO → AO → Bool
  | .row cs e f b ro, .row cs' e' f' b' ro' => Nat.beq e e' && (Nat.beq f f' && (Nat.beq b b' && ((ro == ro') && sameL sameC cs cs')))
  | .map es c ro, .map es' c' ro' => Nat.beq c c' && ((ro == ro') && sameEs es es')
  | .sit s p, .sit s' p' => Nat.beq p p' && sameBytes s.data.toList s'.data.toList
  | .mit m a l c, .mit m' a' l' c' => sameON m m' && (Nat.beq a a' && (sameNs l l' && Nat.beq c c'))
  | _, _ => false
theorem sameEs_eq : ∀ {a b : List MapEntry}, sameEs a b = true → a = b
  | [], [], _ => rfl
  | a :: r, b :: s, h => by
    simp only [sameEs, Bool.and_eq_true] at h
    obtain ⟨h1, h2, h3, h4⟩ := h
    have e1 := sameV_eq _ _ _ h1
    have e2 := sameV_eq _ _ _ h2
    have e3 := Nat.eq_of_beq_eq_true h3
    cases a; cases b
    simp only at e1 e2 e3
    subst e1 e2 e3
    rw [sameEs_eq h4]
  | [], _ :: _, h => by simp [sameEs] at h
  | _ :: _, [], h => by simp [sameEs] at h
theorem sameNs_eq : ∀ {a b : List Nat}, sameNs a b = true → a = b
  | [], [], _ => rfl
  | a :: r, b :: s, h => by
    simp only [sameNs, Bool.and_eq_true] at h
    rw [Nat.eq_of_beq_eq_true h.1, sameNs_eq h.2]
  | [], _ :: _, h => by simp [sameNs] at h
  | _ :: _, [], h => by simp [sameNs] at h
theorem sameON_eq : ∀ {a b : Option Nat}, sameON a b = true → a = b
  | none, none, _ => rfl
  | some a, some b, h => by rw [Nat.eq_of_beq_eq_true h]
  | none, some _, h => by cases h
  | some _, none, h => by cases h
theorem sameAO_eq {a b : AO} (h : sameAO a b = true) : a = b := by
  cases a <;> cases b <;> simp only [sameAO] at h <;> first | (cases h; done) | skip
  case row.row =>
    simp only [Bool.and_eq_true, beq_iff_eq] at h
    obtain ⟨h1, h2, h3, h4, h5⟩ := h
    rw [Nat.eq_of_beq_eq_true h1, Nat.eq_of_beq_eq_true h2, Nat.eq_of_beq_eq_true h3, h4, sameL_eq (f := sameC) (fun a b h => sameV_eq _ _ _ h) h5]
  case map.map =>
    simp only [Bool.and_eq_true, beq_iff_eq] at h
    rw [Nat.eq_of_beq_eq_true h.1, h.2.1, sameEs_eq h.2.2]
  case sit.sit =>
    simp only [Bool.and_eq_true] at h
    rw [Nat.eq_of_beq_eq_true h.1]
    congr 1
    exact ByteArray.ext (Array.toList_inj.1 (sameBytes_eq h.2))
  case mit.mit =>
    simp only [Bool.and_eq_true] at h
    obtain ⟨h1, h2, h3, h4⟩ := h
    rw [sameON_eq h1, Nat.eq_of_beq_eq_true h2, sameNs_eq h3, Nat.eq_of_beq_eq_true h4]
def both : Option AO → Option AO → Option AO
  | some a, some b => bif sameAO a b then some a else none
  | _, _ => none
def meetT : Trie AO → Trie AO → Trie AO
  | .node v l r, .node v' l' r' => .node (both v v') (meetT l l') (meetT r r')
  | _, _ => .nil
def sameFams : Trie (List Nat) → Trie (List Nat) → Bool
  | .nil, .nil => true
  | .node v l r, .node v' l' r' => (match v, v' with | none, none => true | some a, some b => sameNs a b | _, _ => false) && (sameFams l l' && sameFams r r')
  | _, _ => false
theorem both_some {a b : Option AO} {o : AO} (h : both a b = some o) : a = some o ∧ b = some o := by
  cases a with
  | none => cases h
  | some a =>
    cases b with
    | none => cases h
    | some b =>
      simp only [both] at h
      cases hs : sameAO a b with
      | false => rw [hs] at h; cases h
      | true =>
        rw [hs] at h
        cases h
        rw [← sameAO_eq hs]
        exact ⟨rfl, rfl⟩
theorem meetT_get : ∀ (t t' : Trie AO) (i : Nat) (o : AO), (meetT t t').get? i = some o → t.get? i = some o ∧ t'.get? i = some o
  | .nil, _, i, o, h => by simp [meetT, Trie.get?] at h
  | .node _ _ _, .nil, i, o, h => by simp [meetT, Trie.get?] at h
  | .node v l r, .node v' l' r', i, o, h => by
    simp only [meetT, Trie.get?] at h ⊢
    cases h0 : Nat.beq i 0 with
    | true =>
      rw [h0] at h
      exact both_some h
    | false =>
      rw [h0] at h
      simp only [cond_false] at h ⊢
      cases h1 : Nat.beq (i % 2) 1 with
      | true => rw [h1] at h; exact meetT_get l l' _ _ h
      | false => rw [h1] at h; exact meetT_get r r' _ _ h
theorem sameFams_eq : ∀ (t t' : Trie (List Nat)), sameFams t t' = true → t = t'
  | .nil, .nil, _ => rfl
  | .node v l r, .node v' l' r', h => by
    simp only [sameFams, Bool.and_eq_true] at h
    obtain ⟨h1, h2, h3⟩ := h
    rw [sameFams_eq l l' h2, sameFams_eq r r' h3]
    cases v <;> cases v' <;> simp only at h1 <;> first | rfl | (cases h1; done) | rw [sameNs_eq h1]
  | .nil, .node _ _ _, h => by simp [sameFams] at h
  | .node _ _ _, .nil, h => by simp [sameFams] at h
structure Less (A' A : AW) : Prop where
  next : A'.next = A.next
  fams : A'.fams = A.fams
  get : ∀ i o, A'.get i = some o → A.get i = some o
theorem Less.refl (A : AW) : Less A A := ⟨rfl, rfl, fun _ _ h => h⟩
theorem Less.trans {A B C : AW} (h : Less A B) (k : Less B C) : Less A C := ⟨h.next.trans k.next, h.fams.trans k.fams, fun i o x => k.get i o (h.get i o x)⟩
theorem Less.ev {m : Inj P} {A A' : AW} {w : World} (h : Less A' A) (r : Rel m A w) : Ev m A w m A' w :=
  Ev.weaken r h.next h.fams fun i o hi => ⟨o, h.get i o hi, rfl, id, id, fun _ _ x => x, fun cs _ _ _ ro he => ⟨cs, ro, he⟩⟩
theorem Res.less {s : ASt} {l l' : List (Value × AW)} (h : Res P X W0 m0 s l) (hl : ∀ x ∈ l, ∃ y ∈ l', y.1 = x.1 ∧ Less y.2 x.2) : Res P X W0 m0 s l' := by
  intro f0 base lo cs0 m f csW w hr ho
  obtain ⟨x, hx, v', m', w', f', u1, u2, u3, u4, u5⟩ := h f0 base lo cs0 m f csW w hr ho
  obtain ⟨y, hy, h1, h2⟩ := hl x hx
  exact ⟨y, hy, v', m', w', f', u1, by rw [h1]; exact u2, u3.trans ((h2.ev u3.rel).low (by have := u3.next; have := hr.stk.base; have := hr.below; omega)), u4, u5⟩
def meet2 (x y : Value × AW) : Option (Value × AW) :=
  bif sameV 6 x.1 y.1 && (Nat.beq x.2.next y.2.next && sameFams x.2.fams y.2.fams) then some (x.1, { x.2 with heap := meetT x.2.heap y.2.heap }) else none
def meetAll (x : Value × AW) : List (Value × AW) → Option (Value × AW)
  | [] => some x
  | y :: r => match meet2 x y with
    | some z => meetAll z r
    | none => none
theorem meet2_spec {x y z : Value × AW} (h : meet2 x y = some z) : (z.1 = x.1 ∧ Less z.2 x.2) ∧ z.1 = y.1 ∧ Less z.2 y.2 := by
  unfold meet2 at h
  cases hc : (sameV 6 x.1 y.1 && (Nat.beq x.2.next y.2.next && sameFams x.2.fams y.2.fams)) with
  | false => rw [hc] at h; cases h
  | true =>
    rw [hc, cond_true, Option.some.injEq] at h
    subst h
    simp only [Bool.and_eq_true] at hc
    obtain ⟨h1, h2, h3⟩ := hc
    have h1 := sameV_eq _ _ _ h1
    have h2 := Nat.eq_of_beq_eq_true h2
    have h3 := sameFams_eq _ _ h3
    exact ⟨⟨rfl, rfl, rfl, fun i o hi => (meetT_get _ _ i o hi).1⟩, h1, h2, h3, fun i o hi => (meetT_get _ _ i o hi).2⟩
theorem meetAll_spec : ∀ {l : List (Value × AW)} {x z : Value × AW}, meetAll x l = some z → ∀ y ∈ x :: l, z.1 = y.1 ∧ Less z.2 y.2
  | [], x, z, h, y, hy => by
    simp only [meetAll, Option.some.injEq] at h
    subst h
    simp at hy
    subst hy
    exact ⟨rfl, .refl _⟩
  | y0 :: r, x, z, h, y, hy => by
    simp only [meetAll] at h
    split at h
    · rename_i z1 hz
      have ih := meetAll_spec h
      obtain ⟨g1, g2⟩ := ih z1 (by simp)
      obtain ⟨⟨k1, k2⟩, k3, k4⟩ := meet2_spec hz
      simp only [List.mem_cons] at hy
      rcases hy with rfl | rfl | hy
      · exact ⟨g1.trans k1, g2.trans k2⟩
      · exact ⟨g1.trans k3, g2.trans k4⟩
      · exact ih y (by simp [hy])
    · cases h
def mapR {α β : Type} (f : α → Option (List β)) : List α → Option (List β)
  | [] => some []
  | a :: r => match f a, mapR f r with
    | some x, some y => some (x ++ y)
    | _, _ => none
def isNormal : CallKind → Bool
  | .normal => true
  | _ => false
theorem isNormal_eq {k : CallKind} (h : isNormal k = true) : k = .normal := by cases k <;> first | rfl | cases h
def apart1 (mg : List FuncId) (s : ASt) : Bool := memN s.fr.fn mg && (isNormal s.fr.kind && (s.fr.roundOf.isNone && !s.cs.isEmpty))
theorem apart1_spec {mg : List FuncId} {s : ASt} (h : apart1 mg s = true) : s.fr.kind = .normal ∧ s.fr.roundOf = none := by
  unfold apart1 at h
  simp only [Bool.and_eq_true, Option.isNone_iff_eq_none] at h
  exact ⟨isNormal_eq h.2.1, h.2.2.1⟩
theorem reach_meet {fr c : AFr} {rest : List AFr} {A : AW} {x y : Value × AW} {l : List (Value × AW)} (hk : fr.kind = .normal) (hro : fr.roundOf = none) (h : Res P X W0 m0 ⟨fr, [], A⟩ (x :: l)) (hm : meetAll x l = some y) :
    Reach P X W0 m0 ⟨fr, c :: rest, A⟩ [⟨c.finish y.1, rest, y.2⟩] := by
  have h' : Res P X W0 m0 ⟨fr, [], A⟩ [y] := h.less fun z hz => ⟨y, by simp, (meetAll_spec hm z hz).1, (meetAll_spec hm z hz).2⟩
  exact reach_sub hk hro h'
structure KC where
  fn : FuncId
  args : List Value
  vals : List Value
def sameFn : Nat := 4194304
structure Low (w w' : World) : Prop where
  below : Go.RowKit.Below w.heap.size w w'
  draws : w.drawn ≤ w'.drawn
def KC.Holds (P : Program) (W0 : World) (m0 : Inj P) (k : KC) : Prop :=
  (k.fn = sameFn → k.args = k.vals) ∧ (k.fn ≠ sameFn → ∀ (m : Inj P) (args' : List Value) (W : World), m0.le m → Go.RowKit.Below W0.heap.size W0 W → VRels m k.args args' → Calls P k.fn ⟨args'⟩ W fun e W' => ∃ v ∈ k.vals, e = .returned v ∧ Low W W')
theorem Rel.grow {m : Inj P} {A : AW} {w w' : World} (r : Rel m A w) (h : Go.RowKit.Below w.heap.size w w') : Rel m A w' := by
  refine ⟨fun i o c d hi hm => ?_, r.home, r.sep, r.mem, r.fresh, r.lim, fun i cs e f b ro c d hi hm => ?_⟩
  · obtain ⟨o', h1, h2⟩ := r.obj i o c d hi hm
    exact ⟨o', by rw [h.block c (r.blockLt hi hm)]; exact h1, h2⟩
  · obtain ⟨g1, cs', e', fr, g2, g3⟩ := r.room i cs e f b ro c d hi hm
    exact ⟨g1, cs', e', fr, by rw [h.block c (r.blockLt hi hm)]; exact g2, g3⟩
theorem EvL.grow {m : Inj P} {A : AW} {w w' : World} (r : Rel m A w) (h : Low w w') (lo : Nat) : EvL lo m A w m A w' :=
  ⟨.refl m, r.grow h.below, h.below.size, h.below.os, h.below.tape, h.below.output, h.draws, fun c hc _ => h.below.block c hc, fun _ _ x => x, Nat.le_refl _, fun _ _ => rfl⟩
theorem reach_calls (hX : XOk P X) (hP : POk P) {s s' : ASt} {g : FuncId} {args vals : List Value} (h : stepD P X s = .calls g args s') (hg : g ≠ sameFn) (hk : KC.Holds P W0 m0 ⟨g, args, vals⟩) (hc : vals.all (closedV 4) = true) :
    Reach P X W0 m0 s (vals.map fun v => ⟨s'.fr.finish v, s'.cs, s'.w⟩) := by
  intro f0 base lo cs0 m f csW w hr ho
  have hs := step_says (cs0 := cs0) hX hP hr
  rw [h] at hs
  obtain ⟨lo', m', f', cs', w', args', t1, t2, t3, t4, t5, t6, t7, t8⟩ := hs
  have ho' := ho.next t2
  obtain ⟨e, w'', fr, ⟨v, hv, rfl, hb⟩, hst, _, hlv⟩ := hk.2 hg m' args' w' ho'.le ho'.below t3 (f' :: (cs' ++ cs0))
  have hst : Steps P (lone (Frame.enter P g ⟨args'⟩ .normal) (f' :: (cs' ++ cs0)) w') (lone fr (f' :: (cs' ++ cs0)) w'') := hst
  have hg := EvL.grow t2.rel hb base
  refine ⟨_, List.mem_map.2 ⟨v, hv, rfl⟩, lo', m', f'.finish v, cs', w'', t1.trans (hst.trans (.one (step_leave_returned hlv))), t2.trans hg, hg.rel, t4, t5, ?_, t7, t8.finish v⟩
  exact t6.finish (closedV_rel 4 v (List.all_eq_true.1 hc v hv)) (Nat.le_refl _)
theorem reach_asks (hX : XOk P X) (hP : POk P) {s s' : ASt} {v v' : Value} (h : stepD P X s = .asks v v' s') (hk : KC.Holds P W0 m0 ⟨sameFn, [v], [v']⟩) : Reach P X W0 m0 s [s'] := by
  intro f0 base lo cs0 m f csW w hr _
  have hs := step_says (cs0 := cs0) hX hP hr
  rw [h] at hs
  have hv := hk.1 rfl
  simp only [List.cons.injEq, and_true] at hv
  exact ⟨s', by simp, hs hv⟩
def mapK {α β : Type} (f : α → Option (List β × List KC)) : List α → Option (List β × List KC)
  | [] => some ([], [])
  | a :: r => match f a, mapK f r with
    | some x, some y => some (x.1 ++ y.1, x.2 ++ y.2)
    | _, _ => none
theorem mapK_spec {α β : Type} {f : α → Option (List β × List KC)} : ∀ {l : List α} {r : List β × List KC}, mapK f l = some r → ∀ a ∈ l, ∃ x, f a = some x ∧ (∀ b ∈ x.1, b ∈ r.1) ∧ ∀ k ∈ x.2, k ∈ r.2
  | [], _, _, a, ha => by simp at ha
  | a0 :: l, r, h, a, ha => by
    simp only [mapK] at h
    split at h
    · rename_i x y hx hy
      simp only [Option.some.injEq] at h
      subst h
      simp only [List.mem_cons] at ha
      rcases ha with rfl | ha
      · exact ⟨x, hx, fun b hb => by simp [hb], fun k hk => by simp [hk]⟩
      · obtain ⟨z, h1, h2, h3⟩ := mapK_spec hy a ha
        exact ⟨z, h1, fun b hb => by simp [h2 b hb], fun k hk => by simp [h3 k hk]⟩
    · cases h
def runR (P : Program) (X : XNames) (mg : List FuncId) (kn : FuncId → List Value) : Nat → ASt → Option (List (Value × AW) × List KC)
  | 0, _ => none
  | n + 1, s => match stepD P X s with
    | .next s' => bif apart1 mg s' then
        (match s'.cs with
        | c :: rest => (match runR P X mg kn n ⟨s'.fr, [], s'.w⟩ with
          | some (x :: l, ks) => (match meetAll x l with
            | some y => (match runR P X mg kn n ⟨c.finish y.1, rest, y.2⟩ with
              | some z => some (z.1, ks ++ z.2)
              | none => none)
            | none => none)
          | _ => none)
        | [] => none)
      else runR P X mg kn n s'
    | .branch l => mapK (runR P X mg kn n) l
    | .asks v v' s' => (match runR P X mg kn n s' with
        | some z => some (z.1, ⟨sameFn, [v], [v']⟩ :: z.2)
        | none => none)
    | .calls g args s' => bif !Nat.beq g sameFn && (kn g).all (closedV 4) then
        (match mapK (fun v => runR P X mg kn n ⟨s'.fr.finish v, s'.cs, s'.w⟩) (kn g) with
        | some z => some (z.1, ⟨g, args, kn g⟩ :: z.2)
        | none => none)
      else none
    | .done v A => some ([(v, A)], [])
    | _ => none
theorem runR_sound (hX : XOk P X) (hP : POk P) {mg : List FuncId} {kn : FuncId → List Value} : ∀ (n : Nat) {s : ASt} {l : List (Value × AW) × List KC}, runR P X mg kn n s = some l → (∀ k ∈ l.2, KC.Holds P W0 m0 k) → Res P X W0 m0 s l.1
  | 0, s, l, h, _ => by cases h
  | n + 1, s, l, h, hK => by
    unfold runR at h
    split at h
    · rename_i s' hs
      cases ha : apart1 mg s' with
      | false =>
        rw [ha] at h
        simp only [cond_false] at h
        exact (reach_next hX hP hs).res fun x hx => by simp at hx; subst hx; exact runR_sound hX hP n h hK
      | true =>
        rw [ha] at h
        simp only [cond_true] at h
        obtain ⟨hk, hro⟩ := apart1_spec ha
        split at h
        · rename_i c rest hcs
          split at h
          · rename_i x l1 ks hr
            split at h
            · rename_i y hy
              split at h
              · rename_i z hz
                simp only [Option.some.injEq] at h
                subst h
                have h1 := runR_sound hX hP n hr (fun k hk => hK k (by simp [hk]))
                have h2 : Reach P X W0 m0 s' [⟨c.finish y.1, rest, y.2⟩] := by
                  obtain ⟨fr, cs, A⟩ := s'
                  simp only at hcs hk hro h1
                  subst hcs
                  exact reach_meet hk hro h1 hy
                refine ((reach_next hX hP hs).trans (L' := [⟨c.finish y.1, rest, y.2⟩]) fun z hz => ?_).res fun z1 hz1 => ?_
                · simp at hz; subst hz; exact h2
                · simp at hz1; subst hz1
                  show Res P X W0 m0 _ z.1
                  exact runR_sound hX hP n hz (fun k hk => hK k (by simp [hk]))
              · cases h
            · cases h
          · cases h
        · cases h
    · rename_i l1 hs
      refine (reach_branch hX hP hs).res fun x hx => ?_
      obtain ⟨l2, h1, h2, h3⟩ := mapK_spec h x hx
      exact (runR_sound hX hP n h1 fun k hk => hK k (h3 k hk)).mono h2
    · rename_i v v' s' hs
      split at h
      · rename_i z hz
        simp only [Option.some.injEq] at h
        subst h
        have h1 : Res P X W0 m0 s' z.1 := runR_sound hX hP n hz (fun k hk => hK k (by simp [hk]))
        exact (reach_asks hX hP hs (hK _ (by simp))).res fun x hx => by simp at hx; subst hx; exact h1
      · cases h
    · rename_i g args s' hs
      cases hc : (!Nat.beq g sameFn && (kn g).all (closedV 4)) with
      | false => rw [hc] at h; cases h
      | true =>
        rw [hc, cond_true] at h
        simp only [Bool.and_eq_true, Bool.not_eq_true'] at hc
        have hg : g ≠ sameFn := fun e => by rw [e, Nat.beq_refl] at hc; exact Bool.noConfusion hc.1
        have hc := hc.2
        split at h
        · rename_i z hz
          simp only [Option.some.injEq] at h
          subst h
          refine (reach_calls hX hP hs hg (hK _ (by simp)) hc).res fun x hx => ?_
          obtain ⟨v, hv, rfl⟩ := List.mem_map.1 hx
          obtain ⟨l2, h1, h2, h3⟩ := mapK_spec hz v hv
          exact Res.mono (runR_sound hX hP n h1 fun k hk => hK k (by simp [h3 k hk])) h2
        · cases h
    · rename_i v A hs
      cases h
      exact res_done hX hP hs
    · cases h
def keepIds (A : AW) : List Nat → Trie AO → Trie AO
  | [], t => t
  | i :: r, t => keepIds A r (t.put depth i (A.get i))
theorem keepIds_get {A : AW} (hA : ∀ i o, A.get i = some o → i < maxId) : ∀ (l : List Nat) (t : Trie AO), (∀ i o, t.get? i = some o → A.get i = some o) → (∀ i ∈ l, i < maxId) → ∀ i o, (keepIds A l t).get? i = some o → A.get i = some o
  | [], t, ht, _ => ht
  | j :: r, t, ht, hl => by
    refine keepIds_get hA r _ (fun i o h => ?_) (fun i hi => hl i (by simp [hi]))
    rw [Trie.get?_put depth t j i (A.get j) (by have := hl j (by simp); unfold depth maxId at *; omega)] at h
    split at h
    · rename_i e; subst e; exact h
    · exact ht i o h
def allSmall : List Nat → Bool
  | [] => true
  | i :: r => Nat.blt i maxId && allSmall r
theorem allSmall_spec : ∀ {l : List Nat}, allSmall l = true → ∀ i ∈ l, i < maxId
  | [], _, i, h => by simp at h
  | j :: r, h, i, hi => by
    simp only [allSmall, Bool.and_eq_true] at h
    simp only [List.mem_cons] at hi
    rcases hi with rfl | hi
    · exact blt_true.1 h.1
    · exact allSmall_spec h.2 i hi
def keepSt (ids : List Nat) (s : ASt) : Option ASt :=
  bif s.fr.dr then none else bif allSmall ids then some ⟨s.fr, s.cs, { s.w with heap := keepIds s.w ids .nil }⟩ else none
theorem reach_less {s : ASt} (hd : s.fr.dr = false) {A' : AW} (hl : ∀ m w, Rel (P := P) m s.w w → Less A' s.w) : Reach P X W0 m0 s [⟨s.fr, s.cs, A'⟩] := by
  intro f0 base lo cs0 m f csW w h _
  have hl := hl m w h.rel
  have hev := hl.ev h.rel
  have hbase := h.stk.base
  have hlo := h.below
  refine ⟨⟨s.fr, s.cs, A'⟩, by simp, lo, m, f, csW, w, .refl P _, hev.low (by omega), hev.rel, h.glob, by show lo ≤ A'.next; rw [hl.next]; exact hlo, ?_, h.stk.mono (.refl m) fun _ _ => rfl, h.bot⟩
  refine ⟨h.top.core, ?_⟩
  obtain ⟨htm, htodo⟩ := h.plain hd
  exact .plain hd htm htodo
theorem reach_keep {ids : List Nat} {s s' : ASt} (h : keepSt ids s = some s') : Reach P X W0 m0 s [s'] := by
  unfold keepSt at h
  cases hd : s.fr.dr with
  | true => rw [hd] at h; cases h
  | false =>
    rw [hd, cond_false] at h
    cases ha : allSmall ids with
    | false => rw [ha] at h; cases h
    | true =>
      rw [ha, cond_true, Option.some.injEq] at h
      subst h
      refine reach_less hd fun m w r => ⟨rfl, rfl, fun i o hi => ?_⟩
      exact keepIds_get (fun i o h => r.ltMax h) ids .nil (fun i o h => by simp [Trie.get?] at h) (allSmall_spec ha) i o hi
def advance (P : Program) (X : XNames) (mg : List FuncId) (kn : FuncId → List Value) (fuel : Nat) : Nat → ASt → List KC → Option (ASt × List KC)
  | 0, s, ks => some (s, ks)
  | n + 1, s, ks => match stepD P X s with
    | .next s' => bif apart1 mg s' then
        (match s'.cs with
        | c :: rest => (match runR P X mg kn fuel ⟨s'.fr, [], s'.w⟩ with
          | some (x :: l, k1) => (match meetAll x l with
            | some y => advance P X mg kn fuel n ⟨c.finish y.1, rest, y.2⟩ (ks ++ k1)
            | none => none)
          | _ => none)
        | [] => none)
      else advance P X mg kn fuel n s' ks
    | .branch [s'] => advance P X mg kn fuel n s' ks
    | .asks v v' s' => advance P X mg kn fuel n s' (ks ++ [⟨sameFn, [v], [v']⟩])
    | .calls g args s' => (match kn g with
      | [v] => bif !Nat.beq g sameFn && closedV 4 v then advance P X mg kn fuel n ⟨s'.fr.finish v, s'.cs, s'.w⟩ (ks ++ [⟨g, args, [v]⟩]) else none
      | _ => none)
    | _ => none
theorem advance_calls {mg : List FuncId} {kn : FuncId → List Value} {fuel : Nat} : ∀ (n : Nat) {s : ASt} {ks : List KC} {r : ASt × List KC}, advance P X mg kn fuel n s ks = some r → ∀ k ∈ ks, k ∈ r.2
  | 0, s, ks, r, h, k, hk => by cases h; exact hk
  | n + 1, s, ks, r, h, k, hk => by
    unfold advance at h
    split at h
    · rename_i s' hs
      cases ha : apart1 mg s' with
      | false => rw [ha] at h; exact advance_calls n h k hk
      | true =>
        rw [ha] at h
        simp only [cond_true] at h
        repeat' split at h
        all_goals first | (cases h; done) | exact advance_calls n h k (by simp [hk])
    · exact advance_calls n h k hk
    · exact advance_calls n h k (by simp [hk])
    · rename_i g _ _ _
      split at h
      · rename_i v _
        cases hc : (!Nat.beq g sameFn && closedV 4 v) with
        | false => rw [hc] at h; cases h
        | true => rw [hc] at h; exact advance_calls n h k (by simp [hk])
      · cases h
    · cases h
theorem advance_sound (hX : XOk P X) (hP : POk P) {mg : List FuncId} {kn : FuncId → List Value} {fuel : Nat} : ∀ (n : Nat) {s : ASt} {ks : List KC} {r : ASt × List KC}, advance P X mg kn fuel n s ks = some r → (∀ k ∈ r.2, KC.Holds P W0 m0 k) → Reach P X W0 m0 s [r.1]
  | 0, s, ks, r, h, _ => by cases h; exact .refl s
  | n + 1, s, ks, t, h, hK => by
    unfold advance at h
    split at h
    · rename_i s' hs
      cases ha : apart1 mg s' with
      | false =>
        rw [ha] at h
        simp only [cond_false] at h
        exact (reach_next hX hP hs).trans fun x hx => by simp at hx; subst hx; exact advance_sound hX hP n h hK
      | true =>
        rw [ha] at h
        simp only [cond_true] at h
        obtain ⟨hk, hro⟩ := apart1_spec ha
        split at h
        · rename_i c rest hcs
          split at h
          · rename_i x l1 k1 hr
            split at h
            · rename_i y hy
              have h1 := runR_sound hX hP fuel hr (fun k hk => hK k (advance_calls n h k (by simp [hk])))
              have h2 : Reach P X W0 m0 s' [⟨c.finish y.1, rest, y.2⟩] := by
                obtain ⟨fr, cs, A⟩ := s'
                simp only at hcs hk hro h1
                subst hcs
                exact reach_meet hk hro h1 hy
              refine ((reach_next hX hP hs).trans (L' := [⟨c.finish y.1, rest, y.2⟩]) fun z hz => ?_).trans fun z hz => ?_
              · simp at hz; subst hz; exact h2
              · simp at hz; subst hz; exact advance_sound hX hP n h hK
            · cases h
          · cases h
        · cases h
    · rename_i s' hs
      exact (reach_branch hX hP hs).trans fun x hx => by simp at hx; subst hx; exact advance_sound hX hP n h hK
    · rename_i v v' s' hs
      exact (reach_asks hX hP hs (hK _ (advance_calls n h _ (by simp)))).trans fun x hx => by simp at hx; subst hx; exact advance_sound hX hP n h hK
    · rename_i g args s' hs
      split at h
      · rename_i v hv
        cases hc : (!Nat.beq g sameFn && closedV 4 v) with
        | false => rw [hc] at h; cases h
        | true =>
          rw [hc, cond_true] at h
          simp only [Bool.and_eq_true, Bool.not_eq_true'] at hc
          have hg : g ≠ sameFn := fun e => by rw [e, Nat.beq_refl] at hc; exact Bool.noConfusion hc.1
          have hc := hc.2
          refine (reach_calls hX hP hs hg (hK ⟨g, args, [v]⟩ (advance_calls n h _ (by simp))) (by simp [hc])).trans fun x hx => ?_
          simp at hx
          subst hx
          exact advance_sound hX hP n h hK
      · cases h
    · cases h
def chunk (P : Program) (X : XNames) (mg : List FuncId) (kn : FuncId → List Value) (fuel n : Nat) (ids : List Nat) (s : ASt) : Option (ASt × List KC) :=
  match advance P X mg kn fuel n s [] with
  | some r => (match keepSt ids r.1 with
    | some s' => some (s', r.2)
    | none => none)
  | none => none
theorem chunk_sound (hX : XOk P X) (hP : POk P) {mg : List FuncId} {kn : FuncId → List Value} {fuel n : Nat} {ids : List Nat} {s s' : ASt} {ks : List KC} (h : chunk P X mg kn fuel n ids s = some (s', ks)) (hK : ∀ k ∈ ks, KC.Holds P W0 m0 k) : Reach P X W0 m0 s [s'] := by
  unfold chunk at h
  split at h
  · rename_i r h1
    split at h
    · rename_i s2 h2
      simp only [Option.some.injEq, Prod.mk.injEq] at h
      obtain ⟨rfl, rfl⟩ := h
      exact (advance_sound hX hP n h1 hK).trans fun x hx => by simp at hx; subst hx; exact reach_keep h2
    · cases h
  · cases h
theorem Reach.one {s s' : ASt} {l : List (Value × AW)} (h : Reach P X W0 m0 s [s']) (h' : Res P X W0 m0 s' l) : Res P X W0 m0 s l := h.res fun x hx => by simp at hx; subst hx; exact h'
def oks (ok : Value → Bool) : List (Value × AW) → Bool
  | [] => true
  | x :: r => ok x.1 && oks ok r
theorem oks_spec {ok : Value → Bool} : ∀ {l : List (Value × AW)}, oks ok l = true → ∀ x ∈ l, ok x.1 = true
  | [], _, x, h => by simp at h
  | y :: r, h, x, hx => by
    simp only [oks, Bool.and_eq_true] at h
    simp only [List.mem_cons] at hx
    rcases hx with rfl | hx
    · exact h.1
    · exact oks_spec h.2 x hx
def runOk (P : Program) (X : XNames) (mg : List FuncId) (kn : FuncId → List Value) (ok : Value → Bool) (n : Nat) (s : ASt) : Option (Bool × List KC) :=
  match runR P X mg kn n s with
  | some l => some (oks ok l.1, l.2)
  | none => none
def Answers (P : Program) (X : XNames) (W0 : World) (m0 : Inj P) (ok : Value → Bool) (s : ASt) : Prop := ∃ l, Res P X W0 m0 s l ∧ ∀ x ∈ l, ok x.1 = true
theorem answers_of_run (hX : XOk P X) (hP : POk P) {mg : List FuncId} {kn : FuncId → List Value} {ok : Value → Bool} {n : Nat} {s : ASt} {ks : List KC} (h : runOk P X mg kn ok n s = some (true, ks)) (hK : ∀ k ∈ ks, KC.Holds P W0 m0 k) :
    Answers P X W0 m0 ok s := by
  unfold runOk at h
  split at h
  · rename_i l hl
    simp only [Option.some.injEq, Prod.mk.injEq] at h
    obtain ⟨h1, rfl⟩ := h
    exact ⟨l.1, runR_sound hX hP n hl hK, oks_spec h1⟩
  · cases h
theorem Answers.back {ok : Value → Bool} {s s' : ASt} (h : Answers P X W0 m0 ok s') (hr : Reach P X W0 m0 s [s']) : Answers P X W0 m0 ok s := by
  obtain ⟨l, h1, h2⟩ := h
  exact ⟨l, hr.one h1, h2⟩
theorem calls_of_answers (hP : POk P) {ok : Value → Bool} {m : Inj P} {A : AW} {w : World} {g : FuncId} {args args' : List Value} {fr : AFr} (he : enterA P g args .normal = some fr) (h : Answers P X w m ok ⟨fr, [], A⟩) (r : Rel m A w) (hG : GOk m)
    (hno : ∀ c, ¬ Own m A c) (ha : VRels m args args') : Calls P g ⟨args'⟩ w fun e w' => ∃ v v' m' A', ok v = true ∧ e = .returned v' ∧ VRel m' v v' ∧ EvL A.next m A w m' A' w' := by
  intro cs0
  obtain ⟨g1, g2, g3, g4⟩ := enter_rel (X := X) (A := A) hP he ha (.inl rfl) A.next A.next
  have hs : SRel P X g A.next A.next m ⟨fr, [], A⟩ (Frame.enter P g ⟨args'⟩ .normal) [] w := ⟨r, hG, Nat.le_refl _, g1, .nil _ (Nat.le_refl _), ⟨g2, g3, g4⟩⟩
  obtain ⟨l, h1, h2⟩ := h
  obtain ⟨x, hx, v', m', w', f', k1, k2, k3, k4, k5⟩ := h1 g A.next A.next cs0 m _ [] w hs ⟨.refl m, .refl _ _, fun c _ => hno c⟩
  exact ⟨.returned v', w', f', ⟨x.1, v', m', x.2, h2 x hx, rfl, k2, k3⟩, k1, k5, k4⟩
end
end Go.Abs
namespace Go.Abs
open Go.ChangeShapes Go.WideShapes Go.ChangeAt Go.RowKit
def progOk (P : Program) : Bool := P.funcs.toList.all fun fn => match fn.body with | some c => codeOk P c | none => true
theorem pok_of {P : Program} (h : progOk P = true) (hm : P.follows .mixedOrders = true) : POk P := by
  refine ⟨fun f fn c hf hb => ?_, hm⟩
  unfold progOk at h
  have := List.all_eq_true.1 h fn (by simpa using Array.mem_of_getElem? hf)
  rw [hb] at this
  exact this
theorem memN_mem {n : Nat} : ∀ {l : List Nat}, memN n l = true → n ∈ l
  | [], h => by cases h
  | x :: r, h => by
    simp only [memN] at h
    cases hb : Nat.beq x n with
    | true => rw [beq_true.1 hb]; simp
    | false => rw [hb] at h; exact List.mem_cons_of_mem _ (memN_mem h)
def isT : Value → Bool
  | .bool b => b
  | _ => false
def frOf (P : Program) (f : FuncId) (args : List Value) : AFr := (enterA P f args .normal).getD ⟨0, ⟨0, .nil⟩, [], [], .run, .normal, none, false⟩
def rowsT : List (Nat × List Value × TypeId) → Trie AO
  | [] => .nil
  | x :: r => (rowsT r).put depth x.1 (some (.row x.2.1 x.2.2 x.1 0 true))
def wG (n : Nat) (l : List (Nat × List Value × TypeId)) : AW := ⟨rowsT l, n, .nil⟩
theorem rowsT_get : ∀ (l : List (Nat × List Value × TypeId)), (∀ x ∈ l, x.1 < maxId) → ∀ i o, (rowsT l).get? i = some o → ∃ x ∈ l, x.1 = i ∧ o = .row x.2.1 x.2.2 i 0 true
  | [], _, i, o, h => by simp [rowsT, Trie.get?] at h
  | x :: r, hl, i, o, h => by
    simp only [rowsT] at h
    rw [Trie.get?_put depth _ x.1 i _ (by have := hl x (by simp); unfold depth maxId at *; omega)] at h
    split at h
    · rename_i e
      subst e
      cases h
      exact ⟨x, by simp, rfl, rfl⟩
    · obtain ⟨y, hy, h1, h2⟩ := rowsT_get r (fun y hy => hl y (by simp [hy])) i o h
      exact ⟨y, by simp [hy], h1, h2⟩
def mG (P : Program) : Inj P := ⟨fun i => if i < P.globals.size then some (i, 0) else none, fun _ => 0, fun _ => 0, fun _ => 0, fun _ h => absurd rfl h⟩
theorem mG_lt {P : Program} {i c d : Nat} (h : mG P i = some (c, d)) : i < P.globals.size ∧ c = i ∧ d = 0 := by
  have h : (if i < P.globals.size then some (i, 0) else none) = some (c, d) := h
  split at h
  · cases h; exact ⟨‹_›, rfl, rfl⟩
  · cases h
theorem gG {P : Program} : GOk (mG P) := fun i hi => by
  show (if i < P.globals.size then some (i, 0) else none) = some (i, 0)
  rw [if_pos hi]
def Holds (W : World) (l : List (Nat × List Value × TypeId)) : Prop := ∀ x ∈ l, ∃ fr, W.heap[x.1]? = some (.cells ⟨x.2.1⟩ x.2.2 fr)
def okG (n : Nat) (l : List (Nat × List Value × TypeId)) : Bool := Nat.ble n maxId && l.all fun x => Nat.blt x.1 n && x.2.1.all (closedV 4)
theorem relG {P : Program} {W : World} {l : List (Nat × List Value × TypeId)} (hok : okG P.globals.size l = true) (hW : Holds W l) : Rel (mG P) (wG P.globals.size l) W := by
  unfold okG at hok
  simp only [Bool.and_eq_true, List.all_eq_true] at hok
  obtain ⟨hn, hl⟩ := hok
  have hn := ble_true.1 hn
  have hget : ∀ i o, (wG P.globals.size l).get i = some o → ∃ x ∈ l, x.1 = i ∧ o = .row x.2.1 x.2.2 i 0 true := rowsT_get l fun x hx => Nat.lt_of_lt_of_le (blt_true.1 (hl x hx).1) hn
  refine ⟨?_, ?_, ?_, ?_, ?_, hn, ?_⟩
  · intro i o c d hi hm
    obtain ⟨x, hx, rfl, rfl⟩ := hget i o hi
    obtain ⟨_, rfl, rfl⟩ := mG_lt hm
    obtain ⟨fr, hc⟩ := hW x hx
    refine ⟨_, hc, _, fr, rfl, fun i v hv => ⟨v, by simpa using hv, fun _ => closedV_rel 4 v ((hl x hx).2 v (List.mem_of_getElem? hv)), fun h => by cases h⟩⟩
  · intro i cs e b ro hi c d hm
    exact (mG_lt hm).2.2
  · intro i j oi oj c di dj hij hi hj hmi hmj
    obtain ⟨x, hx, rfl, rfl⟩ := hget i oi hi
    obtain ⟨y, hy, rfl, rfl⟩ := hget j oj hj
    exact .inl ⟨rfl, rfl⟩
  · intro i o f b hi hf
    obtain ⟨x, hx, rfl, rfl⟩ := hget i o hi
    simp only [AO.fam, Option.some.injEq, Prod.mk.injEq] at hf
    obtain ⟨rfl, rfl⟩ := hf
    refine ⟨?_, blt_true.1 (hl x hx).1⟩
    show x.1 ∈ (match (Trie.nil : Trie (List Nat)).get? x.1 with | some l => l | none => [x.1])
    simp [Trie.get?]
  · intro i hi
    have hi : P.globals.size ≤ i := hi
    refine ⟨?_, ?_, rfl⟩
    · cases hq : (wG P.globals.size l).get i with
      | none => rfl
      | some o =>
        obtain ⟨x, hx, rfl, _⟩ := hget i o hq
        have := blt_true.1 (hl x hx).1
        omega
    · show (if i < P.globals.size then some (i, 0) else none) = none
      rw [if_neg (by omega)]
  · intro i cs e f b ro c d hi hm
    obtain ⟨x, hx, rfl, he⟩ := hget i _ hi
    cases he
    obtain ⟨_, rfl, rfl⟩ := mG_lt hm
    obtain ⟨fr, hc⟩ := hW x hx
    exact ⟨fun h => absurd rfl h, _, _, fr, hc, by show 0 + 0 ≤ _; omega, fun h => by cases h⟩
theorem ownG {P : Program} {l : List (Nat × List Value × TypeId)} (hok : okG P.globals.size l = true) (c : Nat) : ¬ Own (mG P) (wG P.globals.size l) c := by
  rintro ⟨i, o, d, hi, hro, _⟩
  unfold okG at hok
  simp only [Bool.and_eq_true, List.all_eq_true] at hok
  obtain ⟨x, hx, rfl, rfl⟩ := rowsT_get l (fun x hx => Nat.lt_of_lt_of_le (blt_true.1 (hok.2 x hx).1) (ble_true.1 hok.1)) i o hi
  cases hro
theorem low_of {P : Program} {m m' : Inj P} {A A' : AW} {w w' : World} {lo : Nat} (h : EvL lo m A w m' A' w') (hno : ∀ c, ¬ Own m A c) : Low w w' :=
  ⟨⟨h.os, h.tape, h.output, h.size, fun k hk => h.keep k hk (hno k)⟩, h.draws⟩
theorem below_of {P : Program} {m m' : Inj P} {A A' : AW} {w w' : World} {lo : Nat} (h : EvL lo m A w m' A' w') (hno : ∀ c, ¬ Own m A c) : Below w.heap.size w w' :=
  ⟨h.os, h.tape, h.output, h.size, fun k hk => h.keep k hk (hno k)⟩
theorem calls_true {P : Program} {X : XNames} (hP : POk P) {l : List (Nat × List Value × TypeId)} (hok : okG P.globals.size l = true) {g : FuncId} {args : List Value} (hcl : args.all (closedV 4) = true) (he : (enterA P g args .normal).isSome = true)
    (W : World) (hW : Holds W l)
    (h : Answers P X W (mG P) isT ⟨frOf P g args, [], wG P.globals.size l⟩) : Calls P g ⟨args⟩ W fun e W' => e = .returned (.bool true) ∧ Low W W' := by
  obtain ⟨fr, hfr⟩ := Option.isSome_iff_exists.1 he
  have hfo : frOf P g args = fr := by unfold frOf; rw [hfr]; rfl
  rw [hfo] at h
  refine (calls_of_answers (w := W) hP hfr h (relG hok hW) gG (ownG hok) (VRels.self fun v hv => closedV_rel 4 v (List.all_eq_true.1 hcl v hv))).mono ?_
  rintro e w' ⟨v, v', m', A', h1, rfl, h2, h3⟩
  refine ⟨?_, low_of h3 (ownG hok)⟩
  cases v with
  | bool b =>
    have h1 : b = true := h1
    subst h1
    cases h2; rfl
  | _ => cases h1
def mA (P : Program) (l : List (Nat × Nat)) : Inj P := ⟨fun i => if i < P.globals.size then some (i, 0) else l[i - P.globals.size]?, fun _ => 0, fun _ => 0, fun _ => 0, fun _ h => absurd rfl h⟩
theorem mA_var {P : Program} {l : List (Nat × Nat)} {i : Nat} (h : i < P.globals.size) : mA P l i = some (i, 0) := by
  show (if i < P.globals.size then some (i, 0) else l[i - P.globals.size]?) = some (i, 0)
  rw [if_pos h]
theorem mA_arg {P : Program} {l : List (Nat × Nat)} (i : Nat) : mA P l (P.globals.size + i) = l[i]? := by
  show (if P.globals.size + i < P.globals.size then some (P.globals.size + i, 0) else l[P.globals.size + i - P.globals.size]?) = l[i]?
  rw [if_neg (by omega), Nat.add_sub_cancel_left]
theorem kc_true {P : Program} {rows : List (Nat × List Value × TypeId)} {g : FuncId} (hg : g ≠ sameFn) (h : ∀ W, Holds W rows → Calls P g #[] W fun e W' => e = .returned (.bool true) ∧ Low W W') {W0 : World} (hW : Holds W0 rows) (m0 : Inj P) :
    KC.Holds P W0 m0 ⟨g, [], [.bool true]⟩ := by
  refine ⟨fun e => absurd e hg, fun _ => ?_⟩
  intro m args' W _ hb ha
  cases ha
  refine (h W fun x hx => ?_).mono ?_
  · obtain ⟨fr, hc⟩ := hW x hx
    exact ⟨fr, by rw [hb.block x.1 (Array.getElem?_eq_some_iff.1 hc).1]; exact hc⟩
  · rintro e W' ⟨rfl, hb'⟩
    exact ⟨_, by simp, rfl, hb'⟩
theorem slice_rel {P : Program} {l : List (Nat × Nat)} {i n c : Nat} {a : Addr} (hl : l[i]? = some (a.block, a.off)) (hn : n ≤ c) (hc : c < capU) (hs : 0 < c → a.spot = none) :
    VRel (mA P l) (.slice (some ⟨P.globals.size + i, 0, none⟩) n c) (.slice (some a) n c) :=
  .slice (.inl ⟨hc, rfl⟩) hn fun hp => ⟨rfl, hs hp, a.off, by rw [mA_arg]; exact hl, rfl⟩
def IsSlice (s : Value) : Prop := s = .slice none 0 0 ∨ ∃ (a : Addr) (n c : Nat), s = .slice (some a) n c ∧ n ≤ c ∧ c < capU ∧ (0 < c → a.spot = none)
def placeOf : Value → Nat × Nat
  | .slice (some a) _ _ => (a.block, a.off)
  | _ => (0, 0)
theorem IsSlice.rel {P : Program} {l : List (Nat × Nat)} {s : Value} (h : IsSlice s) (i : Nat) (hl : l[i]? = some (placeOf s)) : ∃ o n c, VRel (mA P l) (.slice o n c) s := by
  rcases h with rfl | ⟨a, n, c, rfl, hn, hc, hs⟩
  · exact ⟨none, 0, 0, closedV_rel 4 _ (by rfl)⟩
  · exact ⟨_, _, _, slice_rel (i := i) hl hn hc hs⟩
section
variable {H : Type} {enc : TypeId × Value → H}
theorem returnsInHanded_and_shaped {a : Assume} {C : Checked} {os : Os} {f : FuncId} {fn : Func} {s : ChangeSpec} {conds : List PathCond} {apart fresh handsOn again : Bool} {X : World → Array Value → Prop}
    (hX : ∀ (w w' : World) (args : Array Value), w.heap = w'.heap → X w args → X w' args)
    (own : ownKnob C.prog.godebug = none) (started : os.Started) (noInit : C.prog.inits.idxOf? f = none) (hfn : C.prog.funcs[f]? = some fn)
    (witness : ∃ (w : World) (tape : Tape) (i : Input), w.os = os ∧ (w.forCall tape i).Shaped C.prog ∧ i.vars = [] ∧ Input.okWide C.prog (w.forCall tape i) .any w.heap.size f i ∧
      ((s.pre enc C.prog fn conds apart (w.forCall tape i).memory i.args ∧ X (w.forCall tape i).memory i.args) ∧ sizedMet enc C.prog fn (OpenSpec.ofChange s) apart (w.forCall tape i).memory i.args) ∧ a.holds C.prog (lone (Frame.enter C.prog f i.args .normal) [] (w.forCall tape i)))
    (contract : ∀ (W : World) (base : Nat) (args : Array Value) (ds gs : List (DataW H)) (before : List MemPlace),
      (∀ (j : Nat) t v, fn.params[j]? = some t → args[j]? = some v → Value.okWide C.prog W .any base t v) →
      DataW.Whole enc C.prog fn.params.toList s.vars apart W args.toList ds gs before →
      conds.all (PathCond.test C.prog ⟨fn.params.toList, ds, s.plain.varTypes C.prog, gs⟩) = true →
      (DataW.weightsEach C.prog (fn.params.toList ++ s.plain.varTypes C.prog) (ds ++ gs)).all (· ≤ reachBytes) = true → X W args → W.ShapedOpen C.prog →
      Calls C.prog f args W fun e W' => ∃ v, e = .returned v ∧ s.post enc C.prog fn apart fresh handsOn again W args v W') :
    ReturnsInHanded a C os f .any (fun w args => (s.pre enc C.prog fn conds apart w args ∧ X w args) ∧ sizedMet enc C.prog fn (OpenSpec.ofChange s) apart w args) (s.post enc C.prog fn apart fresh handsOn again) := by
  refine returnsInHanded_of_calls own started noInit witness ?_
  intro w tape i _ hsh _ hok hpre hholds
  obtain ⟨_, _, _, fn', hfn', _, _, _, _, hval⟩ := hok
  have e : fn' = fn := Option.some.inj (hfn'.symm.trans hfn)
  subst e
  obtain ⟨⟨⟨ds, gs, before, hw, hc⟩, hx⟩, hz⟩ := hpre
  have hw' := DataW.Whole.of_heap (w' := w.forCall tape i) (by rfl) hw
  refine (contract (w.forCall tape i) w.heap.size i.args ds gs before hval hw' hc (hz.weights hw) (hX _ _ _ (by rfl) hx) hsh).mono fun e W' ⟨v, he, hp⟩ => ?_
  subst he
  exact ChangeSpec.post_blind hp
theorem read_slice {P : Program} {w : World} {t e : TypeId} {fuel : Nat} {cs : List Value} {x : DataW H × List MemPlace} (hu : P.underlying t = some (.slice e)) (hz : 0 < P.cellsOf e) (h : DataW.trod enc P w 0 (fun _ => true) true fuel t cs = some x) : ∃ s, cs = [s] ∧ IsSlice s := by
  rcases Go.Deep.open_slice hu h with ⟨h1, _⟩ | ⟨a, n, c, m, _, D, Pl, h1, _, hn, hm, rfl, _, hx⟩
  · exact ⟨_, h1, .inl rfl⟩
  · refine ⟨_, h1, .inr ⟨a, n, m, rfl, hn, Nat.lt_of_le_of_lt hm (by decide), fun hp => ?_⟩⟩
    obtain ⟨cs', h2, _⟩ := hx 0 hp
    obtain ⟨_, hl, h3⟩ := World.cells?_some h2
    have h4 := h3 0 hz
    have h5 : cs'[0]? = some (cs'[0]'(by rw [hl]; exact hz)) := List.getElem?_eq_getElem _
    rw [h5] at h4
    unfold World.cell? at h4
    split at h4
    · split at h4
      · cases h4
      · rename_i hsp
        cases hq : a.spot with
        | none => rfl
        | some z => exact absurd (by simp [Addr.add, hq]) hsp
    · cases h4
variable {P : Program}
theorem post_of_below {f : Func} {s : ChangeSpec} {apart fresh handsOn again : Bool} {W W' : World} {args : Array Value} {v : Value} {ds gs : List (DataW H)} {before pa pv : List MemPlace}
    (hW : DataW.Whole enc P f.params.toList s.vars apart W args.toList ds gs before)
    (hres : ∀ (b : Nat) (sp : Nat → Bool) (hd : Bool), DataW.TrodAll enc P W' b sp hd f.resultTypes.toList (v.resultList f.resultTypes.size) (s.fn H (ds ++ gs)).results [])
    (hargs : ∀ sp : Nat → Bool, (∀ p ∈ before, sp p.block = true) → DataW.TrodAll enc P W' 0 sp true f.params.toList args.toList (s.fn H (ds ++ gs)).args pa)
    (hvars : ∀ sp : Nat → Bool, (∀ p ∈ before, sp p.block = true) → DataW.TrodVars enc P W' sp s.vars (s.fn H (ds ++ gs)).vars pv)
    (hps : before = pa ++ pv) (hb : Below W.heap.size W W')
    (hok : ∀ (j : Nat) (t : TypeId) (r : Value), f.resultTypes[j]? = some t → (v.resultList f.resultTypes.size)[j]? = some r → Value.okWide P W' .any 0 t r) :
    s.post enc P f apart fresh handsOn again W args v W' := by
  have hlt : ∀ p ∈ before, p.block < W.heap.size := fun p hp => hW.lt p hp
  have hold : ∀ p ∈ before, (fun b => decide (b < W.heap.size)) p.block = true := fun p hp => by simpa using hlt p hp
  refine ⟨ds, gs, before, [], pa, pv, hW, hres _ _ _, hargs _ hold, hvars _ hold, World.keptBut_mono (fun p hp => ⟨hp, ?_⟩) (hb.frame (· ∈ before)), fun _ => ?_⟩
  · rw [hps, List.mem_append] at hp
    exact Or.inr hp
  · obtain ⟨_, _, _, _, _, hz, hn⟩ := hW
    refine ⟨hok, _, _, ([] ++ pa) ++ pv, ⟨[] ++ pa, pv, trodAll_append (hargs _ (fun _ _ => rfl)) (hres _ _ _), hvars _ (fun _ _ => rfl), rfl, ?_, ?_⟩, ?_⟩
    · intro b off hp
      have hin : MemPlace.cell b off ∈ before := by rw [hps]; simpa using hp
      rw [hb.frozen (hlt _ hin)]
      exact hz b off hin
    · intro ha
      have := hn ha
      rw [hps] at this
      simpa using this
    · intro p hp _
      rw [hps]
      simpa using hp
end
theorem holds_var {P : Program} {W : World} (hsh : W.ShapedOpen P) {name : String} {g t : Nat} {cs : List Value} (hg : P.globalNamed name = some g) (hlt : g < P.globals.size) (hz : ((((begin P (fun _ _ => 0) default).world.heap[g]?).bind Obj.row?).map (·.2)) = some t)
    (hv : W.var? P name = some ⟨cs⟩) : ∃ fr, W.heap[g]? = some (.cells ⟨cs⟩ t fr) := by
  cases hq : ((begin P (fun _ _ => 0) default).world.heap[g]?).bind Obj.row? with
  | none => rw [hq] at hz; cases hz
  | some x =>
    obtain ⟨zero, t'⟩ := x
    rw [hq] at hz
    simp only [Option.map_some, Option.some.injEq] at hz
    subst hz
    obtain ⟨cs', h1, _⟩ := hsh.1 g zero t' hlt hq
    unfold World.var? at hv
    rw [hg] at hv
    simp only [Option.bind_some, h1, Option.some.injEq] at hv
    subst hv
    exact ⟨_, h1⟩
end Go.Abs
namespace Go.Abs
section
variable {P : Program} {X : XNames} {W0 : World} {m0 : Inj P}
def WP (P : Program) (X : XNames) (W0 : World) (m0 : Inj P) (s : ASt) (Q : Value → AW → Prop) : Prop :=
  ∀ (f0 : FuncId) (base lo : Nat) (cs0 : List Frame) (m : Inj P) (f : Frame) (csW : List Frame) (w : World), SRel P X f0 base lo m s f csW w → Old W0 m0 m s.w w →
    ∃ v A', Q v A' ∧ ∃ v' m' w' f', Steps P (lone f (csW ++ cs0) w) (lone f' cs0 w') ∧ VRel m' v v' ∧ EvL base m s.w w m' A' w' ∧ f'.leaving P w' (.returned v') ∧ f'.fn = f0
theorem Reach.wp {s : ASt} {L : List ASt} {Q : Value → AW → Prop} (h : Reach P X W0 m0 s L) (h' : ∀ x ∈ L, WP P X W0 m0 x Q) : WP P X W0 m0 s Q := by
  intro f0 base lo cs0 m f csW w hr ho
  obtain ⟨s', hs', lo1, m1, f1, cs1, w1, t1, t2, t3⟩ := h f0 base lo cs0 m f csW w hr ho
  obtain ⟨v, A', hq, v', m', w', f', u1, u2, u3, u4, u5⟩ := h' s' hs' f0 base lo1 cs0 m1 f1 cs1 w1 t3 (ho.next t2)
  exact ⟨v, A', hq, v', m', w', f', t1.trans u1, u2, t2.trans u3, u4, u5⟩
theorem Reach.wp1 {s s' : ASt} {Q : Value → AW → Prop} (h : Reach P X W0 m0 s [s']) (h' : WP P X W0 m0 s' Q) : WP P X W0 m0 s Q := h.wp fun x hx => by simp at hx; subst hx; exact h'
theorem Res.wp {s : ASt} {l : List (Value × AW)} {Q : Value → AW → Prop} (h : Res P X W0 m0 s l) (hq : ∀ x ∈ l, Q x.1 x.2) : WP P X W0 m0 s Q := by
  intro f0 base lo cs0 m f csW w hr ho
  obtain ⟨x, hx, r⟩ := h f0 base lo cs0 m f csW w hr ho
  exact ⟨x.1, x.2, hq x hx, r⟩
theorem wp_sub {fr c : AFr} {rest : List AFr} {A : AW} {K Q : Value → AW → Prop} (hk : fr.kind = .normal) (hro : fr.roundOf = none) (h : WP P X W0 m0 ⟨fr, [], A⟩ K) (h' : ∀ v A', K v A' → WP P X W0 m0 ⟨c.finish v, rest, A'⟩ Q) :
    WP P X W0 m0 ⟨fr, c :: rest, A⟩ Q := by
  intro f0 base lo cs0 m f csW w hr ho
  obtain ⟨lo1, g, l', rfl, h1, h2, h3⟩ := hr.stk.inv
  have hbase := hr.stk.base
  have hlo := hr.below
  have hs : SRel P X fr.fn lo lo m ⟨fr, [], A⟩ f [] w := ⟨hr.rel, hr.glob, hr.below, hr.top, .nil lo (Nat.le_refl _), ⟨hk, rfl, hro⟩⟩
  obtain ⟨v, A', hK, v', m', w', f', u1, u2, u3, u4, u5⟩ := h fr.fn lo lo (g :: l' ++ cs0) m f [] w hs ho
  have hnext : A.next ≤ A'.next := u3.next
  have hsim : Sim P X f0 base cs0 m A w (lone f (g :: l' ++ cs0) w) ⟨c.finish v, rest, A'⟩ := by
    refine ⟨lo1, m', g.finish v', l', w', ?_, u3.weak hbase, u3.rel, hr.glob.mono u3.ext, ?_, ?_, ?_, ?_⟩
    · exact u1.trans (.one (step_leave_returned u4))
    · show lo1 ≤ A'.next
      have : lo ≤ A.next := hlo
      omega
    · refine (h2.mono (A' := A') u3.ext (fun i hi => u3.same i hi) (Nat.le_refl lo)).finish u2 ?_
      have : lo ≤ A.next := hlo
      show lo ≤ A'.next
      omega
    · exact h3.mono u3.ext fun i hi => u3.same i (by omega)
    · have hb : Bot f0 (c :: rest) := hr.bot
      exact hb.finish v
  obtain ⟨lo2, m2, f2, cs2, w2, t1, t2, t3⟩ := hsim
  obtain ⟨v2, A2, hq, v3, m3, w3, f3, s1, s2, s3, s4, s5⟩ := h' v A' hK f0 base lo2 cs0 m2 f2 cs2 w2 t3 (ho.next t2)
  exact ⟨v2, A2, hq, v3, m3, w3, f3, t1.trans s1, s2, t2.trans s3, s4, s5⟩
def Wc (P : Program) (X : XNames) (W0 : World) (m0 : Inj P) (g : FuncId) (args : List Value) (A : AW) (K : Value → AW → Prop) : Prop :=
  (enterA P g args .normal).isSome = true ∧ WP P X W0 m0 ⟨frOf P g args, [], A⟩ K
theorem calls_of_wc (hP : POk P) {m : Inj P} {A : AW} {w : World} {g : FuncId} {args args' : List Value} {Q : Value → AW → Prop} (h : Wc P X w m g args A Q) (r : Rel m A w) (hG : GOk m)
    (hno : ∀ c, ¬ Own m A c) (ha : VRels m args args') : Calls P g ⟨args'⟩ w fun e w' => ∃ v v' m' A', Q v A' ∧ e = .returned v' ∧ VRel m' v v' ∧ EvL A.next m A w m' A' w' := by
  intro cs0
  obtain ⟨fr, he⟩ := Option.isSome_iff_exists.1 h.1
  have h2 := h.2
  unfold frOf at h2
  rw [he] at h2
  obtain ⟨g1, g2, g3, g4⟩ := enter_rel (X := X) (A := A) hP he ha (.inl rfl) A.next A.next
  have hs : SRel P X g A.next A.next m ⟨fr, [], A⟩ (Frame.enter P g ⟨args'⟩ .normal) [] w := ⟨r, hG, Nat.le_refl _, g1, .nil _ (Nat.le_refl _), ⟨g2, g3, g4⟩⟩
  obtain ⟨v, A', hq, v', m', w', f', k1, k2, k3, k4, k5⟩ := h2 g A.next A.next cs0 m _ [] w hs ⟨.refl m, .refl _ _, fun c _ => hno c⟩
  exact ⟨.returned v', w', f', ⟨v, v', m', A', hq, rfl, k2, k3⟩, k1, k5, k4⟩
theorem wp_lib (hX : XOk P X) (hP : POk P) {s s' : ASt} {g : FuncId} {args : List Value} {K Q : Value → AW → Prop} (h : stepD P X s = .calls g args s')
    (hk : ∀ (m : Inj P) (w : World) (args' : List Value), Rel m s'.w w → m0.le m → Go.RowKit.Below W0.heap.size W0 w → VRels m args args' →
      Calls P g ⟨args'⟩ w fun e w' => ∃ v v' m' A', K v A' ∧ e = .returned v' ∧ VRel m' v v' ∧ EvL s'.w.next m s'.w w m' A' w')
    (h' : ∀ v A', K v A' → WP P X W0 m0 ⟨s'.fr.finish v, s'.cs, A'⟩ Q) : WP P X W0 m0 s Q := by
  intro f0 base lo cs0 m f csW w hr ho
  have hs := step_says (cs0 := cs0) hX hP hr
  rw [h] at hs
  obtain ⟨lo', m', f', cs', w', args', t1, t2, t3, t4, t5, t6, t7, t8⟩ := hs
  have ho' := ho.next t2
  obtain ⟨e, w'', fr, ⟨v, v', m2, A2, hK, rfl, hv, hev⟩, hst, _, hlv⟩ := hk m' w' args' t2.rel ho'.le ho'.below t3 (f' :: (cs' ++ cs0))
  have hst : Steps P (lone (Frame.enter P g ⟨args'⟩ .normal) (f' :: (cs' ++ cs0)) w') (lone fr (f' :: (cs' ++ cs0)) w'') := hst
  have hbase := t7.base
  have hnext : s'.w.next ≤ A2.next := hev.next
  have hev0 : EvL base m' s'.w w' m2 A2 w'' := hev.weak (by omega)
  have hsim : Sim P X f0 base cs0 m s.w w (lone f (csW ++ cs0) w) ⟨s'.fr.finish v, s'.cs, A2⟩ :=
    ⟨lo', m2, f'.finish v', cs', w'', t1.trans (hst.trans (.one (step_leave_returned hlv))), t2.trans hev0, hev.rel, t4.mono hev.ext, (by show lo' ≤ A2.next; omega),
      (t6.mono hev.ext hev.same hnext).finish hv (Nat.le_refl _), t7.mono hev.ext fun i hi => hev.same i (by omega), t8.finish v⟩
  obtain ⟨lo2, m3, f3, cs3, w3, u1, u2, u3⟩ := hsim
  obtain ⟨v2, A3, hq, v3, m4, w4, f4, s1, s2, s3, s4, s5⟩ := h' v A2 hK f0 base lo2 cs0 m3 f3 cs3 w3 u3 (ho.next u2)
  exact ⟨v2, A3, hq, v3, m4, w4, f4, u1.trans s1, s2, u2.trans s3, s4, s5⟩
def pureW (r : Option Value) (K : Value → Prop) : Prop := ∃ v, r = some v ∧ K v
def effW (r : Option AW) (K : AW → Prop) : Prop := ∃ A, r = some A ∧ K A
def bothW (r : R Value) (K : Value → AW → Prop) : Prop := ∃ v A, r = .ok v A ∧ K v A
def LibW (P : Program) (W0 : World) (m0 : Inj P) (g : FuncId) (args : List Value) (A : AW) (K : Value → AW → Prop) : Prop :=
  ∀ (m : Inj P) (w : World) (args' : List Value), Rel m A w → m0.le m → Go.RowKit.Below W0.heap.size W0 w → VRels m args args' →
    Calls P g ⟨args'⟩ w fun e w' => ∃ v v' m' A', K v A' ∧ e = .returned v' ∧ VRel m' v v' ∧ EvL A.next m A w m' A' w'
def knW (P : Program) (W0 : World) (m0 : Inj P) (g : FuncId) (args : List Value) (A : AW) (K : Value → AW → Prop) : Prop :=
  (∃ vals, g ≠ sameFn ∧ KC.Holds P W0 m0 ⟨g, args, vals⟩ ∧ vals.all (closedV 4) = true ∧ ∀ v ∈ vals, K v A) ∨ LibW P W0 m0 g args A K
def toW (P : Program) (X : XNames) (W0 : World) (m0 : Inj P) (g : FuncId) (args : List Value) (A : AW) (K : Value → AW → Prop) : Prop :=
  bif memN g X.known then knW P W0 m0 g args A K else Wc P X W0 m0 g args A K
abbrev roundFr (fn : FuncId) (tm : Tm) (assign body : Code) (l : Nat) : AFr := ⟨fn, tm, [.code assign, .beginRound, .code body], [], .run, .normal, some l, false⟩
def RoundW (P : Program) (X : XNames) (W0 : World) (m0 : Inj P) (l : Nat) (fn : FuncId) (tm : Tm) (assign body : Code) (A : AW) (K : Value → AW → Prop) : Prop :=
  ∀ (c : AFr) (rest : List AFr) (Q : Value → AW → Prop), (∀ v A', K v A' → WP P X W0 m0 ⟨c.finish v, rest, A'⟩ Q) → WP P X W0 m0 ⟨roundFr fn tm assign body l, c :: rest, A⟩ Q
def candsOf (es : List MapEntry) (since : Nat) (seen : List Nat) : List (Option MapEntry) :=
  (if ((es.filter fun e => !seen.contains e.born).filter fun e => Nat.blt e.born since).isEmpty then [none] else []) ++
    (((es.filter fun e => !seen.contains e.born).filter fun e => Nat.blt e.born since) ++ ((es.filter fun e => !seen.contains e.born).filter fun e => Nat.ble since e.born)).map some
def nextW (A : AW) (r : Nat) (K : Value → AW → Prop) : Prop :=
  ∃ m since seen last es clock ro, A.get r = some (.mit (some m) since seen last) ∧ A.get m = some (.map es clock ro) ∧ (!seen.isEmpty && !es.isEmpty && es.all (fun e => Nat.ble last e.born)) = false ∧
    ∀ c ∈ candsOf es since seen, (match c with
      | some e => K (.tuple #[.bool true, e.key, e.val]) (A.put r (.mit (some m) since (seen ++ [e.born]) clock))
      | none => K (.tuple #[.bool false]) A)
def anW (P : Program) (X : XNames) (W0 : World) (m0 : Inj P) (r : R AN) (K : Value → AW → Prop) : Prop :=
  (∃ v A, r = .ok (.value v) A ∧ K v A) ∨ (∃ g args A, r = .ok (.enter g args) A ∧ toW P X W0 m0 g args A K) ∨
    (∃ l fn tm assign body A, r = .ok (.round l fn tm assign body) A ∧ RoundW P X W0 m0 l fn tm assign body A K) ∨ (∃ it A, r = .ok (.rangeNext it) A ∧ nextW A it K)
def pickW (c a b : Value) (K : Value → Prop) : Prop := ∃ t, c = .bool t ∧ K (bif t then a else b)
def loadP (P : Program) (A : AW) (t : TypeId) (a : Value) : Option Value := match a with | .pointer (some a) => loadVarA P A t a | _ => none
def storeP (P : Program) (A : AW) (t : TypeId) (a x : Value) : Option AW := match a with | .pointer (some a) => storeVarA P A t a x | _ => none
def newP (A : AW) (cs : List Value) (e : TypeId) : R Value := match A.newRow cs e with | some (a, A') => .ok (.pointer (some a)) A' | none => .fail ""
def allocP (P : Program) (A : AW) (e : TypeId) : R Value := match zeroT P e with | some z => newP A z.cells.toList e | none => .fail ""
def newMapP (A : AW) : R Value := match A.new (.map [] 0 false) with | some (b, A') => .ok (.map (some b)) A' | none => .fail ""
def ifaceP (P : Program) (t : TypeId) (x : Value) : Option Value := match P.underlying t with | some (.interface _) => none | some _ => some (.iface t x) | none => none
def extractP (t : Value) (i : Nat) : Option Value := match t with | .tuple vs => vs.toList[i]? | _ => none
def mapEntryP (P : Program) (A : AW) (t : TypeId) (m k : Value) : R Value := match mapEntryA P A t m k with | some (v, A') => .ok v A' | none => .fail ""
def nilP (x : Value) : Option Value := match x with | .pointer none => none | .nilIface => none | .nilFunc => none | .func (.method _) _ _ => none | x => some x
def dynA (P : Program) (X : XNames) (A : AW) (f : Value) (args : List Value) : R AN := match f with | .func fn first captured => invokeA P X A (.fn fn captured) (first.toList ++ args) | _ => .fail ""
def minP (x : Value) (r : List Value) : Option Value := match x with | .int k a => (match minL a r with | some n => some (.int k n) | none => none) | _ => none
def maxP (x : Value) (r : List Value) : Option Value := match x with | .int k a => (match maxL a r with | some n => some (.int k n) | none => none) | _ => none
def callW (P : Program) (X : XNames) (W0 : World) (m0 : Inj P) (ρ : Operand → Value) (c : Call) (type : TypeId) (A : AW) (K : Value → AW → Prop) : Prop :=
  match c.callee, c.argTypes.toList, c.args.toList with
  | .builtin .len, [t], [x] => pureW (lenA P A t (ρ x)) fun v => K v A
  | .builtin .append, [t, t2], [s, x] => bothW (appendA P A t t2 (ρ s) (ρ x)) K
  | .builtin .copy, [t, _], [d, x] => bothW (copyA P A t (ρ d) (ρ x)) K
  | .builtin .delete, [t, _], [m, k] => effW (deleteA P A t (ρ m) (ρ k)) fun A => K (.tuple #[]) A
  | .builtin .clear, [t], [x] => effW (clearA P A t (ρ x)) fun A => K (.tuple #[]) A
  | .builtin .min, _, x :: r => pureW (minP (ρ x) (r.map ρ)) fun v => K v A
  | .builtin .max, _, x :: r => pureW (maxP (ρ x) (r.map ρ)) fun v => K v A
  | .value (.func f), _, args => bif hasBody P f then toW P X W0 m0 f (args.map ρ) A K else anW P X W0 m0 (callFuncA P X A f (args.map ρ)) K
  | .value f, _, args => anW P X W0 m0 (dynA P X A (ρ f) (args.map ρ)) K
  | .invoke recv name, _, args => anW P X W0 m0 (callMethodA P X A (ρ recv) name (args.map ρ)) K
  | .builtin b, ts, args => anW P X W0 m0 (builtinA P A b ts type (args.map ρ)) K
def opW (P : Program) (X : XNames) (W0 : World) (m0 : Inj P) (ρ : Operand → Value) (o : Oper) (A : AW) (K : Value → AW → Prop) : Prop :=
  match o.op with
  | .move x => K (ρ x) A
  | .assign x => K (ρ x) A
  | .pick c a b => pickW (ρ c) (ρ a) (ρ b) fun v => K v A
  | .alloc e => bothW (allocP P A e) K
  | .box e x => bothW (newP A (ρ x).cells.toList e) K
  | .build t parts => pureW (buildA P t (pickAt parts.toList ρ)) fun v => K v A
  | .buildSlice t len parts => bothW (buildSliceA P A t len (pickAt parts.toList ρ)) K
  | .load t a => pureW (loadP P A t (ρ a)) fun v => K v A
  | .store t a x => effW (storeP P A t (ρ a) (ρ x)) fun A => K undef A
  | .nilCheck x => pureW (nilP (ρ x)) fun v => K v A
  | .binOp op t x y _ => pureW (binA P op t x y (ρ x) (ρ y)) fun v => K v A
  | .unOp op _ x => pureW (unA P op (ρ x)) fun v => K v A
  | .convert s d x => bothW (convertA P A s d (ρ x)) K
  | .makeInterface t x => pureW (ifaceP P t (ρ x)) fun v => K v A
  | .makeFunc fn first captured => (match fn with | .yield _ => False | _ => K (.func fn ⟨first.toList.map ρ⟩ ⟨captured.toList.map ρ⟩) A)
  | .makeMap _ none => bothW (newMapP A) K
  | .makeSlice t l c => bothW (makeSliceA P A t (ρ l) (ρ c)) K
  | .slice t x lo hi mx => pureW (sliceA P A t (ρ x) (lo.map ρ) (hi.map ρ) (mx.map ρ)) fun v => K v A
  | .fieldAddr s x f => pureW (fieldAddrA P s (ρ x) f) fun v => K v A
  | .field s x f => pureW (fieldA P s (ρ x) f) fun v => K v A
  | .indexAddr t x ix => pureW (indexAddrA P t (ρ x) (ρ ix)) fun v => K v A
  | .index t x ix => pureW (indexA P t (ρ x) (ρ ix)) fun v => K v A
  | .lookup t x k ok => pureW (lookupA P A t (ρ x) (ρ k) ok) fun v => K v A
  | .mapUpdate t m k x => effW (mapUpdateA P A t (ρ m) (ρ k) (ρ x)) fun A => K undef A
  | .insert t m k x => effW (mapUpdateA P A t (ρ m) (ρ k) (ρ x)) fun A => K undef A
  | .mapEntry t m k => bothW (mapEntryP P A t (ρ m) (ρ k)) K
  | .entryStore _ m s x => effW (entryStoreA A (ρ m) (ρ s) (ρ x)) fun A => K undef A
  | .typeAssert x xt at_ ok => pureW (typeAssertA P (ρ x) xt at_ ok) fun v => K v A
  | .extract t ix => pureW (extractP (ρ t) ix) fun v => K v A
  | .call c => callW P X W0 m0 ρ c o.type A K
  | _ => anW P X W0 m0 (execA P X ρ o A) K
def Does (P : Program) (X : XNames) (W0 : World) (m0 : Inj P) (r : R AN) (K : Value → AW → Prop) : Prop :=
  (∃ v A, r = .ok (.value v) A ∧ K v A) ∨ (∃ A, r = .ok .skip A ∧ K undef A) ∨ (∃ g args A, r = .ok (.enter g args) A ∧ toW P X W0 m0 g args A K) ∨
    (∃ l fn tm assign body A, r = .ok (.round l fn tm assign body) A ∧ RoundW P X W0 m0 l fn tm assign body A K) ∨ (∃ it A, r = .ok (.rangeNext it) A ∧ nextW A it K)
theorem anW.does {r : R AN} {K : Value → AW → Prop} (h : anW P X W0 m0 r K) : Does P X W0 m0 r K := by
  rcases h with h | h | h
  · exact .inl h
  · exact .inr (.inr (.inl h))
  · exact .inr (.inr (.inr h))
end
section
variable {P : Program} {X : XNames} {W0 : World} {m0 : Inj P}
theorem does_pure {r : Option Value} {A : AW} {K : Value → AW → Prop} (h : pureW r fun v => K v A) {why : String} : Does P X W0 m0 (match (generalizing := false) r with | some v => .ok (.value v) A | none => .fail why) K := by
  obtain ⟨v, rfl, hk⟩ := h
  exact .inl ⟨v, A, rfl, hk⟩
theorem does_eff {r : Option AW} {K : Value → AW → Prop} (h : effW r fun A => K undef A) {why : String} : Does P X W0 m0 (match (generalizing := false) r with | some A => .ok .skip A | none => .fail why) K := by
  obtain ⟨v, rfl, hk⟩ := h
  exact .inr (.inl ⟨v, rfl, hk⟩)
theorem does_effT {r : Option AW} {K : Value → AW → Prop} (h : effW r fun A => K (.tuple #[]) A) {why : String} : Does P X W0 m0 (match (generalizing := false) r with | some A => .ok (.value (.tuple #[])) A | none => .fail why) K := by
  obtain ⟨v, rfl, hk⟩ := h
  exact .inl ⟨_, v, rfl, hk⟩
theorem does_both {r : R Value} {K : Value → AW → Prop} (h : bothW r K) : Does P X W0 m0 (match (generalizing := false) r with | .ok v A => .ok (.value v) A | .panic v A => .panic v A | .fail y => .fail y) K := by
  obtain ⟨v, A, rfl, hk⟩ := h
  exact .inl ⟨v, A, rfl, hk⟩
theorem does_value {v : Value} {A : AW} {K : Value → AW → Prop} (h : K v A) : Does P X W0 m0 (.ok (.value v) A) K := .inl ⟨v, A, rfl, h⟩
theorem callW_does {ρ : Operand → Value} (hρ : ∀ f, ρ (.func f) = .func (.func f) #[] #[]) {c : Call} {type : TypeId} {A : AW} {K : Value → AW → Prop} (h : callW P X W0 m0 ρ c type A K) :
    Does P X W0 m0 (match (generalizing := false) resolveA ρ c type with | some d => invokeA P X A d.target d.args.toList | none => .fail "call no function") K := by
  obtain ⟨callee, args, ts⟩ := c
  unfold callW at h
  simp only at h
  unfold resolveA
  split at h
  · rename_i h1 h2
    simp only [h1, h2, invokeA, builtinA, List.map_cons, List.map_nil]
    exact does_pure h
  · rename_i h1 h2
    simp only [h1, h2, invokeA, builtinA, List.map_cons, List.map_nil]
    exact does_both h
  · rename_i h1 h2
    simp only [h1, h2, invokeA, builtinA, List.map_cons, List.map_nil]
    exact does_both h
  · rename_i h1 h2
    simp only [h1, h2, invokeA, builtinA, List.map_cons, List.map_nil]
    exact does_effT h
  · rename_i h1 h2
    simp only [h1, h2, invokeA, builtinA, List.map_cons, List.map_nil]
    exact does_effT h
  · rename_i x r h2
    simp only [h2, invokeA, List.map_cons]
    obtain ⟨v, hv, hk⟩ := h
    unfold minP at hv
    split at hv
    · rename_i k a he
      split at hv
      · rename_i n hn
        cases hv
        simp only [he, builtinA, hn]
        exact does_value hk
      · cases hv
    · cases hv
  · rename_i x r h2
    simp only [h2, invokeA, List.map_cons]
    obtain ⟨v, hv, hk⟩ := h
    unfold maxP at hv
    split at hv
    · rename_i k a he
      split at hv
      · rename_i n hn
        cases hv
        simp only [he, builtinA, hn]
        exact does_value hk
      · cases hv
    · cases hv
  · rename_i f
    simp only [hρ, invokeA, List.nil_append, List.append_nil]
    cases hb : hasBody P f with
    | true =>
      rw [hb, cond_true] at h
      unfold callFuncA
      rw [hb, cond_true]
      exact .inr (.inr (.inl ⟨f, _, A, rfl, h⟩))
    | false =>
      rw [hb, cond_false] at h
      exact h.does
  · simp only
    have h := h.does
    unfold dynA at h
    split at h
    · rename_i he
      simp only [he]
      exact h
    · rcases h with ⟨v, A', h, _⟩ | ⟨A', h, _⟩ | ⟨g, as, A', h, _⟩ | ⟨l, fn, tm, a, b, A', h, _⟩ | ⟨it, A', h, _⟩ <;> cases h
  · simp only [invokeA]
    exact h.does
  · simp only [invokeA]
    exact h.does
theorem opW_does {ρ : Operand → Value} (hρ : ∀ f, ρ (.func f) = .func (.func f) #[] #[]) {o : Oper} {A : AW} {K : Value → AW → Prop} (h : opW P X W0 m0 ρ o A K) : Does P X W0 m0 (execA P X ρ o A) K := by
  obtain ⟨dst, op, type, pos, after, guard⟩ := o
  unfold opW at h
  unfold execA
  cases op with
  | move x => exact does_value h
  | assign x => exact does_value h
  | pick c a b =>
    obtain ⟨t, h1, h2⟩ := h
    simp only [h1]
    cases t <;> exact does_value h2
  | alloc e =>
    obtain ⟨v, A', h1, h2⟩ := h
    unfold allocP newP at h1
    split at h1
    · rename_i z hz
      simp only [hz]
      split at h1
      · rename_i a A2 ha
        cases h1
        simp only [ha]
        exact does_value h2
      · cases h1
    · cases h1
  | box e x =>
    obtain ⟨v, A', h1, h2⟩ := h
    unfold newP at h1
    split at h1
    · rename_i a A2 ha
      cases h1
      simp only [ha]
      exact does_value h2
    · cases h1
  | build t parts => exact does_pure h
  | buildSlice t len parts => exact does_both h
  | load t a =>
    obtain ⟨v, h1, h2⟩ := h
    unfold loadP at h1
    split at h1
    · rename_i ad he
      simp only [he]
      rw [h1]
      exact does_value h2
    · cases h1
  | store t a x =>
    obtain ⟨v, h1, h2⟩ := h
    unfold storeP at h1
    split at h1
    · rename_i ad he
      simp only [he]
      rw [h1]
      exact .inr (.inl ⟨_, rfl, h2⟩)
    · cases h1
  | nilCheck x =>
    obtain ⟨v, h1, h2⟩ := h
    unfold nilP at h1
    split at h1
    · cases h1
    · cases h1
    · cases h1
    · cases h1
    · cases h1
      simp only
      exact does_value h2
  | binOp op t x y yt => exact does_pure h
  | unOp op t x => exact does_pure h
  | convert s d x => exact does_both h
  | makeInterface t x =>
    obtain ⟨v, h1, h2⟩ := h
    unfold ifaceP at h1
    simp only
    cases hu : P.underlying t with
    | none => rw [hu] at h1; cases h1
    | some d =>
      rw [hu] at h1
      cases d <;> first | (cases h1; done) | (cases h1; exact does_value h2)
  | makeFunc fn first captured =>
    simp only at h ⊢
    split at h
    · exact h.elim
    · split
      · simp_all
      · exact does_value h
  | makeMap t r =>
    cases r with
    | none =>
      obtain ⟨v, A', h1, h2⟩ := h
      unfold newMapP at h1
      simp only
      split at h1
      · rename_i b A2 hb
        cases h1
        simp only [hb]
        exact does_value h2
      · cases h1
    | some r => exact h.does
  | makeSlice t l c => exact does_both h
  | slice t x lo hi mx => exact does_pure h
  | fieldAddr s x f => exact does_pure h
  | field s x f => exact does_pure h
  | indexAddr t x ix => exact does_pure h
  | index t x ix => exact does_pure h
  | lookup t x k ok => exact does_pure h
  | mapUpdate t m k x => exact does_eff h
  | insert t m k x => exact does_eff h
  | mapEntry t m k =>
    obtain ⟨v, A', h1, h2⟩ := h
    unfold mapEntryP at h1
    simp only
    split at h1
    · rename_i b A2 hb
      cases h1
      simp only [hb]
      exact does_value h2
    · cases h1
  | entryStore t m s x => exact does_eff h
  | typeAssert x xt at_ ok => exact does_pure h
  | extract t ix =>
    obtain ⟨v, h1, h2⟩ := h
    unfold extractP at h1
    simp only
    split at h1
    · rename_i vs he
      simp only [he]
      rw [h1]
      exact does_value h2
    · cases h1
  | call c => exact callW_does hρ h
  | _ => exact h.does
end
def forkW (v : Value) (p q : Prop) : Prop := (∃ b, v = .bool b) ∧ (v = .bool true → p) ∧ (v = .bool false → q)
def cutW (a b : List Item) (p : Prop) : Prop := a = b ∧ p
def eqW (a b : Value) (p : Prop) : Prop := a = b ∧ p
def freshW (c : Option Fresh) (A : AW) (v : Value) (p : Prop) : Prop := (∃ f, c = some f ∧ stillFresh A v f = true) ∧ p
def knOf (kt kf : Nat) : Operand → Option Bool
  | .const (.bool b) => some b
  | .tmp t => bif kt.testBit t then some true else bif kf.testBit t then some false else none
  | _ => none
def knOp (kt kf : Nat) : Op → Option Bool
  | .move x => knOf kt kf x
  | .assign x => knOf kt kf x
  | .pick c a b => (match knOf kt kf c with | some true => knOf kt kf a | some false => knOf kt kf b | none => none)
  | _ => none
def pickKn (kt kf : Nat) : Op → Option Operand
  | .pick c a b => (match knOf kt kf c with | some true => some a | some false => some b | none => none)
  | _ => none
def clr (k d : Nat) : Nat := bif k.testBit d then k ^^^ (1 <<< d) else k
def setB (k d : Nat) : Nat := bif k.testBit d then k else k ^^^ (1 <<< d)
def knT (kt d : Nat) : Option Bool → Nat
  | some true => setB kt d
  | _ => clr kt d
def knF (kf d : Nat) : Option Bool → Nat
  | some false => setB kf d
  | _ => clr kf d
def opdT (kt : Nat) : Operand → Nat
  | .tmp t => setB kt t
  | _ => kt
def cutId : List Item → Nat
  | .inBlock id :: _ => id
  | _ => 0
def oneOf : List Value → Value
  | [v] => v
  | l => .tuple ⟨l⟩
def slotOf (ops : Array Oper) (j : Nat) : Option Tmp := match ops.toList[j]? with | some o => o.dst | none => none
def knU (ku d : Nat) (skipped : Bool) : Nat := bif skipped then setB ku d else clr ku d
def wants (kt kf ku : Nat) (ops : Array Oper) (o : Oper) : Option Bool :=
  match o.guard with
  | none => some true
  | some (j, want) => (match slotOf ops j with
    | none => none
    | some d => bif ku.testBit d then some false else (match knOf kt kf (.tmp d) with | some b => some (b == want) | none => none))
section
variable (P : Program) (X : XNames) (W0 : World) (m0 : Inj P)
def resGo (A : AW) (tm : Tm) (Q : Value → AW → Prop) : List ResultVar → List Value → Prop
  | [], acc => Q (oneOf acc.reverse) A
  | .tmp t :: r, acc => resGo A tm Q r (tm.get t :: acc)
  | .cell a t :: r, acc => pureW (loadP P A t (tm.get a)) fun v => resGo A tm Q r (v :: acc)
def retW (fn : FuncId) (A : AW) (tm : Tm) (Q : Value → AW → Prop) : Prop :=
  match P.funcs[fn]? with
  | some f => resGo P A tm Q f.results.toList []
  | none => False
def takeDs : List Nat → AW → (AW → Prop) → Prop
  | [], A, K => K A
  | D :: r, A, K => A.get D = some (.deferred (some [])) ∧ takeDs r (A.put D (.deferred none)) K
def leaveW (A : AW) (l : Nat) (j : Option Code) (K : Value → AW → Prop) : Prop :=
  ∃ r, A.get l = some (.loop r) ∧ K (.bool j.isNone) (A.put l (.loop { r with state := if j.isNone then .ready else .done, pending := j }))
def leaveR (fn : FuncId) (ro : Option Nat) (ds : List Nat) (A : AW) (tm : Tm) (Q : Value → AW → Prop) (j : Option Code) : Prop :=
  match ro with
  | none => (match j with | none => takeDs ds A fun A => retW P fn A tm Q | some .ret => takeDs ds A fun A => retW P fn A tm Q | _ => False)
  | some l => (match ds with | [] => leaveW A l j Q | _ => False)
def beginW (A : AW) (l : Nat) (K : AW → Prop) : Prop := ∃ r, A.get l = some (.loop r) ∧ r.state = .ready ∧ K (A.put l (.loop { r with state := .busy }))
def loopW (A : AW) (fn : FuncId) (tm : Tm) (ps : List Tmp) (assign body : Code) (K : Nat → Nat → AW → Prop) : Prop :=
  ∃ D A1 l A2, A.new (.deferred (some [])) = some (D, A1) ∧ A1.new (.loop { state := .ready, pending := none, fn := fn, tm := tm, params := ps, assign := assign, body := body, defers := D }) = some (l, A2) ∧ K D l A2
def setsT (tm : Tm) (l : List (Nat × Value)) : Tm := l.foldl (fun tm p => tm.set p.1 p.2) tm
def endLoopW (A : AW) (l : Nat) (p q : AW → Prop) : Prop :=
  ∃ r, A.get l = some (.loop r) ∧ r.state ≠ .busy ∧ ((r.pending = none ∧ p (A.put l (.loop { r with state := .exhausted }))) ∨ (r.pending = some .ret ∧ q (A.put l (.loop { r with state := .exhausted }))))
def dynW (A : AW) (f : Value) (args : List Value) (K : Value → AW → Prop) : Prop := ∃ g as A', dynA P X A f args = .ok (.enter g as) A' ∧ Wc P X W0 m0 g as A' K
def noDs (ds : List Nat) (p : Prop) : Prop := match ds with | [] => p | _ => False
def wpgo (fn : FuncId) (T : Nat → List Item) (L : Nat → List Tmp) (S : Nat → List Value → AW → Prop) (Q : Value → AW → Prop) (ro : Option Nat) : Nat → Tm → List Item → Bool → Nat → Nat → Nat → List Nat → AW → Prop
  | 0, _, _, _, _, _, _, _, _ => False
  | n + 1, tm, todo, dr, kt, kf, ku, ds, A =>
    match todo with
    | [] => bif dr then False else leaveR P fn ro ds A tm Q none
    | .code .ret :: _ => bif dr then False else leaveR P fn ro ds A tm Q (some .ret)
    | .beginRound :: k => bif dr then False else (match ro with | some l => beginW A l fun A' => wpgo fn T L S Q ro n tm k dr kt kf ku ds A' | none => False)
    | .code (.rangeFunc f ps assign body) :: k => bif dr then False else (match ro with
      | some _ => False
      | none => loopW A fn tm ps.toList assign body fun D l A1 => dynW P X W0 m0 A1 (evalT tm f) [.func (.yield l) #[] #[]] fun _ A' =>
          endLoopW A' l (fun A'' => wpgo fn T L S Q ro n tm k dr kt kf ku (D :: ds) A'') (fun A'' => takeDs (D :: ds) A'' fun A3 => retW P fn A3 tm Q))
    | .code .skip :: k => wpgo fn T L S Q ro n tm k dr kt kf ku ds A
    | .code (.label _) :: k => wpgo fn T L S Q ro n tm k dr kt kf ku ds A
    | .inBlock _ :: k => wpgo fn T L S Q ro n tm k dr kt kf ku ds A
    | .inScope _ :: k => wpgo fn T L S Q ro n tm k dr kt kf ku ds A
    | .code (.seq a b) :: k => wpgo fn T L S Q ro n tm (.code a :: .code b :: k) dr kt kf ku ds A
    | .code (.cond c a b) :: k => (match knOf kt kf c with
      | some true => wpgo fn T L S Q ro n tm (.code a :: k) dr kt kf ku ds A
      | some false => wpgo fn T L S Q ro n tm (.code b :: k) dr kt kf ku ds A
      | none => forkW (evalT tm c) (wpgo fn T L S Q ro n tm (.code a :: k) dr (opdT kt c) kf ku ds A) (wpgo fn T L S Q ro n tm (.code b :: k) dr kt (opdT kf c) ku ds A))
    | .code (.block id b) :: k => wpgo fn T L S Q ro n tm (.code b :: .inBlock id :: k) dr kt kf ku ds A
    | .code (.scope b) :: k => wpgo fn T L S Q ro n tm (.code b :: .inScope b :: k) dr kt kf ku ds A
    | .code (.loop b) :: k => bif dr then False else noDs ds (cutW (.code b :: .inLoop b :: k) (T (cutId k)) (S (cutId k) ((L (cutId k)).map tm.get) A))
    | .inLoop b :: k => bif dr then False else noDs ds (cutW (.code b :: .inLoop b :: k) (T (cutId k)) (S (cutId k) ((L (cutId k)).map tm.get) A))
    | .code (.exit id) :: k => (match exitToA id k with | some k' => wpgo fn T L S Q ro n tm k' dr kt kf ku ds A | none => bif dr then False else leaveR P fn ro ds A tm Q (some (.exit id)))
    | .code (.region _ ops false) :: k => wpgo fn T L S Q ro n tm (.inRegion ops (List.range ops.toList.length) :: k) dr kt kf ku ds A
    | .code (.region _ ops true) :: k => bif dstsIn tm.sz ops.toList then (match planA P ops.toList with
      | some p => wpgo fn T L S Q ro n tm (.inRegion ops p :: k) true kt kf ku ds A
      | none => False) else False
    | .inRegion _ [] :: k => wpgo fn T L S Q ro n tm k false kt kf ku ds A
    | .inRegion ops (i :: rest) :: k =>
      bif dr && !Nat.blt i ops.toList.length then
        (match ops.toList[i - ops.toList.length]? with
        | none => False
        | some o => (match o.dst, wants kt kf ku ops o with
          | some d, some false => eqW undef (tm.get d) (wpgo fn T L S Q ro n tm (.inRegion ops rest :: k) dr kt kf ku ds A)
          | some d, some true => bif quietOp P o.op then
              (match pickKn kt kf o.op with
              | some x => eqW (evalT tm x) (tm.get d) (wpgo fn T L S Q ro n tm (.inRegion ops rest :: k) dr kt kf ku ds A)
              | none => opW P X W0 m0 (evalT tm) o A fun v _ => eqW v (tm.get d) (wpgo fn T L S Q ro n tm (.inRegion ops rest :: k) dr kt kf ku ds A))
            else freshW (freshOf P (evalT tm) o.op) A (tm.get d) (wpgo fn T L S Q ro n tm (.inRegion ops rest :: k) dr kt kf ku ds A)
          | _, _ => False))
      else (match ops.toList[i]? with
        | none => False
        | some o =>
          let fin (kt kf : Nat) (r : Option Bool) (sk : Bool) (v : Value) (A' : AW) : Prop := (match o.dst with
            | some d => bif Nat.blt d tm.sz then wpgo fn T L S Q ro n (tm.set d v) (.inRegion ops rest :: k) dr (knT kt d r) (knF kf d r) (knU ku d sk) ds A' else False
            | none => wpgo fn T L S Q ro n tm (.inRegion ops rest :: k) dr kt kf ku ds A')
          let go (kt kf : Nat) : Prop := (match pickKn kt kf o.op with
            | some x => fin kt kf (knOf kt kf x) false (evalT tm x) A
            | none => opW P X W0 m0 (evalT tm) o A (fin kt kf (knOp kt kf o.op) false))
          match o.guard with
          | none => go kt kf
          | some (j, want) => (match slotOf ops j with
            | none => False
            | some d => bif ku.testBit d then fin kt kf none true undef A else (match knOf kt kf (.tmp d) with
              | some b => bif b == want then go kt kf else fin kt kf none true undef A
              | none => forkW (tm.get d) (bif want then go (setB kt d) kf else fin (setB kt d) kf none true undef A) (bif want then fin kt (setB kf d) none true undef A else go kt (setB kf d)))))
    | _ => False
end
section
variable {P : Program} {X : XNames} {W0 : World} {m0 : Inj P}
structure Plain (X : XNames) : Prop where
  forks : X.forks = []
  asks : X.asks = []
  says : X.says = []
abbrev frC (fn : FuncId) (tm : Tm) (todo : List Item) (dr : Bool) (ro : Option Nat) (ds : List Nat) : AFr := ⟨fn, tm, todo, ds.map fun D => { target := .collected D, args := #[] }, .run, .normal, ro, dr⟩
abbrev frM (fn : FuncId) (tm : Tm) (todo : List Item) (dr : Bool) : AFr := ⟨fn, tm, todo, [], .run, .normal, none, dr⟩
def Kn (kt kf ku : Nat) (tm : Tm) : Prop := ∀ t, (kt.testBit t = true → tm.get t = .bool true) ∧ (kf.testBit t = true → tm.get t = .bool false) ∧ (ku.testBit t = true → tm.get t = undef)
theorem knOf_spec {kt kf ku : Nat} {tm : Tm} (h : Kn kt kf ku tm) {x : Operand} {b : Bool} (hx : knOf kt kf x = some b) : evalT tm x = .bool b := by
  cases x with
  | const v =>
    cases v <;> simp only [knOf] at hx <;> first | (cases hx; done) | (cases hx; rfl)
  | tmp t =>
    simp only [knOf] at hx
    cases h1 : kt.testBit t with
    | true =>
      rw [h1, cond_true, Option.some.injEq] at hx
      subst hx
      exact (h t).1 h1
    | false =>
      rw [h1, cond_false] at hx
      cases h2 : kf.testBit t with
      | true =>
        rw [h2, cond_true, Option.some.injEq] at hx
        subst hx
        exact (h t).2.1 h2
      | false => rw [h2] at hx; cases hx
  | _ => cases hx
theorem testBit_setB (k d t : Nat) : (setB k d).testBit t = (k.testBit t || d == t) := by
  unfold setB
  cases h : k.testBit d with
  | true =>
    simp only [cond_true]
    by_cases e : d = t
    · subst e; simp [h]
    · simp [e]
  | false =>
    simp only [cond_false, Nat.testBit_xor, Nat.one_shiftLeft, Nat.testBit_two_pow]
    by_cases e : d = t
    · subst e; simp [h]
    · simp [e]
theorem testBit_clr (k d t : Nat) : (clr k d).testBit t = (k.testBit t && !(d == t)) := by
  unfold clr
  cases h : k.testBit d with
  | false =>
    simp only [cond_false]
    by_cases e : d = t
    · subst e; simp [h]
    · simp [e]
  | true =>
    simp only [cond_true, Nat.testBit_xor, Nat.one_shiftLeft, Nat.testBit_two_pow]
    by_cases e : d = t
    · subst e; simp [h]
    · simp [e]
theorem Kn.set {kt kf ku : Nat} {tm : Tm} (h : Kn kt kf ku tm) (hs : tm.sz < maxId) {d : Nat} (hd : d < tm.sz) {v : Value} {r : Option Bool} {sk : Bool} (hr : ∀ b, r = some b → v = .bool b) (hu : sk = true → v = undef) : Kn (knT kt d r) (knF kf d r) (knU ku d sk) (tm.set d v) := by
  intro t
  rw [Tm.get_set tm hs d t v]
  by_cases e : t = d
  · subst e
    rw [if_pos ⟨rfl, hd⟩]
    refine ⟨?_, ?_, ?_⟩
    · cases r with
      | none => simp [knT, testBit_clr]
      | some b => cases b <;> simp [knT, testBit_clr, testBit_setB, hr]
    · cases r with
      | none => simp [knF, testBit_clr]
      | some b => cases b <;> simp [knF, testBit_clr, testBit_setB, hr]
    · cases sk with
      | false => simp [knU, testBit_clr]
      | true => simp [knU, testBit_setB, hu]
  · rw [if_neg (by simp [e])]
    have hne : (d == t) = false := by simp [Ne.symm e]
    refine ⟨?_, ?_, ?_⟩
    · cases r with
      | none => simpa [knT, testBit_clr, hne] using (h t).1
      | some b => cases b <;> simpa [knT, testBit_clr, testBit_setB, hne] using (h t).1
    · cases r with
      | none => simpa [knF, testBit_clr, hne] using (h t).2.1
      | some b => cases b <;> simpa [knF, testBit_clr, testBit_setB, hne] using (h t).2.1
    · cases sk <;> simpa [knU, testBit_clr, testBit_setB, hne] using (h t).2.2
theorem Kn.true {kt kf ku : Nat} {tm : Tm} (h : Kn kt kf ku tm) {d : Nat} (hv : tm.get d = .bool true) : Kn (setB kt d) kf ku tm := by
  intro t
  rw [testBit_setB]
  refine ⟨fun ht => ?_, (h t).2⟩
  simp only [Bool.or_eq_true, beq_iff_eq] at ht
  rcases ht with ht | rfl
  · exact (h t).1 ht
  · exact hv
theorem Kn.false {kt kf ku : Nat} {tm : Tm} (h : Kn kt kf ku tm) {d : Nat} (hv : tm.get d = .bool false) : Kn kt (setB kf d) ku tm := by
  intro t
  rw [testBit_setB]
  refine ⟨(h t).1, fun ht => ?_, (h t).2.2⟩
  simp only [Bool.or_eq_true, beq_iff_eq] at ht
  rcases ht with ht | rfl
  · exact (h t).2.1 ht
  · exact hv
theorem wp_next (hX : XOk P X) (hP : POk P) {s s' : ASt} {Q : Value → AW → Prop} (h : stepD P X s = .next s') (h' : WP P X W0 m0 s' Q) : WP P X W0 m0 s Q := (reach_next hX hP h).wp1 h'
theorem finish_at {fn : FuncId} {tm : Tm} {ops : Array Oper} {i : Nat} {rest : List Nat} {k : List Item} {dr : Bool} {ro : Option Nat} {ds : List Nat} {o : Oper} (ho : ops.toList[i]? = some o) (v : Value) :
    (frC fn tm (.inRegion ops (i :: rest) :: k) dr ro ds).finish v = frC fn (match o.dst with | some d => tm.set d v | none => tm) (.inRegion ops rest :: k) dr ro ds := by
  unfold AFr.finish
  simp only [ho]
  rfl
theorem step_oper (hp : Plain X) {fn : FuncId} {tm : Tm} {ops : Array Oper} {i : Nat} {rest : List Nat} {k : List Item} {dr : Bool} {ro : Option Nat} {ds : List Nat} {cs : List AFr} {A : AW} {o : Oper} (ho : ops.toList[i]? = some o) (hi : (dr && !Nat.blt i ops.toList.length) = false) (h1 : knownA P X ⟨frC fn tm (.inRegion ops (i :: rest) :: k) dr ro ds, cs, A⟩ ops i = none) :
    stepD P X ⟨frC fn tm (.inRegion ops (i :: rest) :: k) dr ro ds, cs, A⟩ =
      (bif wantedA ops tm o then applyA P (frC fn tm (.inRegion ops (i :: rest) :: k) dr ro ds) cs false (execA P X (evalT tm) o A) else .next ⟨(frC fn tm (.inRegion ops (i :: rest) :: k) dr ro ds).finish undef, cs, A⟩) := by
  have e : stepD P X ⟨frC fn tm (.inRegion ops (i :: rest) :: k) dr ro ds, cs, A⟩ = (bif dr && !Nat.blt i ops.toList.length then
      (match asksA P X ⟨frC fn tm (.inRegion ops (i :: rest) :: k) dr ro ds, cs, A⟩ ops (i - ops.toList.length) with
      | some (v, v') => .asks v v' ⟨frC fn tm (.inRegion ops rest :: k) dr ro ds, cs, A⟩
      | none => bif recheckA P X (frC fn tm (.inRegion ops (i :: rest) :: k) dr ro ds) A ops (i - ops.toList.length) then .next ⟨frC fn tm (.inRegion ops rest :: k) dr ro ds, cs, A⟩ else .fail "recheck")
    else (match knownA P X ⟨frC fn tm (.inRegion ops (i :: rest) :: k) dr ro ds, cs, A⟩ ops i with
      | some (f, args, w) => .calls f args ⟨frC fn tm (.inRegion ops (i :: rest) :: k) dr ro ds, cs, w⟩
      | none => (match forkA P X ⟨frC fn tm (.inRegion ops (i :: rest) :: k) dr ro ds, cs, A⟩ ops i with
        | some w => .branch [⟨(frC fn tm (.inRegion ops (i :: rest) :: k) dr ro ds).finish (.bool true), cs, w⟩, ⟨(frC fn tm (.inRegion ops (i :: rest) :: k) dr ro ds).finish (.bool false), cs, w⟩]
        | none => (match saysA P X ⟨frC fn tm (.inRegion ops (i :: rest) :: k) dr ro ds, cs, A⟩ ops i with
          | some (v, v', w) => .asks v v' ⟨(frC fn tm (.inRegion ops (i :: rest) :: k) dr ro ds).finish v', cs, w⟩
          | none => (match ops.toList[i]? with
            | some o => bif wantedA ops tm o then applyA P (frC fn tm (.inRegion ops (i :: rest) :: k) dr ro ds) cs false (execA P X (frC fn tm (.inRegion ops (i :: rest) :: k) dr ro ds).eval o A) else .next ⟨(frC fn tm (.inRegion ops (i :: rest) :: k) dr ro ds).finish undef, cs, A⟩
            | none => .fail "no operation"))))) := rfl
  rw [e, hi, cond_false]
  have h2 : forkA P X ⟨frC fn tm (.inRegion ops (i :: rest) :: k) dr ro ds, cs, A⟩ ops i = none := by unfold forkA; rw [hp.forks]
  have h3 : saysA P X ⟨frC fn tm (.inRegion ops (i :: rest) :: k) dr ro ds, cs, A⟩ ops i = none := by unfold saysA; rw [hp.says]
  rw [h1, h2, h3]
  simp only [ho]
  rw [eval_evalT]
theorem enter_kind {g : FuncId} {args : List Value} {kd : CallKind} {fr : AFr} (h : enterA P g args kd = some fr) : fr.kind = kd ∧ fr.roundOf = none := by
  unfold enterA at h
  split at h
  · split at h
    · simp only at h
      generalize (bif Nat.ble _ _ then _ else _) = n at h
      cases hn : Nat.blt n maxId with
      | false => rw [hn] at h; cases h
      | true =>
        rw [hn, cond_true, Option.some.injEq] at h
        subst h
        exact ⟨rfl, rfl⟩
    · cases h
  · cases h
theorem wp_oper (hX : XOk P X) (hP : POk P) (hp : Plain X) {fn : FuncId} {tm : Tm} {ops : Array Oper} {i : Nat} {rest : List Nat} {k : List Item} {dr : Bool} {ro : Option Nat} {ds : List Nat} {cs : List AFr} {A : AW} {o : Oper} {K Q : Value → AW → Prop} (ho : ops.toList[i]? = some o)
    (hi : (dr && !Nat.blt i ops.toList.length) = false) (hw : wantedA ops tm o = true) (h : Does P X W0 m0 (execA P X (evalT tm) o A) K)
    (h' : ∀ v A', K v A' → WP P X W0 m0 ⟨frC fn (match o.dst with | some d => tm.set d v | none => tm) (.inRegion ops rest :: k) dr ro ds, cs, A'⟩ Q) : WP P X W0 m0 ⟨frC fn tm (.inRegion ops (i :: rest) :: k) dr ro ds, cs, A⟩ Q := by
  have e := fun h => step_oper (P := P) (fn := fn) (tm := tm) (rest := rest) (k := k) (ro := ro) (ds := ds) (cs := cs) (A := A) hp ho hi h
  rw [hw, cond_true] at e
  have notk : ∀ {r : R AN}, execA P X (evalT tm) o A = r → (∀ g args A', r = .ok (.enter g args) A' → memN g X.known = false) → knownA P X ⟨frC fn tm (.inRegion ops (i :: rest) :: k) dr ro ds, cs, A⟩ ops i = none := by
    intro r hr hn
    unfold knownA
    split
    · rfl
    · simp only [ho, hw, cond_true]
      rw [eval_evalT]
      show (match execA P X (evalT tm) o A with | .ok (.enter f args) w => bif memN f X.known then some (f, args, w) else none | _ => none) = none
      rw [hr]
      split
      · rename_i g args A' he
        rw [hn _ _ _ rfl, cond_false]
      · rfl
  rcases h with ⟨v, A', hx, hk⟩ | ⟨A', hx, hk⟩ | ⟨g, args, A', hx, hk⟩ | ⟨l, fn', tm', assign, body, A', hx, hk⟩ | ⟨it, A', hx, m, since, seen, last, es, clock, ro', hg1, hg2, hg3, hk⟩
  · rw [hx] at e
    refine wp_next hX hP (e (notk hx (fun _ _ _ h => by cases h))) ?_
    rw [finish_at ho]
    exact h' v A' hk
  · rw [hx] at e
    refine wp_next hX hP (e (notk hx (fun _ _ _ h => by cases h))) ?_
    rw [finish_at ho]
    exact h' undef A' hk
  · unfold toW at hk
    cases hkn : memN g X.known with
    | true =>
      rw [hkn, cond_true] at hk
      have e3 : stepD P X ⟨frC fn tm (.inRegion ops (i :: rest) :: k) dr ro ds, cs, A⟩ = .calls g args ⟨frC fn tm (.inRegion ops (i :: rest) :: k) dr ro ds, cs, A'⟩ := by
        have h1 : knownA P X ⟨frC fn tm (.inRegion ops (i :: rest) :: k) dr ro ds, cs, A⟩ ops i = some (g, args, A') := by
          unfold knownA
          split
          · rename_i hnil; rw [hnil] at hkn; cases hkn
          · simp only [ho, hw, cond_true]
            rw [eval_evalT]
            show (match execA P X (evalT tm) o A with | .ok (.enter f args) w => bif memN f X.known then some (f, args, w) else none | _ => none) = _
            rw [hx]
            simp only [hkn, cond_true]
        have e4 : stepD P X ⟨frC fn tm (.inRegion ops (i :: rest) :: k) dr ro ds, cs, A⟩ = (bif dr && !Nat.blt i ops.toList.length then
            (match asksA P X ⟨frC fn tm (.inRegion ops (i :: rest) :: k) dr ro ds, cs, A⟩ ops (i - ops.toList.length) with
            | some (v, v') => .asks v v' ⟨frC fn tm (.inRegion ops rest :: k) dr ro ds, cs, A⟩
            | none => bif recheckA P X (frC fn tm (.inRegion ops (i :: rest) :: k) dr ro ds) A ops (i - ops.toList.length) then .next ⟨frC fn tm (.inRegion ops rest :: k) dr ro ds, cs, A⟩ else .fail "recheck")
          else (match knownA P X ⟨frC fn tm (.inRegion ops (i :: rest) :: k) dr ro ds, cs, A⟩ ops i with
            | some (f, args, w) => .calls f args ⟨frC fn tm (.inRegion ops (i :: rest) :: k) dr ro ds, cs, w⟩
            | none => (match forkA P X ⟨frC fn tm (.inRegion ops (i :: rest) :: k) dr ro ds, cs, A⟩ ops i with
              | some w => .branch [⟨(frC fn tm (.inRegion ops (i :: rest) :: k) dr ro ds).finish (.bool true), cs, w⟩, ⟨(frC fn tm (.inRegion ops (i :: rest) :: k) dr ro ds).finish (.bool false), cs, w⟩]
              | none => (match saysA P X ⟨frC fn tm (.inRegion ops (i :: rest) :: k) dr ro ds, cs, A⟩ ops i with
                | some (v, v', w) => .asks v v' ⟨(frC fn tm (.inRegion ops (i :: rest) :: k) dr ro ds).finish v', cs, w⟩
                | none => stepA P X ⟨frC fn tm (.inRegion ops (i :: rest) :: k) dr ro ds, cs, A⟩)))) := rfl
        rw [e4, hi, cond_false, h1]
      rcases hk with ⟨vals, hg, hK, hc, hq⟩ | hl
      · refine (reach_calls hX hP e3 hg hK hc).wp fun x hx => ?_
        obtain ⟨v, hv, rfl⟩ := List.mem_map.1 hx
        show WP P X W0 m0 ⟨(frC fn tm (.inRegion ops (i :: rest) :: k) dr ro ds).finish v, cs, A'⟩ Q
        rw [finish_at ho]
        exact h' v A' (hq v hv)
      · refine wp_lib hX hP e3 hl fun v A2 hq => ?_
        show WP P X W0 m0 ⟨(frC fn tm (.inRegion ops (i :: rest) :: k) dr ro ds).finish v, cs, A2⟩ Q
        rw [finish_at ho]
        exact h' v A2 hq
    | false =>
    rw [hkn, cond_false] at hk
    rw [hx] at e
    have e := e (notk hx (fun _ _ _ h => by cases h; exact hkn))
    obtain ⟨fr', he⟩ := Option.isSome_iff_exists.1 hk.1
    have h2 := hk.2
    unfold frOf at h2
    rw [he] at h2
    simp only [applyA, cond_false, he] at e
    refine wp_next hX hP e (wp_sub ?_ ?_ h2 fun v A2 hk2 => ?_)
    · exact (enter_kind he).1
    · exact (enter_kind he).2
    · rw [finish_at ho]
      exact h' v A2 hk2
  · rw [hx] at e
    refine wp_next hX hP (e (notk hx (fun _ _ _ h => by cases h))) (hk _ _ _ fun v A2 hk2 => ?_)
    rw [finish_at ho]
    exact h' v A2 hk2
  · rw [hx] at e
    have e := e (notk hx (fun _ _ _ h => by cases h))
    have e2 : applyA P (frC fn tm (.inRegion ops (i :: rest) :: k) dr ro ds) cs false (.ok (.rangeNext it) A') = .branch ((candsOf es since seen).map fun c => match c with
          | some e => ⟨(frC fn tm (.inRegion ops (i :: rest) :: k) dr ro ds).finish (.tuple #[.bool true, e.key, e.val]), cs, A'.put it (.mit (some m) since (seen ++ [e.born]) clock)⟩
          | none => ⟨(frC fn tm (.inRegion ops (i :: rest) :: k) dr ro ds).finish (.tuple #[.bool false]), cs, A'⟩) := by
      unfold applyA
      simp only [hg1, hg2, hg3, cond_false]
      rfl
    rw [e2] at e
    refine (reach_branch hX hP e).wp fun x hx => ?_
    obtain ⟨c, hc, rfl⟩ := List.mem_map.1 hx
    have hk := hk c hc
    cases c with
    | none =>
      simp only at hk ⊢
      rw [finish_at ho]
      exact h' _ _ hk
    | some e =>
      simp only at hk ⊢
      rw [finish_at ho]
      exact h' _ _ hk
theorem wp_skip (hX : XOk P X) (hP : POk P) (hp : Plain X) {fn : FuncId} {tm : Tm} {ops : Array Oper} {i : Nat} {rest : List Nat} {k : List Item} {dr : Bool} {ro : Option Nat} {ds : List Nat} {cs : List AFr} {A : AW} {o : Oper} {Q : Value → AW → Prop} (ho : ops.toList[i]? = some o)
    (hi : (dr && !Nat.blt i ops.toList.length) = false) (hw : wantedA ops tm o = false)
    (h' : WP P X W0 m0 ⟨frC fn (match o.dst with | some d => tm.set d undef | none => tm) (.inRegion ops rest :: k) dr ro ds, cs, A⟩ Q) : WP P X W0 m0 ⟨frC fn tm (.inRegion ops (i :: rest) :: k) dr ro ds, cs, A⟩ Q := by
  have hkn : knownA P X ⟨frC fn tm (.inRegion ops (i :: rest) :: k) dr ro ds, cs, A⟩ ops i = none := by
    unfold knownA
    split
    · rfl
    · simp only [ho, hw, cond_false]
  have e := step_oper (P := P) (fn := fn) (tm := tm) (rest := rest) (k := k) (ro := ro) (ds := ds) (cs := cs) (A := A) hp ho hi hkn
  rw [hw, cond_false] at e
  refine wp_next hX hP e ?_
  rw [finish_at ho]
  exact h'
theorem wp_recheck {fn : FuncId} {tm : Tm} {ops : Array Oper} {i : Nat} {rest : List Nat} {k : List Item} {ro : Option Nat} {ds : List Nat} {cs : List AFr} {A : AW} {Q : Value → AW → Prop} (hi : ops.toList.length ≤ i) (hv : Valid P X A ops tm (i - ops.toList.length))
    (h' : WP P X W0 m0 ⟨frC fn tm (.inRegion ops rest :: k) true ro ds, cs, A⟩ Q) : WP P X W0 m0 ⟨frC fn tm (.inRegion ops (i :: rest) :: k) true ro ds, cs, A⟩ Q := by
  have hr : Reach P X W0 m0 ⟨frC fn tm (.inRegion ops (i :: rest) :: k) true ro ds, cs, A⟩ [⟨frC fn tm (.inRegion ops rest :: k) true ro ds, cs, A⟩] := by
    intro f0 base lo cs0 m f csW w h _
    exact ⟨_, by simp, recheck_sim h rfl rfl rfl hi hv⟩
  exact hr.wp1 h'
def oneR (P : Program) (A : AW) (tm : Tm) (r : ResultVar) : Option Value := match r with | .tmp t => some (tm.get t) | .cell a t => loadP P A t (tm.get a)
theorem resultsA_eqR {A : AW} {f : Func} {tm : Tm} : resultsA P A f tm = (match resultsA.go (oneR P A tm) f.results.toList with | some [v] => some v | some l => some (.tuple ⟨l⟩) | none => none) := rfl
theorem resGo_spec {A : AW} {tm : Tm} {Q : Value → AW → Prop} : ∀ (l : List ResultVar) (acc : List Value), resGo P A tm Q l acc → ∃ vs, resultsA.go (oneR P A tm) l = some vs ∧ Q (oneOf (acc.reverse ++ vs)) A
  | [], acc, h => ⟨[], rfl, by simpa [resGo] using h⟩
  | .tmp t :: l, acc, h => by
    obtain ⟨vs, h1, h2⟩ := resGo_spec l _ h
    refine ⟨tm.get t :: vs, ?_, by simpa using h2⟩
    simp only [resultsA.go, h1, oneR]
  | .cell a t :: l, acc, h => by
    obtain ⟨v, h0, hv⟩ := h
    obtain ⟨vs, h1, h2⟩ := resGo_spec l _ hv
    refine ⟨v :: vs, ?_, by simpa using h2⟩
    simp only [resultsA.go, h1, oneR, h0]
theorem retW_spec {fn : FuncId} {f : Func} (hf : P.funcs[fn]? = some f) {A : AW} {tm : Tm} {Q : Value → AW → Prop} (h : retW P fn A tm Q) : ∃ v, resultsA P A f tm = some v ∧ Q v A := by
  unfold retW at h
  rw [hf] at h
  obtain ⟨vs, h1, h2⟩ := resGo_spec _ _ h
  rw [resultsA_eqR, h1]
  match vs, h2 with
  | [], h2 => exact ⟨_, rfl, h2⟩
  | [v], h2 => exact ⟨_, rfl, h2⟩
  | a :: b :: r, h2 => exact ⟨_, rfl, h2⟩
theorem wp_returning (hX : XOk P X) (hP : POk P) {fn : FuncId} {tm : Tm} {todo : List Item} {Q : Value → AW → Prop} : ∀ (ds : List Nat) (A : AW), takeDs ds A (fun A => retW P fn A tm Q) → WP P X W0 m0 ⟨{ (frC fn tm todo false none ds) with mode := .returning }, [], A⟩ Q
  | [], A, h => by
    have h : retW P fn A tm Q := h
    cases hf : P.funcs[fn]? with
    | none => unfold retW at h; rw [hf] at h; exact h.elim
    | some f =>
      obtain ⟨v, h1, h2⟩ := retW_spec hf h
      have e2 : stepD P X ⟨{ (frC fn tm todo false none []) with mode := .returning }, [], A⟩ = .done v A := by
        have : stepD P X ⟨{ (frC fn tm todo false none []) with mode := .returning }, [], A⟩ = (match P.funcs[fn]? with
          | none => .fail "unwind fn"
          | some fn => (match resultsA P A fn tm with
            | some v => .done v A
            | none => .fail "results")) := by
          rfl
        rw [this, hf]
        simp only
        rw [h1]
      exact (res_done hX hP e2).wp fun x hx => by simp at hx; subst hx; exact h2
  | D :: ds, A, h => by
    obtain ⟨h1, h2⟩ := h
    have e : stepD P X ⟨{ (frC fn tm todo false none (D :: ds)) with mode := .returning }, [], A⟩ = .next ⟨{ (frC fn tm todo false none ds) with mode := .returning }, [], A.put D (.deferred none)⟩ := by
      have : stepD P X ⟨{ (frC fn tm todo false none (D :: ds)) with mode := .returning }, [], A⟩ = (match A.get D with
        | some (.deferred (some calls)) => .next ⟨{ (frC fn tm todo false none ds) with mode := .returning, defers := calls ++ ds.map fun D => { target := .collected D, args := #[] } }, [], A.put D (.deferred none)⟩
        | _ => .fail "takeDeferred") := by
        rfl
      rw [this, h1]
      rfl
    exact wp_next hX hP e (wp_returning hX hP ds _ h2)
theorem wp_leave (hX : XOk P X) (hP : POk P) {fn : FuncId} {tm : Tm} {todo : List Item} {ds : List Nat} {A : AW} {Q : Value → AW → Prop} (ht : todo = [] ∨ ∃ k, todo = .code .ret :: k) (h : takeDs ds A fun A => retW P fn A tm Q) : WP P X W0 m0 ⟨frC fn tm todo false none ds, [], A⟩ Q := by
  have e : stepD P X ⟨frC fn tm todo false none ds, [], A⟩ = .next ⟨{ (frC fn tm todo false none ds) with mode := .returning }, [], A⟩ := by
    rcases ht with rfl | ⟨k, rfl⟩ <;> rfl
  exact wp_next hX hP e (wp_returning hX hP ds A h)
inductive Leaves : List Item → Option Code → Prop
  | off : Leaves [] none
  | ret (k : List Item) : Leaves (.code .ret :: k) (some .ret)
  | exit (id : Nat) (k : List Item) (h : exitToA id k = none) : Leaves (.code (.exit id) :: k) (some (.exit id))
theorem wp_leaves (hX : XOk P X) (hP : POk P) {fn : FuncId} {tm : Tm} {todo : List Item} {ds : List Nat} {A : AW} {Q : Value → AW → Prop} {j : Option Code} (hj : Leaves todo j) (h : leaveR P fn none ds A tm Q j) : WP P X W0 m0 ⟨frC fn tm todo false none ds, [], A⟩ Q := by
  cases hj with
  | off => exact wp_leave hX hP (.inl rfl) h
  | ret k => exact wp_leave hX hP (.inr ⟨k, rfl⟩) h
  | exit id k hx => exact h.elim
theorem round_leaves (hX : XOk P X) (hP : POk P) {fn : FuncId} {tm : Tm} {todo : List Item} {l : Nat} {ds : List Nat} {A : AW} {K : Value → AW → Prop} {j : Option Code} (hj : Leaves todo j) (h : leaveR P fn (some l) ds A tm K j) {c : AFr} {rest : List AFr} {Q : Value → AW → Prop}
    (hK : ∀ v A', K v A' → WP P X W0 m0 ⟨c.finish v, rest, A'⟩ Q) : WP P X W0 m0 ⟨frC fn tm todo false (some l) ds, c :: rest, A⟩ Q := by
  unfold leaveR at h
  cases ds with
  | cons D ds => exact h.elim
  | nil =>
    obtain ⟨r, h1, h2⟩ := h
    have e : stepD P X ⟨frC fn tm todo false (some l) [], c :: rest, A⟩ = .next ⟨c.finish (.bool j.isNone), rest, A.put l (.loop { r with state := if j.isNone then .ready else .done, pending := j })⟩ := by
      have key : ∀ jump : Option Code, (match A.get l with
          | some (.loop r) => doReturnA (frC fn tm todo false (some l) []) (c :: rest) (.bool jump.isNone) (A.put l (.loop { r with state := if jump.isNone then .ready else .done, pending := jump }))
          | _ => .fail "endRound") = .next ⟨c.finish (.bool jump.isNone), rest, A.put l (.loop { r with state := if jump.isNone then .ready else .done, pending := jump })⟩ := by
        intro jump
        rw [h1]
        rfl
      rw [← key j]
      cases hj with
      | off => rfl
      | ret k => rfl
      | exit id k hx =>
        unfold stepD stepA
        simp only [hx]
        rfl
    exact wp_next hX hP e (hK _ _ h2)
end
section
variable {P : Program} {X : XNames} {W0 : World} {m0 : Inj P}
theorem Tm.sz_set (tm : Tm) (d : Nat) (v : Value) : (tm.set d v).sz = tm.sz := by
  unfold Tm.set
  cases Nat.blt d tm.sz <;> rfl
theorem wants_spec {kt kf ku : Nat} {tm : Tm} (h : Kn kt kf ku tm) {ops : Array Oper} {o : Oper} {b : Bool} (hw : wants kt kf ku ops o = some b) : wantedA ops tm o = b := by
  unfold wants at hw
  unfold wantedA
  split at hw
  · rename_i hg
    rw [hg]
    cases hw
    rfl
  · rename_i j want hg
    rw [hg]
    simp only
    unfold slotOf at hw
    split at hw
    · cases hw
    · rename_i d hd
      split at hd
      · rename_i o' ho'
        cases hu : ku.testBit d with
        | true =>
          rw [hu, cond_true] at hw
          cases hw
          have hv : tm.get d = undef := (h d).2.2 hu
          unfold yieldedA
          simp only [ho', hd, hv]
          rfl
        | false =>
          rw [hu, cond_false] at hw
          split at hw
          · rename_i c hc
            cases hw
            have hv : tm.get d = .bool c := knOf_spec h hc
            unfold yieldedA
            simp only [ho', hd, hv]
          · cases hw
      · cases hd
theorem wanted_of {tm : Tm} {ops : Array Oper} {o : Oper} {j : Nat} {want b : Bool} {d : Tmp} (hg : o.guard = some (j, want)) (hs : slotOf ops j = some d) (hv : tm.get d = .bool b) : wantedA ops tm o = (b == want) := by
  unfold wantedA yieldedA
  unfold slotOf at hs
  split at hs
  · rename_i o' ho'
    simp only [hg, ho', hs, hv]
  · cases hs
theorem unwanted_of {tm : Tm} {ops : Array Oper} {o : Oper} {j : Nat} {want : Bool} {d : Tmp} (hg : o.guard = some (j, want)) (hs : slotOf ops j = some d) (hv : tm.get d = undef) : wantedA ops tm o = false := by
  unfold wantedA yieldedA
  unfold slotOf at hs
  split at hs
  · rename_i o' ho'
    simp only [hg, ho', hs, hv]
    rfl
  · cases hs
theorem knOp_pick {kt kf ku : Nat} {op : Op} {x : Operand} (h : pickKn kt kf op = some x) {tm : Tm} (hk : Kn kt kf ku tm) (P : Program) (X : XNames) {o : Oper} (ho : o.op = op) (A : AW) : execA P X (evalT tm) o A = .ok (.value (evalT tm x)) A := by
  cases op <;> simp only [pickKn] at h <;> try (cases h; done)
  rename_i c a b
  split at h
  · rename_i hc
    cases h
    have := knOf_spec hk hc
    unfold execA
    simp only [ho, this]
  · rename_i hc
    cases h
    have := knOf_spec hk hc
    unfold execA
    simp only [ho, this]
  · cases h
theorem knOp_move {kt kf : Nat} {op : Op} {b : Bool} (hp : pickKn kt kf op = none) (h : knOp kt kf op = some b) : ∃ x, (op = .move x ∨ op = .assign x) ∧ knOf kt kf x = some b := by
  cases op <;> simp only [knOp] at h <;> try (cases h; done)
  · exact ⟨_, .inl rfl, h⟩
  · exact ⟨_, .inr rfl, h⟩
  · simp only [pickKn] at hp
    split at h <;> first | (cases h; done) | skip
    · rename_i hc; rw [hc] at hp; cases hp
    · rename_i hc; rw [hc] at hp; cases hp
theorem move_does {ρ : Operand → Value} {o : Oper} {x : Operand} (hx : o.op = .move x ∨ o.op = .assign x) {A : AW} {K : Value → AW → Prop} (h : opW P X W0 m0 ρ o A K) : execA P X ρ o A = .ok (.value (ρ x)) A ∧ K (ρ x) A := by
  unfold opW at h
  unfold execA
  rcases hx with hx | hx
  · rw [hx] at h ⊢
    exact ⟨rfl, h⟩
  · rw [hx] at h ⊢
    exact ⟨rfl, h⟩
variable {fn : FuncId} {T : Nat → List Item} {L : Nat → List Tmp} {S : Nat → List Value → AW → Prop} {Q : Value → AW → Prop} {sz : Nat}
def Cuts (P : Program) (X : XNames) (W0 : World) (m0 : Inj P) (fn : FuncId) (T : Nat → List Item) (L : Nat → List Tmp) (S : Nat → List Value → AW → Prop) (Q : Value → AW → Prop) (sz : Nat) : Prop :=
  ∀ id vals A tm, S id vals A → tm.sz = sz → (L id).map tm.get = vals → WP P X W0 m0 ⟨frM fn tm (T id) false, [], A⟩ Q
theorem wpgo_soundC (hX : XOk P X) (hP : POk P) (hp : Plain X) (hsz : sz < maxId) {ro : Option Nat} {cs : List AFr} {Q0 : Value → AW → Prop}
    (hl : ∀ todo tm ds A j, Leaves todo j → leaveR P fn ro ds A tm Q j → WP P X W0 m0 ⟨frC fn tm todo false ro ds, cs, A⟩ Q0)
    (hcut : ∀ id vals A tm, S id vals A → tm.sz = sz → (L id).map tm.get = vals → WP P X W0 m0 ⟨frC fn tm (T id) false ro [], cs, A⟩ Q0) :
    ∀ (n : Nat) (tm : Tm) (todo : List Item) (dr : Bool) (kt kf ku : Nat) (ds : List Nat) (A : AW), tm.sz = sz → Kn kt kf ku tm → wpgo P X W0 m0 fn T L S Q ro n tm todo dr kt kf ku ds A → WP P X W0 m0 ⟨frC fn tm todo dr ro ds, cs, A⟩ Q0 := by
  intro n
  induction n with
  | zero => intro tm todo dr kt kf ku ds A _ _ h; exact h.elim
  | succ n ih =>
    intro tm todo dr kt kf ku ds A hs hk h
    unfold wpgo at h
    split at h
    · cases dr with
      | true => exact h.elim
      | false => exact hl _ _ _ _ _ .off h
    · cases dr with
      | true => exact h.elim
      | false => exact hl _ _ _ _ _ (.ret _) h
    · -- a round begins
      rename_i k
      cases dr with
      | true => exact h.elim
      | false =>
        cases ro with
        | none => exact h.elim
        | some l =>
          obtain ⟨r, h1, h2, h3⟩ := h
          have e : stepD P X ⟨frC fn tm (.beginRound :: k) false (some l) ds, cs, A⟩ = .next ⟨frC fn tm k false (some l) ds, cs, A.put l (.loop { r with state := .busy })⟩ := by
            have : stepD P X ⟨frC fn tm (.beginRound :: k) false (some l) ds, cs, A⟩ = (match A.get l with
              | some (.loop r) => (match r.state with
                | .ready => .next ⟨frC fn tm k false (some l) ds, cs, A.put l (.loop { r with state := .busy })⟩
                | _ => .fail "beginRound")
              | _ => .fail "beginRound") := by rfl
            rw [this, h1]
            simp only [h2]
          exact wp_next hX hP e (ih _ _ _ _ _ _ _ _ hs hk h3)
    · -- a loop over a function
      rename_i f ps assign body k
      cases dr with
      | true => exact h.elim
      | false =>
        cases ro with
        | some l => exact h.elim
        | none =>
          obtain ⟨D, A1, l, A2, hn1, hn2, g, as, A3, hdy, hwc⟩ := h
          have e : stepD P X ⟨frC fn tm (.code (.rangeFunc f ps assign body) :: k) false none ds, cs, A⟩ = (match evalT tm f with
              | .func fn' first captured => applyA P (frC fn tm (.inRangeFunc l :: k) false none (D :: ds)) cs false (invokeA P X A2 (.fn fn' captured) (first.toList ++ [.func (.yield l) #[] #[]]))
              | _ => .fail "rangeFunc") := by
            have : stepD P X ⟨frC fn tm (.code (.rangeFunc f ps assign body) :: k) false none ds, cs, A⟩ = (match (match A.new (.deferred (some [])) with | some (r, w') => some (r, ([{ target := .collected r, args := #[] }] : List Deferred), w') | none => none) with
              | none => .fail "enterLoop"
              | some (d, mark, w) => (match w.new (.loop { state := .ready, pending := none, fn := fn, tm := tm, params := ps.toList, assign, body, defers := d }) with
                | none => .fail "enterLoop"
                | some (l, w) => (match (frC fn tm (.code (.rangeFunc f ps assign body) :: k) false none ds).eval f with
                  | .func fn' first captured => applyA P ({ fn := fn, tm := tm, todo := .inRangeFunc l :: k, defers := mark ++ (ds.map fun D => { target := .collected D, args := #[] }), mode := .run, kind := .normal, roundOf := none, dr := false } : AFr) cs false (invokeA P X w (.fn fn' captured) (first.toList ++ [.func (.yield l) #[] #[]]))
                  | _ => .fail "rangeFunc"))) := by rfl
            rw [this, hn1]
            simp only [hn2]
            rw [eval_evalT]
            rfl
          unfold dynA at hdy
          cases hf : evalT tm f with
          | func fn' first captured =>
            rw [hf] at e hdy
            simp only at e hdy
            rw [hdy] at e
            obtain ⟨fr', he⟩ := Option.isSome_iff_exists.1 hwc.1
            have h2 := hwc.2
            unfold frOf at h2
            rw [he] at h2
            simp only [applyA, cond_false, he] at e
            refine wp_next hX hP e (wp_sub (enter_kind he).1 (enter_kind he).2 h2 fun v A4 hk2 => ?_)
            obtain ⟨r, g1, g2, g3⟩ := hk2
            have e5 : stepD P X ⟨(frC fn tm (.inRangeFunc l :: k) false none (D :: ds)).finish v, cs, A4⟩ = .next ⟨frC fn tm (match r.pending with | some c => .code c :: k | none => k) false none (D :: ds), cs, A4.put l (.loop { r with state := .exhausted })⟩ := by
              have : stepD P X ⟨(frC fn tm (.inRangeFunc l :: k) false none (D :: ds)).finish v, cs, A4⟩ = (match A4.get l with
                | some (.loop r) => (match r.state with
                  | .busy => .fail "endLoop"
                  | _ => .next ⟨frC fn tm (match r.pending with | some c => .code c :: k | none => k) false none (D :: ds), cs, A4.put l (.loop { r with state := .exhausted })⟩)
                | _ => .fail "endLoop") := by rfl
              rw [this, g1]
              simp only
            refine wp_next hX hP e5 ?_
            rcases g3 with ⟨gp, g3⟩ | ⟨gp, g3⟩
            · rw [show (match r.pending with | some c => .code c :: k | none => k) = k by rw [gp]]
              exact ih _ _ _ _ _ _ _ _ hs hk g3
            · rw [show (match r.pending with | some c => .code c :: k | none => k) = .code .ret :: k by rw [gp]]
              exact hl _ _ _ _ _ (.ret _) g3
          | _ => rw [hf] at hdy; cases hdy
    · exact wp_next hX hP rfl (ih _ _ _ _ _ _ _ _ hs hk h)
    · exact wp_next hX hP rfl (ih _ _ _ _ _ _ _ _ hs hk h)
    · exact wp_next hX hP rfl (ih _ _ _ _ _ _ _ _ hs hk h)
    · exact wp_next hX hP rfl (ih _ _ _ _ _ _ _ _ hs hk h)
    · exact wp_next hX hP rfl (ih _ _ _ _ _ _ _ _ hs hk h)
    · -- cond
      rename_i c a b k
      have e : ∀ t, evalT tm c = .bool t → stepD P X ⟨frC fn tm (.code (.cond c a b) :: k) dr ro ds, cs, A⟩ = .next ⟨frC fn tm (.code (bif t then a else b) :: k) dr ro ds, cs, A⟩ := by
        intro t ht
        have : stepD P X ⟨frC fn tm (.code (.cond c a b) :: k) dr ro ds, cs, A⟩ = (bif memN fn X.forks then (match (frC fn tm (.code (.cond c a b) :: k) dr ro ds).eval c with
          | .bool _ => .branch [⟨frC fn tm (.code a :: k) dr ro ds, cs, A⟩, ⟨frC fn tm (.code b :: k) dr ro ds, cs, A⟩]
          | _ => .fail "cond") else (match (frC fn tm (.code (.cond c a b) :: k) dr ro ds).eval c with | .bool t => .next ⟨frC fn tm (.code (bif t then a else b) :: k) dr ro ds, cs, A⟩ | _ => .fail "cond")) := rfl
        rw [this, hp.forks, eval_evalT]
        simp only [memN, cond_false, ht]
      split at h
      · rename_i hc
        exact wp_next hX hP (e true (knOf_spec hk hc)) (ih _ _ _ _ _ _ _ _ hs hk h)
      · rename_i hc
        exact wp_next hX hP (e false (knOf_spec hk hc)) (ih _ _ _ _ _ _ _ _ hs hk h)
      · obtain ⟨⟨t, ht⟩, h1, h2⟩ := h
        cases t with
        | true =>
          refine wp_next hX hP (e true ht) (ih _ _ _ _ _ _ _ _ hs ?_ (h1 ht))
          cases c with
          | tmp t => exact hk.true ht
          | _ => exact hk
        | false =>
          refine wp_next hX hP (e false ht) (ih _ _ _ _ _ _ _ _ hs ?_ (h2 ht))
          cases c with
          | tmp t => exact hk.false ht
          | _ => exact hk
    · exact wp_next hX hP rfl (ih _ _ _ _ _ _ _ _ hs hk h)
    · exact wp_next hX hP rfl (ih _ _ _ _ _ _ _ _ hs hk h)
    · -- loop
      cases dr with
      | true => exact h.elim
      | false =>
        cases ds with
        | cons D ds => exact h.elim
        | nil =>
        obtain ⟨h1, h2⟩ := h
        refine wp_next hX hP rfl ?_
        have := hcut _ _ A tm h2 hs rfl
        rw [← h1] at this
        exact this
    · cases dr with
      | true => exact h.elim
      | false =>
        cases ds with
        | cons D ds => exact h.elim
        | nil =>
        obtain ⟨h1, h2⟩ := h
        refine wp_next hX hP rfl ?_
        have := hcut _ _ A tm h2 hs rfl
        rw [← h1] at this
        exact this
    · -- exit
      rename_i id k
      split at h
      · rename_i k' hk'
        have e : stepD P X ⟨frC fn tm (.code (.exit id) :: k) dr ro ds, cs, A⟩ = .next ⟨frC fn tm k' dr ro ds, cs, A⟩ := by
          unfold stepD stepA
          simp only [hk']
        exact wp_next hX hP e (ih _ _ _ _ _ _ _ _ hs hk h)
      · rename_i hx
        cases dr with
        | true => exact h.elim
        | false => exact hl _ _ _ _ _ (.exit _ _ hx) h
    · exact wp_next hX hP rfl (ih _ _ _ _ _ _ _ _ hs hk h)
    · -- a region that draws its order
      rename_i id ops k
      cases hin : dstsIn tm.sz ops.toList with
      | false => rw [hin] at h; exact h.elim
      | true =>
        rw [hin, cond_true] at h
        split at h
        · rename_i p hpl
          have e : stepD P X ⟨frC fn tm (.code (.region id ops true) :: k) dr ro ds, cs, A⟩ = .next ⟨frC fn tm (.inRegion ops p :: k) true ro ds, cs, A⟩ := by
            unfold stepD
            simp only [hin, cond_true, hpl]
          exact wp_next hX hP e (ih _ _ _ _ _ _ _ _ hs hk h)
        · exact h.elim
    · exact wp_next hX hP rfl (ih _ _ _ _ _ _ _ _ hs hk h)
    · -- an operation
      rename_i ops i rest k
      cases hb : (dr && !Nat.blt i ops.toList.length) with
      | true =>
        rw [hb, cond_true] at h
        simp only [Bool.and_eq_true, Bool.not_eq_true'] at hb
        obtain ⟨rfl, hb⟩ := hb
        have hge := blt_false.1 hb
        split at h
        · exact h.elim
        · rename_i o ho
          split at h
          · rename_i d hd hw
            obtain ⟨h1, h2⟩ := h
            refine wp_recheck hge ?_ (ih _ _ _ _ _ _ _ _ hs hk h2)
            intro o' d' ho' hd'
            rw [ho] at ho'
            cases ho'
            rw [hd] at hd'
            cases hd'
            exact ⟨fun _ => h1.symm, fun hw' => absurd hw' (by rw [wants_spec hk hw]; exact Bool.noConfusion)⟩
          · rename_i d hd hw
            cases hq : quietOp P o.op with
            | false =>
              rw [hq, cond_false] at h
              obtain ⟨⟨c, h1, h3⟩, h2⟩ := h
              refine wp_recheck hge ?_ (ih _ _ _ _ _ _ _ _ hs hk h2)
              intro o' d' ho' hd'
              rw [ho] at ho'
              cases ho'
              rw [hd] at hd'
              cases hd'
              exact ⟨fun hw' => absurd hw' (by rw [wants_spec hk hw]; exact Bool.noConfusion), fun _ => ⟨fun hq' => absurd hq' (by rw [hq]; exact Bool.noConfusion), fun _ => ⟨c, h1, h3⟩⟩⟩
            | true =>
              rw [hq, cond_true] at h
              have fin : ∀ A', execA P X (evalT tm) o A = .ok (.value (tm.get d)) A' → Valid P X A ops tm (i - ops.toList.length) := by
                intro A' he o' d' ho' hd'
                rw [ho] at ho'
                cases ho'
                rw [hd] at hd'
                cases hd'
                exact ⟨fun hw' => absurd hw' (by rw [wants_spec hk hw]; exact Bool.noConfusion), fun _ => ⟨fun _ => ⟨A', he⟩, fun hq' => absurd hq' (by rw [hq]; exact Bool.noConfusion)⟩⟩
              split at h
              · rename_i x hpk
                obtain ⟨h1, h2⟩ := h
                refine wp_recheck hge (fin A ?_) (ih _ _ _ _ _ _ _ _ hs hk h2)
                rw [← h1]
                exact knOp_pick hpk hk P X rfl A
              · rcases opW_does (P := P) (X := X) (fun f => rfl) h with ⟨v, A', he, h1, h2⟩ | ⟨A', he, _⟩ | ⟨g, args, A', he, _⟩ | ⟨l, fn', tm', a, b, A', he, _⟩ | ⟨it, A', he, _⟩
                · refine wp_recheck hge (fin A' ?_) (ih _ _ _ _ _ _ _ _ hs hk h2)
                  rw [← h1]
                  exact he
                · obtain ⟨_, v, hv⟩ := quiet_exec hq he
                  cases hv
                · obtain ⟨_, v, hv⟩ := quiet_exec hq he
                  cases hv
                · obtain ⟨_, v, hv⟩ := quiet_exec hq he
                  cases hv
                · obtain ⟨_, v, hv⟩ := quiet_exec hq he
                  cases hv
          · exact h.elim
      | false =>
        rw [hb, cond_false] at h
        split at h
        · exact h.elim
        · rename_i o ho
          simp only at h
          -- what comes behind a value
          have fin : ∀ {kt' kf' : Nat} {r : Option Bool} {sk : Bool} {v : Value} {A' : AW}, Kn kt' kf' ku tm → (∀ b, r = some b → v = .bool b) → (sk = true → v = undef) → (match o.dst with
              | some d => bif Nat.blt d tm.sz then wpgo P X W0 m0 fn T L S Q ro n (tm.set d v) (.inRegion ops rest :: k) dr (knT kt' d r) (knF kf' d r) (knU ku d sk) ds A' else False
              | none => wpgo P X W0 m0 fn T L S Q ro n tm (.inRegion ops rest :: k) dr kt' kf' ku ds A') →
              WP P X W0 m0 ⟨frC fn (match o.dst with | some d => tm.set d v | none => tm) (.inRegion ops rest :: k) dr ro ds, cs, A'⟩ Q0 := by
            intro kt' kf' r sk v A' hk' hr hu hh
            cases hd : o.dst with
            | none =>
              rw [hd] at hh
              exact ih _ _ _ _ _ _ _ _ hs hk' hh
            | some d =>
              rw [hd] at hh
              simp only at hh ⊢
              cases hlt : Nat.blt d tm.sz with
              | false => rw [hlt] at hh; exact hh.elim
              | true =>
                rw [hlt, cond_true] at hh
                exact ih _ _ _ _ _ _ _ _ (by rw [Tm.sz_set]; exact hs) (hk'.set (by omega) (blt_true.1 hlt) hr hu) hh
          have nf : ∀ {v : Value}, false = true → v = undef := fun h => Bool.noConfusion h
          have nn : ∀ {v : Value} (b : Bool), (none : Option Bool) = some b → v = .bool b := fun b h => by cases h
          have go : ∀ {kt' kf' : Nat}, Kn kt' kf' ku tm → wantedA ops tm o = true → (match pickKn kt' kf' o.op with
              | some x => (match o.dst with
                | some d => bif Nat.blt d tm.sz then wpgo P X W0 m0 fn T L S Q ro n (tm.set d (evalT tm x)) (.inRegion ops rest :: k) dr (knT kt' d (knOf kt' kf' x)) (knF kf' d (knOf kt' kf' x)) (knU ku d false) ds A else False
                | none => wpgo P X W0 m0 fn T L S Q ro n tm (.inRegion ops rest :: k) dr kt' kf' ku ds A)
              | none => opW P X W0 m0 (evalT tm) o A fun v A' => (match o.dst with
                | some d => bif Nat.blt d tm.sz then wpgo P X W0 m0 fn T L S Q ro n (tm.set d v) (.inRegion ops rest :: k) dr (knT kt' d (knOp kt' kf' o.op)) (knF kf' d (knOp kt' kf' o.op)) (knU ku d false) ds A' else False
                | none => wpgo P X W0 m0 fn T L S Q ro n tm (.inRegion ops rest :: k) dr kt' kf' ku ds A')) →
              WP P X W0 m0 ⟨frC fn tm (.inRegion ops (i :: rest) :: k) dr ro ds, cs, A⟩ Q0 := by
            intro kt' kf' hk' hw hh
            split at hh
            · rename_i x hpk
              exact wp_oper hX hP hp ho hb hw (K := fun v A' => v = evalT tm x ∧ A' = A) (.inl ⟨_, A, knOp_pick hpk hk' P X rfl A, (⟨rfl, rfl⟩ : _ ∧ _)⟩) fun v A' hvA => by
                obtain ⟨rfl, rfl⟩ := hvA
                exact fin (sk := false) hk' (fun b hb => knOf_spec hk' hb) nf hh
            · rename_i hpk
              cases hkn : knOp kt' kf' o.op with
              | none =>
                rw [hkn] at hh
                exact wp_oper hX hP hp ho hb hw (opW_does (fun f => rfl) hh) fun v A' hv => fin (r := none) (sk := false) hk' nn nf hv
              | some b =>
                obtain ⟨x, hx, hxb⟩ := knOp_move hpk hkn
                rw [hkn] at hh
                have hb2 := knOf_spec hk' hxb
                obtain ⟨h3, h4⟩ := move_does (W0 := W0) (m0 := m0) (X := X) hx hh
                rw [hb2] at h3 h4
                exact wp_oper hX hP hp ho hb hw (K := fun v A' => v = .bool b ∧ A' = A) (.inl ⟨_, A, h3, (⟨rfl, rfl⟩ : _ ∧ _)⟩) fun v A' hvA => by
                  obtain ⟨rfl, rfl⟩ := hvA
                  exact fin (r := some b) (sk := false) hk' (fun b' hb' => by cases hb'; rfl) nf h4
          split at h
          · rename_i hg
            exact go hk (by unfold wantedA; rw [hg]) h
          · rename_i j want hg
            split at h
            · exact h.elim
            · rename_i d hsl
              have ff : ∀ {kt' kf' : Nat}, Kn kt' kf' ku tm → wantedA ops tm o = false → (match o.dst with
                  | some d => bif Nat.blt d tm.sz then wpgo P X W0 m0 fn T L S Q ro n (tm.set d undef) (.inRegion ops rest :: k) dr (knT kt' d none) (knF kf' d none) (knU ku d true) ds A else False
                  | none => wpgo P X W0 m0 fn T L S Q ro n tm (.inRegion ops rest :: k) dr kt' kf' ku ds A) → WP P X W0 m0 ⟨frC fn tm (.inRegion ops (i :: rest) :: k) dr ro ds, cs, A⟩ Q0 :=
                fun hk' hw hh => wp_skip hX hP hp ho hb hw (fin (r := none) (sk := true) hk' nn (fun _ => rfl) hh)
              cases hu : ku.testBit d with
              | true =>
                rw [hu, cond_true] at h
                exact ff hk (unwanted_of hg hsl ((hk d).2.2 hu)) h
              | false =>
                rw [hu, cond_false] at h
                split at h
                · rename_i b hkb
                  have hv : tm.get d = .bool b := knOf_spec hk hkb
                  have hw := wanted_of hg hsl hv
                  cases hbw : (b == want) with
                  | true =>
                    rw [hbw, cond_true] at h
                    exact go hk (hw.trans hbw) h
                  | false =>
                    rw [hbw, cond_false] at h
                    exact ff hk (hw.trans hbw) h
                · obtain ⟨⟨b, hv⟩, h1, h2⟩ := h
                  have hw := wanted_of hg hsl hv
                  cases b with
                  | true =>
                    have h1 := h1 hv
                    cases want with
                    | true => exact go (hk.true hv) hw h1
                    | false => exact ff (hk.true hv) hw h1
                  | false =>
                    have h2 := h2 hv
                    cases want with
                    | true => exact ff (hk.false hv) hw h2
                    | false => exact go (hk.false hv) hw h2
    · exact h.elim
theorem wpgo_sound (hX : XOk P X) (hP : POk P) (hp : Plain X) (hsz : sz < maxId) (hcut : Cuts P X W0 m0 fn T L S Q sz) (n : Nat) (tm : Tm) (todo : List Item) (dr : Bool) (kt kf ku : Nat) (A : AW) (hs : tm.sz = sz) (hk : Kn kt kf ku tm)
    (h : wpgo P X W0 m0 fn T L S Q none n tm todo dr kt kf ku [] A) : WP P X W0 m0 ⟨frM fn tm todo dr, [], A⟩ Q :=
  wpgo_soundC hX hP hp hsz (ro := none) (cs := []) (Q0 := Q) (fun _ _ _ _ _ hj h => wp_leaves hX hP hj h) hcut n tm todo dr kt kf ku [] A hs hk h
end
def fillD (d : Nat → Value) : Nat → Trie Value → Trie Value
  | 0, t => t
  | n + 1, t => fillD d n (t.put depth n (some (d n)))
def tmOf (sz : Nat) (d : Nat → Value) : Tm := ⟨sz, fillD d sz .nil⟩
theorem fillD_get (d : Nat → Value) : ∀ (n : Nat) (t : Trie Value) (i : Nat), n ≤ maxId → i < maxId → (fillD d n t).get? i = if i < n then some (d i) else t.get? i
  | 0, t, i, _, _ => by simp [fillD]
  | n + 1, t, i, hn, hi => by
    unfold fillD
    rw [fillD_get d n _ i (by omega) hi, Trie.get?_put depth t n i (some (d n)) (by unfold depth maxId at *; omega)]
    by_cases h1 : i < n
    · rw [if_pos h1, if_pos (by omega)]
    · rw [if_neg h1]
      by_cases h2 : n = i
      · subst h2; rw [if_pos rfl, if_pos (by omega)]
      · rw [if_neg (fun e => h2 e.symm), if_neg (by omega)]
section
variable {P : Program} {X : XNames} {W0 : World} {m0 : Inj P}
theorem tmOf_get {sz : Nat} (hs : sz < maxId) (d : Nat → Value) (i : Nat) : (tmOf sz d).get i = if i < sz then d i else undef := by
  unfold tmOf Tm.get
  simp only
  by_cases hm : i < maxId
  · rw [fillD_get d sz .nil i (by omega) hm]
    by_cases hi : i < sz
    · rw [if_pos hi, if_pos hi]
    · rw [if_neg hi, if_neg hi]; rfl
  · have key : ∀ (n : Nat) (t : Trie Value), n ≤ maxId → t.get? i = none → (fillD d n t).get? i = none := by
      intro n
      induction n with
      | zero => intro t _ ht; exact ht
      | succ n ih =>
        intro t hn ht
        unfold fillD
        refine ih _ (by omega) ?_
        rw [Trie.get?_put depth t n i _ (by unfold depth maxId at *; omega), if_neg (by omega)]
        exact ht
    rw [key sz .nil (by omega) rfl, if_neg (by omega)]
theorem tmOf_rel {m : Inj P} {tm : Tm} {t' : Array Value} (h : TmRel m tm t') : TmRel m (tmOf tm.sz tm.get) t' := by
  refine ⟨h.size, h.small, fun i => ?_⟩
  rw [tmOf_get h.small]
  by_cases hi : i < tm.sz
  · rw [if_pos hi]
    exact h.val i
  · have hv : t'.getD i undef = undef := by
      have : t'.size ≤ i := by rw [h.size]; omega
      simp [Array.getD, Nat.not_lt.2 this]
    rw [if_neg hi, hv]
    exact undef_rel m
theorem wp_tmC {fn : FuncId} {tm : Tm} {todo : List Item} {ro : Option Nat} {ds : List Nat} {cs : List AFr} {A : AW} {Q : Value → AW → Prop} (h : WP P X W0 m0 ⟨frC fn (tmOf tm.sz tm.get) todo false ro ds, cs, A⟩ Q) : WP P X W0 m0 ⟨frC fn tm todo false ro ds, cs, A⟩ Q := by
  intro f0 base lo cs0 m f csW w hr ho
  refine h f0 base lo cs0 m f csW w ⟨hr.rel, hr.glob, hr.below, ⟨⟨hr.top.core.fn, hr.top.core.kind, hr.top.core.kindOk, hr.top.core.mode, hr.top.core.round, hr.top.core.defers⟩, ?_⟩, hr.stk, hr.bot.top rfl rfl rfl⟩ ho
  cases hr.top.body with
  | plain hd tm' todo' => exact .plain rfl (tmOf_rel tm') todo'
  | draw ops S C rl pl rest k k' hd => cases hd
variable {fn : FuncId} {T : Nat → List Item} {L : Nat → List Tmp} {Q : Value → AW → Prop} {sz N : Nat}
theorem cuts_ofC (hX : XOk P X) (hP : POk P) (hp : Plain X) (hsz : sz < maxId) {ro : Option Nat} {cs : List AFr} {Q0 : Value → AW → Prop}
    (hl : ∀ todo tm ds A j, Leaves todo j → leaveR P fn ro ds A tm Q j → WP P X W0 m0 ⟨frC fn tm todo false ro ds, cs, A⟩ Q0) {I : Nat → Nat → List Value → AW → Prop}
    (hbody : ∀ g id vals A d, I g id vals A → (L id).map d = vals → wpgo P X W0 m0 fn T L (fun id' v' A' => ∃ g', g' < g ∧ I g' id' v' A') Q ro N (tmOf sz d) (T id) false 0 0 0 [] A) :
    ∀ id vals A tm, (∃ g, I g id vals A) → tm.sz = sz → (L id).map tm.get = vals → WP P X W0 m0 ⟨frC fn tm (T id) false ro [], cs, A⟩ Q0 := by
  have key : ∀ g, ∀ id vals A tm, I g id vals A → tm.sz = sz → (L id).map tm.get = vals → WP P X W0 m0 ⟨frC fn tm (T id) false ro [], cs, A⟩ Q0 := by
    intro g
    induction g using Nat.strongRecOn with
    | _ g ih =>
      intro id vals A tm hI hs hv
      have hb := hbody g id vals A tm.get hI hv
      rw [← hs] at hb
      refine wp_tmC (wpgo_soundC hX hP hp hsz (S := fun id' v' A' => ∃ g', g' < g ∧ I g' id' v' A') hl ?_ N _ _ _ _ _ _ _ _ hs (fun t => by simp) hb)
      rintro id' v' A' tm' ⟨g', hg, hI'⟩ hs' hv'
      exact ih g' hg id' v' A' tm' hI' hs' hv'
  rintro id vals A tm ⟨g, hI⟩ hs hv
  exact key g id vals A tm hI hs hv
theorem cuts_of (hX : XOk P X) (hP : POk P) (hp : Plain X) (hsz : sz < maxId) {I : Nat → Nat → List Value → AW → Prop}
    (hbody : ∀ g id vals A d, I g id vals A → (L id).map d = vals → wpgo P X W0 m0 fn T L (fun id' v' A' => ∃ g', g' < g ∧ I g' id' v' A') Q none N (tmOf sz d) (T id) false 0 0 0 [] A) :
    Cuts P X W0 m0 fn T L (fun id v A => ∃ g, I g id v A) Q sz :=
  cuts_ofC hX hP hp hsz (ro := none) (cs := []) (Q0 := Q) (fun _ _ _ _ _ hj h => wp_leaves hX hP hj h) hbody
theorem wc_of (hX : XOk P X) (hP : POk P) (hp : Plain X) (hsz : sz < maxId) {S : Nat → List Value → AW → Prop} (hcut : Cuts P X W0 m0 fn T L S Q sz) {args : List Value} {tm : Tm} {todo : List Item} {A : AW}
    (he : enterA P fn args .normal = some (frM fn tm todo false)) (hs : tm.sz = sz) (h : wpgo P X W0 m0 fn T L S Q none N tm todo false 0 0 0 [] A) : Wc P X W0 m0 fn args A Q := by
  refine ⟨by rw [he]; rfl, ?_⟩
  unfold frOf
  rw [he]
  exact wpgo_sound hX hP hp hsz hcut N _ _ _ _ _ _ _ hs (fun t => by simp) h
theorem cuts_none {S : Nat → List Value → AW → Prop} (h : ∀ id v A, ¬ S id v A) : Cuts P X W0 m0 fn T L S Q sz := fun id v A _ hs => absurd hs (h id v A)
theorem round_of (hX : XOk P X) (hP : POk P) (hp : Plain X) (hsz : sz < maxId) {l : Nat} {tm : Tm} {assign body : Code} {A : AW} {K : Value → AW → Prop} (hs : tm.sz = sz)
    (h : wpgo P X W0 m0 fn T L (fun _ _ _ => False) K (some l) N (tmOf sz tm.get) [.code assign, .beginRound, .code body] false 0 0 0 [] A) : RoundW P X W0 m0 l fn tm assign body A K := by
  intro c rest Q0 hK
  have h' := h
  rw [← hs] at h'
  exact wp_tmC (fn := fn) (ds := []) (wpgo_soundC (T := T) (L := L) (S := fun _ _ _ => False) hX hP hp (by rw [hs]; exact hsz) (sz := tm.sz) (fun _ _ _ _ _ hj h => round_leaves hX hP hj h hK) (fun _ _ _ _ h => h.elim) N _ _ _ _ _ _ _ _ rfl (fun t => by simp) h')
end
section
variable {P : Program}
theorem pureW_some {v : Value} {K : Value → Prop} : pureW (some v) K ↔ K v := ⟨fun ⟨_, h, hk⟩ => by cases h; exact hk, fun h => ⟨v, rfl, h⟩⟩
theorem effW_some {A : AW} {K : AW → Prop} : effW (some A) K ↔ K A := ⟨fun ⟨_, h, hk⟩ => by cases h; exact hk, fun h => ⟨A, rfl, h⟩⟩
theorem bothW_ok {v : Value} {A : AW} {K : Value → AW → Prop} : bothW (.ok v A) K ↔ K v A := ⟨fun ⟨_, _, h, hk⟩ => by cases h; exact hk, fun h => ⟨v, A, rfl, h⟩⟩
theorem forkW_bool {b : Bool} {p q : Prop} : forkW (.bool b) p q ↔ (b = true → p) ∧ (b = false → q) :=
  ⟨fun h => ⟨fun e => h.2.1 (by rw [e]), fun e => h.2.2 (by rw [e])⟩, fun h => ⟨⟨b, rfl⟩, fun e => h.1 (by cases e; rfl), fun e => h.2 (by cases e; rfl)⟩⟩
theorem forkW_dec {c : Prop} [Decidable c] {p q : Prop} : forkW (.bool (decide c)) p q ↔ (c → p) ∧ (¬ c → q) := by
  rw [forkW_bool]; simp
theorem forkW_beq {a b : Int} {p q : Prop} : forkW (.bool (a == b)) p q ↔ (a = b → p) ∧ (a ≠ b → q) := by
  rw [forkW_bool]; simp
theorem forkW_bne {a b : Int} {p q : Prop} : forkW (.bool (a != b)) p q ↔ (a ≠ b → p) ∧ (a = b → q) := by
  rw [forkW_bool]; simp
theorem cutW_self {a : List Item} {p : Prop} : cutW a a p ↔ p := ⟨fun h => h.2, fun h => ⟨rfl, h⟩⟩
theorem eqW_self {a : Value} {p : Prop} : eqW a a p ↔ p := ⟨fun h => h.2, fun h => ⟨rfl, h⟩⟩
section
variable {t : TypeId} {xo yo : Operand} {k : IntKind} {a b : Int}
theorem bin_lss : binA P .lss t xo yo (.int k a) (.int k b) = some (.bool (decide (a < b))) := by simp [binA, binOp, Op.intCmp, quiet, closedO, closedV, pure]
theorem bin_leq : binA P .leq t xo yo (.int k a) (.int k b) = some (.bool (decide (a ≤ b))) := by simp [binA, binOp, Op.intCmp, quiet, closedO, closedV, pure]
theorem bin_gtr : binA P .gtr t xo yo (.int k a) (.int k b) = some (.bool (decide (b < a))) := by simp [binA, binOp, Op.intCmp, quiet, closedO, closedV, pure]
theorem bin_geq : binA P .geq t xo yo (.int k a) (.int k b) = some (.bool (decide (b ≤ a))) := by simp [binA, binOp, Op.intCmp, quiet, closedO, closedV, pure]
theorem bin_eql : binA P .eql t xo yo (.int k a) (.int k b) = some (.bool (a == b)) := by simp [binA, binOp, Op.intCmp, quiet, closedO, closedV, pure]
theorem bin_neq : binA P .neq t xo yo (.int k a) (.int k b) = some (.bool (a != b)) := by simp [binA, binOp, Op.intCmp, quiet, closedO, closedV, pure]
theorem bin_add : binA P .add t xo yo (.int k a) (.int k b) = some (.int k (k.wrap (a + b))) := by simp [binA, binOp, Op.intArith, quiet, closedO, closedV, pure]
theorem bin_sub : binA P .sub t xo yo (.int k a) (.int k b) = some (.int k (k.wrap (a - b))) := by simp [binA, binOp, Op.intArith, quiet, closedO, closedV, pure]
theorem un_not {x : Bool} : unA P .not (.bool x) = some (.bool (!x)) := by simp [unA, closedV, Op.unary, quiet, closedO, pure]
theorem bin_streq {x y : ByteArray} : binA P .eql t xo yo (.string x) (.string y) = some (.bool (x.data.toList == y.data.toList)) := rfl
theorem bin_strneq {x y : ByteArray} : binA P .neq t xo yo (.string x) (.string y) = some (.bool !(x.data.toList == y.data.toList)) := rfl
end
theorem wrap_i64 {n : Int} (h1 : -9223372036854775808 ≤ n) (h2 : n < 9223372036854775808) : IntKind.i64.wrap n = n := by
  unfold IntKind.wrap
  have e : (2 ^ IntKind.i64.bits : Int) = 18446744073709551616 := by decide
  have e2 : (2 ^ (IntKind.i64.bits - 1) : Int) = 9223372036854775808 := by decide
  have e3 : IntKind.i64.signed = true := rfl
  simp only [e, e2, e3, Bool.true_and, decide_eq_true_eq]
  split <;> omega
theorem sameBytes_refl : ∀ l : List UInt8, sameBytes l l = true
  | [] => rfl
  | a :: r => by simp [sameBytes, sameBytes_refl r]
theorem sameInt_refl : ∀ a : Int, sameInt a a = true
  | .ofNat a => Nat.beq_refl a
  | .negSucc a => Nat.beq_refl a
theorem same_int {n : Nat} {k : IntKind} {a : Int} : sameV (n + 1) (.int k a) (.int k a) = true := by simp [sameV, sameInt_refl]
theorem same_string {n : Nat} {s : ByteArray} : sameV (n + 1) (.string s) (.string s) = true := by simp only [sameV, sameBytes_refl]
structure Ext (A A' : AW) : Prop where
  next : A.next ≤ A'.next
  get : ∀ i, i < A.next → A'.get i = A.get i
  mem : ∀ i, i < A.next → A'.members i = A.members i
def AW.push (A : AW) (o : AO) : AW := { (A.put A.next o) with next := A.next + 1 }
theorem AW.push_get {A : AW} (o : AO) {j : Nat} (h : A.next < maxId) : (A.push o).get j = if j = A.next then some o else A.get j := AW.get_put A A.next j o h
theorem AW.push_next (A : AW) (o : AO) : (A.push o).next = A.next + 1 := rfl
theorem AW.push_ext {A : AW} (o : AO) (h : A.next < maxId) : Ext A (A.push o) :=
  ⟨Nat.le_succ _, fun i hi => by rw [AW.push_get o h, if_neg (by omega)], fun i _ => rfl⟩
theorem newP_eq {A : AW} {cs : List Value} {e : TypeId} (h : A.next < maxId) (hc : cs.all oneCell = true) : newP A cs e = .ok (.pointer (some ⟨A.next, 0, none⟩)) (A.push (.row cs e A.next 0 false)) := by
  unfold newP AW.newRow AW.new
  simp only [hc, cond_true, blt_true.2 h]
  rfl
theorem isT_int {k : IntKind} {n : Int} : isTuple (.int k n) = false := rfl
theorem isT_bool {b : Bool} : isTuple (.bool b) = false := rfl
theorem isT_string {b : ByteArray} : isTuple (.string b) = false := rfl
theorem isT_slice {a : Option Addr} {n c : Nat} : isTuple (.slice a n c) = false := rfl
theorem isT_ptr {a : Option Addr} : isTuple (.pointer a) = false := rfl
theorem isT_map {a : Option Nat} : isTuple (.map a) = false := rfl
theorem one_int {k : IntKind} {n : Int} : oneCell (.int k n) = true := rfl
theorem one_bool {b : Bool} : oneCell (.bool b) = true := rfl
theorem one_string {b : ByteArray} : oneCell (.string b) = true := rfl
theorem one_slice {a : Option Addr} {n c : Nat} : oneCell (.slice a n c) = true := rfl
theorem one_ptr {a : Option Addr} : oneCell (.pointer a) = true := rfl
theorem one_map {a : Option Nat} : oneCell (.map a) = true := rfl
theorem cell_row {A : AW} {b off : Nat} {cs : List Value} {e f b0 : Nat} {ro : Bool} (h : A.get b = some (.row cs e f b0 ro)) : A.cell? ⟨b, off, none⟩ = cellOf cs off := by
  unfold AW.cell?
  simp only [h]
theorem cells_row {A : AW} {b off n : Nat} {cs : List Value} {e f b0 : Nat} {ro : Bool} (h : A.get b = some (.row cs e f b0 ro)) : A.cells? ⟨b, off, none⟩ n = takeCells (cs.drop off) n := by
  unfold AW.cells?
  cases n with
  | zero => simp [takeCells]
  | succ n => simp only [h]
theorem cellOf_get : ∀ {cs : List Value} {i : Nat} {v : Value}, cs[i]? = some v → isTuple v = false → cellOf cs i = some v
  | [], i, v, h, _ => by simp at h
  | x :: r, 0, v, h, ht => by
    simp only [List.getElem?_cons_zero, Option.some.injEq] at h
    subst h
    simp [cellOf, ht]
  | x :: r, i + 1, v, h, ht => by
    simp only [List.getElem?_cons_succ] at h
    simp only [cellOf]
    exact cellOf_get h ht
end
section
variable {P : Program}
structure Fine (A : AW) : Prop where
  fams : ∀ i, A.next ≤ i → A.fams.get? i = none
  get : ∀ i, A.next ≤ i → A.get i = none
theorem Fine.lt {A : AW} (h : Fine A) {i : Nat} {o : AO} (hi : A.get i = some o) : i < A.next := by
  rcases Nat.lt_or_ge i A.next with h1 | h1
  · exact h1
  · rw [h.get i h1] at hi; cases hi
theorem Fine.alone {A : AW} (h : Fine A) {i : Nat} (hi : A.next ≤ i) : A.members i = [i] := by
  unfold AW.members
  rw [h.fams i hi]
theorem Fine.push {A : AW} (h : Fine A) (o : AO) (hn : A.next < maxId) : Fine (A.push o) :=
  ⟨fun i hi => h.fams i (by rw [AW.push_next] at hi; omega), fun i hi => by rw [AW.push_next] at hi; rw [AW.push_get o hn, if_neg (by omega)]; exact h.get i (by omega)⟩
structure Made (A A' : AW) (cs : List Value) (e : TypeId) : Prop where
  ext : Ext A A'
  next : A'.next = A.next + 1
  row : A'.get A.next = some (.row cs e A.next 0 false)
  mem : A'.members A.next = [A.next]
  fine : Fine A'
theorem newP_made {A : AW} {cs : List Value} {e : TypeId} {K : Value → AW → Prop} (hf : Fine A) (h : A.next < maxId) (hc : cs.all oneCell = true) (hk : ∀ A', Made A A' cs e → K (.pointer (some ⟨A.next, 0, none⟩)) A') : bothW (newP A cs e) K := by
  rw [newP_eq h hc]
  exact bothW_ok.2 (hk _ ⟨AW.push_ext _ h, rfl, by rw [AW.push_get _ h, if_pos rfl], hf.alone (Nat.le_refl _), hf.push _ h⟩)
theorem allocP_made {A : AW} {z : Value} {e : TypeId} {K : Value → AW → Prop} (hz : zeroT P e = some z) (hf : Fine A) (h : A.next < maxId) (hc : z.cells.toList.all oneCell = true)
    (hk : ∀ A', Made A A' z.cells.toList e → K (.pointer (some ⟨A.next, 0, none⟩)) A') : bothW (allocP P A e) K := by
  unfold allocP
  rw [hz]
  exact newP_made hf h hc hk
theorem drop_of_get {l : List Value} {o : Nat} {v : Value} (h : l[o]? = some v) : l.drop o = v :: l.drop (o + 1) := by
  obtain ⟨h1, rfl⟩ := List.getElem?_eq_some_iff.1 h
  exact List.drop_eq_getElem_cons h1
theorem takeCells_cons {v : Value} {l : List Value} {n : Nat} (h : isTuple v = false) : takeCells (v :: l) (n + 1) = (match takeCells l n with | some r => some (v :: r) | none => none) := by
  simp only [takeCells, h, cond_false]
  rfl
def setL : List Value → Nat → List Value → List Value
  | cs, _, [] => cs
  | cs, o, v :: r => setL (cs.set o v) (o + 1) r
theorem setL_length : ∀ (new cs : List Value) (o : Nat), (setL cs o new).length = cs.length
  | [], cs, o => rfl
  | v :: r, cs, o => by rw [setL, setL_length r]; simp
structure Wrote (A A' : AW) (b : Nat) (o : AO) : Prop where
  row : A'.get b = some o
  get : ∀ i, i ≠ b → A'.get i = A.get i
  next : A'.next = A.next
  fams : A'.fams = A.fams
theorem Wrote.fine {A A' : AW} {b : Nat} {o o' : AO} (h : Wrote A A' b o) (hf : Fine A) (hb : A.get b = some o') : Fine A' :=
  ⟨fun i hi => by rw [h.fams]; exact hf.fams i (by rw [h.next] at hi; exact hi), fun i hi => by
    rw [h.next] at hi
    have hb := hf.lt hb
    rw [h.get i (by omega)]
    exact hf.get i hi⟩
theorem Wrote.mem {A A' : AW} {b : Nat} {o : AO} (h : Wrote A A' b o) (f : Nat) : A'.members f = A.members f := by unfold AW.members; rw [h.fams]
theorem setCells_own : ∀ {new : List Value} {A : AW} {b off : Nat} {cs : List Value} {e f b0 : Nat}, A.get b = some (.row cs e f b0 false) → A.members f = [b] → off + new.length ≤ cs.length → new.all oneCell = true → b < maxId →
    ∃ A', A.setCells ⟨b, off, none⟩ new = some A' ∧ Wrote A A' b (.row (setL cs off new) e f b0 false)
  | [], A, b, off, cs, e, f, b0, hg, hm, hl, ho, hb => ⟨A, rfl, hg, fun _ _ => rfl, rfl, rfl⟩
  | v :: r, A, b, off, cs, e, f, b0, hg, hm, hl, ho, hb => by
    simp only [List.all_cons, Bool.and_eq_true] at ho
    simp only [List.length_cons] at hl
    have hble : Nat.ble cs.length off = false := ble_false.2 (by omega)
    have h1 : A.setCell ⟨b, off, none⟩ v = some (A.put b (.row (cs.set off v) e f b0 false)) := by
      unfold AW.setCell
      simp only [hg, ho.1, Bool.not_true, Bool.false_or, hble, cond_false, hm, poisonAt, Nat.beq_refl, cond_true]
    have hg' : (A.put b (.row (cs.set off v) e f b0 false)).get b = some (.row (cs.set off v) e f b0 false) := by rw [AW.get_put A b b _ hb, if_pos rfl]
    obtain ⟨A', h2, h3⟩ := setCells_own (new := r) (A := A.put b (.row (cs.set off v) e f b0 false)) (off := off + 1) hg' hm (by simp; omega) ho.2 hb
    refine ⟨A', ?_, h3.row, fun i hi => ?_, h3.next, h3.fams⟩
    · simp only [AW.setCells, h1]
      exact h2
    · rw [h3.get i hi, AW.get_put A b i _ hb, if_neg hi]
theorem effW_store {A : AW} {b off n : Nat} {v : Value} {cs : List Value} {e f b0 : Nat} {r : Option AW} {K : AW → Prop} (hr : r = (bif Nat.beq v.cells.toList.length n then A.setCells ⟨b, off, none⟩ v.cells.toList else none))
    (hv : v.cells.toList.length = n) (hg : A.get b = some (.row cs e f b0 false)) (hm : A.members f = [b]) (hl : off + n ≤ cs.length) (ho : v.cells.toList.all oneCell = true) (hb : b < maxId)
    (hk : ∀ A', Wrote A A' b (.row (setL cs off v.cells.toList) e f b0 false) → K A') : effW r K := by
  obtain ⟨A', h1, h2⟩ := setCells_own (new := v.cells.toList) (off := off) hg hm (by omega) ho hb
  rw [hr, hv, Nat.beq_refl, cond_true, h1]
  exact effW_some.2 (hk A' h2)
end
section
variable {P : Program}
structure OwnAt (lo : Nat) (A : AW) (e : TypeId) (size : Nat) (n : Nat) (cs : List Value) (b f : Nat) : Prop where
  pos : 0 < n
  row : A.get b = some (.row cs e f 0 false)
  len : cs.length = n * size
  lob : lo ≤ b
  lof : lo ≤ f
  ltf : f < A.next
  mem : ∀ i ∈ A.members f, lo ≤ i ∧ i < A.next ∧ ∃ cs' e' b' ro', A.get i = some (.row cs' e' f b' ro')
def OwnS (lo : Nat) (A : AW) (e : TypeId) (size : Nat) (v : Value) (n : Nat) (cs : List Value) : Prop :=
  (v = .slice none 0 0 ∧ n = 0 ∧ cs = []) ∨ ∃ b f, v = .slice (some ⟨b, 0, none⟩) n (capU + n) ∧ OwnAt lo A e size n cs b f
theorem OwnS.one {lo : Nat} {A : AW} {e : TypeId} {size : Nat} {v : Value} {n : Nat} {cs : List Value} (h : OwnS lo A e size v n cs) : oneCell v = true ∧ isTuple v = false := by
  rcases h with ⟨rfl, _⟩ | ⟨b, f, rfl, _⟩ <;> exact ⟨rfl, rfl⟩
theorem poisonFrom_get (coord : Nat) : ∀ (l : List Nat) (A : AW), (∀ i ∈ l, i < maxId) → (∀ i, i ∉ l → (poisonFrom coord l A).get i = A.get i) ∧ (poisonFrom coord l A).next = A.next ∧ (poisonFrom coord l A).fams = A.fams
  | [], A, _ => ⟨fun _ _ => rfl, rfl, rfl⟩
  | x :: r, A, hl => by
    unfold poisonFrom
    split
    · rename_i cs e fam base ro hx
      obtain ⟨h1, h2, h3⟩ := poisonFrom_get coord r (A.put x (.row (poisonFromL cs (coord - base)) e fam base ro)) fun i hi => hl i (by simp [hi])
      refine ⟨fun i hi => ?_, h2, h3⟩
      simp only [List.mem_cons, not_or] at hi
      rw [h1 i hi.2, AW.get_put A x i _ (hl x (by simp)), if_neg hi.1]
    · obtain ⟨h1, h2, h3⟩ := poisonFrom_get coord r A fun i hi => hl i (by simp [hi])
      exact ⟨fun i hi => h1 i (fun h => hi (by simp [h])), h2, h3⟩
theorem takeAny_all : ∀ (l : List Value), takeAny l l.length = some l
  | [] => rfl
  | v :: r => by simp [takeAny, takeAny_all r]
structure Appended (lo : Nat) (A A' : AW) (e : TypeId) (size : Nat) (v v' : Value) (n m : Nat) (cs new : List Value) : Prop where
  own : OwnS lo A' e size v' (n + m) (cs ++ new)
  next : A'.next = A.next + 1
  fine : Fine A'
  get : ∀ i, i < A.next → (∀ b f, v = .slice (some ⟨b, 0, none⟩) n (capU + n) → OwnAt lo A e size n cs b f → i ∉ A.members f) → A'.get i = A.get i
  mem : ∀ g, g < A.next → (∀ b f, v = .slice (some ⟨b, 0, none⟩) n (capU + n) → OwnAt lo A e size n cs b f → g ≠ f) → A'.members g = A.members g
  fam : ∀ b' f', v' = .slice (some ⟨b', 0, none⟩) (n + m) (capU + (n + m)) → OwnAt lo A' e size (n + m) (cs ++ new) b' f' → f' = A.next ∨ ∃ b, v = .slice (some ⟨b, 0, none⟩) n (capU + n) ∧ OwnAt lo A e size n cs b f'
theorem appendA_nil {A : AW} {t t2 e : TypeId} {size bytes : Nat} {x : Value} {m : Nat} {new : List Value} (ht : sliceElemT P t = some e) (hs : szT P e = some (size + 1)) (hb : bytesT P e = some bytes)
    (hx : sourceZ P A e t2 (size + 1) x = some (m + 1, new)) (hroom : (Nat.blt (0 + (m + 1)) room && Nat.blt ((0 + (m + 1)) * bytes) room && hasZero P e (size + 1)) = true) (hmax : A.next < maxId) :
    appendA P A t t2 (.slice none 0 0) x = .ok (.slice (some ⟨A.next, 0, none⟩) (0 + (m + 1)) (capU + (0 + (m + 1)))) (A.push (.row new e A.next 0 false)) := by
  unfold appendA
  simp only [ht, hs, hb, hx]
  rw [hroom]
  simp only [Bool.not_true, cond_false]
  have h1 : Nat.ble capU 0 = false := rfl
  have h2 : Nat.ble (0 + (m + 1)) 0 = false := ble_false.2 (by omega)
  simp only [h1, cond_false, h2, List.nil_append]
  unfold AW.new
  simp only [blt_true.2 hmax, cond_true]
  rfl
theorem appendA_grow {A B : AW} {t t2 e : TypeId} {size bytes : Nat} {x : Value} {n m c b f : Nat} {cs new : List Value} {a' : Addr} (ht : sliceElemT P t = some e) (hs : szT P e = some (size + 1)) (hb : bytesT P e = some bytes)
    (hx : sourceZ P A e t2 (size + 1) x = some (m + 1, new)) (hroom : (Nat.blt (n + (m + 1)) room && Nat.blt ((n + (m + 1)) * bytes) room && hasZero P e (size + 1)) = true) (h1 : Nat.ble capU c = true) (h2 : Nat.ble (n + (m + 1)) (c - capU) = false)
    (hrow : A.get b = some (.row cs e f 0 false)) (hone : new.all oneCell = true) (hold : A.cellsAny ⟨b, 0, none⟩ (n * (size + 1)) = some cs)
    (hni : (poisonFrom (n * (size + 1)) (A.members f) A).newIn (cs ++ new) e f 0 = some (a', B)) :
    appendA P A t t2 (.slice (some ⟨b, 0, none⟩) n c) x = .ok (.slice (some a') (n + (m + 1)) (capU + (n + (m + 1)))) B := by
  unfold appendA
  simp only [ht, hs, hb, hx]
  rw [hroom]
  simp only [Bool.not_true, cond_false]
  generalize hlb : (bif Nat.ble capU c then c - capU else c) = lb
  have hz : Nat.ble (n + (m + 1)) lb = false := by
    rw [h1, cond_true] at hlb
    rw [← hlb]
    exact h2
  clear hlb h2
  have hbe : Nat.beq e e = true := Nat.beq_refl e
  simp only [hz, h1, cond_false, cond_true, hrow, hbe, hone, Bool.and_self, Bool.not_true]
  rw [hold]
  have hc : (0 + 0 + n * (size + 1)) = n * (size + 1) := by omega
  simp only [hc, Nat.add_zero, hni]
theorem append_own {lo : Nat} {A : AW} {t t2 e : TypeId} {size bytes : Nat} {v x : Value} {n m : Nat} {cs new : List Value} (ht : sliceElemT P t = some e) (hs : szT P e = some (size + 1)) (hb : bytesT P e = some bytes)
    (hz : hasZero P e (size + 1) = true) (hx : sourceZ P A e t2 (size + 1) x = some (m + 1, new)) (hnew : new.length = (m + 1) * (size + 1)) (hone : new.all oneCell = true) (h : OwnS lo A e (size + 1) v n cs) (hf : Fine A) (hlo : lo ≤ A.next)
    (hmax : A.next < maxId) (hr1 : n + (m + 1) < room) (hr2 : (n + (m + 1)) * bytes < room) : ∃ v' A', appendA P A t t2 v x = .ok v' A' ∧ Appended lo A A' e (size + 1) v v' n (m + 1) cs new := by
  have hroom : (Nat.blt (n + (m + 1)) room && Nat.blt ((n + (m + 1)) * bytes) room && hasZero P e (size + 1)) = true := by rw [blt_true.2 hr1, blt_true.2 hr2, hz]; rfl
  rcases h with ⟨rfl, rfl, rfl⟩ | ⟨b, f, rfl, h⟩
  · refine ⟨.slice (some ⟨A.next, 0, none⟩) (0 + (m + 1)) (capU + (0 + (m + 1))), A.push (.row new e A.next 0 false), ?_, ?_⟩
    · exact appendA_nil ht hs hb hx hroom hmax
    · have hfp := hf.push (.row new e A.next 0 false) hmax
      have hrow : (A.push (.row new e A.next 0 false)).get A.next = some (.row new e A.next 0 false) := by rw [AW.push_get _ hmax, if_pos rfl]
      refine ⟨.inr ⟨A.next, A.next, rfl, by omega, by rw [hrow]; rfl, by simp only [List.nil_append, hnew, Nat.zero_add], hlo, hlo, by rw [AW.push_next]; omega, fun i hi => ?_⟩, rfl, hfp, fun i hi _ => by rw [AW.push_get _ hmax, if_neg (by omega)], fun g hg _ => rfl, fun b' f' hv ho => ?_⟩
      · have : (A.push (.row new e A.next 0 false)).members A.next = [A.next] := hf.alone (Nat.le_refl _)
        rw [this] at hi
        obtain rfl : i = A.next := by simpa using hi
        exact ⟨hlo, by rw [AW.push_next]; omega, _, _, _, _, hrow⟩
      · simp only [Value.slice.injEq, Option.some.injEq, Addr.mk.injEq] at hv
        obtain ⟨⟨rfl, _⟩, _⟩ := hv
        have := ho.row
        rw [hrow] at this
        simp only [Option.some.injEq, AO.row.injEq] at this
        exact .inl this.2.2.1.symm
  · have hmemlt : ∀ i ∈ A.members f, i < maxId := fun i hi => by have := (h.mem i hi).2.1; omega
    obtain ⟨p1, p2, p3⟩ := poisonFrom_get (n * (size + 1)) (A.members f) A hmemlt
    let A1 := poisonFrom (n * (size + 1)) (A.members f) A
    have hA1 : A1.next = A.next := p2
    let A2 : AW := { (A1.push (.row (cs ++ new) e f 0 false)) with fams := (A1.push (.row (cs ++ new) e f 0 false)).fams.put depth f (some (A1.next :: A1.members f)) }
    have hm1 : ∀ g, A1.members g = A.members g := fun g => by unfold AW.members; rw [show A1.fams = A.fams from p3]
    have hget2 : ∀ i, A2.get i = if i = A.next then some (.row (cs ++ new) e f 0 false) else A1.get i := by
      intro i
      show (A1.push _).get i = _
      rw [AW.push_get _ (by rw [hA1]; exact hmax), hA1]
    have hltf := h.ltf
    have hmem2 : ∀ g, g < maxId → A2.members g = if g = f then A.next :: A.members f else A.members g := by
      intro g hg
      show (match ((A1.push (.row (cs ++ new) e f 0 false)).fams.put depth f (some (A1.next :: A1.members f))).get? g with | some l => l | none => [g]) = _
      rw [Trie.get?_put depth _ f g _ (by unfold depth maxId at *; omega)]
      by_cases hgf : g = f
      · rw [if_pos hgf, if_pos hgf, hm1, hA1]
      · rw [if_neg hgf, if_neg hgf, ← hm1 g]; rfl
    have hnext2 : A2.next = A.next + 1 := by show A1.next + 1 = _; rw [hA1]
    refine ⟨.slice (some ⟨A.next, 0, none⟩) (n + (m + 1)) (capU + (n + (m + 1))), A2, ?_, ?_⟩
    · have hold : A.cellsAny ⟨b, 0, none⟩ (n * (size + 1)) = some cs := by
        unfold AW.cellsAny
        obtain ⟨k, hk⟩ : ∃ k, n * (size + 1) = k + 1 := ⟨n * (size + 1) - 1, by have : 0 < n * (size + 1) := Nat.mul_pos h.pos (by omega); omega⟩
        rw [hk]
        simp only [h.row, List.drop_zero]
        rw [← hk, ← h.len]
        exact takeAny_all cs
      have hni : (poisonFrom (n * (size + 1)) (A.members f) A).newIn (cs ++ new) e f 0 = some (⟨A1.next, 0, none⟩, A2) := by
        unfold AW.newIn AW.new
        have : Nat.blt (poisonFrom (n * (size + 1)) (A.members f) A).next maxId = true := blt_true.2 (by rw [p2]; exact hmax)
        simp only [this, cond_true]
        rfl
      rw [hA1] at hni
      exact appendA_grow ht hs hb hx hroom (ble_true.2 (Nat.le_add_right _ _)) (ble_false.2 (by rw [Nat.add_sub_cancel_left]; omega)) h.row hone hold hni
    · have hnot : A.next ∉ A.members f := fun hi => by have := (h.mem _ hi).2.1; omega
      have hrow : A2.get A.next = some (.row (cs ++ new) e f 0 false) := by rw [hget2, if_pos rfl]
      -- rows of the family are still rows of it
      have hfam : ∀ i ∈ A.members f, ∃ cs' e' b' ro', A1.get i = some (.row cs' e' f b' ro') := by
        have key : ∀ (l : List Nat) (B : AW), (∀ i ∈ l, i < maxId) → ∀ i, (∃ cs' e' b' ro', B.get i = some (.row cs' e' f b' ro')) → ∃ cs' e' b' ro', (poisonFrom (n * (size + 1)) l B).get i = some (.row cs' e' f b' ro') := by
          intro l
          induction l with
          | nil => intro B _ i hi; exact hi
          | cons x r ih =>
            intro B hl i hi
            unfold poisonFrom
            refine ih _ (fun j hj => hl j (by simp [hj])) i ?_
            split
            · rename_i cs2 e2 f2 b2 ro2 hx2
              rw [AW.get_put B x i _ (hl x (by simp))]
              by_cases hix : i = x
              · subst hix
                obtain ⟨cs', e', b', ro', hi⟩ := hi
                rw [hx2] at hi
                simp only [Option.some.injEq, AO.row.injEq] at hi
                rw [if_pos rfl]
                exact ⟨_, _, _, _, by rw [hi.2.2.1]⟩
              · rw [if_neg hix]; exact hi
            · exact hi
        intro i hi
        obtain ⟨_, _, h3⟩ := h.mem i hi
        exact key _ _ hmemlt i h3
      refine ⟨.inr ⟨A.next, f, rfl, by omega, hrow, by rw [List.length_append, h.len, hnew, ← Nat.add_mul], hlo, h.lof, by rw [hnext2]; omega, fun i hi => ?_⟩, hnext2, ⟨fun i hi => ?_, fun i hi => ?_⟩, fun i hi hnf => ?_, fun g hg hgf => ?_, fun b' f' hv ho => ?_⟩
      · rw [hmem2 f (by omega), if_pos rfl, List.mem_cons] at hi
        rcases hi with rfl | hi
        · exact ⟨hlo, by rw [hnext2]; omega, _, _, _, _, hrow⟩
        · obtain ⟨g1, g2, _⟩ := h.mem i hi
          obtain ⟨cs', e', b', ro', g3⟩ := hfam i hi
          exact ⟨g1, by rw [hnext2]; omega, cs', e', b', ro', by rw [hget2, if_neg (by omega)]; exact g3⟩
      · rw [hnext2] at hi
        show ((A1.push (.row (cs ++ new) e f 0 false)).fams.put depth f (some (A1.next :: A1.members f))).get? i = none
        rw [Trie.get?_put depth _ f i _ (by unfold depth maxId at *; omega), if_neg (by omega)]
        show A1.fams.get? i = none
        rw [show A1.fams = A.fams from p3]
        exact hf.fams i (by omega)
      · rw [hnext2] at hi
        rw [hget2, if_neg (by omega)]
        show (poisonFrom _ _ A).get i = none
        rw [p1 i (fun hm => by have := (h.mem i hm).2.1; omega)]
        exact hf.get i (by omega)
      · rw [hget2, if_neg (by omega)]
        exact p1 i (hnf b f rfl h)
      · rw [hmem2 g (by omega), if_neg (hgf b f rfl h)]
      · simp only [Value.slice.injEq, Option.some.injEq, Addr.mk.injEq] at hv
        obtain ⟨⟨rfl, _⟩, _⟩ := hv
        have := ho.row
        rw [hrow] at this
        simp only [Option.some.injEq, AO.row.injEq] at this
        obtain ⟨_, _, rfl, _⟩ := this
        exact .inr ⟨b, rfl, h⟩
end
section
variable {P : Program}
theorem quiet_bind {α β : Type} (k : α → Sem β) : ∀ s : Sem α, quiet P (s.bind k) = (quiet P s).bind fun a => quiet P (k a)
  | .pure a => rfl
  | .program f => quiet_bind k (f P)
  | .mark _ f => by
    show quiet P (f.bind k) = _
    exact quiet_bind k f
  | .load .. => rfl
  | .store .. => rfl
  | .new .. => rfl
  | .shape .. => rfl
  | .freeze .. => rfl
  | .frozen .. => rfl
  | .getObj .. => rfl
  | .setObj .. => rfl
  | .choose .. => rfl
  | .sys .. => rfl
  | .halt _ => rfl
theorem quiet_bindM {α β : Type} (s : Sem α) (k : α → Sem β) : quiet P (s >>= k) = (quiet P s).bind fun a => quiet P (k a) := quiet_bind k s
theorem quiet_struct (d : Nat) (t : TypeId) (xs ys : Array Value) (ht : quiet P (underlying t) = some (.struct (P.fieldsOf t))) (hp : P.stoodInHeld t = false) :
    quiet P (Op.equalIn (d + 1) t (.agg xs) (.agg ys)) = quiet P (Op.eqFields d xs ys (P.fieldsOf t).toList) := by
  simp only [Op.equalIn]
  show quiet P (Sem.bind _ _) = _
  rw [quiet_bind, ht]
  simp only [Option.bind_some]
  show quiet P (Sem.bind _ _) = _
  rw [quiet_bind]
  show (some P).bind _ = _
  simp only [Option.bind_some, hp, Bool.false_eq_true, if_false]
  rw [← Array.forIn_toList]
  generalize (P.fieldsOf t).toList = fs
  clear ht
  induction fs with
  | nil => simp [Op.eqFields]
  | cons f fs ih =>
    simp only [List.forIn_cons, Op.eqFields]
    split
    · simp only [quiet_bindM, Option.bind_assoc] at ih ⊢
      congr 1
      funext a
      congr 1
      funext b
      congr 1
      funext r
      cases r
      · rfl
      · exact ih
    · exact ih
theorem quiet_eq_int (d : Nat) (t : TypeId) (k k' : IntKind) (a b : Int) (h : quiet P (underlying t) = some (.int k')) : quiet P (Op.equalIn (d + 1) t (.int k a) (.int k b)) = some (a == b) := by
  simp only [Op.equalIn]
  show quiet P (Sem.bind _ _) = _
  rw [quiet_bind, h]
  simp only [Option.bind_some, if_true]
  rfl
theorem quiet_eq_string (d : Nat) (t : TypeId) (a b : ByteArray) (h : quiet P (underlying t) = some .string) : quiet P (Op.equalIn (d + 1) t (.string a) (.string b)) = some (a == b) := by
  simp only [Op.equalIn]
  show quiet P (Sem.bind _ _) = _
  rw [quiet_bind, h]
  rfl
end
section
variable {P : Program}
def famOf (i : Nat) : AO → Nat
  | .row _ _ f _ _ => f
  | _ => i
structure Keeps (A A' : AW) (S : List Nat) : Prop where
  next : A.next ≤ A'.next
  get : ∀ i o, A.get i = some o → famOf i o < A.next → famOf i o ∉ S → A'.get i = some o
  mem : ∀ f, f < A.next → f ∉ S → A'.members f = A.members f
theorem Keeps.refl (A : AW) (S : List Nat) : Keeps A A S := ⟨Nat.le_refl _, fun _ _ h _ _ => h, fun _ _ _ => rfl⟩
theorem Keeps.trans {A B C : AW} {S T : List Nat} (h : Keeps A B S) (k : Keeps B C T) (hT : ∀ x ∈ T, x ∈ S ∨ A.next ≤ x) : Keeps A C S :=
  ⟨Nat.le_trans h.next k.next, fun i o hi hlt hn => k.get i o (h.get i o hi hlt hn) (Nat.lt_of_lt_of_le hlt h.next) (fun hm => by
    rcases hT _ hm with h1 | h1
    · exact hn h1
    · omega), fun f hf hn => by
    rw [k.mem f (Nat.lt_of_lt_of_le hf h.next) (fun hm => by
      rcases hT _ hm with h1 | h1
      · exact hn h1
      · omega), h.mem f hf hn]⟩
theorem Keeps.more {A B : AW} {S T : List Nat} (h : Keeps A B S) (hs : ∀ x ∈ S, x ∈ T ∨ A.next ≤ x) : Keeps A B T :=
  ⟨h.next, fun i o hi hlt hn => h.get i o hi hlt (fun hm => by
    rcases hs _ hm with h1 | h1
    · exact hn h1
    · omega), fun f hf hn => h.mem f hf (fun hm => by
    rcases hs _ hm with h1 | h1
    · exact hn h1
    · omega)⟩
theorem Ext.keeps {A A' : AW} (h : Ext A A') (hf : Fine A) : Keeps A A' [] :=
  ⟨h.next, fun i o hi _ _ => by rw [h.get i (hf.lt hi)]; exact hi, fun f hf _ => h.mem f hf⟩
theorem Made.keeps {A A' : AW} {cs : List Value} {e : TypeId} (m : Made A A' cs e) (hf : Fine A) : Keeps A A' [] := m.ext.keeps hf
structure Row1 (A : AW) (b : Nat) (cs : List Value) (e : TypeId) : Prop where
  row : A.get b = some (.row cs e b 0 false)
  mem : A.members b = [b]
  lt : b < A.next
theorem Made.row1 {A A' : AW} {cs : List Value} {e : TypeId} (m : Made A A' cs e) : Row1 A' A.next cs e := ⟨m.row, m.mem, by rw [m.next]; omega⟩
theorem Row1.keeps {A A' : AW} {b : Nat} {cs : List Value} {e : TypeId} {S : List Nat} (h : Row1 A b cs e) (k : Keeps A A' S) (hn : b ∉ S) : Row1 A' b cs e :=
  ⟨k.get b _ h.row h.lt hn, by rw [k.mem b h.lt hn]; exact h.mem, Nat.lt_of_lt_of_le h.lt k.next⟩
theorem Wrote.keeps {A A' : AW} {b f : Nat} {o : AO} {cs : List Value} {e b0 : Nat} {ro : Bool} (w : Wrote A A' b o) (h : A.get b = some (.row cs e f b0 ro)) : Keeps A A' [f] :=
  ⟨by rw [w.next]; exact Nat.le_refl _, fun i o hi _ hn => by
    by_cases hib : i = b
    · subst hib
      rw [h] at hi
      cases hi
      exact absurd (List.mem_singleton.2 rfl) hn
    · rw [w.get i hib]; exact hi, fun f _ _ => w.mem f⟩
theorem Row1.store {A : AW} {b off n : Nat} {v : Value} {cs : List Value} {e : TypeId} {r : Option AW} {K : AW → Prop} (h : Row1 A b cs e) (hf : Fine A) (hb : A.next ≤ maxId)
    (hr : r = (bif Nat.beq v.cells.toList.length n then A.setCells ⟨b, off, none⟩ v.cells.toList else none)) (hv : v.cells.toList.length = n) (hl : off + n ≤ cs.length) (ho : v.cells.toList.all oneCell = true)
    (hk : ∀ A', Row1 A' b (setL cs off v.cells.toList) e → Keeps A A' [b] → A'.next = A.next → Fine A' → K A') : effW r K := by
  have hlt := h.lt
  refine effW_store hr hv h.row h.mem hl ho (by omega) fun A' w => ?_
  exact hk A' ⟨w.row, by rw [w.mem]; exact h.mem, by rw [w.next]; exact h.lt⟩ (w.keeps h.row) w.next (w.fine hf h.row)
def OwnG (A : AW) (e : TypeId) (size : Nat) (v : Value) (n : Nat) (cs : List Value) (F : List Nat) : Prop :=
  (v = .slice none 0 0 ∧ n = 0 ∧ cs = [] ∧ F = []) ∨ ∃ b f, v = .slice (some ⟨b, 0, none⟩) n (capU + n) ∧ OwnAt 0 A e size n cs b f ∧ F = [f]
theorem OwnG.nil (A : AW) (e : TypeId) (size : Nat) : OwnG A e size (.slice none 0 0) 0 [] [] := .inl ⟨rfl, rfl, rfl, rfl⟩
theorem OwnG.ownS {A : AW} {e : TypeId} {size : Nat} {v : Value} {n : Nat} {cs : List Value} {F : List Nat} (h : OwnG A e size v n cs F) : OwnS 0 A e size v n cs := by
  rcases h with ⟨h1, h2, h3, _⟩ | ⟨b, f, h1, h2, _⟩
  · exact .inl ⟨h1, h2, h3⟩
  · exact .inr ⟨b, f, h1, h2⟩
theorem OwnG.one {A : AW} {e : TypeId} {size : Nat} {v : Value} {n : Nat} {cs : List Value} {F : List Nat} (h : OwnG A e size v n cs F) : oneCell v = true ∧ isTuple v = false := h.ownS.one
theorem OwnG.lt {A : AW} {e : TypeId} {size : Nat} {v : Value} {n : Nat} {cs : List Value} {F : List Nat} (h : OwnG A e size v n cs F) : ∀ x ∈ F, x < A.next := by
  rcases h with ⟨_, _, _, rfl⟩ | ⟨b, f, _, h2, rfl⟩
  · intro x hx; simp at hx
  · intro x hx
    obtain rfl : x = f := by simpa using hx
    exact h2.ltf
theorem OwnG.keeps {A A' : AW} {e : TypeId} {size : Nat} {v : Value} {n : Nat} {cs : List Value} {F S : List Nat} (h : OwnG A e size v n cs F) (k : Keeps A A' S) (hd : ∀ x ∈ F, x ∉ S) : OwnG A' e size v n cs F := by
  rcases h with h | ⟨b, f, rfl, h, rfl⟩
  · exact .inl h
  · have hfs : f ∉ S := hd f (by simp)
    refine .inr ⟨b, f, rfl, ⟨h.pos, k.get b _ h.row h.ltf hfs, h.len, Nat.zero_le _, Nat.zero_le _, Nat.lt_of_lt_of_le h.ltf k.next, fun i hi => ?_⟩, rfl⟩
    rw [k.mem f h.ltf hfs] at hi
    obtain ⟨_, h2, cs', e', b', ro', h3⟩ := h.mem i hi
    exact ⟨Nat.zero_le _, Nat.lt_of_lt_of_le h2 k.next, cs', e', b', ro', k.get i _ h3 h.ltf hfs⟩
theorem appendG {A : AW} {t t2 e : TypeId} {size bytes : Nat} {v x : Value} {n m : Nat} {cs new : List Value} {F : List Nat} (ht : sliceElemT P t = some e) (hs : szT P e = some (size + 1)) (hb : bytesT P e = some bytes)
    (hz : hasZero P e (size + 1) = true) (hx : sourceZ P A e t2 (size + 1) x = some (m + 1, new)) (hnew : new.length = (m + 1) * (size + 1)) (hone : new.all oneCell = true) (h : OwnG A e (size + 1) v n cs F) (hf : Fine A)
    (hmax : A.next < maxId) (hr1 : n + (m + 1) < room) (hr2 : (n + (m + 1)) * bytes < room) {K : Value → AW → Prop}
    (hk : ∀ v' A' F', OwnG A' e (size + 1) v' (n + (m + 1)) (cs ++ new) F' → Keeps A A' F → (∀ x ∈ F', x ∈ F ∨ x = A.next) → A'.next = A.next + 1 → Fine A' → K v' A') : bothW (appendA P A t t2 v x) K := by
  obtain ⟨v', A', h1, a⟩ := append_own (P := P) ht hs hb hz hx hnew hone h.ownS hf (Nat.zero_le _) hmax hr1 hr2
  rw [h1]
  refine bothW_ok.2 ?_
  have hfam : ∀ b f, v = .slice (some ⟨b, 0, none⟩) n (capU + n) → OwnAt 0 A e (size + 1) n cs b f → f ∈ F := by
    intro b f hv ho
    rcases h with ⟨h1, _⟩ | ⟨b', f', h1, h2, rfl⟩
    · rw [h1] at hv; cases hv
    · rw [h1] at hv
      simp only [Value.slice.injEq, Option.some.injEq, Addr.mk.injEq] at hv
      obtain ⟨⟨rfl, _⟩, _⟩ := hv
      have := ho.row
      rw [h2.row] at this
      simp only [Option.some.injEq, AO.row.injEq] at this
      simp [this.2.2.1]
  have hkeep : Keeps A A' F := ⟨by rw [a.next]; omega, fun i o hi hlt hn => by
      rw [a.get i (hf.lt hi) (fun b f hv ho him => ?_)]
      · exact hi
      · obtain ⟨_, _, cs', e', b', ro', h3⟩ := ho.mem i him
        rw [hi] at h3
        cases h3
        exact hn (hfam b f hv ho), fun g hg hn => a.mem g hg fun b f hv ho hgf => hn (hgf ▸ hfam b f hv ho)⟩
  rcases a.own with ⟨_, h2, _⟩ | ⟨b, f, h2, h3⟩
  · omega
  · refine hk v' A' [f] (.inr ⟨b, f, h2, h3, rfl⟩) hkeep (fun x hx => ?_) a.next a.fine
    obtain rfl : x = f := by simpa using hx
    rcases a.fam b x h2 h3 with h4 | ⟨b', h4, h5⟩
    · exact .inr h4
    · exact .inl (hfam b' x h4 h5)
theorem mem_of_fams {A A' : AW} (h : A'.fams = A.fams) (g : Nat) : A'.members g = A.members g := by unfold AW.members; rw [h]
theorem poisonAt_get (self coord : Nat) : ∀ (l : List Nat) (A : AW), (∀ i ∈ l, i < maxId) → (∀ i, i ∉ l ∨ i = self → (poisonAt self coord l A).get i = A.get i) ∧
    (∀ i cs e f b ro, A.get i = some (.row cs e f b ro) → ∃ cs', (poisonAt self coord l A).get i = some (.row cs' e f b ro)) ∧ (poisonAt self coord l A).next = A.next ∧ (poisonAt self coord l A).fams = A.fams
  | [], A, _ => ⟨fun _ _ => rfl, fun i cs e f b ro h => ⟨cs, h⟩, rfl, rfl⟩
  | x :: r, A, hl => by
    unfold poisonAt
    cases hxs : Nat.beq x self with
    | true =>
      have hx : x = self := Nat.eq_of_beq_eq_true hxs
      obtain ⟨h1, h2, h3, h4⟩ := poisonAt_get self coord r A (fun i hi => hl i (by simp [hi]))
      refine ⟨fun i hi => h1 i ?_, h2, h3, h4⟩
      rcases hi with hi | hi
      · exact .inl (fun hm => hi (by simp [hm]))
      · exact .inr hi
    | false =>
      have hx : x ≠ self := fun e => by rw [e, Nat.beq_refl] at hxs; cases hxs
      simp only [cond_false]
      have same : ∀ B : AW, (∀ i, i ≠ x → B.get i = A.get i) → (∀ i cs e f b ro, A.get i = some (.row cs e f b ro) → ∃ cs', B.get i = some (.row cs' e f b ro)) → B.next = A.next → B.fams = A.fams →
          (∀ i, i ∉ x :: r ∨ i = self → (poisonAt self coord r B).get i = A.get i) ∧ (∀ i cs e f b ro, A.get i = some (.row cs e f b ro) → ∃ cs', (poisonAt self coord r B).get i = some (.row cs' e f b ro)) ∧ (poisonAt self coord r B).next = A.next ∧ (poisonAt self coord r B).fams = A.fams := by
        intro B g1 g2 g3 g4
        obtain ⟨h1, h2, h3, h4⟩ := poisonAt_get self coord r B (fun i hi => hl i (by simp [hi]))
        refine ⟨fun i hi => ?_, fun i cs e f b ro hi => ?_, by rw [h3, g3], by rw [h4, g4]⟩
        · rw [h1 i (by
            rcases hi with hi | hi
            · exact .inl (fun hm => hi (by simp [hm]))
            · exact .inr hi), g1 i (by
            rcases hi with hi | hi
            · exact fun e => hi (by simp [e])
            · subst hi; exact fun e => hx e.symm)]
        · obtain ⟨cs', hb⟩ := g2 i cs e f b ro hi
          exact h2 i cs' e f b ro hb
      split
      · rename_i cs2 e2 f2 b2 ro2 hx2
        cases hble : Nat.ble b2 coord with
        | false => exact same A (fun _ _ => rfl) (fun i cs e f b ro h => ⟨cs, h⟩) rfl rfl
        | true =>
          simp only [cond_true]
          refine same _ (fun i hi => by rw [AW.get_put A x i _ (hl x (by simp)), if_neg hi]) (fun i cs e f b ro hi => ?_) rfl rfl
          rw [AW.get_put A x i _ (hl x (by simp))]
          by_cases hix : i = x
          · subst hix
            rw [hx2] at hi
            cases hi
            exact ⟨_, by rw [if_pos rfl]⟩
          · exact ⟨cs, by rw [if_neg hix]; exact hi⟩
      · exact same A (fun _ _ => rfl) (fun i cs e f b ro h => ⟨cs, h⟩) rfl rfl
theorem setCells_fam : ∀ {new : List Value} {A : AW} {b off : Nat} {cs : List Value} {e f : Nat}, A.get b = some (.row cs e f 0 false) → (∀ i ∈ A.members f, i < maxId) → off + new.length ≤ cs.length → new.all oneCell = true → b < maxId →
    ∃ A', A.setCells ⟨b, off, none⟩ new = some A' ∧ A'.get b = some (.row (setL cs off new) e f 0 false) ∧ (∀ i, i ≠ b → i ∉ A.members f → A'.get i = A.get i) ∧
      (∀ i cs e f b ro, A.get i = some (.row cs e f b ro) → ∃ cs', A'.get i = some (.row cs' e f b ro)) ∧ A'.next = A.next ∧ A'.fams = A.fams
  | [], A, b, off, cs, e, f, hg, hm, hl, ho, hb => ⟨A, rfl, hg, fun _ _ _ => rfl, fun i cs e f b ro h => ⟨cs, h⟩, rfl, rfl⟩
  | v :: r, A, b, off, cs, e, f, hg, hm, hl, ho, hb => by
    simp only [List.all_cons, Bool.and_eq_true] at ho
    simp only [List.length_cons] at hl
    have hble : Nat.ble cs.length off = false := ble_false.2 (by omega)
    obtain ⟨p1, p2, p3, p4⟩ := poisonAt_get b (0 + off) (A.members f) (A.put b (.row (cs.set off v) e f 0 false)) hm
    have h1 : A.setCell ⟨b, off, none⟩ v = some (poisonAt b (0 + off) (A.members f) (A.put b (.row (cs.set off v) e f 0 false))) := by
      unfold AW.setCell
      simp only [hg, ho.1, Bool.not_true, Bool.false_or, hble, cond_false]
    have hmem : ∀ g, (poisonAt b (0 + off) (A.members f) (A.put b (.row (cs.set off v) e f 0 false))).members g = A.members g := mem_of_fams p4
    have hg' : (poisonAt b (0 + off) (A.members f) (A.put b (.row (cs.set off v) e f 0 false))).get b = some (.row (cs.set off v) e f 0 false) := by
      rw [p1 b (.inr rfl), AW.get_put A b b _ hb, if_pos rfl]
    obtain ⟨A', h2, h3, h4, h5, h6, h7⟩ := setCells_fam (new := r) (off := off + 1) hg' (by rw [hmem]; exact hm) (by simp; omega) ho.2 hb
    refine ⟨A', ?_, h3, fun i hi hn => ?_, fun i cs2 e2 f2 b2 ro2 hi => ?_, by rw [h6, p3]; rfl, by rw [h7, p4]; rfl⟩
    · simp only [AW.setCells, h1]
      exact h2
    · rw [h4 i hi (by rw [hmem]; exact hn), p1 i (.inl hn), AW.get_put A b i _ hb, if_neg hi]
    · have : ∃ cs', (A.put b (.row (cs.set off v) e f 0 false)).get i = some (.row cs' e2 f2 b2 ro2) := by
        rw [AW.get_put A b i _ hb]
        by_cases hib : i = b
        · subst hib
          rw [hg] at hi
          cases hi
          exact ⟨_, by rw [if_pos rfl]⟩
        · exact ⟨cs2, by rw [if_neg hib]; exact hi⟩
      obtain ⟨cs3, h8⟩ := this
      obtain ⟨cs4, h9⟩ := p2 i cs3 e2 f2 b2 ro2 h8
      exact h5 i cs4 e2 f2 b2 ro2 h9
theorem storeG {A : AW} {e : TypeId} {size : Nat} {n : Nat} {cs : List Value} {F : List Nat} {b off k : Nat} {w : Value} {r : Option AW} {K : AW → Prop} (h : OwnG A e size (.slice (some ⟨b, 0, none⟩) n (capU + n)) n cs F) (hf : Fine A) (hmax : A.next ≤ maxId)
    (hr : r = (bif Nat.beq w.cells.toList.length k then A.setCells ⟨b, off, none⟩ w.cells.toList else none)) (hv : w.cells.toList.length = k) (hl : off + k ≤ cs.length) (ho : w.cells.toList.all oneCell = true)
    (hk : ∀ A', OwnG A' e size (.slice (some ⟨b, 0, none⟩) n (capU + n)) n (setL cs off w.cells.toList) F → Keeps A A' F → A'.next = A.next → Fine A' → K A') : effW r K := by
  rcases h with ⟨h1, _⟩ | ⟨b', f, h1, h, rfl⟩
  · cases h1
  simp only [Value.slice.injEq, Option.some.injEq, Addr.mk.injEq, and_true] at h1
  subst h1
  have hbl := hf.lt h.row
  have hml : ∀ i ∈ A.members f, i < maxId := fun i hi => by have := (h.mem i hi).2.1; omega
  obtain ⟨A', g1, g2, g3, g4, g5, g6⟩ := setCells_fam (new := w.cells.toList) (off := off) h.row hml (by omega) ho (by omega)
  have hmem : ∀ g, A'.members g = A.members g := mem_of_fams g6
  rw [hr, hv, Nat.beq_refl, cond_true, g1]
  refine effW_some.2 (hk A' (.inr ⟨b, f, rfl, ⟨h.pos, g2, by rw [setL_length]; exact h.len, Nat.zero_le _, Nat.zero_le _, by rw [g5]; exact h.ltf, fun i hi => ?_⟩, rfl⟩) ⟨by rw [g5]; exact Nat.le_refl _, fun i o hi _ hn => ?_, fun g _ _ => hmem g⟩ g5 ⟨fun i hi => ?_, fun i hi => ?_⟩)
  · rw [hmem] at hi
    obtain ⟨_, h2, cs', e', b', ro', h3⟩ := h.mem i hi
    obtain ⟨cs2, h4⟩ := g4 i _ _ _ _ _ h3
    exact ⟨Nat.zero_le _, by rw [g5]; exact h2, cs2, e', b', ro', h4⟩
  · rw [g3 i (fun e => ?_) (fun hm => ?_)]
    · exact hi
    · subst e
      rw [h.row] at hi
      cases hi
      exact hn (List.mem_singleton.2 rfl)
    · obtain ⟨_, _, cs', e', b', ro', h3⟩ := h.mem i hm
      rw [hi] at h3
      cases h3
      exact hn (List.mem_singleton.2 rfl)
  · rw [g6]; exact hf.fams i (by rw [g5] at hi; exact hi)
  · rw [g5] at hi
    rw [g3 i (fun e => by omega) (fun hm => by have := (h.mem i hm).2.1; omega)]
    exact hf.get i hi
structure Map1 (A : AW) (r : Nat) (es : List MapEntry) (c : Nat) : Prop where
  row : A.get r = some (.map es c false)
  lt : r < A.next
theorem Map1.keeps {A A' : AW} {r : Nat} {es : List MapEntry} {c : Nat} {S : List Nat} (h : Map1 A r es c) (k : Keeps A A' S) (hn : r ∉ S) : Map1 A' r es c :=
  ⟨k.get r _ h.row h.lt hn, Nat.lt_of_lt_of_le h.lt k.next⟩
theorem Map1.put {A : AW} {r : Nat} {es es' : List MapEntry} {c c' : Nat} (h : Map1 A r es c) (hf : Fine A) (hb : A.next ≤ maxId) : Map1 (A.put r (.map es' c' false)) r es' c' ∧ Keeps A (A.put r (.map es' c' false)) [r] ∧ (A.put r (.map es' c' false)).next = A.next ∧ Fine (A.put r (.map es' c' false)) := by
  have hlt := h.lt
  have hg : ∀ i, (A.put r (.map es' c' false)).get i = if i = r then some (.map es' c' false) else A.get i := fun i => AW.get_put A r i _ (by omega)
  refine ⟨⟨by rw [hg, if_pos rfl], hlt⟩, ⟨Nat.le_refl _, fun i o hi _ hn => ?_, fun f _ _ => rfl⟩, rfl, ⟨hf.fams, fun i hi => ?_⟩⟩
  · rw [hg, if_neg (fun e => ?_)]
    · exact hi
    · subst e
      rw [h.row] at hi
      cases hi
      exact hn (List.mem_singleton.2 rfl)
  · have hi : A.next ≤ i := hi
    rw [hg, if_neg (by omega)]
    exact hf.get i hi
end
def entryP (w : AW) (it : Value) : R AN := match entryA w it with | some v => .ok (.value v) w | none => .fail "entry"
def rangeP (P : Program) (w : AW) (t : TypeId) (x : Value) : R AN := match P.underlying t, x with
    | some .string, .string s => (match w.new (.sit s 0) with | some (b, w) => .ok (.value (.pointer (some ⟨b, 0, none⟩))) w | none => .fail "range")
    | some (.map _ _), .map none => (match w.new (.mit none 0 [] 0) with | some (b, w) => .ok (.value (.pointer (some ⟨b, 0, none⟩))) w | none => .fail "range")
    | some (.map _ _), .map (some m) => (match w.get m with
      | some (.map _ clock _) => (match w.new (.mit (some m) clock [] clock) with | some (b, w) => .ok (.value (.pointer (some ⟨b, 0, none⟩))) w | none => .fail "range")
      | _ => .fail "range")
    | _, _ => .fail "range"
def Trie.ltB {α : Type} : Trie α → Nat → Bool
  | .nil, _ => true
  | .node v l r, n => (v.isNone || Nat.blt 0 n) && (l.ltB (n / 2) && r.ltB ((n - 1) / 2))
theorem Trie.ltB_get {α : Type} : ∀ (t : Trie α) (n : Nat), t.ltB n = true → ∀ i, n ≤ i → t.get? i = none
  | .nil, _, _, _, _ => rfl
  | .node v l r, n, h, i, hi => by
    simp only [Trie.ltB, Bool.and_eq_true, Bool.or_eq_true] at h
    obtain ⟨hv, hl, hr⟩ := h
    unfold Trie.get?
    cases h0 : Nat.beq i 0 with
    | true =>
      rw [cond_true]
      obtain rfl : i = 0 := Nat.eq_of_beq_eq_true h0
      rcases hv with hv | hv
      · cases v with
        | none => rfl
        | some _ => cases hv
      · rw [show n = 0 by omega] at hv; cases hv
    | false =>
      rw [cond_false]
      have hne : i ≠ 0 := fun e => by subst e; cases h0
      cases h1 : Nat.beq (i % 2) 1 with
      | true =>
        rw [cond_true]
        have := Nat.eq_of_beq_eq_true h1
        exact Trie.ltB_get l _ hl _ (by omega)
      | false =>
        rw [cond_false]
        have : i % 2 ≠ 1 := fun e => by rw [e] at h1; cases h1
        exact Trie.ltB_get r _ hr _ (by omega)
theorem fine_of {A : AW} (h : (A.heap.ltB A.next && A.fams.ltB A.next) = true) : Fine A := by
  rw [Bool.and_eq_true] at h
  exact ⟨Trie.ltB_get _ _ h.2, Trie.ltB_get _ _ h.1⟩
section
variable {P : Program} {X : XNames} {W0 : World} {m0 : Inj P}
theorem wp_run (hX : XOk P X) (hP : POk P) {mg : List FuncId} {kn : FuncId → List Value} {n : Nat} {s : ASt} {v : Value} {A : AW} {Q : Value → AW → Prop} (h : runR P X mg kn n s = some ([(v, A)], [])) (hq : Q v A) : WP P X W0 m0 s Q :=
  (runR_sound hX hP n h (fun k hk => by cases hk)).wp fun x hx => by
    obtain rfl : x = (v, A) := by simpa using hx
    exact hq
end
end Go.Abs
