/-
  Weakest preconditions over the abstract machine: a precondition that holds gives a call of the model. Conditions: none beside those of each theorem.
-/
import Derived.Test.YtjbnbliakfeobaaGreatDoorAbsF
set_option linter.all false
namespace Go.Abs

/-! what is asked of the answers of a run over an abstract heap whose values are not known -/
section
variable {P : Program} {X : XNames} {W0 : World} {m0 : Inj P}

/-- the frame at the bottom of s returns what Q asks -/
def WP (P : Program) (X : XNames) (W0 : World) (m0 : Inj P) (s : ASt) (Q : Value → AW → Prop) : Prop :=
  ∀ (f0 : FuncId) (base lo : Nat) (cs0 : List Frame) (m : Inj P) (f : Frame) (csW : List Frame) (w : World), SRel P X f0 base lo m s f csW w → Old W0 m0 m s.w w →
    ∃ v A', Q v A' ∧ ∃ v' m' w' f', Steps P (lone f (csW ++ cs0) w) (lone f' cs0 w') ∧ VRel m' v v' ∧ EvL base m s.w w m' A' w' ∧ f'.leaving P w' (.returned v') ∧ f'.fn = f0

theorem WP.mono {s : ASt} {Q Q' : Value → AW → Prop} (h : WP P X W0 m0 s Q) (hq : ∀ v A, Q v A → Q' v A) : WP P X W0 m0 s Q' := by
  intro f0 base lo cs0 m f csW w hr ho
  obtain ⟨v, A', h1, h2⟩ := h f0 base lo cs0 m f csW w hr ho
  exact ⟨v, A', hq _ _ h1, h2⟩

theorem Reach.wp {s : ASt} {L : List ASt} {Q : Value → AW → Prop} (h : Reach P X W0 m0 s L) (h' : ∀ x ∈ L, WP P X W0 m0 x Q) : WP P X W0 m0 s Q := by
  intro f0 base lo cs0 m f csW w hr ho
  obtain ⟨s', hs', lo1, m1, f1, cs1, w1, t1, t2, t3⟩ := h f0 base lo cs0 m f csW w hr ho
  obtain ⟨v, A', hq, v', m', w', f', u1, u2, u3, u4, u5⟩ := h' s' hs' f0 base lo1 cs0 m1 f1 cs1 w1 t3 (ho.next t2)
  exact ⟨v, A', hq, v', m', w', f', t1.trans u1, u2, t2.trans u3, u4, u5⟩
theorem Reach.wp1 {s s' : ASt} {Q : Value → AW → Prop} (h : Reach P X W0 m0 s [s']) (h' : WP P X W0 m0 s' Q) : WP P X W0 m0 s Q := h.wp fun x hx => by simp at hx; subst hx; exact h'

theorem Res.wp {s : ASt} {l : List (Value × AW)} {Q : Value → AW → Prop} (h : Res P X W0 m0 s l) (hq : ∀ x ∈ l, Q x.1 x.2) : WP P X W0 m0 s Q := by
  intro f0 base lo cs0 m f csW w hr ho
  obtain ⟨x, hx, r⟩ := h f0 base lo cs0 m f csW w hr ho
  exact ⟨x.1, x.2, hq x hx, r⟩

/-- a call, and what comes behind it -/
theorem wp_sub {fr c : AFr} {rest : List AFr} {A : AW} {K Q : Value → AW → Prop} (hk : fr.kind = .normal) (hro : fr.roundOf = none) (h : WP P X W0 m0 ⟨fr, [], A⟩ K) (h' : ∀ v A', K v A' → WP P X W0 m0 ⟨c.finish v, rest, A'⟩ Q) :
    WP P X W0 m0 ⟨fr, c :: rest, A⟩ Q := by
  intro f0 base lo cs0 m f csW w hr ho
  obtain ⟨lo1, g, l', rfl, h1, h2, h3⟩ := hr.stk.inv
  have hbase := hr.stk.base
  have hlo := hr.below
  have hs : SRel P X fr.fn lo lo m ⟨fr, [], A⟩ f [] w := ⟨hr.rel, hr.glob, hr.below, hr.top, .nil lo (Nat.le_refl _), ⟨hk, rfl, hro⟩⟩
  obtain ⟨v, A', hK, v', m', w', f', u1, u2, u3, u4, u5⟩ := h fr.fn lo lo (g :: l' ++ cs0) m f [] w hs ho
  have hnext : A.next ≤ A'.next := u3.next
  have hsim : Sim P X f0 base cs0 m A w (lone f (g :: l' ++ cs0) w) ⟨c.finish v, rest, A'⟩ := by
    refine ⟨lo1, m', g.finish v', l', w', ?_, u3.weak hbase, u3.rel, hr.glob.mono u3.ext, ?_, ?_, ?_, ?_⟩
    · exact u1.trans (.one (step_leave_returned u4))
    · show lo1 ≤ A'.next
      have : lo ≤ A.next := hlo
      omega
    · refine (h2.mono (A' := A') u3.ext (fun i hi => u3.same i hi) (Nat.le_refl lo)).finish u2 ?_
      have : lo ≤ A.next := hlo
      show lo ≤ A'.next
      omega
    · exact h3.mono u3.ext fun i hi => u3.same i (by omega)
    · have hb : Bot f0 (c :: rest) := hr.bot
      exact hb.finish v
  obtain ⟨lo2, m2, f2, cs2, w2, t1, t2, t3⟩ := hsim
  obtain ⟨v2, A2, hq, v3, m3, w3, f3, s1, s2, s3, s4, s5⟩ := h' v A' hK f0 base lo2 cs0 m2 f2 cs2 w2 t3 (ho.next t2)
  exact ⟨v2, A2, hq, v3, m3, w3, f3, t1.trans s1, s2, t2.trans s3, s4, s5⟩

/-- a call of g in the abstract machine -/
def Wc (P : Program) (X : XNames) (W0 : World) (m0 : Inj P) (g : FuncId) (args : List Value) (A : AW) (K : Value → AW → Prop) : Prop :=
  (enterA P g args .normal).isSome = true ∧ WP P X W0 m0 ⟨frOf P g args, [], A⟩ K

theorem Wc.mono {g : FuncId} {args : List Value} {A : AW} {K K' : Value → AW → Prop} (h : Wc P X W0 m0 g args A K) (hk : ∀ v A, K v A → K' v A) : Wc P X W0 m0 g args A K' := ⟨h.1, h.2.mono hk⟩

theorem calls_of_wc (hP : POk P) {m : Inj P} {A : AW} {w : World} {g : FuncId} {args args' : List Value} {Q : Value → AW → Prop} (h : Wc P X w m g args A Q) (r : Rel m A w) (hG : GOk m)
    (hno : ∀ c, ¬ Own m A c) (ha : VRels m args args') : Calls P g ⟨args'⟩ w fun e w' => ∃ v v' m' A', Q v A' ∧ e = .returned v' ∧ VRel m' v v' ∧ EvL A.next m A w m' A' w' := by
  intro cs0
  obtain ⟨fr, he⟩ := Option.isSome_iff_exists.1 h.1
  have h2 := h.2
  unfold frOf at h2
  rw [he] at h2
  obtain ⟨g1, g2, g3, g4⟩ := enter_rel (X := X) (A := A) hP he ha (.inl rfl) A.next A.next
  have hs : SRel P X g A.next A.next m ⟨fr, [], A⟩ (Frame.enter P g ⟨args'⟩ .normal) [] w := ⟨r, hG, Nat.le_refl _, g1, .nil _ (Nat.le_refl _), ⟨g2, g3, g4⟩⟩
  obtain ⟨v, A', hq, v', m', w', f', k1, k2, k3, k4, k5⟩ := h2 g A.next A.next cs0 m _ [] w hs ⟨.refl m, .refl _ _, fun c _ => hno c⟩
  exact ⟨.returned v', w', f', ⟨v, v', m', A', hq, rfl, k2, k3⟩, k1, k5, k4⟩

/-- a call of a function that is known by what it does to the world, and what comes behind it -/
theorem wp_lib (hX : XOk P X) (hP : POk P) {s s' : ASt} {g : FuncId} {args : List Value} {K Q : Value → AW → Prop} (h : stepD P X s = .calls g args s')
    (hk : ∀ (m : Inj P) (w : World) (args' : List Value), Rel m s'.w w → m0.le m → Go.RowKit.Below W0.heap.size W0 w → VRels m args args' →
      Calls P g ⟨args'⟩ w fun e w' => ∃ v v' m' A', K v A' ∧ e = .returned v' ∧ VRel m' v v' ∧ EvL s'.w.next m s'.w w m' A' w')
    (h' : ∀ v A', K v A' → WP P X W0 m0 ⟨s'.fr.finish v, s'.cs, A'⟩ Q) : WP P X W0 m0 s Q := by
  intro f0 base lo cs0 m f csW w hr ho
  have hs := step_says (cs0 := cs0) hX hP hr
  rw [h] at hs
  obtain ⟨lo', m', f', cs', w', args', t1, t2, t3, t4, t5, t6, t7, t8⟩ := hs
  have ho' := ho.next t2
  obtain ⟨e, w'', fr, ⟨v, v', m2, A2, hK, rfl, hv, hev⟩, hst, _, hlv⟩ := hk m' w' args' t2.rel ho'.le ho'.below t3 (f' :: (cs' ++ cs0))
  have hst : Steps P (lone (Frame.enter P g ⟨args'⟩ .normal) (f' :: (cs' ++ cs0)) w') (lone fr (f' :: (cs' ++ cs0)) w'') := hst
  have hbase := t7.base
  have hnext : s'.w.next ≤ A2.next := hev.next
  have hev0 : EvL base m' s'.w w' m2 A2 w'' := hev.weak (by omega)
  have hsim : Sim P X f0 base cs0 m s.w w (lone f (csW ++ cs0) w) ⟨s'.fr.finish v, s'.cs, A2⟩ :=
    ⟨lo', m2, f'.finish v', cs', w'', t1.trans (hst.trans (.one (step_leave_returned hlv))), t2.trans hev0, hev.rel, t4.mono hev.ext, (by show lo' ≤ A2.next; omega),
      (t6.mono hev.ext hev.same hnext).finish hv (Nat.le_refl _), t7.mono hev.ext fun i hi => hev.same i (by omega), t8.finish v⟩
  obtain ⟨lo2, m3, f3, cs3, w3, u1, u2, u3⟩ := hsim
  obtain ⟨v2, A3, hq, v3, m4, w4, f4, s1, s2, s3, s4, s5⟩ := h' v A2 hK f0 base lo2 cs0 m3 f3 cs3 w3 u3 (ho.next u2)
  exact ⟨v2, A3, hq, v3, m4, w4, f4, u1.trans s1, s2, u2.trans s3, s4, s5⟩

/-! operations -/
def pureW (r : Option Value) (K : Value → Prop) : Prop := ∃ v, r = some v ∧ K v
def effW (r : Option AW) (K : AW → Prop) : Prop := ∃ A, r = some A ∧ K A
def bothW (r : R Value) (K : Value → AW → Prop) : Prop := ∃ v A, r = .ok v A ∧ K v A
/-- what a call of g does to the world, as seen over the abstract heap -/
def LibW (P : Program) (W0 : World) (m0 : Inj P) (g : FuncId) (args : List Value) (A : AW) (K : Value → AW → Prop) : Prop :=
  ∀ (m : Inj P) (w : World) (args' : List Value), Rel m A w → m0.le m → Go.RowKit.Below W0.heap.size W0 w → VRels m args args' →
    Calls P g ⟨args'⟩ w fun e w' => ∃ v v' m' A', K v A' ∧ e = .returned v' ∧ VRel m' v v' ∧ EvL A.next m A w m' A' w'
/-- a call of a function that is known by a contract -/
def knW (P : Program) (W0 : World) (m0 : Inj P) (g : FuncId) (args : List Value) (A : AW) (K : Value → AW → Prop) : Prop :=
  (∃ vals, g ≠ sameFn ∧ KC.Holds P W0 m0 ⟨g, args, vals⟩ ∧ vals.all (closedV 4) = true ∧ ∀ v ∈ vals, K v A) ∨ LibW P W0 m0 g args A K
def toW (P : Program) (X : XNames) (W0 : World) (m0 : Inj P) (g : FuncId) (args : List Value) (A : AW) (K : Value → AW → Prop) : Prop :=
  bif memN g X.known then knW P W0 m0 g args A K else Wc P X W0 m0 g args A K
/-- the frame of a round of the loop l -/
abbrev roundFr (fn : FuncId) (tm : Tm) (assign body : Code) (l : Nat) : AFr := ⟨fn, tm, [.code assign, .beginRound, .code body], [], .run, .normal, some l, false⟩
/-- a round of the loop l, and what comes behind it -/
def RoundW (P : Program) (X : XNames) (W0 : World) (m0 : Inj P) (l : Nat) (fn : FuncId) (tm : Tm) (assign body : Code) (A : AW) (K : Value → AW → Prop) : Prop :=
  ∀ (c : AFr) (rest : List AFr) (Q : Value → AW → Prop), (∀ v A', K v A' → WP P X W0 m0 ⟨c.finish v, rest, A'⟩ Q) → WP P X W0 m0 ⟨roundFr fn tm assign body l, c :: rest, A⟩ Q
/-- what a map's iterator may tell next -/
def candsOf (es : List MapEntry) (since : Nat) (seen : List Nat) : List (Option MapEntry) :=
  (if ((es.filter fun e => !seen.contains e.born).filter fun e => Nat.blt e.born since).isEmpty then [none] else []) ++
    (((es.filter fun e => !seen.contains e.born).filter fun e => Nat.blt e.born since) ++ ((es.filter fun e => !seen.contains e.born).filter fun e => Nat.ble since e.born)).map some
def nextW (A : AW) (r : Nat) (K : Value → AW → Prop) : Prop :=
  ∃ m since seen last es clock ro, A.get r = some (.mit (some m) since seen last) ∧ A.get m = some (.map es clock ro) ∧ (!seen.isEmpty && !es.isEmpty && es.all (fun e => Nat.ble last e.born)) = false ∧
    ∀ c ∈ candsOf es since seen, (match c with
      | some e => K (.tuple #[.bool true, e.key, e.val]) (A.put r (.mit (some m) since (seen ++ [e.born]) clock))
      | none => K (.tuple #[.bool false]) A)
def anW (P : Program) (X : XNames) (W0 : World) (m0 : Inj P) (r : R AN) (K : Value → AW → Prop) : Prop :=
  (∃ v A, r = .ok (.value v) A ∧ K v A) ∨ (∃ g args A, r = .ok (.enter g args) A ∧ toW P X W0 m0 g args A K) ∨
    (∃ l fn tm assign body A, r = .ok (.round l fn tm assign body) A ∧ RoundW P X W0 m0 l fn tm assign body A K) ∨ (∃ it A, r = .ok (.rangeNext it) A ∧ nextW A it K)
def pickW (c a b : Value) (K : Value → Prop) : Prop := ∃ t, c = .bool t ∧ K (bif t then a else b)
def loadP (P : Program) (A : AW) (t : TypeId) (a : Value) : Option Value := match a with | .pointer (some a) => loadVarA P A t a | _ => none
def storeP (P : Program) (A : AW) (t : TypeId) (a x : Value) : Option AW := match a with | .pointer (some a) => storeVarA P A t a x | _ => none
def newP (A : AW) (cs : List Value) (e : TypeId) : R Value := match A.newRow cs e with | some (a, A') => .ok (.pointer (some a)) A' | none => .fail ""
def allocP (P : Program) (A : AW) (e : TypeId) : R Value := match zeroT P e with | some z => newP A z.cells.toList e | none => .fail ""
def newMapP (A : AW) : R Value := match A.new (.map [] 0 false) with | some (b, A') => .ok (.map (some b)) A' | none => .fail ""
def ifaceP (P : Program) (t : TypeId) (x : Value) : Option Value := match P.underlying t with | some (.interface _) => none | some _ => some (.iface t x) | none => none
def extractP (t : Value) (i : Nat) : Option Value := match t with | .tuple vs => vs.toList[i]? | _ => none
def mapEntryP (P : Program) (A : AW) (t : TypeId) (m k : Value) : R Value := match mapEntryA P A t m k with | some (v, A') => .ok v A' | none => .fail ""
def nilP (x : Value) : Option Value := match x with | .pointer none => none | .nilIface => none | .nilFunc => none | .func (.method _) _ _ => none | x => some x
def dynA (P : Program) (X : XNames) (A : AW) (f : Value) (args : List Value) : R AN := match f with | .func fn first captured => invokeA P X A (.fn fn captured) (first.toList ++ args) | _ => .fail ""
def minP (x : Value) (r : List Value) : Option Value := match x with | .int k a => (match minL a r with | some n => some (.int k n) | none => none) | _ => none
def maxP (x : Value) (r : List Value) : Option Value := match x with | .int k a => (match maxL a r with | some n => some (.int k n) | none => none) | _ => none

def callW (P : Program) (X : XNames) (W0 : World) (m0 : Inj P) (ρ : Operand → Value) (c : Call) (type : TypeId) (A : AW) (K : Value → AW → Prop) : Prop :=
  match c.callee, c.argTypes.toList, c.args.toList with
  | .builtin .len, [t], [x] => pureW (lenA P A t (ρ x)) fun v => K v A
  | .builtin .append, [t, t2], [s, x] => bothW (appendA P A t t2 (ρ s) (ρ x)) K
  | .builtin .copy, [t, _], [d, x] => bothW (copyA P A t (ρ d) (ρ x)) K
  | .builtin .delete, [t, _], [m, k] => effW (deleteA P A t (ρ m) (ρ k)) fun A => K (.tuple #[]) A
  | .builtin .clear, [t], [x] => effW (clearA P A t (ρ x)) fun A => K (.tuple #[]) A
  | .builtin .min, _, x :: r => pureW (minP (ρ x) (r.map ρ)) fun v => K v A
  | .builtin .max, _, x :: r => pureW (maxP (ρ x) (r.map ρ)) fun v => K v A
  | .value (.func f), _, args => bif hasBody P f then toW P X W0 m0 f (args.map ρ) A K else anW P X W0 m0 (callFuncA P X A f (args.map ρ)) K
  | .value f, _, args => anW P X W0 m0 (dynA P X A (ρ f) (args.map ρ)) K
  | .invoke recv name, _, args => anW P X W0 m0 (callMethodA P X A (ρ recv) name (args.map ρ)) K
  | .builtin b, ts, args => anW P X W0 m0 (builtinA P A b ts type (args.map ρ)) K

def opW (P : Program) (X : XNames) (W0 : World) (m0 : Inj P) (ρ : Operand → Value) (o : Oper) (A : AW) (K : Value → AW → Prop) : Prop :=
  match o.op with
  | .move x => K (ρ x) A
  | .assign x => K (ρ x) A
  | .pick c a b => pickW (ρ c) (ρ a) (ρ b) fun v => K v A
  | .alloc e => bothW (allocP P A e) K
  | .box e x => bothW (newP A (ρ x).cells.toList e) K
  | .build t parts => pureW (buildA P t (pickAt parts.toList ρ)) fun v => K v A
  | .buildSlice t len parts => bothW (buildSliceA P A t len (pickAt parts.toList ρ)) K
  | .load t a => pureW (loadP P A t (ρ a)) fun v => K v A
  | .store t a x => effW (storeP P A t (ρ a) (ρ x)) fun A => K undef A
  | .nilCheck x => pureW (nilP (ρ x)) fun v => K v A
  | .binOp op t x y _ => pureW (binA P op t x y (ρ x) (ρ y)) fun v => K v A
  | .unOp op _ x => pureW (unA P op (ρ x)) fun v => K v A
  | .convert s d x => bothW (convertA P A s d (ρ x)) K
  | .makeInterface t x => pureW (ifaceP P t (ρ x)) fun v => K v A
  | .makeFunc fn first captured => (match fn with | .yield _ => False | _ => K (.func fn ⟨first.toList.map ρ⟩ ⟨captured.toList.map ρ⟩) A)
  | .makeMap _ none => bothW (newMapP A) K
  | .makeSlice t l c => bothW (makeSliceA P A t (ρ l) (ρ c)) K
  | .slice t x lo hi mx => pureW (sliceA P A t (ρ x) (lo.map ρ) (hi.map ρ) (mx.map ρ)) fun v => K v A
  | .fieldAddr s x f => pureW (fieldAddrA P s (ρ x) f) fun v => K v A
  | .field s x f => pureW (fieldA P s (ρ x) f) fun v => K v A
  | .indexAddr t x ix => pureW (indexAddrA P t (ρ x) (ρ ix)) fun v => K v A
  | .index t x ix => pureW (indexA P t (ρ x) (ρ ix)) fun v => K v A
  | .lookup t x k ok => pureW (lookupA P A t (ρ x) (ρ k) ok) fun v => K v A
  | .mapUpdate t m k x => effW (mapUpdateA P A t (ρ m) (ρ k) (ρ x)) fun A => K undef A
  | .insert t m k x => effW (mapUpdateA P A t (ρ m) (ρ k) (ρ x)) fun A => K undef A
  | .mapEntry t m k => bothW (mapEntryP P A t (ρ m) (ρ k)) K
  | .entryStore _ m s x => effW (entryStoreA A (ρ m) (ρ s) (ρ x)) fun A => K undef A
  | .typeAssert x xt at_ ok => pureW (typeAssertA P (ρ x) xt at_ ok) fun v => K v A
  | .extract t ix => pureW (extractP (ρ t) ix) fun v => K v A
  | .call c => callW P X W0 m0 ρ c o.type A K
  | _ => anW P X W0 m0 (execA P X ρ o A) K

/-- what an operation that meets opW does -/
def Does (P : Program) (X : XNames) (W0 : World) (m0 : Inj P) (r : R AN) (K : Value → AW → Prop) : Prop :=
  (∃ v A, r = .ok (.value v) A ∧ K v A) ∨ (∃ A, r = .ok .skip A ∧ K undef A) ∨ (∃ g args A, r = .ok (.enter g args) A ∧ toW P X W0 m0 g args A K) ∨
    (∃ l fn tm assign body A, r = .ok (.round l fn tm assign body) A ∧ RoundW P X W0 m0 l fn tm assign body A K) ∨ (∃ it A, r = .ok (.rangeNext it) A ∧ nextW A it K)

theorem anW.does {r : R AN} {K : Value → AW → Prop} (h : anW P X W0 m0 r K) : Does P X W0 m0 r K := by
  rcases h with h | h | h
  · exact .inl h
  · exact .inr (.inr (.inl h))
  · exact .inr (.inr (.inr h))

end
end Go.Abs

namespace Go.Abs

section
variable {P : Program} {X : XNames} {W0 : World} {m0 : Inj P}

theorem does_pure {r : Option Value} {A : AW} {K : Value → AW → Prop} (h : pureW r fun v => K v A) {why : String} : Does P X W0 m0 (match (generalizing := false) r with | some v => .ok (.value v) A | none => .fail why) K := by
  obtain ⟨v, rfl, hk⟩ := h
  exact .inl ⟨v, A, rfl, hk⟩
theorem does_eff {r : Option AW} {K : Value → AW → Prop} (h : effW r fun A => K undef A) {why : String} : Does P X W0 m0 (match (generalizing := false) r with | some A => .ok .skip A | none => .fail why) K := by
  obtain ⟨v, rfl, hk⟩ := h
  exact .inr (.inl ⟨v, rfl, hk⟩)
theorem does_effT {r : Option AW} {K : Value → AW → Prop} (h : effW r fun A => K (.tuple #[]) A) {why : String} : Does P X W0 m0 (match (generalizing := false) r with | some A => .ok (.value (.tuple #[])) A | none => .fail why) K := by
  obtain ⟨v, rfl, hk⟩ := h
  exact .inl ⟨_, v, rfl, hk⟩
theorem does_both {r : R Value} {K : Value → AW → Prop} (h : bothW r K) : Does P X W0 m0 (match (generalizing := false) r with | .ok v A => .ok (.value v) A | .panic v A => .panic v A | .fail y => .fail y) K := by
  obtain ⟨v, A, rfl, hk⟩ := h
  exact .inl ⟨v, A, rfl, hk⟩
theorem does_value {v : Value} {A : AW} {K : Value → AW → Prop} (h : K v A) : Does P X W0 m0 (.ok (.value v) A) K := .inl ⟨v, A, rfl, h⟩

theorem callW_does {ρ : Operand → Value} (hρ : ∀ f, ρ (.func f) = .func (.func f) #[] #[]) {c : Call} {type : TypeId} {A : AW} {K : Value → AW → Prop} (h : callW P X W0 m0 ρ c type A K) :
    Does P X W0 m0 (match (generalizing := false) resolveA ρ c type with | some d => invokeA P X A d.target d.args.toList | none => .fail "call no function") K := by
  obtain ⟨callee, args, ts⟩ := c
  unfold callW at h
  simp only at h
  unfold resolveA
  split at h
  · rename_i h1 h2
    simp only [h1, h2, invokeA, builtinA, List.map_cons, List.map_nil]
    exact does_pure h
  · rename_i h1 h2
    simp only [h1, h2, invokeA, builtinA, List.map_cons, List.map_nil]
    exact does_both h
  · rename_i h1 h2
    simp only [h1, h2, invokeA, builtinA, List.map_cons, List.map_nil]
    exact does_both h
  · rename_i h1 h2
    simp only [h1, h2, invokeA, builtinA, List.map_cons, List.map_nil]
    exact does_effT h
  · rename_i h1 h2
    simp only [h1, h2, invokeA, builtinA, List.map_cons, List.map_nil]
    exact does_effT h
  · rename_i x r h2
    simp only [h2, invokeA, List.map_cons]
    obtain ⟨v, hv, hk⟩ := h
    unfold minP at hv
    split at hv
    · rename_i k a he
      split at hv
      · rename_i n hn
        cases hv
        simp only [he, builtinA, hn]
        exact does_value hk
      · cases hv
    · cases hv
  · rename_i x r h2
    simp only [h2, invokeA, List.map_cons]
    obtain ⟨v, hv, hk⟩ := h
    unfold maxP at hv
    split at hv
    · rename_i k a he
      split at hv
      · rename_i n hn
        cases hv
        simp only [he, builtinA, hn]
        exact does_value hk
      · cases hv
    · cases hv
  · rename_i f
    simp only [hρ, invokeA, List.nil_append, List.append_nil]
    cases hb : hasBody P f with
    | true =>
      rw [hb, cond_true] at h
      unfold callFuncA
      rw [hb, cond_true]
      exact .inr (.inr (.inl ⟨f, _, A, rfl, h⟩))
    | false =>
      rw [hb, cond_false] at h
      exact h.does
  · simp only
    have h := h.does
    unfold dynA at h
    split at h
    · rename_i he
      simp only [he]
      exact h
    · rcases h with ⟨v, A', h, _⟩ | ⟨A', h, _⟩ | ⟨g, as, A', h, _⟩ | ⟨l, fn, tm, a, b, A', h, _⟩ | ⟨it, A', h, _⟩ <;> cases h
  · simp only [invokeA]
    exact h.does
  · simp only [invokeA]
    exact h.does

theorem opW_does {ρ : Operand → Value} (hρ : ∀ f, ρ (.func f) = .func (.func f) #[] #[]) {o : Oper} {A : AW} {K : Value → AW → Prop} (h : opW P X W0 m0 ρ o A K) : Does P X W0 m0 (execA P X ρ o A) K := by
  obtain ⟨dst, op, type, pos, after, guard⟩ := o
  unfold opW at h
  unfold execA
  cases op with
  | move x => exact does_value h
  | assign x => exact does_value h
  | pick c a b =>
    obtain ⟨t, h1, h2⟩ := h
    simp only [h1]
    cases t <;> exact does_value h2
  | alloc e =>
    obtain ⟨v, A', h1, h2⟩ := h
    unfold allocP newP at h1
    split at h1
    · rename_i z hz
      simp only [hz]
      split at h1
      · rename_i a A2 ha
        cases h1
        simp only [ha]
        exact does_value h2
      · cases h1
    · cases h1
  | box e x =>
    obtain ⟨v, A', h1, h2⟩ := h
    unfold newP at h1
    split at h1
    · rename_i a A2 ha
      cases h1
      simp only [ha]
      exact does_value h2
    · cases h1
  | build t parts => exact does_pure h
  | buildSlice t len parts => exact does_both h
  | load t a =>
    obtain ⟨v, h1, h2⟩ := h
    unfold loadP at h1
    split at h1
    · rename_i ad he
      simp only [he]
      rw [h1]
      exact does_value h2
    · cases h1
  | store t a x =>
    obtain ⟨v, h1, h2⟩ := h
    unfold storeP at h1
    split at h1
    · rename_i ad he
      simp only [he]
      rw [h1]
      exact .inr (.inl ⟨_, rfl, h2⟩)
    · cases h1
  | nilCheck x =>
    obtain ⟨v, h1, h2⟩ := h
    unfold nilP at h1
    split at h1
    · cases h1
    · cases h1
    · cases h1
    · cases h1
    · cases h1
      simp only
      exact does_value h2
  | binOp op t x y yt => exact does_pure h
  | unOp op t x => exact does_pure h
  | convert s d x => exact does_both h
  | makeInterface t x =>
    obtain ⟨v, h1, h2⟩ := h
    unfold ifaceP at h1
    simp only
    cases hu : P.underlying t with
    | none => rw [hu] at h1; cases h1
    | some d =>
      rw [hu] at h1
      cases d <;> first | (cases h1; done) | (cases h1; exact does_value h2)
  | makeFunc fn first captured =>
    simp only at h ⊢
    split at h
    · exact h.elim
    · split
      · simp_all
      · exact does_value h
  | makeMap t r =>
    cases r with
    | none =>
      obtain ⟨v, A', h1, h2⟩ := h
      unfold newMapP at h1
      simp only
      split at h1
      · rename_i b A2 hb
        cases h1
        simp only [hb]
        exact does_value h2
      · cases h1
    | some r => exact h.does
  | makeSlice t l c => exact does_both h
  | slice t x lo hi mx => exact does_pure h
  | fieldAddr s x f => exact does_pure h
  | field s x f => exact does_pure h
  | indexAddr t x ix => exact does_pure h
  | index t x ix => exact does_pure h
  | lookup t x k ok => exact does_pure h
  | mapUpdate t m k x => exact does_eff h
  | insert t m k x => exact does_eff h
  | mapEntry t m k =>
    obtain ⟨v, A', h1, h2⟩ := h
    unfold mapEntryP at h1
    simp only
    split at h1
    · rename_i b A2 hb
      cases h1
      simp only [hb]
      exact does_value h2
    · cases h1
  | entryStore t m s x => exact does_eff h
  | typeAssert x xt at_ ok => exact does_pure h
  | extract t ix =>
    obtain ⟨v, h1, h2⟩ := h
    unfold extractP at h1
    simp only
    split at h1
    · rename_i vs he
      simp only [he]
      rw [h1]
      exact does_value h2
    · cases h1
  | call c => exact callW_does hρ h
  | _ => exact h.does

end
end Go.Abs

namespace Go.Abs

def forkW (v : Value) (p q : Prop) : Prop := (∃ b, v = .bool b) ∧ (v = .bool true → p) ∧ (v = .bool false → q)
def cutW (a b : List Item) (p : Prop) : Prop := a = b ∧ p
def eqW (a b : Value) (p : Prop) : Prop := a = b ∧ p
/-- the object that was made is there as it was made -/
def freshW (c : Option Fresh) (A : AW) (v : Value) (p : Prop) : Prop := (∃ f, c = some f ∧ stillFresh A v f = true) ∧ p

def knOf (kt kf : Nat) : Operand → Option Bool
  | .const (.bool b) => some b
  | .tmp t => bif kt.testBit t then some true else bif kf.testBit t then some false else none
  | _ => none
def knOp (kt kf : Nat) : Op → Option Bool
  | .move x => knOf kt kf x
  | .assign x => knOf kt kf x
  | .pick c a b => (match knOf kt kf c with | some true => knOf kt kf a | some false => knOf kt kf b | none => none)
  | _ => none
/-- the operand that a pick gives, where its condition is known -/
def pickKn (kt kf : Nat) : Op → Option Operand
  | .pick c a b => (match knOf kt kf c with | some true => some a | some false => some b | none => none)
  | _ => none
def clr (k d : Nat) : Nat := bif k.testBit d then k ^^^ (1 <<< d) else k
def setB (k d : Nat) : Nat := bif k.testBit d then k else k ^^^ (1 <<< d)
/-- what is known behind a write to slot d -/
def knT (kt d : Nat) : Option Bool → Nat
  | some true => setB kt d
  | _ => clr kt d
def knF (kf d : Nat) : Option Bool → Nat
  | some false => setB kf d
  | _ => clr kf d
def opdT (kt : Nat) : Operand → Nat
  | .tmp t => setB kt t
  | _ => kt

def cutId : List Item → Nat
  | .inBlock id :: _ => id
  | _ => 0
def oneOf : List Value → Value
  | [v] => v
  | l => .tuple ⟨l⟩
def slotOf (ops : Array Oper) (j : Nat) : Option Tmp := match ops.toList[j]? with | some o => o.dst | none => none
/-- slots whose operation was passed over -/
def knU (ku d : Nat) (skipped : Bool) : Nat := bif skipped then setB ku d else clr ku d
/-- is the operation done? none: it is not known -/
def wants (kt kf ku : Nat) (ops : Array Oper) (o : Oper) : Option Bool :=
  match o.guard with
  | none => some true
  | some (j, want) => (match slotOf ops j with
    | none => none
    | some d => bif ku.testBit d then some false else (match knOf kt kf (.tmp d) with | some b => some (b == want) | none => none))

section
variable (P : Program) (X : XNames) (W0 : World) (m0 : Inj P)

def resGo (A : AW) (tm : Tm) (Q : Value → AW → Prop) : List ResultVar → List Value → Prop
  | [], acc => Q (oneOf acc.reverse) A
  | .tmp t :: r, acc => resGo A tm Q r (tm.get t :: acc)
  | .cell a t :: r, acc => pureW (loadP P A t (tm.get a)) fun v => resGo A tm Q r (v :: acc)
def retW (fn : FuncId) (A : AW) (tm : Tm) (Q : Value → AW → Prop) : Prop :=
  match P.funcs[fn]? with
  | some f => resGo P A tm Q f.results.toList []
  | none => False

/-- what is deferred, taken up: each list is empty -/
def takeDs : List Nat → AW → (AW → Prop) → Prop
  | [], A, K => K A
  | D :: r, A, K => A.get D = some (.deferred (some [])) ∧ takeDs r (A.put D (.deferred none)) K
/-- the end of a round -/
def leaveW (A : AW) (l : Nat) (j : Option Code) (K : Value → AW → Prop) : Prop :=
  ∃ r, A.get l = some (.loop r) ∧ K (.bool j.isNone) (A.put l (.loop { r with state := if j.isNone then .ready else .done, pending := j }))
def leaveR (fn : FuncId) (ro : Option Nat) (ds : List Nat) (A : AW) (tm : Tm) (Q : Value → AW → Prop) (j : Option Code) : Prop :=
  match ro with
  | none => (match j with | none => takeDs ds A fun A => retW P fn A tm Q | some .ret => takeDs ds A fun A => retW P fn A tm Q | _ => False)
  | some l => (match ds with | [] => leaveW A l j Q | _ => False)
def beginW (A : AW) (l : Nat) (K : AW → Prop) : Prop := ∃ r, A.get l = some (.loop r) ∧ r.state = .ready ∧ K (A.put l (.loop { r with state := .busy }))
/-- a loop over a function begins: D: what is deferred; l: the loop -/
def loopW (A : AW) (fn : FuncId) (tm : Tm) (ps : List Tmp) (assign body : Code) (K : Nat → Nat → AW → Prop) : Prop :=
  ∃ D A1 l A2, A.new (.deferred (some [])) = some (D, A1) ∧ A1.new (.loop { state := .ready, pending := none, fn := fn, tm := tm, params := ps, assign := assign, body := body, defers := D }) = some (l, A2) ∧ K D l A2
/-- slots that are set -/
def setsT (tm : Tm) (l : List (Nat × Value)) : Tm := l.foldl (fun tm p => tm.set p.1 p.2) tm
def endLoopW (A : AW) (l : Nat) (p q : AW → Prop) : Prop :=
  ∃ r, A.get l = some (.loop r) ∧ r.state ≠ .busy ∧ ((r.pending = none ∧ p (A.put l (.loop { r with state := .exhausted }))) ∨ (r.pending = some .ret ∧ q (A.put l (.loop { r with state := .exhausted }))))
def dynW (A : AW) (f : Value) (args : List Value) (K : Value → AW → Prop) : Prop := ∃ g as A', dynA P X A f args = .ok (.enter g as) A' ∧ Wc P X W0 m0 g as A' K

def noDs (ds : List Nat) (p : Prop) : Prop := match ds with | [] => p | _ => False
/-- what is asked of a frame, so that its function's answer is as Q asks; at the head of a loop: S -/
def wpgo (fn : FuncId) (T : Nat → List Item) (L : Nat → List Tmp) (S : Nat → List Value → AW → Prop) (Q : Value → AW → Prop) (ro : Option Nat) : Nat → Tm → List Item → Bool → Nat → Nat → Nat → List Nat → AW → Prop
  | 0, _, _, _, _, _, _, _, _ => False
  | n + 1, tm, todo, dr, kt, kf, ku, ds, A =>
    match todo with
    | [] => bif dr then False else leaveR P fn ro ds A tm Q none
    | .code .ret :: _ => bif dr then False else leaveR P fn ro ds A tm Q (some .ret)
    | .beginRound :: k => bif dr then False else (match ro with | some l => beginW A l fun A' => wpgo fn T L S Q ro n tm k dr kt kf ku ds A' | none => False)
    | .code (.rangeFunc f ps assign body) :: k => bif dr then False else (match ro with
      | some _ => False
      | none => loopW A fn tm ps.toList assign body fun D l A1 => dynW P X W0 m0 A1 (evalT tm f) [.func (.yield l) #[] #[]] fun _ A' =>
          endLoopW A' l (fun A'' => wpgo fn T L S Q ro n tm k dr kt kf ku (D :: ds) A'') (fun A'' => takeDs (D :: ds) A'' fun A3 => retW P fn A3 tm Q))
    | .code .skip :: k => wpgo fn T L S Q ro n tm k dr kt kf ku ds A
    | .code (.label _) :: k => wpgo fn T L S Q ro n tm k dr kt kf ku ds A
    | .inBlock _ :: k => wpgo fn T L S Q ro n tm k dr kt kf ku ds A
    | .inScope _ :: k => wpgo fn T L S Q ro n tm k dr kt kf ku ds A
    | .code (.seq a b) :: k => wpgo fn T L S Q ro n tm (.code a :: .code b :: k) dr kt kf ku ds A
    | .code (.cond c a b) :: k => (match knOf kt kf c with
      | some true => wpgo fn T L S Q ro n tm (.code a :: k) dr kt kf ku ds A
      | some false => wpgo fn T L S Q ro n tm (.code b :: k) dr kt kf ku ds A
      | none => forkW (evalT tm c) (wpgo fn T L S Q ro n tm (.code a :: k) dr (opdT kt c) kf ku ds A) (wpgo fn T L S Q ro n tm (.code b :: k) dr kt (opdT kf c) ku ds A))
    | .code (.block id b) :: k => wpgo fn T L S Q ro n tm (.code b :: .inBlock id :: k) dr kt kf ku ds A
    | .code (.scope b) :: k => wpgo fn T L S Q ro n tm (.code b :: .inScope b :: k) dr kt kf ku ds A
    | .code (.loop b) :: k => bif dr then False else noDs ds (cutW (.code b :: .inLoop b :: k) (T (cutId k)) (S (cutId k) ((L (cutId k)).map tm.get) A))
    | .inLoop b :: k => bif dr then False else noDs ds (cutW (.code b :: .inLoop b :: k) (T (cutId k)) (S (cutId k) ((L (cutId k)).map tm.get) A))
    | .code (.exit id) :: k => (match exitToA id k with | some k' => wpgo fn T L S Q ro n tm k' dr kt kf ku ds A | none => bif dr then False else leaveR P fn ro ds A tm Q (some (.exit id)))
    | .code (.region _ ops false) :: k => wpgo fn T L S Q ro n tm (.inRegion ops (List.range ops.toList.length) :: k) dr kt kf ku ds A
    | .code (.region _ ops true) :: k => bif dstsIn tm.sz ops.toList then (match planA P ops.toList with
      | some p => wpgo fn T L S Q ro n tm (.inRegion ops p :: k) true kt kf ku ds A
      | none => False) else False
    | .inRegion _ [] :: k => wpgo fn T L S Q ro n tm k false kt kf ku ds A
    | .inRegion ops (i :: rest) :: k =>
      bif dr && !Nat.blt i ops.toList.length then
        (match ops.toList[i - ops.toList.length]? with
        | none => False
        | some o => (match o.dst, wants kt kf ku ops o with
          | some d, some false => eqW undef (tm.get d) (wpgo fn T L S Q ro n tm (.inRegion ops rest :: k) dr kt kf ku ds A)
          | some d, some true => bif quietOp P o.op then
              (match pickKn kt kf o.op with
              | some x => eqW (evalT tm x) (tm.get d) (wpgo fn T L S Q ro n tm (.inRegion ops rest :: k) dr kt kf ku ds A)
              | none => opW P X W0 m0 (evalT tm) o A fun v _ => eqW v (tm.get d) (wpgo fn T L S Q ro n tm (.inRegion ops rest :: k) dr kt kf ku ds A))
            else freshW (freshOf P (evalT tm) o.op) A (tm.get d) (wpgo fn T L S Q ro n tm (.inRegion ops rest :: k) dr kt kf ku ds A)
          | _, _ => False))
      else (match ops.toList[i]? with
        | none => False
        | some o =>
          let fin (kt kf : Nat) (r : Option Bool) (sk : Bool) (v : Value) (A' : AW) : Prop := (match o.dst with
            | some d => bif Nat.blt d tm.sz then wpgo fn T L S Q ro n (tm.set d v) (.inRegion ops rest :: k) dr (knT kt d r) (knF kf d r) (knU ku d sk) ds A' else False
            | none => wpgo fn T L S Q ro n tm (.inRegion ops rest :: k) dr kt kf ku ds A')
          let go (kt kf : Nat) : Prop := (match pickKn kt kf o.op with
            | some x => fin kt kf (knOf kt kf x) false (evalT tm x) A
            | none => opW P X W0 m0 (evalT tm) o A (fin kt kf (knOp kt kf o.op) false))
          match o.guard with
          | none => go kt kf
          | some (j, want) => (match slotOf ops j with
            | none => False
            | some d => bif ku.testBit d then fin kt kf none true undef A else (match knOf kt kf (.tmp d) with
              | some b => bif b == want then go kt kf else fin kt kf none true undef A
              | none => forkW (tm.get d) (bif want then go (setB kt d) kf else fin (setB kt d) kf none true undef A) (bif want then fin kt (setB kf d) none true undef A else go kt (setB kf d)))))
    | _ => False

end
end Go.Abs

namespace Go.Abs

section
variable {P : Program} {X : XNames} {W0 : World} {m0 : Inj P}

/-- nothing of the run is told -/
structure Plain (X : XNames) : Prop where
  forks : X.forks = []
  asks : X.asks = []
  says : X.says = []

abbrev frC (fn : FuncId) (tm : Tm) (todo : List Item) (dr : Bool) (ro : Option Nat) (ds : List Nat) : AFr := ⟨fn, tm, todo, ds.map fun D => { target := .collected D, args := #[] }, .run, .normal, ro, dr⟩
abbrev frM (fn : FuncId) (tm : Tm) (todo : List Item) (dr : Bool) : AFr := ⟨fn, tm, todo, [], .run, .normal, none, dr⟩

def Kn (kt kf ku : Nat) (tm : Tm) : Prop := ∀ t, (kt.testBit t = true → tm.get t = .bool true) ∧ (kf.testBit t = true → tm.get t = .bool false) ∧ (ku.testBit t = true → tm.get t = undef)

theorem knOf_spec {kt kf ku : Nat} {tm : Tm} (h : Kn kt kf ku tm) {x : Operand} {b : Bool} (hx : knOf kt kf x = some b) : evalT tm x = .bool b := by
  cases x with
  | const v =>
    cases v <;> simp only [knOf] at hx <;> first | (cases hx; done) | (cases hx; rfl)
  | tmp t =>
    simp only [knOf] at hx
    cases h1 : kt.testBit t with
    | true =>
      rw [h1, cond_true, Option.some.injEq] at hx
      subst hx
      exact (h t).1 h1
    | false =>
      rw [h1, cond_false] at hx
      cases h2 : kf.testBit t with
      | true =>
        rw [h2, cond_true, Option.some.injEq] at hx
        subst hx
        exact (h t).2.1 h2
      | false => rw [h2] at hx; cases hx
  | _ => cases hx

theorem testBit_setB (k d t : Nat) : (setB k d).testBit t = (k.testBit t || d == t) := by
  unfold setB
  cases h : k.testBit d with
  | true =>
    simp only [cond_true]
    by_cases e : d = t
    · subst e; simp [h]
    · simp [e]
  | false =>
    simp only [cond_false, Nat.testBit_xor, Nat.one_shiftLeft, Nat.testBit_two_pow]
    by_cases e : d = t
    · subst e; simp [h]
    · simp [e]

theorem testBit_clr (k d t : Nat) : (clr k d).testBit t = (k.testBit t && !(d == t)) := by
  unfold clr
  cases h : k.testBit d with
  | false =>
    simp only [cond_false]
    by_cases e : d = t
    · subst e; simp [h]
    · simp [e]
  | true =>
    simp only [cond_true, Nat.testBit_xor, Nat.one_shiftLeft, Nat.testBit_two_pow]
    by_cases e : d = t
    · subst e; simp [h]
    · simp [e]

theorem Kn.set {kt kf ku : Nat} {tm : Tm} (h : Kn kt kf ku tm) (hs : tm.sz < maxId) {d : Nat} (hd : d < tm.sz) {v : Value} {r : Option Bool} {sk : Bool} (hr : ∀ b, r = some b → v = .bool b) (hu : sk = true → v = undef) : Kn (knT kt d r) (knF kf d r) (knU ku d sk) (tm.set d v) := by
  intro t
  rw [Tm.get_set tm hs d t v]
  by_cases e : t = d
  · subst e
    rw [if_pos ⟨rfl, hd⟩]
    refine ⟨?_, ?_, ?_⟩
    · cases r with
      | none => simp [knT, testBit_clr]
      | some b => cases b <;> simp [knT, testBit_clr, testBit_setB, hr]
    · cases r with
      | none => simp [knF, testBit_clr]
      | some b => cases b <;> simp [knF, testBit_clr, testBit_setB, hr]
    · cases sk with
      | false => simp [knU, testBit_clr]
      | true => simp [knU, testBit_setB, hu]
  · rw [if_neg (by simp [e])]
    have hne : (d == t) = false := by simp [Ne.symm e]
    refine ⟨?_, ?_, ?_⟩
    · cases r with
      | none => simpa [knT, testBit_clr, hne] using (h t).1
      | some b => cases b <;> simpa [knT, testBit_clr, testBit_setB, hne] using (h t).1
    · cases r with
      | none => simpa [knF, testBit_clr, hne] using (h t).2.1
      | some b => cases b <;> simpa [knF, testBit_clr, testBit_setB, hne] using (h t).2.1
    · cases sk <;> simpa [knU, testBit_clr, testBit_setB, hne] using (h t).2.2

theorem Kn.true {kt kf ku : Nat} {tm : Tm} (h : Kn kt kf ku tm) {d : Nat} (hv : tm.get d = .bool true) : Kn (setB kt d) kf ku tm := by
  intro t
  rw [testBit_setB]
  refine ⟨fun ht => ?_, (h t).2⟩
  simp only [Bool.or_eq_true, beq_iff_eq] at ht
  rcases ht with ht | rfl
  · exact (h t).1 ht
  · exact hv
theorem Kn.false {kt kf ku : Nat} {tm : Tm} (h : Kn kt kf ku tm) {d : Nat} (hv : tm.get d = .bool false) : Kn kt (setB kf d) ku tm := by
  intro t
  rw [testBit_setB]
  refine ⟨(h t).1, fun ht => ?_, (h t).2.2⟩
  simp only [Bool.or_eq_true, beq_iff_eq] at ht
  rcases ht with ht | rfl
  · exact (h t).2.1 ht
  · exact hv

theorem wp_next (hX : XOk P X) (hP : POk P) {s s' : ASt} {Q : Value → AW → Prop} (h : stepD P X s = .next s') (h' : WP P X W0 m0 s' Q) : WP P X W0 m0 s Q := (reach_next hX hP h).wp1 h'

theorem finish_at {fn : FuncId} {tm : Tm} {ops : Array Oper} {i : Nat} {rest : List Nat} {k : List Item} {dr : Bool} {ro : Option Nat} {ds : List Nat} {o : Oper} (ho : ops.toList[i]? = some o) (v : Value) :
    (frC fn tm (.inRegion ops (i :: rest) :: k) dr ro ds).finish v = frC fn (match o.dst with | some d => tm.set d v | none => tm) (.inRegion ops rest :: k) dr ro ds := by
  unfold AFr.finish
  simp only [ho]
  rfl

theorem step_oper (hp : Plain X) {fn : FuncId} {tm : Tm} {ops : Array Oper} {i : Nat} {rest : List Nat} {k : List Item} {dr : Bool} {ro : Option Nat} {ds : List Nat} {cs : List AFr} {A : AW} {o : Oper} (ho : ops.toList[i]? = some o) (hi : (dr && !Nat.blt i ops.toList.length) = false) (h1 : knownA P X ⟨frC fn tm (.inRegion ops (i :: rest) :: k) dr ro ds, cs, A⟩ ops i = none) :
    stepD P X ⟨frC fn tm (.inRegion ops (i :: rest) :: k) dr ro ds, cs, A⟩ =
      (bif wantedA ops tm o then applyA P (frC fn tm (.inRegion ops (i :: rest) :: k) dr ro ds) cs false (execA P X (evalT tm) o A) else .next ⟨(frC fn tm (.inRegion ops (i :: rest) :: k) dr ro ds).finish undef, cs, A⟩) := by
  have e : stepD P X ⟨frC fn tm (.inRegion ops (i :: rest) :: k) dr ro ds, cs, A⟩ = (bif dr && !Nat.blt i ops.toList.length then
      (match asksA P X ⟨frC fn tm (.inRegion ops (i :: rest) :: k) dr ro ds, cs, A⟩ ops (i - ops.toList.length) with
      | some (v, v') => .asks v v' ⟨frC fn tm (.inRegion ops rest :: k) dr ro ds, cs, A⟩
      | none => bif recheckA P X (frC fn tm (.inRegion ops (i :: rest) :: k) dr ro ds) A ops (i - ops.toList.length) then .next ⟨frC fn tm (.inRegion ops rest :: k) dr ro ds, cs, A⟩ else .fail "recheck")
    else (match knownA P X ⟨frC fn tm (.inRegion ops (i :: rest) :: k) dr ro ds, cs, A⟩ ops i with
      | some (f, args, w) => .calls f args ⟨frC fn tm (.inRegion ops (i :: rest) :: k) dr ro ds, cs, w⟩
      | none => (match forkA P X ⟨frC fn tm (.inRegion ops (i :: rest) :: k) dr ro ds, cs, A⟩ ops i with
        | some w => .branch [⟨(frC fn tm (.inRegion ops (i :: rest) :: k) dr ro ds).finish (.bool true), cs, w⟩, ⟨(frC fn tm (.inRegion ops (i :: rest) :: k) dr ro ds).finish (.bool false), cs, w⟩]
        | none => (match saysA P X ⟨frC fn tm (.inRegion ops (i :: rest) :: k) dr ro ds, cs, A⟩ ops i with
          | some (v, v', w) => .asks v v' ⟨(frC fn tm (.inRegion ops (i :: rest) :: k) dr ro ds).finish v', cs, w⟩
          | none => (match ops.toList[i]? with
            | some o => bif wantedA ops tm o then applyA P (frC fn tm (.inRegion ops (i :: rest) :: k) dr ro ds) cs false (execA P X (frC fn tm (.inRegion ops (i :: rest) :: k) dr ro ds).eval o A) else .next ⟨(frC fn tm (.inRegion ops (i :: rest) :: k) dr ro ds).finish undef, cs, A⟩
            | none => .fail "no operation"))))) := rfl
  rw [e, hi, cond_false]
  have h2 : forkA P X ⟨frC fn tm (.inRegion ops (i :: rest) :: k) dr ro ds, cs, A⟩ ops i = none := by unfold forkA; rw [hp.forks]
  have h3 : saysA P X ⟨frC fn tm (.inRegion ops (i :: rest) :: k) dr ro ds, cs, A⟩ ops i = none := by unfold saysA; rw [hp.says]
  rw [h1, h2, h3]
  simp only [ho]
  rw [eval_evalT]

theorem enter_kind {g : FuncId} {args : List Value} {kd : CallKind} {fr : AFr} (h : enterA P g args kd = some fr) : fr.kind = kd ∧ fr.roundOf = none := by
  unfold enterA at h
  split at h
  · split at h
    · simp only at h
      generalize (bif Nat.ble _ _ then _ else _) = n at h
      cases hn : Nat.blt n maxId with
      | false => rw [hn] at h; cases h
      | true =>
        rw [hn, cond_true, Option.some.injEq] at h
        subst h
        exact ⟨rfl, rfl⟩
    · cases h
  · cases h

/-- an operation that is done, and what comes behind it -/
theorem wp_oper (hX : XOk P X) (hP : POk P) (hp : Plain X) {fn : FuncId} {tm : Tm} {ops : Array Oper} {i : Nat} {rest : List Nat} {k : List Item} {dr : Bool} {ro : Option Nat} {ds : List Nat} {cs : List AFr} {A : AW} {o : Oper} {K Q : Value → AW → Prop} (ho : ops.toList[i]? = some o)
    (hi : (dr && !Nat.blt i ops.toList.length) = false) (hw : wantedA ops tm o = true) (h : Does P X W0 m0 (execA P X (evalT tm) o A) K)
    (h' : ∀ v A', K v A' → WP P X W0 m0 ⟨frC fn (match o.dst with | some d => tm.set d v | none => tm) (.inRegion ops rest :: k) dr ro ds, cs, A'⟩ Q) : WP P X W0 m0 ⟨frC fn tm (.inRegion ops (i :: rest) :: k) dr ro ds, cs, A⟩ Q := by
  have e := fun h => step_oper (P := P) (fn := fn) (tm := tm) (rest := rest) (k := k) (ro := ro) (ds := ds) (cs := cs) (A := A) hp ho hi h
  rw [hw, cond_true] at e
  have notk : ∀ {r : R AN}, execA P X (evalT tm) o A = r → (∀ g args A', r = .ok (.enter g args) A' → memN g X.known = false) → knownA P X ⟨frC fn tm (.inRegion ops (i :: rest) :: k) dr ro ds, cs, A⟩ ops i = none := by
    intro r hr hn
    unfold knownA
    split
    · rfl
    · simp only [ho, hw, cond_true]
      rw [eval_evalT]
      show (match execA P X (evalT tm) o A with | .ok (.enter f args) w => bif memN f X.known then some (f, args, w) else none | _ => none) = none
      rw [hr]
      split
      · rename_i g args A' he
        rw [hn _ _ _ rfl, cond_false]
      · rfl
  rcases h with ⟨v, A', hx, hk⟩ | ⟨A', hx, hk⟩ | ⟨g, args, A', hx, hk⟩ | ⟨l, fn', tm', assign, body, A', hx, hk⟩ | ⟨it, A', hx, m, since, seen, last, es, clock, ro', hg1, hg2, hg3, hk⟩
  · rw [hx] at e
    refine wp_next hX hP (e (notk hx (fun _ _ _ h => by cases h))) ?_
    rw [finish_at ho]
    exact h' v A' hk
  · rw [hx] at e
    refine wp_next hX hP (e (notk hx (fun _ _ _ h => by cases h))) ?_
    rw [finish_at ho]
    exact h' undef A' hk
  · unfold toW at hk
    cases hkn : memN g X.known with
    | true =>
      rw [hkn, cond_true] at hk
      have e3 : stepD P X ⟨frC fn tm (.inRegion ops (i :: rest) :: k) dr ro ds, cs, A⟩ = .calls g args ⟨frC fn tm (.inRegion ops (i :: rest) :: k) dr ro ds, cs, A'⟩ := by
        have h1 : knownA P X ⟨frC fn tm (.inRegion ops (i :: rest) :: k) dr ro ds, cs, A⟩ ops i = some (g, args, A') := by
          unfold knownA
          split
          · rename_i hnil; rw [hnil] at hkn; cases hkn
          · simp only [ho, hw, cond_true]
            rw [eval_evalT]
            show (match execA P X (evalT tm) o A with | .ok (.enter f args) w => bif memN f X.known then some (f, args, w) else none | _ => none) = _
            rw [hx]
            simp only [hkn, cond_true]
        have e4 : stepD P X ⟨frC fn tm (.inRegion ops (i :: rest) :: k) dr ro ds, cs, A⟩ = (bif dr && !Nat.blt i ops.toList.length then
            (match asksA P X ⟨frC fn tm (.inRegion ops (i :: rest) :: k) dr ro ds, cs, A⟩ ops (i - ops.toList.length) with
            | some (v, v') => .asks v v' ⟨frC fn tm (.inRegion ops rest :: k) dr ro ds, cs, A⟩
            | none => bif recheckA P X (frC fn tm (.inRegion ops (i :: rest) :: k) dr ro ds) A ops (i - ops.toList.length) then .next ⟨frC fn tm (.inRegion ops rest :: k) dr ro ds, cs, A⟩ else .fail "recheck")
          else (match knownA P X ⟨frC fn tm (.inRegion ops (i :: rest) :: k) dr ro ds, cs, A⟩ ops i with
            | some (f, args, w) => .calls f args ⟨frC fn tm (.inRegion ops (i :: rest) :: k) dr ro ds, cs, w⟩
            | none => (match forkA P X ⟨frC fn tm (.inRegion ops (i :: rest) :: k) dr ro ds, cs, A⟩ ops i with
              | some w => .branch [⟨(frC fn tm (.inRegion ops (i :: rest) :: k) dr ro ds).finish (.bool true), cs, w⟩, ⟨(frC fn tm (.inRegion ops (i :: rest) :: k) dr ro ds).finish (.bool false), cs, w⟩]
              | none => (match saysA P X ⟨frC fn tm (.inRegion ops (i :: rest) :: k) dr ro ds, cs, A⟩ ops i with
                | some (v, v', w) => .asks v v' ⟨(frC fn tm (.inRegion ops (i :: rest) :: k) dr ro ds).finish v', cs, w⟩
                | none => stepA P X ⟨frC fn tm (.inRegion ops (i :: rest) :: k) dr ro ds, cs, A⟩)))) := rfl
        rw [e4, hi, cond_false, h1]
      rcases hk with ⟨vals, hg, hK, hc, hq⟩ | hl
      · refine (reach_calls hX hP e3 hg hK hc).wp fun x hx => ?_
        obtain ⟨v, hv, rfl⟩ := List.mem_map.1 hx
        show WP P X W0 m0 ⟨(frC fn tm (.inRegion ops (i :: rest) :: k) dr ro ds).finish v, cs, A'⟩ Q
        rw [finish_at ho]
        exact h' v A' (hq v hv)
      · refine wp_lib hX hP e3 hl fun v A2 hq => ?_
        show WP P X W0 m0 ⟨(frC fn tm (.inRegion ops (i :: rest) :: k) dr ro ds).finish v, cs, A2⟩ Q
        rw [finish_at ho]
        exact h' v A2 hq
    | false =>
    rw [hkn, cond_false] at hk
    rw [hx] at e
    have e := e (notk hx (fun _ _ _ h => by cases h; exact hkn))
    obtain ⟨fr', he⟩ := Option.isSome_iff_exists.1 hk.1
    have h2 := hk.2
    unfold frOf at h2
    rw [he] at h2
    simp only [applyA, cond_false, he] at e
    refine wp_next hX hP e (wp_sub ?_ ?_ h2 fun v A2 hk2 => ?_)
    · exact (enter_kind he).1
    · exact (enter_kind he).2
    · rw [finish_at ho]
      exact h' v A2 hk2
  · rw [hx] at e
    refine wp_next hX hP (e (notk hx (fun _ _ _ h => by cases h))) (hk _ _ _ fun v A2 hk2 => ?_)
    rw [finish_at ho]
    exact h' v A2 hk2
  · rw [hx] at e
    have e := e (notk hx (fun _ _ _ h => by cases h))
    have e2 : applyA P (frC fn tm (.inRegion ops (i :: rest) :: k) dr ro ds) cs false (.ok (.rangeNext it) A') = .branch ((candsOf es since seen).map fun c => match c with
          | some e => ⟨(frC fn tm (.inRegion ops (i :: rest) :: k) dr ro ds).finish (.tuple #[.bool true, e.key, e.val]), cs, A'.put it (.mit (some m) since (seen ++ [e.born]) clock)⟩
          | none => ⟨(frC fn tm (.inRegion ops (i :: rest) :: k) dr ro ds).finish (.tuple #[.bool false]), cs, A'⟩) := by
      unfold applyA
      simp only [hg1, hg2, hg3, cond_false]
      rfl
    rw [e2] at e
    refine (reach_branch hX hP e).wp fun x hx => ?_
    obtain ⟨c, hc, rfl⟩ := List.mem_map.1 hx
    have hk := hk c hc
    cases c with
    | none =>
      simp only at hk ⊢
      rw [finish_at ho]
      exact h' _ _ hk
    | some e =>
      simp only at hk ⊢
      rw [finish_at ho]
      exact h' _ _ hk

theorem wp_skip (hX : XOk P X) (hP : POk P) (hp : Plain X) {fn : FuncId} {tm : Tm} {ops : Array Oper} {i : Nat} {rest : List Nat} {k : List Item} {dr : Bool} {ro : Option Nat} {ds : List Nat} {cs : List AFr} {A : AW} {o : Oper} {Q : Value → AW → Prop} (ho : ops.toList[i]? = some o)
    (hi : (dr && !Nat.blt i ops.toList.length) = false) (hw : wantedA ops tm o = false)
    (h' : WP P X W0 m0 ⟨frC fn (match o.dst with | some d => tm.set d undef | none => tm) (.inRegion ops rest :: k) dr ro ds, cs, A⟩ Q) : WP P X W0 m0 ⟨frC fn tm (.inRegion ops (i :: rest) :: k) dr ro ds, cs, A⟩ Q := by
  have hkn : knownA P X ⟨frC fn tm (.inRegion ops (i :: rest) :: k) dr ro ds, cs, A⟩ ops i = none := by
    unfold knownA
    split
    · rfl
    · simp only [ho, hw, cond_false]
  have e := step_oper (P := P) (fn := fn) (tm := tm) (rest := rest) (k := k) (ro := ro) (ds := ds) (cs := cs) (A := A) hp ho hi hkn
  rw [hw, cond_false] at e
  refine wp_next hX hP e ?_
  rw [finish_at ho]
  exact h'

theorem wp_recheck {fn : FuncId} {tm : Tm} {ops : Array Oper} {i : Nat} {rest : List Nat} {k : List Item} {ro : Option Nat} {ds : List Nat} {cs : List AFr} {A : AW} {Q : Value → AW → Prop} (hi : ops.toList.length ≤ i) (hv : Valid P X A ops tm (i - ops.toList.length))
    (h' : WP P X W0 m0 ⟨frC fn tm (.inRegion ops rest :: k) true ro ds, cs, A⟩ Q) : WP P X W0 m0 ⟨frC fn tm (.inRegion ops (i :: rest) :: k) true ro ds, cs, A⟩ Q := by
  have hr : Reach P X W0 m0 ⟨frC fn tm (.inRegion ops (i :: rest) :: k) true ro ds, cs, A⟩ [⟨frC fn tm (.inRegion ops rest :: k) true ro ds, cs, A⟩] := by
    intro f0 base lo cs0 m f csW w h _
    exact ⟨_, by simp, recheck_sim h rfl rfl rfl hi hv⟩
  exact hr.wp1 h'

def oneR (P : Program) (A : AW) (tm : Tm) (r : ResultVar) : Option Value := match r with | .tmp t => some (tm.get t) | .cell a t => loadP P A t (tm.get a)
theorem resultsA_eqR {A : AW} {f : Func} {tm : Tm} : resultsA P A f tm = (match resultsA.go (oneR P A tm) f.results.toList with | some [v] => some v | some l => some (.tuple ⟨l⟩) | none => none) := rfl

theorem resGo_spec {A : AW} {tm : Tm} {Q : Value → AW → Prop} : ∀ (l : List ResultVar) (acc : List Value), resGo P A tm Q l acc → ∃ vs, resultsA.go (oneR P A tm) l = some vs ∧ Q (oneOf (acc.reverse ++ vs)) A
  | [], acc, h => ⟨[], rfl, by simpa [resGo] using h⟩
  | .tmp t :: l, acc, h => by
    obtain ⟨vs, h1, h2⟩ := resGo_spec l _ h
    refine ⟨tm.get t :: vs, ?_, by simpa using h2⟩
    simp only [resultsA.go, h1, oneR]
  | .cell a t :: l, acc, h => by
    obtain ⟨v, h0, hv⟩ := h
    obtain ⟨vs, h1, h2⟩ := resGo_spec l _ hv
    refine ⟨v :: vs, ?_, by simpa using h2⟩
    simp only [resultsA.go, h1, oneR, h0]

theorem retW_spec {fn : FuncId} {f : Func} (hf : P.funcs[fn]? = some f) {A : AW} {tm : Tm} {Q : Value → AW → Prop} (h : retW P fn A tm Q) : ∃ v, resultsA P A f tm = some v ∧ Q v A := by
  unfold retW at h
  rw [hf] at h
  obtain ⟨vs, h1, h2⟩ := resGo_spec _ _ h
  rw [resultsA_eqR, h1]
  match vs, h2 with
  | [], h2 => exact ⟨_, rfl, h2⟩
  | [v], h2 => exact ⟨_, rfl, h2⟩
  | a :: b :: r, h2 => exact ⟨_, rfl, h2⟩

/-- a frame that returns: what is deferred is taken up, then it answers -/
theorem wp_returning (hX : XOk P X) (hP : POk P) {fn : FuncId} {tm : Tm} {todo : List Item} {Q : Value → AW → Prop} : ∀ (ds : List Nat) (A : AW), takeDs ds A (fun A => retW P fn A tm Q) → WP P X W0 m0 ⟨{ (frC fn tm todo false none ds) with mode := .returning }, [], A⟩ Q
  | [], A, h => by
    have h : retW P fn A tm Q := h
    cases hf : P.funcs[fn]? with
    | none => unfold retW at h; rw [hf] at h; exact h.elim
    | some f =>
      obtain ⟨v, h1, h2⟩ := retW_spec hf h
      have e2 : stepD P X ⟨{ (frC fn tm todo false none []) with mode := .returning }, [], A⟩ = .done v A := by
        have : stepD P X ⟨{ (frC fn tm todo false none []) with mode := .returning }, [], A⟩ = (match P.funcs[fn]? with
          | none => .fail "unwind fn"
          | some fn => (match resultsA P A fn tm with
            | some v => .done v A
            | none => .fail "results")) := by
          rfl
        rw [this, hf]
        simp only
        rw [h1]
      exact (res_done hX hP e2).wp fun x hx => by simp at hx; subst hx; exact h2
  | D :: ds, A, h => by
    obtain ⟨h1, h2⟩ := h
    have e : stepD P X ⟨{ (frC fn tm todo false none (D :: ds)) with mode := .returning }, [], A⟩ = .next ⟨{ (frC fn tm todo false none ds) with mode := .returning }, [], A.put D (.deferred none)⟩ := by
      have : stepD P X ⟨{ (frC fn tm todo false none (D :: ds)) with mode := .returning }, [], A⟩ = (match A.get D with
        | some (.deferred (some calls)) => .next ⟨{ (frC fn tm todo false none ds) with mode := .returning, defers := calls ++ ds.map fun D => { target := .collected D, args := #[] } }, [], A.put D (.deferred none)⟩
        | _ => .fail "takeDeferred") := by
        rfl
      rw [this, h1]
      rfl
    exact wp_next hX hP e (wp_returning hX hP ds _ h2)

/-- the end of a function -/
theorem wp_leave (hX : XOk P X) (hP : POk P) {fn : FuncId} {tm : Tm} {todo : List Item} {ds : List Nat} {A : AW} {Q : Value → AW → Prop} (ht : todo = [] ∨ ∃ k, todo = .code .ret :: k) (h : takeDs ds A fun A => retW P fn A tm Q) : WP P X W0 m0 ⟨frC fn tm todo false none ds, [], A⟩ Q := by
  have e : stepD P X ⟨frC fn tm todo false none ds, [], A⟩ = .next ⟨{ (frC fn tm todo false none ds) with mode := .returning }, [], A⟩ := by
    rcases ht with rfl | ⟨k, rfl⟩ <;> rfl
  exact wp_next hX hP e (wp_returning hX hP ds A h)

/-- the ways that a frame's text is left by -/
inductive Leaves : List Item → Option Code → Prop
  | off : Leaves [] none
  | ret (k : List Item) : Leaves (.code .ret :: k) (some .ret)
  | exit (id : Nat) (k : List Item) (h : exitToA id k = none) : Leaves (.code (.exit id) :: k) (some (.exit id))

theorem wp_leaves (hX : XOk P X) (hP : POk P) {fn : FuncId} {tm : Tm} {todo : List Item} {ds : List Nat} {A : AW} {Q : Value → AW → Prop} {j : Option Code} (hj : Leaves todo j) (h : leaveR P fn none ds A tm Q j) : WP P X W0 m0 ⟨frC fn tm todo false none ds, [], A⟩ Q := by
  cases hj with
  | off => exact wp_leave hX hP (.inl rfl) h
  | ret k => exact wp_leave hX hP (.inr ⟨k, rfl⟩) h
  | exit id k hx => exact h.elim

/-- the end of a round -/
theorem round_leaves (hX : XOk P X) (hP : POk P) {fn : FuncId} {tm : Tm} {todo : List Item} {l : Nat} {ds : List Nat} {A : AW} {K : Value → AW → Prop} {j : Option Code} (hj : Leaves todo j) (h : leaveR P fn (some l) ds A tm K j) {c : AFr} {rest : List AFr} {Q : Value → AW → Prop}
    (hK : ∀ v A', K v A' → WP P X W0 m0 ⟨c.finish v, rest, A'⟩ Q) : WP P X W0 m0 ⟨frC fn tm todo false (some l) ds, c :: rest, A⟩ Q := by
  unfold leaveR at h
  cases ds with
  | cons D ds => exact h.elim
  | nil =>
    obtain ⟨r, h1, h2⟩ := h
    have e : stepD P X ⟨frC fn tm todo false (some l) [], c :: rest, A⟩ = .next ⟨c.finish (.bool j.isNone), rest, A.put l (.loop { r with state := if j.isNone then .ready else .done, pending := j })⟩ := by
      have key : ∀ jump : Option Code, (match A.get l with
          | some (.loop r) => doReturnA (frC fn tm todo false (some l) []) (c :: rest) (.bool jump.isNone) (A.put l (.loop { r with state := if jump.isNone then .ready else .done, pending := jump }))
          | _ => .fail "endRound") = .next ⟨c.finish (.bool jump.isNone), rest, A.put l (.loop { r with state := if jump.isNone then .ready else .done, pending := jump })⟩ := by
        intro jump
        rw [h1]
        rfl
      rw [← key j]
      cases hj with
      | off => rfl
      | ret k => rfl
      | exit id k hx =>
        unfold stepD stepA
        simp only [hx]
        rfl
    exact wp_next hX hP e (hK _ _ h2)

end
end Go.Abs

namespace Go.Abs

section
variable {P : Program} {X : XNames} {W0 : World} {m0 : Inj P}

theorem Tm.sz_set (tm : Tm) (d : Nat) (v : Value) : (tm.set d v).sz = tm.sz := by
  unfold Tm.set
  cases Nat.blt d tm.sz <;> rfl

theorem wants_spec {kt kf ku : Nat} {tm : Tm} (h : Kn kt kf ku tm) {ops : Array Oper} {o : Oper} {b : Bool} (hw : wants kt kf ku ops o = some b) : wantedA ops tm o = b := by
  unfold wants at hw
  unfold wantedA
  split at hw
  · rename_i hg
    rw [hg]
    cases hw
    rfl
  · rename_i j want hg
    rw [hg]
    simp only
    unfold slotOf at hw
    split at hw
    · cases hw
    · rename_i d hd
      split at hd
      · rename_i o' ho'
        cases hu : ku.testBit d with
        | true =>
          rw [hu, cond_true] at hw
          cases hw
          have hv : tm.get d = undef := (h d).2.2 hu
          unfold yieldedA
          simp only [ho', hd, hv]
          rfl
        | false =>
          rw [hu, cond_false] at hw
          split at hw
          · rename_i c hc
            cases hw
            have hv : tm.get d = .bool c := knOf_spec h hc
            unfold yieldedA
            simp only [ho', hd, hv]
          · cases hw
      · cases hd

theorem wanted_of {tm : Tm} {ops : Array Oper} {o : Oper} {j : Nat} {want b : Bool} {d : Tmp} (hg : o.guard = some (j, want)) (hs : slotOf ops j = some d) (hv : tm.get d = .bool b) : wantedA ops tm o = (b == want) := by
  unfold wantedA yieldedA
  unfold slotOf at hs
  split at hs
  · rename_i o' ho'
    simp only [hg, ho', hs, hv]
  · cases hs

theorem unwanted_of {tm : Tm} {ops : Array Oper} {o : Oper} {j : Nat} {want : Bool} {d : Tmp} (hg : o.guard = some (j, want)) (hs : slotOf ops j = some d) (hv : tm.get d = undef) : wantedA ops tm o = false := by
  unfold wantedA yieldedA
  unfold slotOf at hs
  split at hs
  · rename_i o' ho'
    simp only [hg, ho', hs, hv]
    rfl
  · cases hs

theorem knOp_pick {kt kf ku : Nat} {op : Op} {x : Operand} (h : pickKn kt kf op = some x) {tm : Tm} (hk : Kn kt kf ku tm) (P : Program) (X : XNames) {o : Oper} (ho : o.op = op) (A : AW) : execA P X (evalT tm) o A = .ok (.value (evalT tm x)) A := by
  cases op <;> simp only [pickKn] at h <;> try (cases h; done)
  rename_i c a b
  split at h
  · rename_i hc
    cases h
    have := knOf_spec hk hc
    unfold execA
    simp only [ho, this]
  · rename_i hc
    cases h
    have := knOf_spec hk hc
    unfold execA
    simp only [ho, this]
  · cases h

theorem knOp_move {kt kf : Nat} {op : Op} {b : Bool} (hp : pickKn kt kf op = none) (h : knOp kt kf op = some b) : ∃ x, (op = .move x ∨ op = .assign x) ∧ knOf kt kf x = some b := by
  cases op <;> simp only [knOp] at h <;> try (cases h; done)
  · exact ⟨_, .inl rfl, h⟩
  · exact ⟨_, .inr rfl, h⟩
  · simp only [pickKn] at hp
    split at h <;> first | (cases h; done) | skip
    · rename_i hc; rw [hc] at hp; cases hp
    · rename_i hc; rw [hc] at hp; cases hp

theorem move_does {ρ : Operand → Value} {o : Oper} {x : Operand} (hx : o.op = .move x ∨ o.op = .assign x) {A : AW} {K : Value → AW → Prop} (h : opW P X W0 m0 ρ o A K) : execA P X ρ o A = .ok (.value (ρ x)) A ∧ K (ρ x) A := by
  unfold opW at h
  unfold execA
  rcases hx with hx | hx
  · rw [hx] at h ⊢
    exact ⟨rfl, h⟩
  · rw [hx] at h ⊢
    exact ⟨rfl, h⟩

variable {fn : FuncId} {T : Nat → List Item} {L : Nat → List Tmp} {S : Nat → List Value → AW → Prop} {Q : Value → AW → Prop} {sz : Nat}

/-- the frame is as it is at the head of the loop id, and its live slots hold these -/
def Cuts (P : Program) (X : XNames) (W0 : World) (m0 : Inj P) (fn : FuncId) (T : Nat → List Item) (L : Nat → List Tmp) (S : Nat → List Value → AW → Prop) (Q : Value → AW → Prop) (sz : Nat) : Prop :=
  ∀ id vals A tm, S id vals A → tm.sz = sz → (L id).map tm.get = vals → WP P X W0 m0 ⟨frM fn tm (T id) false, [], A⟩ Q

theorem wpgo_soundC (hX : XOk P X) (hP : POk P) (hp : Plain X) (hsz : sz < maxId) {ro : Option Nat} {cs : List AFr} {Q0 : Value → AW → Prop}
    (hl : ∀ todo tm ds A j, Leaves todo j → leaveR P fn ro ds A tm Q j → WP P X W0 m0 ⟨frC fn tm todo false ro ds, cs, A⟩ Q0)
    (hcut : ∀ id vals A tm, S id vals A → tm.sz = sz → (L id).map tm.get = vals → WP P X W0 m0 ⟨frC fn tm (T id) false ro [], cs, A⟩ Q0) :
    ∀ (n : Nat) (tm : Tm) (todo : List Item) (dr : Bool) (kt kf ku : Nat) (ds : List Nat) (A : AW), tm.sz = sz → Kn kt kf ku tm → wpgo P X W0 m0 fn T L S Q ro n tm todo dr kt kf ku ds A → WP P X W0 m0 ⟨frC fn tm todo dr ro ds, cs, A⟩ Q0 := by
  intro n
  induction n with
  | zero => intro tm todo dr kt kf ku ds A _ _ h; exact h.elim
  | succ n ih =>
    intro tm todo dr kt kf ku ds A hs hk h
    unfold wpgo at h
    split at h
    · cases dr with
      | true => exact h.elim
      | false => exact hl _ _ _ _ _ .off h
    · cases dr with
      | true => exact h.elim
      | false => exact hl _ _ _ _ _ (.ret _) h
    · -- a round begins
      rename_i k
      cases dr with
      | true => exact h.elim
      | false =>
        cases ro with
        | none => exact h.elim
        | some l =>
          obtain ⟨r, h1, h2, h3⟩ := h
          have e : stepD P X ⟨frC fn tm (.beginRound :: k) false (some l) ds, cs, A⟩ = .next ⟨frC fn tm k false (some l) ds, cs, A.put l (.loop { r with state := .busy })⟩ := by
            have : stepD P X ⟨frC fn tm (.beginRound :: k) false (some l) ds, cs, A⟩ = (match A.get l with
              | some (.loop r) => (match r.state with
                | .ready => .next ⟨frC fn tm k false (some l) ds, cs, A.put l (.loop { r with state := .busy })⟩
                | _ => .fail "beginRound")
              | _ => .fail "beginRound") := by rfl
            rw [this, h1]
            simp only [h2]
          exact wp_next hX hP e (ih _ _ _ _ _ _ _ _ hs hk h3)
    · -- a loop over a function
      rename_i f ps assign body k
      cases dr with
      | true => exact h.elim
      | false =>
        cases ro with
        | some l => exact h.elim
        | none =>
          obtain ⟨D, A1, l, A2, hn1, hn2, g, as, A3, hdy, hwc⟩ := h
          have e : stepD P X ⟨frC fn tm (.code (.rangeFunc f ps assign body) :: k) false none ds, cs, A⟩ = (match evalT tm f with
              | .func fn' first captured => applyA P (frC fn tm (.inRangeFunc l :: k) false none (D :: ds)) cs false (invokeA P X A2 (.fn fn' captured) (first.toList ++ [.func (.yield l) #[] #[]]))
              | _ => .fail "rangeFunc") := by
            have : stepD P X ⟨frC fn tm (.code (.rangeFunc f ps assign body) :: k) false none ds, cs, A⟩ = (match (match A.new (.deferred (some [])) with | some (r, w') => some (r, ([{ target := .collected r, args := #[] }] : List Deferred), w') | none => none) with
              | none => .fail "enterLoop"
              | some (d, mark, w) => (match w.new (.loop { state := .ready, pending := none, fn := fn, tm := tm, params := ps.toList, assign, body, defers := d }) with
                | none => .fail "enterLoop"
                | some (l, w) => (match (frC fn tm (.code (.rangeFunc f ps assign body) :: k) false none ds).eval f with
                  | .func fn' first captured => applyA P ({ fn := fn, tm := tm, todo := .inRangeFunc l :: k, defers := mark ++ (ds.map fun D => { target := .collected D, args := #[] }), mode := .run, kind := .normal, roundOf := none, dr := false } : AFr) cs false (invokeA P X w (.fn fn' captured) (first.toList ++ [.func (.yield l) #[] #[]]))
                  | _ => .fail "rangeFunc"))) := by rfl
            rw [this, hn1]
            simp only [hn2]
            rw [eval_evalT]
            rfl
          unfold dynA at hdy
          cases hf : evalT tm f with
          | func fn' first captured =>
            rw [hf] at e hdy
            simp only at e hdy
            rw [hdy] at e
            obtain ⟨fr', he⟩ := Option.isSome_iff_exists.1 hwc.1
            have h2 := hwc.2
            unfold frOf at h2
            rw [he] at h2
            simp only [applyA, cond_false, he] at e
            refine wp_next hX hP e (wp_sub (enter_kind he).1 (enter_kind he).2 h2 fun v A4 hk2 => ?_)
            obtain ⟨r, g1, g2, g3⟩ := hk2
            have e5 : stepD P X ⟨(frC fn tm (.inRangeFunc l :: k) false none (D :: ds)).finish v, cs, A4⟩ = .next ⟨frC fn tm (match r.pending with | some c => .code c :: k | none => k) false none (D :: ds), cs, A4.put l (.loop { r with state := .exhausted })⟩ := by
              have : stepD P X ⟨(frC fn tm (.inRangeFunc l :: k) false none (D :: ds)).finish v, cs, A4⟩ = (match A4.get l with
                | some (.loop r) => (match r.state with
                  | .busy => .fail "endLoop"
                  | _ => .next ⟨frC fn tm (match r.pending with | some c => .code c :: k | none => k) false none (D :: ds), cs, A4.put l (.loop { r with state := .exhausted })⟩)
                | _ => .fail "endLoop") := by rfl
              rw [this, g1]
              simp only
            refine wp_next hX hP e5 ?_
            rcases g3 with ⟨gp, g3⟩ | ⟨gp, g3⟩
            · rw [show (match r.pending with | some c => .code c :: k | none => k) = k by rw [gp]]
              exact ih _ _ _ _ _ _ _ _ hs hk g3
            · rw [show (match r.pending with | some c => .code c :: k | none => k) = .code .ret :: k by rw [gp]]
              exact hl _ _ _ _ _ (.ret _) g3
          | _ => rw [hf] at hdy; cases hdy
    · exact wp_next hX hP rfl (ih _ _ _ _ _ _ _ _ hs hk h)
    · exact wp_next hX hP rfl (ih _ _ _ _ _ _ _ _ hs hk h)
    · exact wp_next hX hP rfl (ih _ _ _ _ _ _ _ _ hs hk h)
    · exact wp_next hX hP rfl (ih _ _ _ _ _ _ _ _ hs hk h)
    · exact wp_next hX hP rfl (ih _ _ _ _ _ _ _ _ hs hk h)
    · -- cond
      rename_i c a b k
      have e : ∀ t, evalT tm c = .bool t → stepD P X ⟨frC fn tm (.code (.cond c a b) :: k) dr ro ds, cs, A⟩ = .next ⟨frC fn tm (.code (bif t then a else b) :: k) dr ro ds, cs, A⟩ := by
        intro t ht
        have : stepD P X ⟨frC fn tm (.code (.cond c a b) :: k) dr ro ds, cs, A⟩ = (bif memN fn X.forks then (match (frC fn tm (.code (.cond c a b) :: k) dr ro ds).eval c with
          | .bool _ => .branch [⟨frC fn tm (.code a :: k) dr ro ds, cs, A⟩, ⟨frC fn tm (.code b :: k) dr ro ds, cs, A⟩]
          | _ => .fail "cond") else (match (frC fn tm (.code (.cond c a b) :: k) dr ro ds).eval c with | .bool t => .next ⟨frC fn tm (.code (bif t then a else b) :: k) dr ro ds, cs, A⟩ | _ => .fail "cond")) := rfl
        rw [this, hp.forks, eval_evalT]
        simp only [memN, cond_false, ht]
      split at h
      · rename_i hc
        exact wp_next hX hP (e true (knOf_spec hk hc)) (ih _ _ _ _ _ _ _ _ hs hk h)
      · rename_i hc
        exact wp_next hX hP (e false (knOf_spec hk hc)) (ih _ _ _ _ _ _ _ _ hs hk h)
      · obtain ⟨⟨t, ht⟩, h1, h2⟩ := h
        cases t with
        | true =>
          refine wp_next hX hP (e true ht) (ih _ _ _ _ _ _ _ _ hs ?_ (h1 ht))
          cases c with
          | tmp t => exact hk.true ht
          | _ => exact hk
        | false =>
          refine wp_next hX hP (e false ht) (ih _ _ _ _ _ _ _ _ hs ?_ (h2 ht))
          cases c with
          | tmp t => exact hk.false ht
          | _ => exact hk
    · exact wp_next hX hP rfl (ih _ _ _ _ _ _ _ _ hs hk h)
    · exact wp_next hX hP rfl (ih _ _ _ _ _ _ _ _ hs hk h)
    · -- loop
      cases dr with
      | true => exact h.elim
      | false =>
        cases ds with
        | cons D ds => exact h.elim
        | nil =>
        obtain ⟨h1, h2⟩ := h
        refine wp_next hX hP rfl ?_
        have := hcut _ _ A tm h2 hs rfl
        rw [← h1] at this
        exact this
    · cases dr with
      | true => exact h.elim
      | false =>
        cases ds with
        | cons D ds => exact h.elim
        | nil =>
        obtain ⟨h1, h2⟩ := h
        refine wp_next hX hP rfl ?_
        have := hcut _ _ A tm h2 hs rfl
        rw [← h1] at this
        exact this
    · -- exit
      rename_i id k
      split at h
      · rename_i k' hk'
        have e : stepD P X ⟨frC fn tm (.code (.exit id) :: k) dr ro ds, cs, A⟩ = .next ⟨frC fn tm k' dr ro ds, cs, A⟩ := by
          unfold stepD stepA
          simp only [hk']
        exact wp_next hX hP e (ih _ _ _ _ _ _ _ _ hs hk h)
      · rename_i hx
        cases dr with
        | true => exact h.elim
        | false => exact hl _ _ _ _ _ (.exit _ _ hx) h
    · exact wp_next hX hP rfl (ih _ _ _ _ _ _ _ _ hs hk h)
    · -- a region that draws its order
      rename_i id ops k
      cases hin : dstsIn tm.sz ops.toList with
      | false => rw [hin] at h; exact h.elim
      | true =>
        rw [hin, cond_true] at h
        split at h
        · rename_i p hpl
          have e : stepD P X ⟨frC fn tm (.code (.region id ops true) :: k) dr ro ds, cs, A⟩ = .next ⟨frC fn tm (.inRegion ops p :: k) true ro ds, cs, A⟩ := by
            unfold stepD
            simp only [hin, cond_true, hpl]
          exact wp_next hX hP e (ih _ _ _ _ _ _ _ _ hs hk h)
        · exact h.elim
    · exact wp_next hX hP rfl (ih _ _ _ _ _ _ _ _ hs hk h)
    · -- an operation
      rename_i ops i rest k
      cases hb : (dr && !Nat.blt i ops.toList.length) with
      | true =>
        rw [hb, cond_true] at h
        simp only [Bool.and_eq_true, Bool.not_eq_true'] at hb
        obtain ⟨rfl, hb⟩ := hb
        have hge := blt_false.1 hb
        split at h
        · exact h.elim
        · rename_i o ho
          split at h
          · rename_i d hd hw
            obtain ⟨h1, h2⟩ := h
            refine wp_recheck hge ?_ (ih _ _ _ _ _ _ _ _ hs hk h2)
            intro o' d' ho' hd'
            rw [ho] at ho'
            cases ho'
            rw [hd] at hd'
            cases hd'
            exact ⟨fun _ => h1.symm, fun hw' => absurd hw' (by rw [wants_spec hk hw]; exact Bool.noConfusion)⟩
          · rename_i d hd hw
            cases hq : quietOp P o.op with
            | false =>
              rw [hq, cond_false] at h
              obtain ⟨⟨c, h1, h3⟩, h2⟩ := h
              refine wp_recheck hge ?_ (ih _ _ _ _ _ _ _ _ hs hk h2)
              intro o' d' ho' hd'
              rw [ho] at ho'
              cases ho'
              rw [hd] at hd'
              cases hd'
              exact ⟨fun hw' => absurd hw' (by rw [wants_spec hk hw]; exact Bool.noConfusion), fun _ => ⟨fun hq' => absurd hq' (by rw [hq]; exact Bool.noConfusion), fun _ => ⟨c, h1, h3⟩⟩⟩
            | true =>
              rw [hq, cond_true] at h
              have fin : ∀ A', execA P X (evalT tm) o A = .ok (.value (tm.get d)) A' → Valid P X A ops tm (i - ops.toList.length) := by
                intro A' he o' d' ho' hd'
                rw [ho] at ho'
                cases ho'
                rw [hd] at hd'
                cases hd'
                exact ⟨fun hw' => absurd hw' (by rw [wants_spec hk hw]; exact Bool.noConfusion), fun _ => ⟨fun _ => ⟨A', he⟩, fun hq' => absurd hq' (by rw [hq]; exact Bool.noConfusion)⟩⟩
              split at h
              · rename_i x hpk
                obtain ⟨h1, h2⟩ := h
                refine wp_recheck hge (fin A ?_) (ih _ _ _ _ _ _ _ _ hs hk h2)
                rw [← h1]
                exact knOp_pick hpk hk P X rfl A
              · rcases opW_does (P := P) (X := X) (fun f => rfl) h with ⟨v, A', he, h1, h2⟩ | ⟨A', he, _⟩ | ⟨g, args, A', he, _⟩ | ⟨l, fn', tm', a, b, A', he, _⟩ | ⟨it, A', he, _⟩
                · refine wp_recheck hge (fin A' ?_) (ih _ _ _ _ _ _ _ _ hs hk h2)
                  rw [← h1]
                  exact he
                · obtain ⟨_, v, hv⟩ := quiet_exec hq he
                  cases hv
                · obtain ⟨_, v, hv⟩ := quiet_exec hq he
                  cases hv
                · obtain ⟨_, v, hv⟩ := quiet_exec hq he
                  cases hv
                · obtain ⟨_, v, hv⟩ := quiet_exec hq he
                  cases hv
          · exact h.elim
      | false =>
        rw [hb, cond_false] at h
        split at h
        · exact h.elim
        · rename_i o ho
          simp only at h
          -- what comes behind a value
          have fin : ∀ {kt' kf' : Nat} {r : Option Bool} {sk : Bool} {v : Value} {A' : AW}, Kn kt' kf' ku tm → (∀ b, r = some b → v = .bool b) → (sk = true → v = undef) → (match o.dst with
              | some d => bif Nat.blt d tm.sz then wpgo P X W0 m0 fn T L S Q ro n (tm.set d v) (.inRegion ops rest :: k) dr (knT kt' d r) (knF kf' d r) (knU ku d sk) ds A' else False
              | none => wpgo P X W0 m0 fn T L S Q ro n tm (.inRegion ops rest :: k) dr kt' kf' ku ds A') →
              WP P X W0 m0 ⟨frC fn (match o.dst with | some d => tm.set d v | none => tm) (.inRegion ops rest :: k) dr ro ds, cs, A'⟩ Q0 := by
            intro kt' kf' r sk v A' hk' hr hu hh
            cases hd : o.dst with
            | none =>
              rw [hd] at hh
              exact ih _ _ _ _ _ _ _ _ hs hk' hh
            | some d =>
              rw [hd] at hh
              simp only at hh ⊢
              cases hlt : Nat.blt d tm.sz with
              | false => rw [hlt] at hh; exact hh.elim
              | true =>
                rw [hlt, cond_true] at hh
                exact ih _ _ _ _ _ _ _ _ (by rw [Tm.sz_set]; exact hs) (hk'.set (by omega) (blt_true.1 hlt) hr hu) hh
          have nf : ∀ {v : Value}, false = true → v = undef := fun h => Bool.noConfusion h
          have nn : ∀ {v : Value} (b : Bool), (none : Option Bool) = some b → v = .bool b := fun b h => by cases h
          have go : ∀ {kt' kf' : Nat}, Kn kt' kf' ku tm → wantedA ops tm o = true → (match pickKn kt' kf' o.op with
              | some x => (match o.dst with
                | some d => bif Nat.blt d tm.sz then wpgo P X W0 m0 fn T L S Q ro n (tm.set d (evalT tm x)) (.inRegion ops rest :: k) dr (knT kt' d (knOf kt' kf' x)) (knF kf' d (knOf kt' kf' x)) (knU ku d false) ds A else False
                | none => wpgo P X W0 m0 fn T L S Q ro n tm (.inRegion ops rest :: k) dr kt' kf' ku ds A)
              | none => opW P X W0 m0 (evalT tm) o A fun v A' => (match o.dst with
                | some d => bif Nat.blt d tm.sz then wpgo P X W0 m0 fn T L S Q ro n (tm.set d v) (.inRegion ops rest :: k) dr (knT kt' d (knOp kt' kf' o.op)) (knF kf' d (knOp kt' kf' o.op)) (knU ku d false) ds A' else False
                | none => wpgo P X W0 m0 fn T L S Q ro n tm (.inRegion ops rest :: k) dr kt' kf' ku ds A')) →
              WP P X W0 m0 ⟨frC fn tm (.inRegion ops (i :: rest) :: k) dr ro ds, cs, A⟩ Q0 := by
            intro kt' kf' hk' hw hh
            split at hh
            · rename_i x hpk
              exact wp_oper hX hP hp ho hb hw (K := fun v A' => v = evalT tm x ∧ A' = A) (.inl ⟨_, A, knOp_pick hpk hk' P X rfl A, (⟨rfl, rfl⟩ : _ ∧ _)⟩) fun v A' hvA => by
                obtain ⟨rfl, rfl⟩ := hvA
                exact fin (sk := false) hk' (fun b hb => knOf_spec hk' hb) nf hh
            · rename_i hpk
              cases hkn : knOp kt' kf' o.op with
              | none =>
                rw [hkn] at hh
                exact wp_oper hX hP hp ho hb hw (opW_does (fun f => rfl) hh) fun v A' hv => fin (r := none) (sk := false) hk' nn nf hv
              | some b =>
                obtain ⟨x, hx, hxb⟩ := knOp_move hpk hkn
                rw [hkn] at hh
                have hb2 := knOf_spec hk' hxb
                obtain ⟨h3, h4⟩ := move_does (W0 := W0) (m0 := m0) (X := X) hx hh
                rw [hb2] at h3 h4
                exact wp_oper hX hP hp ho hb hw (K := fun v A' => v = .bool b ∧ A' = A) (.inl ⟨_, A, h3, (⟨rfl, rfl⟩ : _ ∧ _)⟩) fun v A' hvA => by
                  obtain ⟨rfl, rfl⟩ := hvA
                  exact fin (r := some b) (sk := false) hk' (fun b' hb' => by cases hb'; rfl) nf h4
          split at h
          · rename_i hg
            exact go hk (by unfold wantedA; rw [hg]) h
          · rename_i j want hg
            split at h
            · exact h.elim
            · rename_i d hsl
              have ff : ∀ {kt' kf' : Nat}, Kn kt' kf' ku tm → wantedA ops tm o = false → (match o.dst with
                  | some d => bif Nat.blt d tm.sz then wpgo P X W0 m0 fn T L S Q ro n (tm.set d undef) (.inRegion ops rest :: k) dr (knT kt' d none) (knF kf' d none) (knU ku d true) ds A else False
                  | none => wpgo P X W0 m0 fn T L S Q ro n tm (.inRegion ops rest :: k) dr kt' kf' ku ds A) → WP P X W0 m0 ⟨frC fn tm (.inRegion ops (i :: rest) :: k) dr ro ds, cs, A⟩ Q0 :=
                fun hk' hw hh => wp_skip hX hP hp ho hb hw (fin (r := none) (sk := true) hk' nn (fun _ => rfl) hh)
              cases hu : ku.testBit d with
              | true =>
                rw [hu, cond_true] at h
                exact ff hk (unwanted_of hg hsl ((hk d).2.2 hu)) h
              | false =>
                rw [hu, cond_false] at h
                split at h
                · rename_i b hkb
                  have hv : tm.get d = .bool b := knOf_spec hk hkb
                  have hw := wanted_of hg hsl hv
                  cases hbw : (b == want) with
                  | true =>
                    rw [hbw, cond_true] at h
                    exact go hk (hw.trans hbw) h
                  | false =>
                    rw [hbw, cond_false] at h
                    exact ff hk (hw.trans hbw) h
                · obtain ⟨⟨b, hv⟩, h1, h2⟩ := h
                  have hw := wanted_of hg hsl hv
                  cases b with
                  | true =>
                    have h1 := h1 hv
                    cases want with
                    | true => exact go (hk.true hv) hw h1
                    | false => exact ff (hk.true hv) hw h1
                  | false =>
                    have h2 := h2 hv
                    cases want with
                    | true => exact ff (hk.false hv) hw h2
                    | false => exact go (hk.false hv) hw h2
    · exact h.elim


theorem wpgo_sound (hX : XOk P X) (hP : POk P) (hp : Plain X) (hsz : sz < maxId) (hcut : Cuts P X W0 m0 fn T L S Q sz) (n : Nat) (tm : Tm) (todo : List Item) (dr : Bool) (kt kf ku : Nat) (A : AW) (hs : tm.sz = sz) (hk : Kn kt kf ku tm)
    (h : wpgo P X W0 m0 fn T L S Q none n tm todo dr kt kf ku [] A) : WP P X W0 m0 ⟨frM fn tm todo dr, [], A⟩ Q :=
  wpgo_soundC hX hP hp hsz (ro := none) (cs := []) (Q0 := Q) (fun _ _ _ _ _ hj h => wp_leaves hX hP hj h) hcut n tm todo dr kt kf ku [] A hs hk h

end
end Go.Abs

namespace Go.Abs

/-- slots by a function -/
def fillD (d : Nat → Value) : Nat → Trie Value → Trie Value
  | 0, t => t
  | n + 1, t => fillD d n (t.put depth n (some (d n)))
def tmOf (sz : Nat) (d : Nat → Value) : Tm := ⟨sz, fillD d sz .nil⟩

theorem fillD_get (d : Nat → Value) : ∀ (n : Nat) (t : Trie Value) (i : Nat), n ≤ maxId → i < maxId → (fillD d n t).get? i = if i < n then some (d i) else t.get? i
  | 0, t, i, _, _ => by simp [fillD]
  | n + 1, t, i, hn, hi => by
    unfold fillD
    rw [fillD_get d n _ i (by omega) hi, Trie.get?_put depth t n i (some (d n)) (by unfold depth maxId at *; omega)]
    by_cases h1 : i < n
    · rw [if_pos h1, if_pos (by omega)]
    · rw [if_neg h1]
      by_cases h2 : n = i
      · subst h2; rw [if_pos rfl, if_pos (by omega)]
      · rw [if_neg (fun e => h2 e.symm), if_neg (by omega)]

section
variable {P : Program} {X : XNames} {W0 : World} {m0 : Inj P}

theorem tmOf_get {sz : Nat} (hs : sz < maxId) (d : Nat → Value) (i : Nat) : (tmOf sz d).get i = if i < sz then d i else undef := by
  unfold tmOf Tm.get
  simp only
  by_cases hm : i < maxId
  · rw [fillD_get d sz .nil i (by omega) hm]
    by_cases hi : i < sz
    · rw [if_pos hi, if_pos hi]
    · rw [if_neg hi, if_neg hi]; rfl
  · have key : ∀ (n : Nat) (t : Trie Value), n ≤ maxId → t.get? i = none → (fillD d n t).get? i = none := by
      intro n
      induction n with
      | zero => intro t _ ht; exact ht
      | succ n ih =>
        intro t hn ht
        unfold fillD
        refine ih _ (by omega) ?_
        rw [Trie.get?_put depth t n i _ (by unfold depth maxId at *; omega), if_neg (by omega)]
        exact ht
    rw [key sz .nil (by omega) rfl, if_neg (by omega)]

theorem tmOf_rel {m : Inj P} {tm : Tm} {t' : Array Value} (h : TmRel m tm t') : TmRel m (tmOf tm.sz tm.get) t' := by
  refine ⟨h.size, h.small, fun i => ?_⟩
  rw [tmOf_get h.small]
  by_cases hi : i < tm.sz
  · rw [if_pos hi]
    exact h.val i
  · have hv : t'.getD i undef = undef := by
      have : t'.size ≤ i := by rw [h.size]; omega
      simp [Array.getD, Nat.not_lt.2 this]
    rw [if_neg hi, hv]
    exact undef_rel m

theorem wp_tmC {fn : FuncId} {tm : Tm} {todo : List Item} {ro : Option Nat} {ds : List Nat} {cs : List AFr} {A : AW} {Q : Value → AW → Prop} (h : WP P X W0 m0 ⟨frC fn (tmOf tm.sz tm.get) todo false ro ds, cs, A⟩ Q) : WP P X W0 m0 ⟨frC fn tm todo false ro ds, cs, A⟩ Q := by
  intro f0 base lo cs0 m f csW w hr ho
  refine h f0 base lo cs0 m f csW w ⟨hr.rel, hr.glob, hr.below, ⟨⟨hr.top.core.fn, hr.top.core.kind, hr.top.core.kindOk, hr.top.core.mode, hr.top.core.round, hr.top.core.defers⟩, ?_⟩, hr.stk, hr.bot.top rfl rfl rfl⟩ ho
  cases hr.top.body with
  | plain hd tm' todo' => exact .plain rfl (tmOf_rel tm') todo'
  | draw ops S C rl pl rest k k' hd => cases hd

variable {fn : FuncId} {T : Nat → List Item} {L : Nat → List Tmp} {Q : Value → AW → Prop} {sz N : Nat}

/-- loops: I has a measure g that falls with each round -/
theorem cuts_ofC (hX : XOk P X) (hP : POk P) (hp : Plain X) (hsz : sz < maxId) {ro : Option Nat} {cs : List AFr} {Q0 : Value → AW → Prop}
    (hl : ∀ todo tm ds A j, Leaves todo j → leaveR P fn ro ds A tm Q j → WP P X W0 m0 ⟨frC fn tm todo false ro ds, cs, A⟩ Q0) {I : Nat → Nat → List Value → AW → Prop}
    (hbody : ∀ g id vals A d, I g id vals A → (L id).map d = vals → wpgo P X W0 m0 fn T L (fun id' v' A' => ∃ g', g' < g ∧ I g' id' v' A') Q ro N (tmOf sz d) (T id) false 0 0 0 [] A) :
    ∀ id vals A tm, (∃ g, I g id vals A) → tm.sz = sz → (L id).map tm.get = vals → WP P X W0 m0 ⟨frC fn tm (T id) false ro [], cs, A⟩ Q0 := by
  have key : ∀ g, ∀ id vals A tm, I g id vals A → tm.sz = sz → (L id).map tm.get = vals → WP P X W0 m0 ⟨frC fn tm (T id) false ro [], cs, A⟩ Q0 := by
    intro g
    induction g using Nat.strongRecOn with
    | _ g ih =>
      intro id vals A tm hI hs hv
      have hb := hbody g id vals A tm.get hI hv
      rw [← hs] at hb
      refine wp_tmC (wpgo_soundC hX hP hp hsz (S := fun id' v' A' => ∃ g', g' < g ∧ I g' id' v' A') hl ?_ N _ _ _ _ _ _ _ _ hs (fun t => by simp) hb)
      rintro id' v' A' tm' ⟨g', hg, hI'⟩ hs' hv'
      exact ih g' hg id' v' A' tm' hI' hs' hv'
  rintro id vals A tm ⟨g, hI⟩ hs hv
  exact key g id vals A tm hI hs hv
theorem cuts_of (hX : XOk P X) (hP : POk P) (hp : Plain X) (hsz : sz < maxId) {I : Nat → Nat → List Value → AW → Prop}
    (hbody : ∀ g id vals A d, I g id vals A → (L id).map d = vals → wpgo P X W0 m0 fn T L (fun id' v' A' => ∃ g', g' < g ∧ I g' id' v' A') Q none N (tmOf sz d) (T id) false 0 0 0 [] A) :
    Cuts P X W0 m0 fn T L (fun id v A => ∃ g, I g id v A) Q sz :=
  cuts_ofC hX hP hp hsz (ro := none) (cs := []) (Q0 := Q) (fun _ _ _ _ _ hj h => wp_leaves hX hP hj h) hbody

/-- a call, by its first part -/
theorem wc_of (hX : XOk P X) (hP : POk P) (hp : Plain X) (hsz : sz < maxId) {S : Nat → List Value → AW → Prop} (hcut : Cuts P X W0 m0 fn T L S Q sz) {args : List Value} {tm : Tm} {todo : List Item} {A : AW}
    (he : enterA P fn args .normal = some (frM fn tm todo false)) (hs : tm.sz = sz) (h : wpgo P X W0 m0 fn T L S Q none N tm todo false 0 0 0 [] A) : Wc P X W0 m0 fn args A Q := by
  refine ⟨by rw [he]; rfl, ?_⟩
  unfold frOf
  rw [he]
  exact wpgo_sound hX hP hp hsz hcut N _ _ _ _ _ _ _ hs (fun t => by simp) h

/-- functions without loops -/
theorem cuts_none {S : Nat → List Value → AW → Prop} (h : ∀ id v A, ¬ S id v A) : Cuts P X W0 m0 fn T L S Q sz := fun id v A _ hs => absurd hs (h id v A)

/-- a round without loops of its own -/
theorem round_of (hX : XOk P X) (hP : POk P) (hp : Plain X) (hsz : sz < maxId) {l : Nat} {tm : Tm} {assign body : Code} {A : AW} {K : Value → AW → Prop} (hs : tm.sz = sz)
    (h : wpgo P X W0 m0 fn T L (fun _ _ _ => False) K (some l) N (tmOf sz tm.get) [.code assign, .beginRound, .code body] false 0 0 0 [] A) : RoundW P X W0 m0 l fn tm assign body A K := by
  intro c rest Q0 hK
  have h' := h
  rw [← hs] at h'
  exact wp_tmC (fn := fn) (ds := []) (wpgo_soundC (T := T) (L := L) (S := fun _ _ _ => False) hX hP hp (by rw [hs]; exact hsz) (sz := tm.sz) (fun _ _ _ _ _ hj h => round_leaves hX hP hj h hK) (fun _ _ _ _ h => h.elim) N _ _ _ _ _ _ _ _ rfl (fun t => by simp) h')
/-- a round with loops -/
theorem round_ofL (hX : XOk P X) (hP : POk P) (hp : Plain X) (hsz : sz < maxId) {l : Nat} {tm : Tm} {assign body : Code} {A : AW} {K : Value → AW → Prop} {I : Nat → Nat → List Value → AW → Prop} (hs : tm.sz = sz)
    (hbody : ∀ g id vals A d, I g id vals A → (L id).map d = vals → wpgo P X W0 m0 fn T L (fun id' v' A' => ∃ g', g' < g ∧ I g' id' v' A') K (some l) N (tmOf sz d) (T id) false 0 0 0 [] A)
    (h : wpgo P X W0 m0 fn T L (fun id v A => ∃ g, I g id v A) K (some l) N (tmOf sz tm.get) [.code assign, .beginRound, .code body] false 0 0 0 [] A) : RoundW P X W0 m0 l fn tm assign body A K := by
  intro c rest Q0 hK
  have h' := h
  have hcut := cuts_ofC (cs := c :: rest) (Q0 := Q0) hX hP hp hsz (fun _ _ _ _ _ hj h => round_leaves hX hP hj h hK) hbody
  rw [← hs] at h'
  exact wp_tmC (fn := fn) (ds := []) (wpgo_soundC (T := T) (L := L) hX hP hp (by rw [hs]; exact hsz) (sz := tm.sz) (fun _ _ _ _ _ hj h => round_leaves hX hP hj h hK) (by rw [hs]; exact hcut) N _ _ _ _ _ _ _ _ rfl (fun t => by simp) h')
end
end Go.Abs
