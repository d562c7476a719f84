/-
  Runs that part and meet again, runs in chunks; from a run to a law. Conditions: none beside those of each theorem.
-/
import Derived.Test.YtjbnbliakfeobaaGreatDoorAbsE
import Derived.ProofKit
import Derived.Below
import Derived.Carry
import Derived.ChangeSame
import Derived.HandedShaped
import Derived.Deep.Strs
import Derived.Stop.Joined
set_option linter.all false
namespace Go.Abs

/-! runs that part and meet again -/
section
variable {P : Program} {X : XNames} {W0 : World} {m0 : Inj P}

/-- what lay in the world at the start lies there still, and nobody may write it -/
structure Old (W0 : World) (m0 m : Inj P) (A : AW) (w : World) : Prop where
  le : m0.le m
  below : Go.RowKit.Below W0.heap.size W0 w
  own : ∀ c, c < W0.heap.size → ¬ Own m A c
theorem Old.next {m m' : Inj P} {A A' : AW} {w w' : World} {lo : Nat} (h : Old W0 m0 m A w) (e : EvL lo m A w m' A' w') : Old W0 m0 m' A' w' := by
  have hs := h.below.size
  refine ⟨h.le.trans e.ext, ⟨e.os.trans h.below.os, e.tape.trans h.below.tape, e.output.trans h.below.output, Nat.le_trans hs e.size, fun k hk => ?_⟩, fun c hc ho => ?_⟩
  · rw [e.keep k (by omega) (h.own k hk), h.below.block k hk]
  · exact h.own c hc (e.own c (by omega) ho)

/-- from s the run comes to one of L -/
def Reach (P : Program) (X : XNames) (W0 : World) (m0 : Inj P) (s : ASt) (L : List ASt) : Prop :=
  ∀ (f0 : FuncId) (base lo : Nat) (cs0 : List Frame) (m : Inj P) (f : Frame) (csW : List Frame) (w : World), SRel P X f0 base lo m s f csW w → Old W0 m0 m s.w w → ∃ s' ∈ L, Sim P X f0 base cs0 m s.w w (lone f (csW ++ cs0) w) s'

/-- the frame at the bottom of s returns one of l -/
def Res (P : Program) (X : XNames) (W0 : World) (m0 : Inj P) (s : ASt) (l : List (Value × AW)) : Prop :=
  ∀ (f0 : FuncId) (base lo : Nat) (cs0 : List Frame) (m : Inj P) (f : Frame) (csW : List Frame) (w : World), SRel P X f0 base lo m s f csW w → Old W0 m0 m s.w w →
    ∃ x ∈ l, ∃ v' m' w' f', Steps P (lone f (csW ++ cs0) w) (lone f' cs0 w') ∧ VRel m' x.1 v' ∧ EvL base m s.w w m' x.2 w' ∧ f'.leaving P w' (.returned v') ∧ f'.fn = f0

theorem Reach.refl (s : ASt) : Reach P X W0 m0 s [s] := fun f0 base lo cs0 m f csW w h _ => ⟨s, by simp, h.sim (.refl P _) (.refl h.rel base)⟩

theorem Sim.trans {f0 : FuncId} {base : Nat} {cs0 : List Frame} {m : Inj P} {A : AW} {w : World} {mach : Machine} {s : ASt} {L : List ASt} (h : Sim P X f0 base cs0 m A w mach s) (hr : Reach P X W0 m0 s L) (ho : Old W0 m0 m A w) : ∃ s' ∈ L, Sim P X f0 base cs0 m A w mach s' := by
  obtain ⟨lo1, m1, f1, cs1, w1, t1, t2, t3⟩ := h
  obtain ⟨s', hs', lo2, m2, f2, cs2, w2, u1, u2, u3⟩ := hr f0 base lo1 cs0 m1 f1 cs1 w1 t3 (ho.next t2)
  exact ⟨s', hs', lo2, m2, f2, cs2, w2, t1.trans u1, t2.trans u2, u3⟩

theorem Reach.trans {s : ASt} {L L' : List ASt} (h : Reach P X W0 m0 s L) (h' : ∀ x ∈ L, Reach P X W0 m0 x L') : Reach P X W0 m0 s L' := by
  intro f0 base lo cs0 m f csW w hr ho
  obtain ⟨s', hs', hsim⟩ := h f0 base lo cs0 m f csW w hr ho
  exact hsim.trans (h' s' hs') ho

theorem Reach.res {s : ASt} {L : List ASt} {l : List (Value × AW)} (h : Reach P X W0 m0 s L) (h' : ∀ x ∈ L, Res P X W0 m0 x l) : Res P X W0 m0 s l := by
  intro f0 base lo cs0 m f csW w hr ho
  obtain ⟨s', hs', lo1, m1, f1, cs1, w1, t1, t2, t3⟩ := h f0 base lo cs0 m f csW w hr ho
  obtain ⟨x, hx, v', m', w', f', u1, u2, u3, u4, u5⟩ := h' s' hs' f0 base lo1 cs0 m1 f1 cs1 w1 t3 (ho.next t2)
  exact ⟨x, hx, v', m', w', f', t1.trans u1, u2, t2.trans u3, u4, u5⟩

theorem Res.mono {s : ASt} {l l' : List (Value × AW)} (h : Res P X W0 m0 s l) (hl : ∀ x ∈ l, x ∈ l') : Res P X W0 m0 s l' := by
  intro f0 base lo cs0 m f csW w hr ho
  obtain ⟨x, hx, r⟩ := h f0 base lo cs0 m f csW w hr ho
  exact ⟨x, hl x hx, r⟩

theorem reach_next (hX : XOk P X) (hP : POk P) {s s' : ASt} (h : stepD P X s = .next s') : Reach P X W0 m0 s [s'] := by
  intro f0 base lo cs0 m f csW w hr _
  have hs := step_says (cs0 := cs0) hX hP hr
  rw [h] at hs
  exact ⟨s', by simp, hs⟩

theorem reach_branch (hX : XOk P X) (hP : POk P) {s : ASt} {l : List ASt} (h : stepD P X s = .branch l) : Reach P X W0 m0 s l := by
  intro f0 base lo cs0 m f csW w hr _
  have hs := step_says (cs0 := cs0) hX hP hr
  rw [h] at hs
  exact hs

theorem res_done (hX : XOk P X) (hP : POk P) {s : ASt} {v : Value} {A : AW} (h : stepD P X s = .done v A) : Res P X W0 m0 s [(v, A)] := by
  intro f0 base lo cs0 m f csW w hr _
  have hs := step_says (cs0 := cs0) hX hP hr
  rw [h] at hs
  obtain ⟨rfl, rfl, v', g1, g2, g3⟩ := hs
  exact ⟨(v, s.w), by simp, v', m, w, f, .refl P _, g1, .refl hr.rel base, g2, g3⟩

/-- the top frame run by itself, till it returns -/
theorem reach_sub {fr c : AFr} {rest : List AFr} {A : AW} {l : List (Value × AW)} (hk : fr.kind = .normal) (hro : fr.roundOf = none) (h : Res P X W0 m0 ⟨fr, [], A⟩ l) :
    Reach P X W0 m0 ⟨fr, c :: rest, A⟩ (l.map fun x => ⟨c.finish x.1, rest, x.2⟩) := by
  intro f0 base lo cs0 m f csW w hr ho
  obtain ⟨lo1, g, l', rfl, h1, h2, h3⟩ := hr.stk.inv
  have hbase := hr.stk.base
  have hlo := hr.below
  have hs : SRel P X fr.fn lo lo m ⟨fr, [], A⟩ f [] w := ⟨hr.rel, hr.glob, hr.below, hr.top, .nil lo (Nat.le_refl _), ⟨hk, rfl, hro⟩⟩
  obtain ⟨x, hx, v', m', w', f', u1, u2, u3, u4, u5⟩ := h fr.fn lo lo (g :: l' ++ cs0) m f [] w hs ho
  refine ⟨_, List.mem_map.2 ⟨x, hx, rfl⟩, lo1, m', g.finish v', l', w', ?_, u3.weak hbase, u3.rel, hr.glob.mono u3.ext, ?_, ?_, ?_, ?_⟩
  · exact u1.trans (.one (step_leave_returned u4))
  · have := u3.next
    show lo1 ≤ x.2.next
    have : A.next ≤ x.2.next := u3.next
    have : lo ≤ A.next := hlo
    omega
  · refine (h2.mono (A' := x.2) u3.ext (fun i hi => u3.same i hi) (Nat.le_refl lo)).finish u2 ?_
    have : A.next ≤ x.2.next := u3.next
    have : lo ≤ A.next := hlo
    show lo ≤ x.2.next
    omega
  · exact h3.mono u3.ext fun i hi => u3.same i (by omega)
  · have hb : Bot f0 (c :: rest) := hr.bot
    exact hb.finish x.1

/-! forgetting objects -/
/-- what lies in both heaps, the same -/
def sameEs : List MapEntry → List MapEntry → Bool
  | [], [] => true
  | a :: r, b :: s => sameV 6 a.key b.key && (sameV 6 a.val b.val && (Nat.beq a.born b.born && sameEs r s))
  | _, _ => false
def sameNs : List Nat → List Nat → Bool
  | [], [] => true
  | a :: r, b :: s => Nat.beq a b && sameNs r s
  | _, _ => false
def sameON : Option Nat → Option Nat → Bool
  | none, none => true
  | some a, some b => Nat.beq a b
  | _, _ => false
/-- two cells, poison among them -/
def sameC (a b : Value) : Bool := sameV 6 a b
def sameAO : AO → AO → Bool
  | .row cs e f b ro, .row cs' e' f' b' ro' => Nat.beq e e' && (Nat.beq f f' && (Nat.beq b b' && ((ro == ro') && sameL sameC cs cs')))
  | .map es c ro, .map es' c' ro' => Nat.beq c c' && ((ro == ro') && sameEs es es')
  | .sit s p, .sit s' p' => Nat.beq p p' && sameBytes s.data.toList s'.data.toList
  | .mit m a l c, .mit m' a' l' c' => sameON m m' && (Nat.beq a a' && (sameNs l l' && Nat.beq c c'))
  | _, _ => false

theorem sameEs_eq : ∀ {a b : List MapEntry}, sameEs a b = true → a = b
  | [], [], _ => rfl
  | a :: r, b :: s, h => by
    simp only [sameEs, Bool.and_eq_true] at h
    obtain ⟨h1, h2, h3, h4⟩ := h
    have e1 := sameV_eq _ _ _ h1
    have e2 := sameV_eq _ _ _ h2
    have e3 := Nat.eq_of_beq_eq_true h3
    cases a; cases b
    simp only at e1 e2 e3
    subst e1 e2 e3
    rw [sameEs_eq h4]
  | [], _ :: _, h => by simp [sameEs] at h
  | _ :: _, [], h => by simp [sameEs] at h
theorem sameNs_eq : ∀ {a b : List Nat}, sameNs a b = true → a = b
  | [], [], _ => rfl
  | a :: r, b :: s, h => by
    simp only [sameNs, Bool.and_eq_true] at h
    rw [Nat.eq_of_beq_eq_true h.1, sameNs_eq h.2]
  | [], _ :: _, h => by simp [sameNs] at h
  | _ :: _, [], h => by simp [sameNs] at h
theorem sameON_eq : ∀ {a b : Option Nat}, sameON a b = true → a = b
  | none, none, _ => rfl
  | some a, some b, h => by rw [Nat.eq_of_beq_eq_true h]
  | none, some _, h => by cases h
  | some _, none, h => by cases h

theorem sameAO_eq {a b : AO} (h : sameAO a b = true) : a = b := by
  cases a <;> cases b <;> simp only [sameAO] at h <;> first | (cases h; done) | skip
  case row.row =>
    simp only [Bool.and_eq_true, beq_iff_eq] at h
    obtain ⟨h1, h2, h3, h4, h5⟩ := h
    rw [Nat.eq_of_beq_eq_true h1, Nat.eq_of_beq_eq_true h2, Nat.eq_of_beq_eq_true h3, h4, sameL_eq (f := sameC) (fun a b h => sameV_eq _ _ _ h) h5]
  case map.map =>
    simp only [Bool.and_eq_true, beq_iff_eq] at h
    rw [Nat.eq_of_beq_eq_true h.1, h.2.1, sameEs_eq h.2.2]
  case sit.sit =>
    simp only [Bool.and_eq_true] at h
    rw [Nat.eq_of_beq_eq_true h.1]
    congr 1
    exact ByteArray.ext (Array.toList_inj.1 (sameBytes_eq h.2))
  case mit.mit =>
    simp only [Bool.and_eq_true] at h
    obtain ⟨h1, h2, h3, h4⟩ := h
    rw [sameON_eq h1, Nat.eq_of_beq_eq_true h2, sameNs_eq h3, Nat.eq_of_beq_eq_true h4]

def both : Option AO → Option AO → Option AO
  | some a, some b => bif sameAO a b then some a else none
  | _, _ => none
def meetT : Trie AO → Trie AO → Trie AO
  | .node v l r, .node v' l' r' => .node (both v v') (meetT l l') (meetT r r')
  | _, _ => .nil
def sameFams : Trie (List Nat) → Trie (List Nat) → Bool
  | .nil, .nil => true
  | .node v l r, .node v' l' r' => (match v, v' with | none, none => true | some a, some b => sameNs a b | _, _ => false) && (sameFams l l' && sameFams r r')
  | _, _ => false

theorem both_some {a b : Option AO} {o : AO} (h : both a b = some o) : a = some o ∧ b = some o := by
  cases a with
  | none => cases h
  | some a =>
    cases b with
    | none => cases h
    | some b =>
      simp only [both] at h
      cases hs : sameAO a b with
      | false => rw [hs] at h; cases h
      | true =>
        rw [hs] at h
        cases h
        rw [← sameAO_eq hs]
        exact ⟨rfl, rfl⟩

theorem meetT_get : ∀ (t t' : Trie AO) (i : Nat) (o : AO), (meetT t t').get? i = some o → t.get? i = some o ∧ t'.get? i = some o
  | .nil, _, i, o, h => by simp [meetT, Trie.get?] at h
  | .node _ _ _, .nil, i, o, h => by simp [meetT, Trie.get?] at h
  | .node v l r, .node v' l' r', i, o, h => by
    simp only [meetT, Trie.get?] at h ⊢
    cases h0 : Nat.beq i 0 with
    | true =>
      rw [h0] at h
      exact both_some h
    | false =>
      rw [h0] at h
      simp only [cond_false] at h ⊢
      cases h1 : Nat.beq (i % 2) 1 with
      | true => rw [h1] at h; exact meetT_get l l' _ _ h
      | false => rw [h1] at h; exact meetT_get r r' _ _ h

theorem sameFams_eq : ∀ (t t' : Trie (List Nat)), sameFams t t' = true → t = t'
  | .nil, .nil, _ => rfl
  | .node v l r, .node v' l' r', h => by
    simp only [sameFams, Bool.and_eq_true] at h
    obtain ⟨h1, h2, h3⟩ := h
    rw [sameFams_eq l l' h2, sameFams_eq r r' h3]
    cases v <;> cases v' <;> simp only at h1 <;> first | rfl | (cases h1; done) | rw [sameNs_eq h1]
  | .nil, .node _ _ _, h => by simp [sameFams] at h
  | .node _ _ _, .nil, h => by simp [sameFams] at h

/-- A' has less than A, and nothing else -/
structure Less (A' A : AW) : Prop where
  next : A'.next = A.next
  fams : A'.fams = A.fams
  get : ∀ i o, A'.get i = some o → A.get i = some o

theorem Less.refl (A : AW) : Less A A := ⟨rfl, rfl, fun _ _ h => h⟩
theorem Less.trans {A B C : AW} (h : Less A B) (k : Less B C) : Less A C := ⟨h.next.trans k.next, h.fams.trans k.fams, fun i o x => k.get i o (h.get i o x)⟩

theorem Less.ev {m : Inj P} {A A' : AW} {w : World} (h : Less A' A) (r : Rel m A w) : Ev m A w m A' w :=
  Ev.weaken r h.next h.fams fun i o hi => ⟨o, h.get i o hi, rfl, id, id, fun _ _ x => x, fun cs _ _ _ ro he => ⟨cs, ro, he⟩⟩

theorem Res.less {s : ASt} {l l' : List (Value × AW)} (h : Res P X W0 m0 s l) (hl : ∀ x ∈ l, ∃ y ∈ l', y.1 = x.1 ∧ Less y.2 x.2) : Res P X W0 m0 s l' := by
  intro f0 base lo cs0 m f csW w hr ho
  obtain ⟨x, hx, v', m', w', f', u1, u2, u3, u4, u5⟩ := h f0 base lo cs0 m f csW w hr ho
  obtain ⟨y, hy, h1, h2⟩ := hl x hx
  exact ⟨y, hy, v', m', w', f', u1, by rw [h1]; exact u2, u3.trans ((h2.ev u3.rel).low (by have := u3.next; have := hr.stk.base; have := hr.below; omega)), u4, u5⟩

def meet2 (x y : Value × AW) : Option (Value × AW) :=
  bif sameV 6 x.1 y.1 && (Nat.beq x.2.next y.2.next && sameFams x.2.fams y.2.fams) then some (x.1, { x.2 with heap := meetT x.2.heap y.2.heap }) else none
def meetAll (x : Value × AW) : List (Value × AW) → Option (Value × AW)
  | [] => some x
  | y :: r => match meet2 x y with
    | some z => meetAll z r
    | none => none

theorem meet2_spec {x y z : Value × AW} (h : meet2 x y = some z) : (z.1 = x.1 ∧ Less z.2 x.2) ∧ z.1 = y.1 ∧ Less z.2 y.2 := by
  unfold meet2 at h
  cases hc : (sameV 6 x.1 y.1 && (Nat.beq x.2.next y.2.next && sameFams x.2.fams y.2.fams)) with
  | false => rw [hc] at h; cases h
  | true =>
    rw [hc, cond_true, Option.some.injEq] at h
    subst h
    simp only [Bool.and_eq_true] at hc
    obtain ⟨h1, h2, h3⟩ := hc
    have h1 := sameV_eq _ _ _ h1
    have h2 := Nat.eq_of_beq_eq_true h2
    have h3 := sameFams_eq _ _ h3
    exact ⟨⟨rfl, rfl, rfl, fun i o hi => (meetT_get _ _ i o hi).1⟩, h1, h2, h3, fun i o hi => (meetT_get _ _ i o hi).2⟩

theorem meetAll_spec : ∀ {l : List (Value × AW)} {x z : Value × AW}, meetAll x l = some z → ∀ y ∈ x :: l, z.1 = y.1 ∧ Less z.2 y.2
  | [], x, z, h, y, hy => by
    simp only [meetAll, Option.some.injEq] at h
    subst h
    simp at hy
    subst hy
    exact ⟨rfl, .refl _⟩
  | y0 :: r, x, z, h, y, hy => by
    simp only [meetAll] at h
    split at h
    · rename_i z1 hz
      have ih := meetAll_spec h
      obtain ⟨g1, g2⟩ := ih z1 (by simp)
      obtain ⟨⟨k1, k2⟩, k3, k4⟩ := meet2_spec hz
      simp only [List.mem_cons] at hy
      rcases hy with rfl | rfl | hy
      · exact ⟨g1.trans k1, g2.trans k2⟩
      · exact ⟨g1.trans k3, g2.trans k4⟩
      · exact ih y (by simp [hy])
    · cases h

def mapR {α β : Type} (f : α → Option (List β)) : List α → Option (List β)
  | [] => some []
  | a :: r => match f a, mapR f r with
    | some x, some y => some (x ++ y)
    | _, _ => none

theorem mapR_spec {α β : Type} {f : α → Option (List β)} : ∀ {l : List α} {r : List β}, mapR f l = some r → ∀ a ∈ l, ∃ x, f a = some x ∧ ∀ b ∈ x, b ∈ r
  | [], _, _, a, ha => by simp at ha
  | a0 :: l, r, h, a, ha => by
    simp only [mapR] at h
    split at h
    · rename_i x y hx hy
      simp only [Option.some.injEq] at h
      subst h
      simp only [List.mem_cons] at ha
      rcases ha with rfl | ha
      · exact ⟨x, hx, fun b hb => by simp [hb]⟩
      · obtain ⟨z, h1, h2⟩ := mapR_spec hy a ha
        exact ⟨z, h1, fun b hb => by simp [h2 b hb]⟩
    · cases h

def isNormal : CallKind → Bool
  | .normal => true
  | _ => false
theorem isNormal_eq {k : CallKind} (h : isNormal k = true) : k = .normal := by cases k <;> first | rfl | cases h

/-- may the top frame be run by itself? 'mg': the functions at whose return runs that have parted meet again -/
def apart1 (mg : List FuncId) (s : ASt) : Bool := memN s.fr.fn mg && (isNormal s.fr.kind && (s.fr.roundOf.isNone && !s.cs.isEmpty))

theorem apart1_spec {mg : List FuncId} {s : ASt} (h : apart1 mg s = true) : s.fr.kind = .normal ∧ s.fr.roundOf = none := by
  unfold apart1 at h
  simp only [Bool.and_eq_true, Option.isNone_iff_eq_none] at h
  exact ⟨isNormal_eq h.2.1, h.2.2.1⟩

theorem reach_meet {fr c : AFr} {rest : List AFr} {A : AW} {x y : Value × AW} {l : List (Value × AW)} (hk : fr.kind = .normal) (hro : fr.roundOf = none) (h : Res P X W0 m0 ⟨fr, [], A⟩ (x :: l)) (hm : meetAll x l = some y) :
    Reach P X W0 m0 ⟨fr, c :: rest, A⟩ [⟨c.finish y.1, rest, y.2⟩] := by
  have h' : Res P X W0 m0 ⟨fr, [], A⟩ [y] := h.less fun z hz => ⟨y, by simp, (meetAll_spec hm z hz).1, (meetAll_spec hm z hz).2⟩
  exact reach_sub hk hro h'

/-! calls that are known by a contract -/
/-- a call that was met: the function, its arguments, what it may answer -/
structure KC where
  fn : FuncId
  args : List Value
  vals : List Value

/-- no function: such an entry says that two values are the same -/
def sameFn : Nat := 4194304

/-- nothing of old is turned -/
structure Low (w w' : World) : Prop where
  below : Go.RowKit.Below w.heap.size w w'
  draws : w.drawn ≤ w'.drawn

/-- the call answers one of them, and turns nothing of old -/
def KC.Holds (P : Program) (W0 : World) (m0 : Inj P) (k : KC) : Prop :=
  (k.fn = sameFn → k.args = k.vals) ∧ (k.fn ≠ sameFn → ∀ (m : Inj P) (args' : List Value) (W : World), m0.le m → Go.RowKit.Below W0.heap.size W0 W → VRels m k.args args' → Calls P k.fn ⟨args'⟩ W fun e W' => ∃ v ∈ k.vals, e = .returned v ∧ Low W W')

theorem Rel.grow {m : Inj P} {A : AW} {w w' : World} (r : Rel m A w) (h : Go.RowKit.Below w.heap.size w w') : Rel m A w' := by
  refine ⟨fun i o c d hi hm => ?_, r.home, r.sep, r.mem, r.fresh, r.lim, fun i cs e f b ro c d hi hm => ?_⟩
  · obtain ⟨o', h1, h2⟩ := r.obj i o c d hi hm
    exact ⟨o', by rw [h.block c (r.blockLt hi hm)]; exact h1, h2⟩
  · obtain ⟨g1, cs', e', fr, g2, g3⟩ := r.room i cs e f b ro c d hi hm
    exact ⟨g1, cs', e', fr, by rw [h.block c (r.blockLt hi hm)]; exact g2, g3⟩

theorem EvL.grow {m : Inj P} {A : AW} {w w' : World} (r : Rel m A w) (h : Low w w') (lo : Nat) : EvL lo m A w m A w' :=
  ⟨.refl m, r.grow h.below, h.below.size, h.below.os, h.below.tape, h.below.output, h.draws, fun c hc _ => h.below.block c hc, fun _ _ x => x, Nat.le_refl _, fun _ _ => rfl⟩

theorem reach_calls (hX : XOk P X) (hP : POk P) {s s' : ASt} {g : FuncId} {args vals : List Value} (h : stepD P X s = .calls g args s') (hg : g ≠ sameFn) (hk : KC.Holds P W0 m0 ⟨g, args, vals⟩) (hc : vals.all (closedV 4) = true) :
    Reach P X W0 m0 s (vals.map fun v => ⟨s'.fr.finish v, s'.cs, s'.w⟩) := by
  intro f0 base lo cs0 m f csW w hr ho
  have hs := step_says (cs0 := cs0) hX hP hr
  rw [h] at hs
  obtain ⟨lo', m', f', cs', w', args', t1, t2, t3, t4, t5, t6, t7, t8⟩ := hs
  have ho' := ho.next t2
  obtain ⟨e, w'', fr, ⟨v, hv, rfl, hb⟩, hst, _, hlv⟩ := hk.2 hg m' args' w' ho'.le ho'.below t3 (f' :: (cs' ++ cs0))
  have hst : Steps P (lone (Frame.enter P g ⟨args'⟩ .normal) (f' :: (cs' ++ cs0)) w') (lone fr (f' :: (cs' ++ cs0)) w'') := hst
  have hg := EvL.grow t2.rel hb base
  refine ⟨_, List.mem_map.2 ⟨v, hv, rfl⟩, lo', m', f'.finish v, cs', w'', t1.trans (hst.trans (.one (step_leave_returned hlv))), t2.trans hg, hg.rel, t4, t5, ?_, t7, t8.finish v⟩
  exact t6.finish (closedV_rel 4 v (List.all_eq_true.1 hc v hv)) (Nat.le_refl _)

theorem reach_asks (hX : XOk P X) (hP : POk P) {s s' : ASt} {v v' : Value} (h : stepD P X s = .asks v v' s') (hk : KC.Holds P W0 m0 ⟨sameFn, [v], [v']⟩) : Reach P X W0 m0 s [s'] := by
  intro f0 base lo cs0 m f csW w hr _
  have hs := step_says (cs0 := cs0) hX hP hr
  rw [h] at hs
  have hv := hk.1 rfl
  simp only [List.cons.injEq, and_true] at hv
  exact ⟨s', by simp, hs hv⟩

def mapK {α β : Type} (f : α → Option (List β × List KC)) : List α → Option (List β × List KC)
  | [] => some ([], [])
  | a :: r => match f a, mapK f r with
    | some x, some y => some (x.1 ++ y.1, x.2 ++ y.2)
    | _, _ => none

theorem mapK_spec {α β : Type} {f : α → Option (List β × List KC)} : ∀ {l : List α} {r : List β × List KC}, mapK f l = some r → ∀ a ∈ l, ∃ x, f a = some x ∧ (∀ b ∈ x.1, b ∈ r.1) ∧ ∀ k ∈ x.2, k ∈ r.2
  | [], _, _, a, ha => by simp at ha
  | a0 :: l, r, h, a, ha => by
    simp only [mapK] at h
    split at h
    · rename_i x y hx hy
      simp only [Option.some.injEq] at h
      subst h
      simp only [List.mem_cons] at ha
      rcases ha with rfl | ha
      · exact ⟨x, hx, fun b hb => by simp [hb], fun k hk => by simp [hk]⟩
      · obtain ⟨z, h1, h2, h3⟩ := mapK_spec hy a ha
        exact ⟨z, h1, fun b hb => by simp [h2 b hb], fun k hk => by simp [h3 k hk]⟩
    · cases h

/-- all that the frame at the bottom may return, and the calls met on the way; 'kn': what a known function may answer -/
def runR (P : Program) (X : XNames) (mg : List FuncId) (kn : FuncId → List Value) : Nat → ASt → Option (List (Value × AW) × List KC)
  | 0, _ => none
  | n + 1, s => match stepD P X s with
    | .next s' => bif apart1 mg s' then
        (match s'.cs with
        | c :: rest => (match runR P X mg kn n ⟨s'.fr, [], s'.w⟩ with
          | some (x :: l, ks) => (match meetAll x l with
            | some y => (match runR P X mg kn n ⟨c.finish y.1, rest, y.2⟩ with
              | some z => some (z.1, ks ++ z.2)
              | none => none)
            | none => none)
          | _ => none)
        | [] => none)
      else runR P X mg kn n s'
    | .branch l => mapK (runR P X mg kn n) l
    | .asks v v' s' => (match runR P X mg kn n s' with
        | some z => some (z.1, ⟨sameFn, [v], [v']⟩ :: z.2)
        | none => none)
    | .calls g args s' => bif !Nat.beq g sameFn && (kn g).all (closedV 4) then
        (match mapK (fun v => runR P X mg kn n ⟨s'.fr.finish v, s'.cs, s'.w⟩) (kn g) with
        | some z => some (z.1, ⟨g, args, kn g⟩ :: z.2)
        | none => none)
      else none
    | .done v A => some ([(v, A)], [])
    | _ => none

theorem runR_sound (hX : XOk P X) (hP : POk P) {mg : List FuncId} {kn : FuncId → List Value} : ∀ (n : Nat) {s : ASt} {l : List (Value × AW) × List KC}, runR P X mg kn n s = some l → (∀ k ∈ l.2, KC.Holds P W0 m0 k) → Res P X W0 m0 s l.1
  | 0, s, l, h, _ => by cases h
  | n + 1, s, l, h, hK => by
    unfold runR at h
    split at h
    · rename_i s' hs
      cases ha : apart1 mg s' with
      | false =>
        rw [ha] at h
        simp only [cond_false] at h
        exact (reach_next hX hP hs).res fun x hx => by simp at hx; subst hx; exact runR_sound hX hP n h hK
      | true =>
        rw [ha] at h
        simp only [cond_true] at h
        obtain ⟨hk, hro⟩ := apart1_spec ha
        split at h
        · rename_i c rest hcs
          split at h
          · rename_i x l1 ks hr
            split at h
            · rename_i y hy
              split at h
              · rename_i z hz
                simp only [Option.some.injEq] at h
                subst h
                have h1 := runR_sound hX hP n hr (fun k hk => hK k (by simp [hk]))
                have h2 : Reach P X W0 m0 s' [⟨c.finish y.1, rest, y.2⟩] := by
                  obtain ⟨fr, cs, A⟩ := s'
                  simp only at hcs hk hro h1
                  subst hcs
                  exact reach_meet hk hro h1 hy
                refine ((reach_next hX hP hs).trans (L' := [⟨c.finish y.1, rest, y.2⟩]) fun z hz => ?_).res fun z1 hz1 => ?_
                · simp at hz; subst hz; exact h2
                · simp at hz1; subst hz1
                  show Res P X W0 m0 _ z.1
                  exact runR_sound hX hP n hz (fun k hk => hK k (by simp [hk]))
              · cases h
            · cases h
          · cases h
        · cases h
    · rename_i l1 hs
      refine (reach_branch hX hP hs).res fun x hx => ?_
      obtain ⟨l2, h1, h2, h3⟩ := mapK_spec h x hx
      exact (runR_sound hX hP n h1 fun k hk => hK k (h3 k hk)).mono h2
    · rename_i v v' s' hs
      split at h
      · rename_i z hz
        simp only [Option.some.injEq] at h
        subst h
        have h1 : Res P X W0 m0 s' z.1 := runR_sound hX hP n hz (fun k hk => hK k (by simp [hk]))
        exact (reach_asks hX hP hs (hK _ (by simp))).res fun x hx => by simp at hx; subst hx; exact h1
      · cases h
    · rename_i g args s' hs
      cases hc : (!Nat.beq g sameFn && (kn g).all (closedV 4)) with
      | false => rw [hc] at h; cases h
      | true =>
        rw [hc, cond_true] at h
        simp only [Bool.and_eq_true, Bool.not_eq_true'] at hc
        have hg : g ≠ sameFn := fun e => by rw [e, Nat.beq_refl] at hc; exact Bool.noConfusion hc.1
        have hc := hc.2
        split at h
        · rename_i z hz
          simp only [Option.some.injEq] at h
          subst h
          refine (reach_calls hX hP hs hg (hK _ (by simp)) hc).res fun x hx => ?_
          obtain ⟨v, hv, rfl⟩ := List.mem_map.1 hx
          obtain ⟨l2, h1, h2, h3⟩ := mapK_spec hz v hv
          exact Res.mono (runR_sound hX hP n h1 fun k hk => hK k (by simp [h3 k hk])) h2
        · cases h
    · rename_i v A hs
      cases h
      exact res_done hX hP hs
    · cases h

/-! chunks -/
def keepIds (A : AW) : List Nat → Trie AO → Trie AO
  | [], t => t
  | i :: r, t => keepIds A r (t.put depth i (A.get i))

theorem keepIds_get {A : AW} (hA : ∀ i o, A.get i = some o → i < maxId) : ∀ (l : List Nat) (t : Trie AO), (∀ i o, t.get? i = some o → A.get i = some o) → (∀ i ∈ l, i < maxId) → ∀ i o, (keepIds A l t).get? i = some o → A.get i = some o
  | [], t, ht, _ => ht
  | j :: r, t, ht, hl => by
    refine keepIds_get hA r _ (fun i o h => ?_) (fun i hi => hl i (by simp [hi]))
    rw [Trie.get?_put depth t j i (A.get j) (by have := hl j (by simp); unfold depth maxId at *; omega)] at h
    split at h
    · rename_i e; subst e; exact h
    · exact ht i o h

def allSmall : List Nat → Bool
  | [] => true
  | i :: r => Nat.blt i maxId && allSmall r
theorem allSmall_spec : ∀ {l : List Nat}, allSmall l = true → ∀ i ∈ l, i < maxId
  | [], _, i, h => by simp at h
  | j :: r, h, i, hi => by
    simp only [allSmall, Bool.and_eq_true] at h
    simp only [List.mem_cons] at hi
    rcases hi with rfl | hi
    · exact blt_true.1 h.1
    · exact allSmall_spec h.2 i hi

/-- only these objects are kept -/
def keepSt (ids : List Nat) (s : ASt) : Option ASt :=
  bif s.fr.dr then none else bif allSmall ids then some ⟨s.fr, s.cs, { s.w with heap := keepIds s.w ids .nil }⟩ else none

theorem reach_less {s : ASt} (hd : s.fr.dr = false) {A' : AW} (hl : ∀ m w, Rel (P := P) m s.w w → Less A' s.w) : Reach P X W0 m0 s [⟨s.fr, s.cs, A'⟩] := by
  intro f0 base lo cs0 m f csW w h _
  have hl := hl m w h.rel
  have hev := hl.ev h.rel
  have hbase := h.stk.base
  have hlo := h.below
  refine ⟨⟨s.fr, s.cs, A'⟩, by simp, lo, m, f, csW, w, .refl P _, hev.low (by omega), hev.rel, h.glob, by show lo ≤ A'.next; rw [hl.next]; exact hlo, ?_, h.stk.mono (.refl m) fun _ _ => rfl, h.bot⟩
  refine ⟨h.top.core, ?_⟩
  obtain ⟨htm, htodo⟩ := h.plain hd
  exact .plain hd htm htodo

theorem reach_keep {ids : List Nat} {s s' : ASt} (h : keepSt ids s = some s') : Reach P X W0 m0 s [s'] := by
  unfold keepSt at h
  cases hd : s.fr.dr with
  | true => rw [hd] at h; cases h
  | false =>
    rw [hd, cond_false] at h
    cases ha : allSmall ids with
    | false => rw [ha] at h; cases h
    | true =>
      rw [ha, cond_true, Option.some.injEq] at h
      subst h
      refine reach_less hd fun m w r => ⟨rfl, rfl, fun i o hi => ?_⟩
      exact keepIds_get (fun i o h => r.ltMax h) ids .nil (fun i o h => by simp [Trie.get?] at h) (allSmall_spec ha) i o hi

/-- n steps; runs that part meet within a step -/
def advance (P : Program) (X : XNames) (mg : List FuncId) (kn : FuncId → List Value) (fuel : Nat) : Nat → ASt → List KC → Option (ASt × List KC)
  | 0, s, ks => some (s, ks)
  | n + 1, s, ks => match stepD P X s with
    | .next s' => bif apart1 mg s' then
        (match s'.cs with
        | c :: rest => (match runR P X mg kn fuel ⟨s'.fr, [], s'.w⟩ with
          | some (x :: l, k1) => (match meetAll x l with
            | some y => advance P X mg kn fuel n ⟨c.finish y.1, rest, y.2⟩ (ks ++ k1)
            | none => none)
          | _ => none)
        | [] => none)
      else advance P X mg kn fuel n s' ks
    | .branch [s'] => advance P X mg kn fuel n s' ks
    | .asks v v' s' => advance P X mg kn fuel n s' (ks ++ [⟨sameFn, [v], [v']⟩])
    | .calls g args s' => (match kn g with
      | [v] => bif !Nat.beq g sameFn && closedV 4 v then advance P X mg kn fuel n ⟨s'.fr.finish v, s'.cs, s'.w⟩ (ks ++ [⟨g, args, [v]⟩]) else none
      | _ => none)
    | _ => none

theorem advance_calls {mg : List FuncId} {kn : FuncId → List Value} {fuel : Nat} : ∀ (n : Nat) {s : ASt} {ks : List KC} {r : ASt × List KC}, advance P X mg kn fuel n s ks = some r → ∀ k ∈ ks, k ∈ r.2
  | 0, s, ks, r, h, k, hk => by cases h; exact hk
  | n + 1, s, ks, r, h, k, hk => by
    unfold advance at h
    split at h
    · rename_i s' hs
      cases ha : apart1 mg s' with
      | false => rw [ha] at h; exact advance_calls n h k hk
      | true =>
        rw [ha] at h
        simp only [cond_true] at h
        repeat' split at h
        all_goals first | (cases h; done) | exact advance_calls n h k (by simp [hk])
    · exact advance_calls n h k hk
    · exact advance_calls n h k (by simp [hk])
    · rename_i g _ _ _
      split at h
      · rename_i v _
        cases hc : (!Nat.beq g sameFn && closedV 4 v) with
        | false => rw [hc] at h; cases h
        | true => rw [hc] at h; exact advance_calls n h k (by simp [hk])
      · cases h
    · cases h

theorem advance_sound (hX : XOk P X) (hP : POk P) {mg : List FuncId} {kn : FuncId → List Value} {fuel : Nat} : ∀ (n : Nat) {s : ASt} {ks : List KC} {r : ASt × List KC}, advance P X mg kn fuel n s ks = some r → (∀ k ∈ r.2, KC.Holds P W0 m0 k) → Reach P X W0 m0 s [r.1]
  | 0, s, ks, r, h, _ => by cases h; exact .refl s
  | n + 1, s, ks, t, h, hK => by
    unfold advance at h
    split at h
    · rename_i s' hs
      cases ha : apart1 mg s' with
      | false =>
        rw [ha] at h
        simp only [cond_false] at h
        exact (reach_next hX hP hs).trans fun x hx => by simp at hx; subst hx; exact advance_sound hX hP n h hK
      | true =>
        rw [ha] at h
        simp only [cond_true] at h
        obtain ⟨hk, hro⟩ := apart1_spec ha
        split at h
        · rename_i c rest hcs
          split at h
          · rename_i x l1 k1 hr
            split at h
            · rename_i y hy
              have h1 := runR_sound hX hP fuel hr (fun k hk => hK k (advance_calls n h k (by simp [hk])))
              have h2 : Reach P X W0 m0 s' [⟨c.finish y.1, rest, y.2⟩] := by
                obtain ⟨fr, cs, A⟩ := s'
                simp only at hcs hk hro h1
                subst hcs
                exact reach_meet hk hro h1 hy
              refine ((reach_next hX hP hs).trans (L' := [⟨c.finish y.1, rest, y.2⟩]) fun z hz => ?_).trans fun z hz => ?_
              · simp at hz; subst hz; exact h2
              · simp at hz; subst hz; exact advance_sound hX hP n h hK
            · cases h
          · cases h
        · cases h
    · rename_i s' hs
      exact (reach_branch hX hP hs).trans fun x hx => by simp at hx; subst hx; exact advance_sound hX hP n h hK
    · rename_i v v' s' hs
      exact (reach_asks hX hP hs (hK _ (advance_calls n h _ (by simp)))).trans fun x hx => by simp at hx; subst hx; exact advance_sound hX hP n h hK
    · rename_i g args s' hs
      split at h
      · rename_i v hv
        cases hc : (!Nat.beq g sameFn && closedV 4 v) with
        | false => rw [hc] at h; cases h
        | true =>
          rw [hc, cond_true] at h
          simp only [Bool.and_eq_true, Bool.not_eq_true'] at hc
          have hg : g ≠ sameFn := fun e => by rw [e, Nat.beq_refl] at hc; exact Bool.noConfusion hc.1
          have hc := hc.2
          refine (reach_calls hX hP hs hg (hK ⟨g, args, [v]⟩ (advance_calls n h _ (by simp))) (by simp [hc])).trans fun x hx => ?_
          simp at hx
          subst hx
          exact advance_sound hX hP n h hK
      · cases h
    · cases h

/-- a chunk of a run: so many steps, then only these objects -/
def chunk (P : Program) (X : XNames) (mg : List FuncId) (kn : FuncId → List Value) (fuel n : Nat) (ids : List Nat) (s : ASt) : Option (ASt × List KC) :=
  match advance P X mg kn fuel n s [] with
  | some r => (match keepSt ids r.1 with
    | some s' => some (s', r.2)
    | none => none)
  | none => none

theorem chunk_sound (hX : XOk P X) (hP : POk P) {mg : List FuncId} {kn : FuncId → List Value} {fuel n : Nat} {ids : List Nat} {s s' : ASt} {ks : List KC} (h : chunk P X mg kn fuel n ids s = some (s', ks)) (hK : ∀ k ∈ ks, KC.Holds P W0 m0 k) : Reach P X W0 m0 s [s'] := by
  unfold chunk at h
  split at h
  · rename_i r h1
    split at h
    · rename_i s2 h2
      simp only [Option.some.injEq, Prod.mk.injEq] at h
      obtain ⟨rfl, rfl⟩ := h
      exact (advance_sound hX hP n h1 hK).trans fun x hx => by simp at hx; subst hx; exact reach_keep h2
    · cases h
  · cases h

theorem Reach.one {s s' : ASt} {l : List (Value × AW)} (h : Reach P X W0 m0 s [s']) (h' : Res P X W0 m0 s' l) : Res P X W0 m0 s l := h.res fun x hx => by simp at hx; subst hx; exact h'

/-- is each answer as 'ok' asks? -/
def oks (ok : Value → Bool) : List (Value × AW) → Bool
  | [] => true
  | x :: r => ok x.1 && oks ok r
theorem oks_spec {ok : Value → Bool} : ∀ {l : List (Value × AW)}, oks ok l = true → ∀ x ∈ l, ok x.1 = true
  | [], _, x, h => by simp at h
  | y :: r, h, x, hx => by
    simp only [oks, Bool.and_eq_true] at h
    simp only [List.mem_cons] at hx
    rcases hx with rfl | hx
    · exact h.1
    · exact oks_spec h.2 x hx

/-- does each way answer as 'ok' asks? And the calls met -/
def runOk (P : Program) (X : XNames) (mg : List FuncId) (kn : FuncId → List Value) (ok : Value → Bool) (n : Nat) (s : ASt) : Option (Bool × List KC) :=
  match runR P X mg kn n s with
  | some l => some (oks ok l.1, l.2)
  | none => none

/-- the run from s on answers as 'ok' asks -/
def Answers (P : Program) (X : XNames) (W0 : World) (m0 : Inj P) (ok : Value → Bool) (s : ASt) : Prop := ∃ l, Res P X W0 m0 s l ∧ ∀ x ∈ l, ok x.1 = true

theorem answers_of_run (hX : XOk P X) (hP : POk P) {mg : List FuncId} {kn : FuncId → List Value} {ok : Value → Bool} {n : Nat} {s : ASt} {ks : List KC} (h : runOk P X mg kn ok n s = some (true, ks)) (hK : ∀ k ∈ ks, KC.Holds P W0 m0 k) :
    Answers P X W0 m0 ok s := by
  unfold runOk at h
  split at h
  · rename_i l hl
    simp only [Option.some.injEq, Prod.mk.injEq] at h
    obtain ⟨h1, rfl⟩ := h
    exact ⟨l.1, runR_sound hX hP n hl hK, oks_spec h1⟩
  · cases h

theorem Answers.back {ok : Value → Bool} {s s' : ASt} (h : Answers P X W0 m0 ok s') (hr : Reach P X W0 m0 s [s']) : Answers P X W0 m0 ok s := by
  obtain ⟨l, h1, h2⟩ := h
  exact ⟨l, hr.one h1, h2⟩

theorem calls_of_answers (hP : POk P) {ok : Value → Bool} {m : Inj P} {A : AW} {w : World} {g : FuncId} {args args' : List Value} {fr : AFr} (he : enterA P g args .normal = some fr) (h : Answers P X w m ok ⟨fr, [], A⟩) (r : Rel m A w) (hG : GOk m)
    (hno : ∀ c, ¬ Own m A c) (ha : VRels m args args') : Calls P g ⟨args'⟩ w fun e w' => ∃ v v' m' A', ok v = true ∧ e = .returned v' ∧ VRel m' v v' ∧ EvL A.next m A w m' A' w' := by
  intro cs0
  obtain ⟨g1, g2, g3, g4⟩ := enter_rel (X := X) (A := A) hP he ha (.inl rfl) A.next A.next
  have hs : SRel P X g A.next A.next m ⟨fr, [], A⟩ (Frame.enter P g ⟨args'⟩ .normal) [] w := ⟨r, hG, Nat.le_refl _, g1, .nil _ (Nat.le_refl _), ⟨g2, g3, g4⟩⟩
  obtain ⟨l, h1, h2⟩ := h
  obtain ⟨x, hx, v', m', w', f', k1, k2, k3, k4, k5⟩ := h1 g A.next A.next cs0 m _ [] w hs ⟨.refl m, .refl _ _, fun c _ => hno c⟩
  exact ⟨.returned v', w', f', ⟨x.1, v', m', x.2, h2 x hx, rfl, k2, k3⟩, k1, k5, k4⟩

end
end Go.Abs

namespace Go.Abs
open Go.ChangeShapes Go.WideShapes Go.ChangeAt Go.RowKit

/-! from runs to laws -/
def progOk (P : Program) : Bool := P.funcs.toList.all fun fn => match fn.body with | some c => codeOk P c | none => true
theorem pok_of {P : Program} (h : progOk P = true) (hm : P.follows .mixedOrders = true) : POk P := by
  refine ⟨fun f fn c hf hb => ?_, hm⟩
  unfold progOk at h
  have := List.all_eq_true.1 h fn (by simpa using Array.mem_of_getElem? hf)
  rw [hb] at this
  exact this

/-- the externs are those that the lists say: asked of each number on the lists -/
def extIs (P : Program) (f : FuncId) (e : Array Value → Sem Value) : Prop :=
  ∃ fn, P.funcs[f]? = some fn ∧ fn.body = none ∧ (fn.name == "runtime.NumGoroutine") = false ∧ Extern.findNext fn = none ∧ Extern.find fn = some e
theorem memN_mem {n : Nat} : ∀ {l : List Nat}, memN n l = true → n ∈ l
  | [], h => by cases h
  | x :: r, h => by
    simp only [memN] at h
    cases hb : Nat.beq x n with
    | true => rw [beq_true.1 hb]; simp
    | false => rw [hb] at h; exact List.mem_cons_of_mem _ (memN_mem h)

def isT : Value → Bool
  | .bool b => b
  | _ => false
def frOf (P : Program) (f : FuncId) (args : List Value) : AFr := (enterA P f args .normal).getD ⟨0, ⟨0, .nil⟩, [], [], .run, .normal, none, false⟩

/-! the abstract heap at the start: some of the package's variables, read only -/
def rowsT : List (Nat × List Value × TypeId) → Trie AO
  | [] => .nil
  | x :: r => (rowsT r).put depth x.1 (some (.row x.2.1 x.2.2 x.1 0 true))
def wG (n : Nat) (l : List (Nat × List Value × TypeId)) : AW := ⟨rowsT l, n, .nil⟩

theorem rowsT_get : ∀ (l : List (Nat × List Value × TypeId)), (∀ x ∈ l, x.1 < maxId) → ∀ i o, (rowsT l).get? i = some o → ∃ x ∈ l, x.1 = i ∧ o = .row x.2.1 x.2.2 i 0 true
  | [], _, i, o, h => by simp [rowsT, Trie.get?] at h
  | x :: r, hl, i, o, h => by
    simp only [rowsT] at h
    rw [Trie.get?_put depth _ x.1 i _ (by have := hl x (by simp); unfold depth maxId at *; omega)] at h
    split at h
    · rename_i e
      subst e
      cases h
      exact ⟨x, by simp, rfl, rfl⟩
    · obtain ⟨y, hy, h1, h2⟩ := rowsT_get r (fun y hy => hl y (by simp [hy])) i o h
      exact ⟨y, by simp [hy], h1, h2⟩

def mG (P : Program) : Inj P := ⟨fun i => if i < P.globals.size then some (i, 0) else none, fun _ => 0, fun _ => 0, fun _ => 0, fun _ h => absurd rfl h⟩
theorem mG_lt {P : Program} {i c d : Nat} (h : mG P i = some (c, d)) : i < P.globals.size ∧ c = i ∧ d = 0 := by
  have h : (if i < P.globals.size then some (i, 0) else none) = some (c, d) := h
  split at h
  · cases h; exact ⟨‹_›, rfl, rfl⟩
  · cases h
theorem gG {P : Program} : GOk (mG P) := fun i hi => by
  show (if i < P.globals.size then some (i, 0) else none) = some (i, 0)
  rw [if_pos hi]

/-- the variables are in the world as the list says -/
def Holds (W : World) (l : List (Nat × List Value × TypeId)) : Prop := ∀ x ∈ l, ∃ fr, W.heap[x.1]? = some (.cells ⟨x.2.1⟩ x.2.2 fr)

def okG (n : Nat) (l : List (Nat × List Value × TypeId)) : Bool := Nat.ble n maxId && l.all fun x => Nat.blt x.1 n && x.2.1.all (closedV 4)

theorem relG {P : Program} {W : World} {l : List (Nat × List Value × TypeId)} (hok : okG P.globals.size l = true) (hW : Holds W l) : Rel (mG P) (wG P.globals.size l) W := by
  unfold okG at hok
  simp only [Bool.and_eq_true, List.all_eq_true] at hok
  obtain ⟨hn, hl⟩ := hok
  have hn := ble_true.1 hn
  have hget : ∀ i o, (wG P.globals.size l).get i = some o → ∃ x ∈ l, x.1 = i ∧ o = .row x.2.1 x.2.2 i 0 true := rowsT_get l fun x hx => Nat.lt_of_lt_of_le (blt_true.1 (hl x hx).1) hn
  refine ⟨?_, ?_, ?_, ?_, ?_, hn, ?_⟩
  · intro i o c d hi hm
    obtain ⟨x, hx, rfl, rfl⟩ := hget i o hi
    obtain ⟨_, rfl, rfl⟩ := mG_lt hm
    obtain ⟨fr, hc⟩ := hW x hx
    refine ⟨_, hc, _, fr, rfl, fun i v hv => ⟨v, by simpa using hv, fun _ => closedV_rel 4 v ((hl x hx).2 v (List.mem_of_getElem? hv)), fun h => by cases h⟩⟩
  · intro i cs e b ro hi c d hm
    exact (mG_lt hm).2.2
  · intro i j oi oj c di dj hij hi hj hmi hmj
    obtain ⟨x, hx, rfl, rfl⟩ := hget i oi hi
    obtain ⟨y, hy, rfl, rfl⟩ := hget j oj hj
    exact .inl ⟨rfl, rfl⟩
  · intro i o f b hi hf
    obtain ⟨x, hx, rfl, rfl⟩ := hget i o hi
    simp only [AO.fam, Option.some.injEq, Prod.mk.injEq] at hf
    obtain ⟨rfl, rfl⟩ := hf
    refine ⟨?_, blt_true.1 (hl x hx).1⟩
    show x.1 ∈ (match (Trie.nil : Trie (List Nat)).get? x.1 with | some l => l | none => [x.1])
    simp [Trie.get?]
  · intro i hi
    have hi : P.globals.size ≤ i := hi
    refine ⟨?_, ?_, rfl⟩
    · cases hq : (wG P.globals.size l).get i with
      | none => rfl
      | some o =>
        obtain ⟨x, hx, rfl, _⟩ := hget i o hq
        have := blt_true.1 (hl x hx).1
        omega
    · show (if i < P.globals.size then some (i, 0) else none) = none
      rw [if_neg (by omega)]
  · intro i cs e f b ro c d hi hm
    obtain ⟨x, hx, rfl, he⟩ := hget i _ hi
    cases he
    obtain ⟨_, rfl, rfl⟩ := mG_lt hm
    obtain ⟨fr, hc⟩ := hW x hx
    exact ⟨fun h => absurd rfl h, _, _, fr, hc, by show 0 + 0 ≤ _; omega, fun h => by cases h⟩

theorem ownG {P : Program} {l : List (Nat × List Value × TypeId)} (hok : okG P.globals.size l = true) (c : Nat) : ¬ Own (mG P) (wG P.globals.size l) c := by
  rintro ⟨i, o, d, hi, hro, _⟩
  unfold okG at hok
  simp only [Bool.and_eq_true, List.all_eq_true] at hok
  obtain ⟨x, hx, rfl, rfl⟩ := rowsT_get l (fun x hx => Nat.lt_of_lt_of_le (blt_true.1 (hok.2 x hx).1) (ble_true.1 hok.1)) i o hi
  cases hro

theorem low_of {P : Program} {m m' : Inj P} {A A' : AW} {w w' : World} {lo : Nat} (h : EvL lo m A w m' A' w') (hno : ∀ c, ¬ Own m A c) : Low w w' :=
  ⟨⟨h.os, h.tape, h.output, h.size, fun k hk => h.keep k hk (hno k)⟩, h.draws⟩
theorem below_of {P : Program} {m m' : Inj P} {A A' : AW} {w w' : World} {lo : Nat} (h : EvL lo m A w m' A' w') (hno : ∀ c, ¬ Own m A c) : Below w.heap.size w w' :=
  ⟨h.os, h.tape, h.output, h.size, fun k hk => h.keep k hk (hno k)⟩

/-- a run that answers true gives a call that returns true, and turns nothing of old -/
theorem calls_true {P : Program} {X : XNames} (hP : POk P) {l : List (Nat × List Value × TypeId)} (hok : okG P.globals.size l = true) {g : FuncId} {args : List Value} (hcl : args.all (closedV 4) = true) (he : (enterA P g args .normal).isSome = true)
    (W : World) (hW : Holds W l)
    (h : Answers P X W (mG P) isT ⟨frOf P g args, [], wG P.globals.size l⟩) : Calls P g ⟨args⟩ W fun e W' => e = .returned (.bool true) ∧ Low W W' := by
  obtain ⟨fr, hfr⟩ := Option.isSome_iff_exists.1 he
  have hfo : frOf P g args = fr := by unfold frOf; rw [hfr]; rfl
  rw [hfo] at h
  refine (calls_of_answers (w := W) hP hfr h (relG hok hW) gG (ownG hok) (VRels.self fun v hv => closedV_rel 4 v (List.all_eq_true.1 hcl v hv))).mono ?_
  rintro e w' ⟨v, v', m', A', h1, rfl, h2, h3⟩
  refine ⟨?_, low_of h3 (ownG hok)⟩
  cases v with
  | bool b =>
    have h1 : b = true := h1
    subst h1
    cases h2; rfl
  | _ => cases h1

/-! the same, with arguments that lead into memory: each such place has a number of its own behind the variables' -/
def mA (P : Program) (l : List (Nat × Nat)) : Inj P := ⟨fun i => if i < P.globals.size then some (i, 0) else l[i - P.globals.size]?, fun _ => 0, fun _ => 0, fun _ => 0, fun _ h => absurd rfl h⟩
def wA (n k : Nat) (l : List (Nat × List Value × TypeId)) : AW := ⟨rowsT l, n + k, .nil⟩
theorem mA_var {P : Program} {l : List (Nat × Nat)} {i : Nat} (h : i < P.globals.size) : mA P l i = some (i, 0) := by
  show (if i < P.globals.size then some (i, 0) else l[i - P.globals.size]?) = some (i, 0)
  rw [if_pos h]
theorem mA_arg {P : Program} {l : List (Nat × Nat)} (i : Nat) : mA P l (P.globals.size + i) = l[i]? := by
  show (if P.globals.size + i < P.globals.size then some (P.globals.size + i, 0) else l[P.globals.size + i - P.globals.size]?) = l[i]?
  rw [if_neg (by omega), Nat.add_sub_cancel_left]
theorem gA {P : Program} {l : List (Nat × Nat)} : GOk (mA P l) := fun _ hi => mA_var hi

theorem relA {P : Program} {W : World} {rows : List (Nat × List Value × TypeId)} {l : List (Nat × Nat)} (hok : okG P.globals.size rows = true) (hk : P.globals.size + l.length ≤ maxId) (hW : Holds W rows) : Rel (mA P l) (wA P.globals.size l.length rows) W := by
  unfold okG at hok
  simp only [Bool.and_eq_true, List.all_eq_true] at hok
  obtain ⟨hn, hl⟩ := hok
  have hn := ble_true.1 hn
  have hget : ∀ i o, (wA P.globals.size l.length rows).get i = some o → ∃ x ∈ rows, x.1 = i ∧ o = .row x.2.1 x.2.2 i 0 true := rowsT_get rows fun x hx => Nat.lt_of_lt_of_le (blt_true.1 (hl x hx).1) hn
  have hvar : ∀ {x : Nat × List Value × TypeId}, x ∈ rows → ∀ {c d : Nat}, mA P l x.1 = some (c, d) → c = x.1 ∧ d = 0 := by
    intro x hx c d hm
    rw [mA_var (blt_true.1 (hl x hx).1)] at hm
    cases hm
    exact ⟨rfl, rfl⟩
  refine ⟨?_, ?_, ?_, ?_, ?_, hk, ?_⟩
  · intro i o c d hi hm
    obtain ⟨x, hx, rfl, rfl⟩ := hget i o hi
    obtain ⟨rfl, rfl⟩ := hvar hx hm
    obtain ⟨fr, hc⟩ := hW x hx
    refine ⟨_, hc, _, fr, rfl, fun i v hv => ⟨v, by simpa using hv, fun _ => closedV_rel 4 v ((hl x hx).2 v (List.mem_of_getElem? hv)), fun h => by cases h⟩⟩
  · intro i cs e b ro hi c d hm
    obtain ⟨x, hx, rfl, _⟩ := hget i _ hi
    exact (hvar hx hm).2
  · intro i j oi oj c di dj hij hi hj hmi hmj
    obtain ⟨x, hx, rfl, rfl⟩ := hget i oi hi
    obtain ⟨y, hy, rfl, rfl⟩ := hget j oj hj
    exact .inl ⟨rfl, rfl⟩
  · intro i o f b hi hf
    obtain ⟨x, hx, rfl, rfl⟩ := hget i o hi
    simp only [AO.fam, Option.some.injEq, Prod.mk.injEq] at hf
    obtain ⟨rfl, rfl⟩ := hf
    refine ⟨?_, ?_⟩
    · show x.1 ∈ (match (Trie.nil : Trie (List Nat)).get? x.1 with | some l => l | none => [x.1])
      simp [Trie.get?]
    · have := blt_true.1 (hl x hx).1
      show x.1 < P.globals.size + l.length
      omega
  · intro i hi
    have hi : P.globals.size + l.length ≤ i := hi
    refine ⟨?_, ?_, rfl⟩
    · cases hq : (wA P.globals.size l.length rows).get i with
      | none => rfl
      | some o =>
        obtain ⟨x, hx, rfl, _⟩ := hget i o hq
        have := blt_true.1 (hl x hx).1
        omega
    · show (if i < P.globals.size then some (i, 0) else l[i - P.globals.size]?) = none
      rw [if_neg (by omega)]
      exact List.getElem?_eq_none (by omega)
  · intro i cs e f b ro c d hi hm
    obtain ⟨x, hx, rfl, he⟩ := hget i _ hi
    cases he
    obtain ⟨rfl, rfl⟩ := hvar hx hm
    obtain ⟨fr, hc⟩ := hW x hx
    exact ⟨fun h => absurd rfl h, _, _, fr, hc, by show 0 + 0 ≤ _; omega, fun h => by cases h⟩

theorem ownA {P : Program} {rows : List (Nat × List Value × TypeId)} {l : List (Nat × Nat)} (hok : okG P.globals.size rows = true) (c : Nat) : ¬ Own (mA P l) (wA P.globals.size l.length rows) c := by
  rintro ⟨i, o, d, hi, hro, _⟩
  unfold okG at hok
  simp only [Bool.and_eq_true, List.all_eq_true] at hok
  obtain ⟨x, hx, rfl, rfl⟩ := rowsT_get rows (fun x hx => Nat.lt_of_lt_of_le (blt_true.1 (hok.2 x hx).1) (ble_true.1 hok.1)) i o hi
  cases hro

theorem calls_trueA {P : Program} {X : XNames} (hP : POk P) {rows : List (Nat × List Value × TypeId)} (hok : okG P.globals.size rows = true) {l : List (Nat × Nat)} (hk : P.globals.size + l.length ≤ maxId) {g : FuncId} {args args' : List Value}
    (ha : VRels (mA P l) args args') (he : (enterA P g args .normal).isSome = true) (W : World) (hW : Holds W rows)
    (h : Answers P X W (mA P l) isT ⟨frOf P g args, [], wA P.globals.size l.length rows⟩) : Calls P g ⟨args'⟩ W fun e W' => e = .returned (.bool true) ∧ Below W.heap.size W W' := by
  obtain ⟨fr, hfr⟩ := Option.isSome_iff_exists.1 he
  have hfo : frOf P g args = fr := by unfold frOf; rw [hfr]; rfl
  rw [hfo] at h
  refine (calls_of_answers (w := W) hP hfr h (relA hok hk hW) gA (ownA hok) ha).mono ?_
  rintro e w' ⟨v, v', m', A', h1, rfl, h2, h3⟩
  refine ⟨?_, below_of h3 (ownA hok)⟩
  cases v with
  | bool b =>
    have h1 : b = true := h1
    subst h1
    cases h2; rfl
  | _ => cases h1

/-- a function without parameters that answers true, wherever the variables hold what they should -/
theorem kc_true {P : Program} {rows : List (Nat × List Value × TypeId)} {g : FuncId} (hg : g ≠ sameFn) (h : ∀ W, Holds W rows → Calls P g #[] W fun e W' => e = .returned (.bool true) ∧ Low W W') {W0 : World} (hW : Holds W0 rows) (m0 : Inj P) :
    KC.Holds P W0 m0 ⟨g, [], [.bool true]⟩ := by
  refine ⟨fun e => absurd e hg, fun _ => ?_⟩
  intro m args' W _ hb ha
  cases ha
  refine (h W fun x hx => ?_).mono ?_
  · obtain ⟨fr, hc⟩ := hW x hx
    exact ⟨fr, by rw [hb.block x.1 (Array.getElem?_eq_some_iff.1 hc).1]; exact hc⟩
  · rintro e W' ⟨rfl, hb'⟩
    exact ⟨_, by simp, rfl, hb'⟩

/-- a slice that came in, never looked into -/
theorem slice_rel {P : Program} {l : List (Nat × Nat)} {i n c : Nat} {a : Addr} (hl : l[i]? = some (a.block, a.off)) (hn : n ≤ c) (hc : c < capU) (hs : 0 < c → a.spot = none) :
    VRel (mA P l) (.slice (some ⟨P.globals.size + i, 0, none⟩) n c) (.slice (some a) n c) :=
  .slice (.inl ⟨hc, rfl⟩) hn fun hp => ⟨rfl, hs hp, a.off, by rw [mA_arg]; exact hl, rfl⟩

/-! runs whose known calls all answer true; what is told beside that comes as two lists that must be the same -/
def ksTrue (allowed : List FuncId) (l : List KC) : Bool := l.all fun k => Nat.beq k.fn sameFn || (memN k.fn allowed && (k.args.isEmpty && (match k.vals with | [.bool true] => true | _ => false)))
def ksL : List KC → List (List Value)
  | [] => []
  | k :: r => bif Nat.beq k.fn sameFn then k.args :: ksL r else ksL r
def ksR : List KC → List (List Value)
  | [] => []
  | k :: r => bif Nat.beq k.fn sameFn then k.vals :: ksR r else ksR r
theorem ks_same : ∀ {l : List KC}, ksL l = ksR l → ∀ k ∈ l, k.fn = sameFn → k.args = k.vals
  | [], _, k, hk, _ => by simp at hk
  | x :: r, h, k, hk, he => by
    unfold ksL ksR at h
    simp only [List.mem_cons] at hk
    cases hx : Nat.beq x.fn sameFn with
    | true =>
      rw [hx] at h
      simp only [cond_true, List.cons.injEq] at h
      rcases hk with rfl | hk
      · exact h.1
      · exact ks_same h.2 k hk he
    | false =>
      rw [hx] at h
      simp only [cond_false] at h
      rcases hk with rfl | hk
      · rw [he, Nat.beq_refl] at hx
        cases hx
      · exact ks_same h k hk he
def runsAsk (P : Program) (X : XNames) (mg : List FuncId) (kn : FuncId → List Value) (allowed : List FuncId) (n : Nat) (s : ASt) : Bool × List (List Value) × List (List Value) :=
  match runOk P X mg kn isT n s with
  | some (b, l) => (b && ksTrue allowed l, ksL l, ksR l)
  | none => (false, [], [])
theorem answers_of_asks {P : Program} {X : XNames} {W0 : World} {m0 : Inj P} (hX : XOk P X) (hP : POk P) {mg : List FuncId} {kn : FuncId → List Value} {allowed : List FuncId} {n : Nat} {s : ASt} {L R : List (List Value)} (h : runsAsk P X mg kn allowed n s = (true, L, R)) (hLR : L = R)
    (hK : ∀ f ∈ allowed, f ≠ sameFn → KC.Holds P W0 m0 ⟨f, [], [.bool true]⟩) : Answers P X W0 m0 isT s := by
  unfold runsAsk at h
  split at h
  · rename_i b l hr
    simp only [Prod.mk.injEq, Bool.and_eq_true] at h
    obtain ⟨⟨rfl, h2⟩, h3, h4⟩ := h
    subst h3 h4
    refine answers_of_run hX hP hr fun k hk => ?_
    by_cases he : k.fn = sameFn
    · exact ⟨fun _ => ks_same hLR k hk he, fun hn => absurd he hn⟩
    · have := List.all_eq_true.1 h2 k hk
      simp only [Bool.or_eq_true, Bool.and_eq_true] at this
      rcases this with h5 | ⟨h3, h4, h5⟩
      · exact absurd (Nat.eq_of_beq_eq_true h5) he
      · obtain ⟨f, as, vs⟩ := k
        simp only at h3 h4 h5 he
        obtain rfl : as = [] := by simpa using h4
        split at h5
        · exact hK _ (memN_mem h3) he
        · cases h5
  · cases h

/-! slices that came in, never looked into -/
def IsSlice (s : Value) : Prop := s = .slice none 0 0 ∨ ∃ (a : Addr) (n c : Nat), s = .slice (some a) n c ∧ n ≤ c ∧ c < capU ∧ (0 < c → a.spot = none)
def placeOf : Value → Nat × Nat
  | .slice (some a) _ _ => (a.block, a.off)
  | _ => (0, 0)
theorem IsSlice.rel {P : Program} {l : List (Nat × Nat)} {s : Value} (h : IsSlice s) (i : Nat) (hl : l[i]? = some (placeOf s)) : ∃ o n c, VRel (mA P l) (.slice o n c) s := by
  rcases h with rfl | ⟨a, n, c, rfl, hn, hc, hs⟩
  · exact ⟨none, 0, 0, closedV_rel 4 _ (by rfl)⟩
  · exact ⟨_, _, _, slice_rel (i := i) hl hn hc hs⟩

/-! rows -/
section
variable {H : Type} {enc : TypeId × Value → H}

theorem returnsInHanded_and_shaped {a : Assume} {C : Checked} {os : Os} {f : FuncId} {fn : Func} {s : ChangeSpec} {conds : List PathCond} {apart fresh handsOn again : Bool} {X : World → Array Value → Prop}
    (hX : ∀ (w w' : World) (args : Array Value), w.heap = w'.heap → X w args → X w' args)
    (own : ownKnob C.prog.godebug = none) (started : os.Started) (noInit : C.prog.inits.idxOf? f = none) (hfn : C.prog.funcs[f]? = some fn)
    (witness : ∃ (w : World) (tape : Tape) (i : Input), w.os = os ∧ (w.forCall tape i).Shaped C.prog ∧ i.vars = [] ∧ Input.okWide C.prog (w.forCall tape i) .any w.heap.size f i ∧
      ((s.pre enc C.prog fn conds apart (w.forCall tape i).memory i.args ∧ X (w.forCall tape i).memory i.args) ∧ sizedMet enc C.prog fn (OpenSpec.ofChange s) apart (w.forCall tape i).memory i.args) ∧ a.holds C.prog (lone (Frame.enter C.prog f i.args .normal) [] (w.forCall tape i)))
    (contract : ∀ (W : World) (base : Nat) (args : Array Value) (ds gs : List (DataW H)) (before : List MemPlace),
      (∀ (j : Nat) t v, fn.params[j]? = some t → args[j]? = some v → Value.okWide C.prog W .any base t v) →
      DataW.Whole enc C.prog fn.params.toList s.vars apart W args.toList ds gs before →
      conds.all (PathCond.test C.prog ⟨fn.params.toList, ds, s.plain.varTypes C.prog, gs⟩) = true →
      (DataW.weightsEach C.prog (fn.params.toList ++ s.plain.varTypes C.prog) (ds ++ gs)).all (· ≤ reachBytes) = true → X W args → W.ShapedOpen C.prog →
      Calls C.prog f args W fun e W' => ∃ v, e = .returned v ∧ s.post enc C.prog fn apart fresh handsOn again W args v W') :
    ReturnsInHanded a C os f .any (fun w args => (s.pre enc C.prog fn conds apart w args ∧ X w args) ∧ sizedMet enc C.prog fn (OpenSpec.ofChange s) apart w args) (s.post enc C.prog fn apart fresh handsOn again) := by
  refine returnsInHanded_of_calls own started noInit witness ?_
  intro w tape i _ hsh _ hok hpre hholds
  obtain ⟨_, _, _, fn', hfn', _, _, _, _, hval⟩ := hok
  have e : fn' = fn := Option.some.inj (hfn'.symm.trans hfn)
  subst e
  obtain ⟨⟨⟨ds, gs, before, hw, hc⟩, hx⟩, hz⟩ := hpre
  have hw' := DataW.Whole.of_heap (w' := w.forCall tape i) (by rfl) hw
  refine (contract (w.forCall tape i) w.heap.size i.args ds gs before hval hw' hc (hz.weights hw) (hX _ _ _ (by rfl) hx) hsh).mono fun e W' ⟨v, he, hp⟩ => ?_
  subst he
  exact ChangeSpec.post_blind hp

theorem read_slice {P : Program} {w : World} {t e : TypeId} {fuel : Nat} {cs : List Value} {x : DataW H × List MemPlace} (hu : P.underlying t = some (.slice e)) (hz : 0 < P.cellsOf e) (h : DataW.trod enc P w 0 (fun _ => true) true fuel t cs = some x) : ∃ s, cs = [s] ∧ IsSlice s := by
  rcases Go.Deep.open_slice hu h with ⟨h1, _⟩ | ⟨a, n, c, m, _, D, Pl, h1, _, hn, hm, rfl, _, hx⟩
  · exact ⟨_, h1, .inl rfl⟩
  · refine ⟨_, h1, .inr ⟨a, n, m, rfl, hn, Nat.lt_of_le_of_lt hm (by decide), fun hp => ?_⟩⟩
    obtain ⟨cs', h2, _⟩ := hx 0 hp
    obtain ⟨_, hl, h3⟩ := World.cells?_some h2
    have h4 := h3 0 hz
    have h5 : cs'[0]? = some (cs'[0]'(by rw [hl]; exact hz)) := List.getElem?_eq_getElem _
    rw [h5] at h4
    unfold World.cell? at h4
    split at h4
    · split at h4
      · cases h4
      · rename_i hsp
        cases hq : a.spot with
        | none => rfl
        | some z => exact absurd (by simp [Addr.add, hq]) hsp
    · cases h4


variable {P : Program}
theorem post_of_below {f : Func} {s : ChangeSpec} {apart fresh handsOn again : Bool} {W W' : World} {args : Array Value} {v : Value} {ds gs : List (DataW H)} {before pa pv : List MemPlace}
    (hW : DataW.Whole enc P f.params.toList s.vars apart W args.toList ds gs before)
    (hres : ∀ (b : Nat) (sp : Nat → Bool) (hd : Bool), DataW.TrodAll enc P W' b sp hd f.resultTypes.toList (v.resultList f.resultTypes.size) (s.fn H (ds ++ gs)).results [])
    (hargs : ∀ sp : Nat → Bool, (∀ p ∈ before, sp p.block = true) → DataW.TrodAll enc P W' 0 sp true f.params.toList args.toList (s.fn H (ds ++ gs)).args pa)
    (hvars : ∀ sp : Nat → Bool, (∀ p ∈ before, sp p.block = true) → DataW.TrodVars enc P W' sp s.vars (s.fn H (ds ++ gs)).vars pv)
    (hps : before = pa ++ pv) (hb : Below W.heap.size W W')
    (hok : ∀ (j : Nat) (t : TypeId) (r : Value), f.resultTypes[j]? = some t → (v.resultList f.resultTypes.size)[j]? = some r → Value.okWide P W' .any 0 t r) :
    s.post enc P f apart fresh handsOn again W args v W' := by
  have hlt : ∀ p ∈ before, p.block < W.heap.size := fun p hp => hW.lt p hp
  have hold : ∀ p ∈ before, (fun b => decide (b < W.heap.size)) p.block = true := fun p hp => by simpa using hlt p hp
  refine ⟨ds, gs, before, [], pa, pv, hW, hres _ _ _, hargs _ hold, hvars _ hold, World.keptBut_mono (fun p hp => ⟨hp, ?_⟩) (hb.frame (· ∈ before)), fun _ => ?_⟩
  · rw [hps, List.mem_append] at hp
    exact Or.inr hp
  · obtain ⟨_, _, _, _, _, hz, hn⟩ := hW
    refine ⟨hok, _, _, ([] ++ pa) ++ pv, ⟨[] ++ pa, pv, trodAll_append (hargs _ (fun _ _ => rfl)) (hres _ _ _), hvars _ (fun _ _ => rfl), rfl, ?_, ?_⟩, ?_⟩
    · intro b off hp
      have hin : MemPlace.cell b off ∈ before := by rw [hps]; simpa using hp
      rw [hb.frozen (hlt _ hin)]
      exact hz b off hin
    · intro ha
      have := hn ha
      rw [hps] at this
      simpa using this
    · intro p hp _
      rw [hps]
      simpa using hp
end

/-- a variable whose cells are known, in a world of the program's shape -/
theorem holds_var {P : Program} {W : World} (hsh : W.ShapedOpen P) {name : String} {g t : Nat} {cs : List Value} (hg : P.globalNamed name = some g) (hlt : g < P.globals.size) (hz : ((((begin P (fun _ _ => 0) default).world.heap[g]?).bind Obj.row?).map (·.2)) = some t)
    (hv : W.var? P name = some ⟨cs⟩) : ∃ fr, W.heap[g]? = some (.cells ⟨cs⟩ t fr) := by
  cases hq : ((begin P (fun _ _ => 0) default).world.heap[g]?).bind Obj.row? with
  | none => rw [hq] at hz; cases hz
  | some x =>
    obtain ⟨zero, t'⟩ := x
    rw [hq] at hz
    simp only [Option.map_some, Option.some.injEq] at hz
    subst hz
    obtain ⟨cs', h1, _⟩ := hsh.1 g zero t' hlt hq
    unfold World.var? at hv
    rw [hg] at hv
    simp only [Option.bind_some, h1, Option.some.injEq] at hv
    subst hv
    exact ⟨_, h1⟩

end Go.Abs
