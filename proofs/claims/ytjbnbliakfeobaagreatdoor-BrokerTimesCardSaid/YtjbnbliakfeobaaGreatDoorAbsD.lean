/-
  The steps of the abstract machine, the first part: regions in whatever order, frames, answers. Conditions: none beside those of each theorem.
-/
import Derived.Test.YtjbnbliakfeobaaGreatDoorAbsA
import Derived.Test.YtjbnbliakfeobaaGreatDoorAbsC
import Derived.Orders
set_option linter.all false
namespace Go.Abs

/-! an equality on values that the kernel can compute; it is sound only -/
def sameBytes : List UInt8 → List UInt8 → Bool
  | [], [] => true
  | a :: r, b :: s => Nat.beq a.toNat b.toNat && sameBytes r s
  | _, _ => false

def sameAddr (a b : Addr) : Bool := Nat.beq a.block b.block && (Nat.beq a.off b.off && (a.spot.isNone && b.spot.isNone))

def sameInt : Int → Int → Bool
  | .ofNat a, .ofNat b => Nat.beq a b
  | .negSucc a, .negSucc b => Nat.beq a b
  | _, _ => false

def sameL (f : Value → Value → Bool) : List Value → List Value → Bool
  | [], [] => true
  | a :: r, b :: s => f a b && sameL f r s
  | _, _ => false

def sameV : Nat → Value → Value → Bool
  | 0, _, _ => false
  | _ + 1, .bool a, .bool b => a == b
  | _ + 1, .int k a, .int l b => decide (k = l) && sameInt a b
  | _ + 1, .string a, .string b => sameBytes a.data.toList b.data.toList
  | _ + 1, .nilFunc, .nilFunc => true
  | _ + 1, .nilIface, .nilIface => true
  | _ + 1, .pointer none, .pointer none => true
  | _ + 1, .pointer (some a), .pointer (some b) => sameAddr a b
  | _ + 1, .slice none n c, .slice none n' c' => Nat.beq n n' && Nat.beq c c'
  | _ + 1, .slice (some a) n c, .slice (some b) n' c' => sameAddr a b && (Nat.beq n n' && Nat.beq c c')
  | _ + 1, .map none, .map none => true
  | _ + 1, .map (some a), .map (some b) => Nat.beq a b
  | f + 1, .iface t v, .iface u w => Nat.beq t u && sameV f v w
  | f + 1, .agg a, .agg b => sameL (sameV f) a.toList b.toList
  | f + 1, .tuple a, .tuple b => sameL (sameV f) a.toList b.toList
  | f + 1, .func (.func g) a c, .func (.func g') a' c' => Nat.beq g g' && (sameL (sameV f) a.toList a'.toList && sameL (sameV f) c.toList c'.toList)
  | _ + 1, _, _ => false

theorem sameBytes_eq : ∀ {a b : List UInt8}, sameBytes a b = true → a = b
  | [], [], _ => rfl
  | a :: r, b :: s, h => by
    simp only [sameBytes, Bool.and_eq_true] at h
    rw [UInt8.toNat_inj.1 (Nat.eq_of_beq_eq_true h.1), sameBytes_eq h.2]
  | [], _ :: _, h => by simp [sameBytes] at h
  | _ :: _, [], h => by simp [sameBytes] at h

theorem sameAddr_eq {a b : Addr} (h : sameAddr a b = true) : a = b := by
  unfold sameAddr at h
  simp only [Bool.and_eq_true, Option.isNone_iff_eq_none] at h
  obtain ⟨h1, h2, h3, h4⟩ := h
  have h1 := Nat.eq_of_beq_eq_true h1
  have h2 := Nat.eq_of_beq_eq_true h2
  cases a; cases b
  simp_all

theorem sameInt_eq : ∀ {a b : Int}, sameInt a b = true → a = b
  | .ofNat _, .ofNat _, h => by rw [Nat.eq_of_beq_eq_true h]
  | .negSucc _, .negSucc _, h => by rw [Nat.eq_of_beq_eq_true h]
  | .ofNat _, .negSucc _, h => by simp [sameInt] at h
  | .negSucc _, .ofNat _, h => by simp [sameInt] at h

theorem sameL_eq {f : Value → Value → Bool} (hf : ∀ a b, f a b = true → a = b) : ∀ {a b : List Value}, sameL f a b = true → a = b
  | [], [], _ => rfl
  | a :: r, b :: s, h => by
    simp only [sameL, Bool.and_eq_true] at h
    rw [hf _ _ h.1, sameL_eq hf h.2]
  | [], _ :: _, h => by simp [sameL] at h
  | _ :: _, [], h => by simp [sameL] at h

theorem sameV_eq : ∀ (n : Nat) (a b : Value), sameV n a b = true → a = b := by
  intro n
  induction n with
  | zero => intro a b h; simp [sameV] at h
  | succ n ih =>
    intro a b h
    unfold sameV at h
    split at h
    · contradiction
    · simp at h; rw [h]
    · simp only [Bool.and_eq_true, decide_eq_true_eq] at h
      rw [h.1, sameInt_eq h.2]
    · have := sameBytes_eq h
      congr 1
      exact ByteArray.ext (Array.toList_inj.1 this)
    · rfl
    · rfl
    · rfl
    · rw [sameAddr_eq h]
    · simp only [Bool.and_eq_true] at h
      rw [Nat.eq_of_beq_eq_true h.1, Nat.eq_of_beq_eq_true h.2]
    · simp only [Bool.and_eq_true] at h
      rw [sameAddr_eq h.1, Nat.eq_of_beq_eq_true h.2.1, Nat.eq_of_beq_eq_true h.2.2]
    · rfl
    · rw [Nat.eq_of_beq_eq_true h]
    · have hn := Nat.succ.inj ‹n + 1 = _ + 1›
      subst hn
      simp only [Bool.and_eq_true] at h
      rw [Nat.eq_of_beq_eq_true h.1, ih _ _ h.2]
    · have hn := Nat.succ.inj ‹n + 1 = _ + 1›
      subst hn
      have := sameL_eq ih h
      rw [Array.toList_inj.1 this]
    · have hn := Nat.succ.inj ‹n + 1 = _ + 1›
      subst hn
      have := sameL_eq ih h
      rw [Array.toList_inj.1 this]
    · have hn := Nat.succ.inj ‹n + 1 = _ + 1›
      subst hn
      simp only [Bool.and_eq_true] at h
      rw [Nat.eq_of_beq_eq_true h.1, Array.toList_inj.1 (sameL_eq ih h.2.1), Array.toList_inj.1 (sameL_eq ih h.2.2)]
    · contradiction

/-! the plan of a region that draws its order -/
def quietB : Builtin → Bool
  | .len => true
  | .cap => true
  | .min => true
  | .max => true
  | .unsafeSliceData => true
  | _ => false

/-- an operation that leaves the heap as it is -/
def quietOp (P : Program) : Op → Bool
  | .move _ | .pick .. | .build .. | .load .. | .nilCheck _ | .binOp .. | .unOp .. | .makeInterface .. | .makeFunc .. | .slice .. | .fieldAddr .. | .field .. | .indexAddr .. | .index .. | .lookup .. | .entry _
  | .typeAssert .. | .extract .. => true
  | .convert _ d _ => (match P.underlying d with | some (.slice _) => false | some _ => true | none => false)
  | .call c => (match c.callee with
    | .builtin b => quietB b
    | _ => false)
  | _ => false

/-- an operation that only makes a new object -/
def allocOp (P : Program) (c : Bool) : Op → Bool
  | .alloc _ | .box .. | .buildSlice .. | .makeMap .. => true
  | .convert s d _ => c && (match P.underlying s, P.underlying d with
    | some .string, some (.slice e) => (match P.underlying e, szT P e with | some (.int .u8), some 1 => true | _, _ => false)
    | _, _ => false)
  | _ => false

def nth : List Nat → Nat → Nat
  | [], _ => 0
  | x :: _, 0 => x
  | _ :: r, n + 1 => nth r n

/-- the operations that must come before it, as bits -/
def edgeBits (acc : List Nat) : List Edge → Nat
  | [] => 0
  | e :: r => bif Region.binds .any e then (1 <<< e.on) ||| (nth acc e.on ||| edgeBits acc r) else edgeBits acc r
def masks : List Oper → List Nat → List Nat
  | [], acc => acc
  | o :: r, acc => masks r (acc ++ [edgeBits acc o.after.toList])

def within (a b : Nat) : Bool := Nat.beq (a &&& b) a

/-- the first operation that is ready and of the class asked for -/
def firstReady (cls : Nat → Bool) (done : Nat) : List Nat → Nat → Option Nat
  | [], _ => none
  | mk :: r, i => bif !done.testBit i && (cls i && within mk done) then some i else firstReady cls done r (i + 1)

/-- those done so far, no effects, that need not come before: they are looked at again -/
def again (n : Nat) (eff done mask : Nat) : Nat → List Nat
  | 0 => []
  | k + 1 => bif done.testBit k && (!eff.testBit k && !mask.testBit k) then (n + k) :: again n eff done mask k else again n eff done mask k

def allAfter (done e : Nat) : List Nat → Nat → Bool
  | [], _ => true
  | mk :: r, i => (done.testBit i || (Nat.beq i e || mk.testBit e)) && allAfter done e r (i + 1)

/-- what is no effect and ready: what makes objects first -/
def firstPure (eff alc done : Nat) (ms : List Nat) : Option Nat :=
  match firstReady (fun i => !eff.testBit i && alc.testBit i) done ms 0 with
  | some i => some i
  | none => firstReady (fun i => !eff.testBit i) done ms 0

def planGo (n : Nat) (ms : List Nat) (eff alc : Nat) : Nat → Nat → Option (List Nat)
  | 0, done => bif Nat.beq (done + 1) (1 <<< n) then some [] else none
  | f + 1, done => match firstPure eff alc done ms with
    | some i => (match planGo n ms eff alc f (done ||| (1 <<< i)) with
      | some p => some (i :: bif alc.testBit i then again n eff (done ||| (1 <<< i)) 0 n ++ p else p)
      | none => none)
    | none => match firstReady (fun i => eff.testBit i) done ms 0 with
      | some i => bif allAfter done i ms 0 then
          (match planGo n ms eff alc f (done ||| (1 <<< i)) with
          | some p => some (i :: (again n eff done (nth ms i) n ++ p))
          | none => none)
        else none
      | none => none

def classBits (c : Op → Bool) : List Oper → Nat → Nat
  | [], _ => 0
  | o :: r, i => bif c o.op then (1 <<< i) ||| classBits c r (i + 1) else classBits c r (i + 1)

/-- does an operation look at the slot? -/
def looksOperand (t : Tmp) : Operand → Bool
  | .tmp u => Nat.beq t u
  | _ => false
def looksAtA (ops : List Oper) (o : Oper) (t : Tmp) : Bool :=
  o.op.operands.toList.any (looksOperand t) ||
  (match o.guard with
  | none => false
  | some (j, _) => (match ops[j]? with | some g => (match g.dst with | some d => Nat.beq t d | none => false) | none => false))

/-- each slot is written once; who looks at it comes behind the writer, or ahead of it where the writer is an effect -/
def slotOkA (ops : List Oper) (eff mi : Nat) (i : Nat) (d : Tmp) : List Oper → List Nat → Nat → Bool
  | [], _, _ => true
  | o :: r, mm, j => (bif looksAtA ops o d then
        ((match mm with | x :: _ => x.testBit i | [] => false) || (eff.testBit i && (Nat.beq i j || mi.testBit j))) else true) &&
      ((Nat.beq i j || (match o.dst with | some e => !Nat.beq d e | none => true)) && slotOkA ops eff mi i d r mm.tail (j + 1))
def slotsOkA (ops : List Oper) (ms : List Nat) (eff : Nat) : List Oper → Nat → Bool
  | [], _ => true
  | o :: r, i => (match o.dst with
      | some d => slotOkA ops eff (nth ms i) i d ops ms 0
      | none => eff.testBit i) &&
      ((o.after.toList.all fun e => !Region.binds .any e || Nat.blt e.on i) && slotsOkA ops ms eff r (i + 1))

def planC (P : Program) (c : Bool) (ops : List Oper) : Option (List Nat) :=
  let ms := masks ops []
  let eff := classBits (fun o => !(quietOp P o || allocOp P c o)) ops 0
  bif slotsOkA ops ms eff ops 0 then planGo ops.length ms eff (classBits (allocOp P c) ops 0) ops.length 0 else none
/-- a plan; bytes made of a text count as an effect, but where there is no plan so -/
def planA (P : Program) (ops : List Oper) : Option (List Nat) :=
  match planC P false ops with
  | some p => some p
  | none => planC P true ops
def clsOf (P : Program) (ops : List Oper) : Bool := (planC P false ops).isNone

end Go.Abs

namespace Go.Abs

/-- the content of a new object -/
inductive Fresh where
  | row (cs : List Value) (e : TypeId)
  | slice (cs : List Value) (e : TypeId) (len : Nat)
  | map
  | bytes (cs : List Value) (e : TypeId)

section
variable (P : Program) (X : XNames)

/-- what an operation that only makes an object puts into it -/
def freshOf (ρ : Operand → Value) : Op → Option Fresh
  | .alloc e => (match zeroT P e with
    | some z => bif z.cells.toList.all oneCell then some (.row z.cells.toList e) else none
    | none => none)
  | .box e x => bif (ρ x).cells.toList.all oneCell then some (.row (ρ x).cells.toList e) else none
  | .makeMap t r => (match r with
    | none => some .map
    | some h => (match mapTypes P t, ρ h with
      | some _, .int _ _ => some .map
      | _, _ => none))
  | .buildSlice t len parts => (match sliceElemT P t with
    | some e => (match szT P e with
      | some size =>
        bif Nat.ble (len * size) 16777216 && Nat.blt len room then
          (match zerosT P e size len with
          | some zs => (match fillA (fun i => some (i * size, size)) zs (pickAt parts.toList ρ) with
            | some cs => bif cs.all oneCell then some (.slice cs e len) else none
            | none => none)
          | none => none)
        else none
      | none => none)
    | none => none)
  | .convert s d x => (match P.underlying s, P.underlying d, ρ x with
    | some .string, some (.slice e), .string b => (match P.underlying e, szT P e with
      | some (.int .u8), some 1 => some (.bytes (b.data.toList.map fun c => .int .u8 c.toNat) e)
      | _, _ => none)
    | _, _, _ => none)
  | _ => none

def rowHas (w : AW) (b : Nat) (cs : List Value) (e : TypeId) : Bool :=
  match w.get b with
  | some (.row ds e' _ _ _) => Nat.beq e e' && sameL (sameV 6) cs ds
  | _ => false

def rowOwn (w : AW) (b : Nat) : Bool :=
  match w.get b with
  | some (.row _ _ _ _ ro) => !ro
  | _ => false

def stillFresh (w : AW) (v : Value) : Fresh → Bool
  | .row cs e => (match v with
    | .pointer (some a) => Nat.beq a.off 0 && (a.spot.isNone && rowHas w a.block cs e)
    | _ => false)
  | .slice cs e len => (match v with
    | .slice (some a) n c => Nat.beq a.off 0 && (a.spot.isNone && (Nat.beq n len && (Nat.beq c len && rowHas w a.block cs e)))
    | _ => false)
  | .map => (match v with
    | .map (some b) => (match w.get b with | some (.map [] 0 _) => true | _ => false)
    | _ => false)
  | .bytes cs e => (match v with
    | .slice (some a) n c => Nat.beq a.off 0 && (a.spot.isNone && (Nat.beq n cs.length && (Nat.beq c (capU + cs.length) && (rowHas w a.block cs e && rowOwn w a.block))))
    | _ => false)

/-- the operation is looked at again: it must give what it gave -/
def recheckA (fr : AFr) (w : AW) (ops : Array Oper) (j : Nat) : Bool :=
  match ops.toList[j]? with
  | none => false
  | some o => (match o.dst with
    | none => false
    | some d => bif wantedA ops fr.tm o then
        (bif quietOp P o.op then (match execA P X fr.eval o w with | .ok (.value v) _ => sameV 6 v (fr.tm.get d) | _ => false)
        else (match freshOf P fr.eval o.op with | some c => stillFresh w (fr.tm.get d) c | none => false))
      else sameV 6 undef (fr.tm.get d))

/-- does the operation call a function that is known by a contract? -/
def knownA (s : ASt) (ops : Array Oper) (i : Nat) : Option (FuncId × List Value × AW) :=
  match X.known with
  | [] => none
  | _ :: _ => (match ops.toList[i]? with
    | some o => bif wantedA ops s.fr.tm o then
        (match execA P X s.fr.eval o s.w with
        | .ok (.enter f args) w => bif memN f X.known then some (f, args, w) else none
        | _ => none)
      else none
    | none => none)

/-- is the operation a comparison, in a function in which comparisons are not looked at? -/
def forkA (s : ASt) (ops : Array Oper) (i : Nat) : Option AW :=
  match X.forks with
  | [] => none
  | _ :: _ => bif memN s.fr.fn X.forks then (match ops.toList[i]? with
    | some o => (match o.op with
      | .binOp op _ _ _ _ => bif (match op with | .lss => true | .leq => true | .gtr => true | .geq => true | .eql => true | .neq => true | _ => false) && wantedA ops s.fr.tm o then
          (match execA P X s.fr.eval o s.w with
          | .ok (.value (.bool _)) w => some w
          | _ => none) else none
      | _ => none)
    | none => none) else none

/-- what must be the same, where an operation is looked at again -/
def asksA (s : ASt) (ops : Array Oper) (j : Nat) : Option (Value × Value) :=
  match X.asks with
  | [] => none
  | _ :: _ => bif memN s.fr.fn X.asks then (match ops.toList[j]? with
    | some o => (match o.dst with
      | some d => bif wantedA ops s.fr.tm o && quietOp P o.op then
          (match execA P X s.fr.eval o s.w with
          | .ok (.value v) _ => some (v, s.fr.tm.get d)
          | _ => none) else none
      | none => none)
    | none => none) else none

def findSay (f d : Nat) : List (FuncId × Tmp × Value) → Option Value
  | [] => none
  | (g, e, v) :: r => bif Nat.beq f g && Nat.beq d e then some v else findSay f d r

/-- an operation whose value is told -/
def saysA (s : ASt) (ops : Array Oper) (i : Nat) : Option (Value × Value × AW) :=
  match X.says with
  | [] => none
  | _ :: _ => (match ops.toList[i]? with
    | some o => (match o.dst with
      | some d => (match findSay s.fr.fn d X.says with
        | some v' => bif wantedA ops s.fr.tm o then
            (match execA P X s.fr.eval o s.w with
            | .ok (.value v) w => some (v, v', w)
            | _ => none) else none
        | none => none)
      | none => none)
    | none => none)

/-- the slots that are written are there -/
def dstsIn (n : Nat) : List Oper → Bool
  | [] => true
  | o :: r => (match o.dst with | some d => Nat.blt d n | none => true) && dstsIn n r

def stepD (s : ASt) : AOut :=
  match s.fr.mode, s.fr.todo with
  | .run, .code (.region _ ops true) :: k => bif dstsIn s.fr.tm.sz ops.toList then (match planA P ops.toList with
    | some p => .next { s with fr := { s.fr with todo := .inRegion ops p :: k, dr := true } }
    | none => .fail "no plan") else .fail "no slot"
  | .run, .inRegion ops (i :: rest) :: k =>
    bif s.fr.dr && !Nat.blt i ops.toList.length then
      (match asksA P X s ops (i - ops.toList.length) with
      | some (v, v') => .asks v v' { s with fr := { s.fr with todo := .inRegion ops rest :: k } }
      | none => bif recheckA P X s.fr s.w ops (i - ops.toList.length) then .next { s with fr := { s.fr with todo := .inRegion ops rest :: k } } else .fail "recheck")
    else (match knownA P X s ops i with
      | some (f, args, w) => .calls f args ⟨s.fr, s.cs, w⟩
      | none => (match forkA P X s ops i with
        | some w => .branch [⟨s.fr.finish (.bool true), s.cs, w⟩, ⟨s.fr.finish (.bool false), s.cs, w⟩]
        | none => (match saysA P X s ops i with
          | some (v, v', w) => .asks v v' ⟨s.fr.finish v', s.cs, w⟩
          | none => stepA P X s)))
  | .run, .code (.cond c a b) :: k => bif memN s.fr.fn X.forks then (match s.fr.eval c with
      | .bool _ => .branch [{ s with fr := { s.fr with todo := .code a :: k } }, { s with fr := { s.fr with todo := .code b :: k } }]
      | _ => .fail "cond") else stepA P X s
  | _, _ => stepA P X s

end
end Go.Abs

namespace Go.Abs

/-! the steps of the model's machine, one goroutine alone, on any frame -/
section
variable {P : Program} {f : Frame} {cs : List Frame} {w : World} {k : List Item}

def Frame.todoAt (f : Frame) (k : List Item) : Frame := { f with todo := k }

theorem w_skip (hm : f.mode = .run) (ht : f.todo = .code .skip :: k) : step P (lone f cs w) = .next (lone { f with todo := k } cs w) := by
  obtain ⟨fn, tmps, todo, defers, mode, kind, ro⟩ := f
  subst hm ht
  exact step_lone_go (by simp [stepG, stepG.exec])
theorem w_label {l : Nat} (hm : f.mode = .run) (ht : f.todo = .code (.label l) :: k) : step P (lone f cs w) = .next (lone { f with todo := k } cs w) := by
  obtain ⟨fn, tmps, todo, defers, mode, kind, ro⟩ := f
  subst hm ht
  exact step_lone_go (by simp [stepG, stepG.exec])
theorem w_inBlock {l : Nat} (hm : f.mode = .run) (ht : f.todo = .inBlock l :: k) : step P (lone f cs w) = .next (lone { f with todo := k } cs w) := by
  obtain ⟨fn, tmps, todo, defers, mode, kind, ro⟩ := f
  subst hm ht
  exact step_lone_go (by simp [stepG, stepG.exec])
theorem w_inScope {c : Code} (hm : f.mode = .run) (ht : f.todo = .inScope c :: k) : step P (lone f cs w) = .next (lone { f with todo := k } cs w) := by
  obtain ⟨fn, tmps, todo, defers, mode, kind, ro⟩ := f
  subst hm ht
  exact step_lone_go (by simp [stepG, stepG.exec])
theorem w_seq {a b : Code} (hm : f.mode = .run) (ht : f.todo = .code (.seq a b) :: k) : step P (lone f cs w) = .next (lone { f with todo := .code a :: .code b :: k } cs w) := by
  obtain ⟨fn, tmps, todo, defers, mode, kind, ro⟩ := f
  subst hm ht
  exact step_lone_go (by simp [stepG, stepG.exec])
theorem w_cond {c : Operand} {a b : Code} {t : Bool} (hm : f.mode = .run) (ht : f.todo = .code (.cond c a b) :: k) (hc : f.eval c = .bool t) :
    step P (lone f cs w) = .next (lone { f with todo := .code (if t then a else b) :: k } cs w) := by
  obtain ⟨fn, tmps, todo, defers, mode, kind, ro⟩ := f
  subst hm ht
  exact step_lone_go (by simp [stepG, stepG.exec, hc])
theorem w_block {id : Nat} {c : Code} (hm : f.mode = .run) (ht : f.todo = .code (.block id c) :: k) : step P (lone f cs w) = .next (lone { f with todo := .code c :: .inBlock id :: k } cs w) := by
  obtain ⟨fn, tmps, todo, defers, mode, kind, ro⟩ := f
  subst hm ht
  exact step_lone_go (by simp [stepG, stepG.exec])
theorem w_loop {c : Code} (hm : f.mode = .run) (ht : f.todo = .code (.loop c) :: k) : step P (lone f cs w) = .next (lone { f with todo := .code c :: .inLoop c :: k } cs w) := by
  obtain ⟨fn, tmps, todo, defers, mode, kind, ro⟩ := f
  subst hm ht
  exact step_lone_go (by simp [stepG, stepG.exec])
theorem w_inLoop {c : Code} (hm : f.mode = .run) (ht : f.todo = .inLoop c :: k) : step P (lone f cs w) = .next (lone { f with todo := .code c :: .inLoop c :: k } cs w) := by
  obtain ⟨fn, tmps, todo, defers, mode, kind, ro⟩ := f
  subst hm ht
  exact step_lone_go (by simp [stepG, stepG.exec])
theorem w_scope {c : Code} (hm : f.mode = .run) (ht : f.todo = .code (.scope c) :: k) : step P (lone f cs w) = .next (lone { f with todo := .code c :: .inScope c :: k } cs w) := by
  obtain ⟨fn, tmps, todo, defers, mode, kind, ro⟩ := f
  subst hm ht
  exact step_lone_go (by simp [stepG, stepG.exec])
theorem w_exit {id : Nat} {k' : List Item} (hm : f.mode = .run) (ht : f.todo = .code (.exit id) :: k) (h : exitTo id k = some k') : step P (lone f cs w) = .next (lone { f with todo := k' } cs w) := by
  obtain ⟨fn, tmps, todo, defers, mode, kind, ro⟩ := f
  subst hm ht
  exact step_lone_go (by simp [stepG, stepG.exec, h])
theorem w_goto {l : Nat} {k' : List Item} (hm : f.mode = .run) (ht : f.todo = .code (.goto l) :: k) (h : gotoIn l k = some k') : step P (lone f cs w) = .next (lone { f with todo := k' } cs w) := by
  obtain ⟨fn, tmps, todo, defers, mode, kind, ro⟩ := f
  subst hm ht
  exact step_lone_go (by simp [stepG, stepG.exec, h])
theorem w_region {id : Nat} {ops : Array Oper} (hm : f.mode = .run) (ht : f.todo = .code (.region id ops false) :: k) :
    step P (lone f cs w) = .next (lone { f with todo := .inRegion ops (List.range ops.size) :: k } cs w) := by
  obtain ⟨fn, tmps, todo, defers, mode, kind, ro⟩ := f
  subst hm ht
  exact step_lone_go (by simp [stepG, stepG.exec])
theorem w_draw {id : Nat} {ops : Array Oper} (hm : f.mode = .run) (ht : f.todo = .code (.region id ops true) :: k) :
    ∃ t, step P (lone f cs w) = .next (lone { f with todo := .inRegion ops (Region.schedule (P.follows .mixedOrders) ops t) :: k } cs { w with drawn := w.drawn + 1 }) := by
  obtain ⟨fn, tmps, todo, defers, mode, kind, ro⟩ := f
  subst hm ht
  exact ⟨_, step_lone_go (by simp [stepG, stepG.exec, choose, Sem.run, Question.forced, Question.cut]; rfl)⟩
theorem w_end {ops : Array Oper} (hm : f.mode = .run) (ht : f.todo = .inRegion ops [] :: k) : step P (lone f cs w) = .next (lone { f with todo := k } cs w) := by
  obtain ⟨fn, tmps, todo, defers, mode, kind, ro⟩ := f
  subst hm ht
  exact step_lone_go (by simp [stepG, stepG.exec])

/-! leaving -/
theorem w_leave (hm : f.mode = .run) (hr : f.roundOf = none) (ht : f.todo = [] ∨ ∃ k, f.todo = .code .ret :: k) : step P (lone f cs w) = .next (lone { f with mode := .returning } cs w) := by
  obtain ⟨fn, tmps, todo, defers, mode, kind, ro⟩ := f
  subst hm hr
  rcases ht with ht | ⟨k, ht⟩ <;> subst ht <;> exact step_lone_go (by simp [stepG, stepG.exec])

/-- what ends a round: nothing more to do, or a jump out of it -/
inductive Jump : List Item → Option Code → Prop
  | done : Jump [] none
  | ret (k : List Item) : Jump (.code .ret :: k) (some .ret)
  | exit (id : Nat) (k : List Item) (h : exitTo id k = none) : Jump (.code (.exit id) :: k) (some (.exit id))
  | goto (l : Nat) (k : List Item) (h : gotoIn l k = none) : Jump (.code (.goto l) :: k) (some (.goto l))

theorem w_round {c : Frame} {l : Nat} {jump : Option Code} {v : Value} {w' : World} (hm : f.mode = .run) (hr : f.roundOf = some l) (ht : Jump f.todo jump) (h : (Instr.endRound l jump).run P w = .ok v w')
    (hk : f.kind = .normal) : step P (lone f (c :: cs) w) = .next (lone (c.finish v) cs w') := by
  obtain ⟨fn, tmps, todo, defers, mode, kind, ro⟩ := f
  subst hm hr
  simp only at hk ht
  subst hk
  cases ht with
  | done => exact step_lone_go (by simp [stepG, stepG.exec, h, doReturn])
  | ret k => exact step_lone_go (by simp [stepG, stepG.exec, h, doReturn])
  | exit id k hh => exact step_lone_go (by simp [stepG, stepG.exec, h, hh, doReturn])
  | goto l' k hh => exact step_lone_go (by simp [stepG, stepG.exec, h, hh, doReturn])

/-- the caller's mode, behind a deferred call that has returned -/
def settled (m : FrameMode) : FrameMode :=
  match m with
  | .panicking ({ recovered := true, .. } :: older) => (match older.dropWhile (!·.goexit) with
    | [] => .returning
    | rest => .panicking rest)
  | m => m

theorem doReturn_deferred {c : Frame} {v : Value} (hk : f.kind = .deferred) : doReturn P true f (c :: cs) none v w = .go { frame := { c with mode := settled c.mode }, callers := cs, status := .running, dying := none } w := by
  obtain ⟨fn, tmps, todo, defers, mode, kind, ro⟩ := c
  cases mode with
  | run => simp [doReturn, hk, settled]
  | returning => simp [doReturn, hk, settled]
  | panicking chain =>
    cases chain with
    | nil => simp [doReturn, hk, settled]
    | cons p older =>
      obtain ⟨u, rec, ge⟩ := p
      cases rec with
      | false => simp [doReturn, hk, settled]
      | true => cases h : older.dropWhile (!·.goexit) <;> simp [doReturn, hk, settled, h]

theorem w_round_deferred {c : Frame} {l : Nat} {jump : Option Code} {v : Value} {w' : World} (hm : f.mode = .run) (hr : f.roundOf = some l) (ht : Jump f.todo jump) (h : (Instr.endRound l jump).run P w = .ok v w')
    (hk : f.kind = .deferred) : step P (lone f (c :: cs) w) = .next (lone { c with mode := settled c.mode } cs w') := by
  obtain ⟨fn, tmps, todo, defers, mode, kind, ro⟩ := f
  subst hm hr
  simp only at hk ht
  cases ht with
  | done => exact step_lone_go (by simp [stepG, stepG.exec, h, doReturn_deferred, hk])
  | ret k => exact step_lone_go (by simp [stepG, stepG.exec, h, doReturn_deferred, hk])
  | exit id k hh => exact step_lone_go (by simp [stepG, stepG.exec, h, hh, doReturn_deferred, hk])
  | goto l' k hh => exact step_lone_go (by simp [stepG, stepG.exec, h, hh, doReturn_deferred, hk])

/-! range over functions -/
theorem w_endRange {l : Nat} {jump : Option Code} {w' : World} (hm : f.mode = .run) (ht : f.todo = .endRangeFunc l :: k) (h : (Instr.endLoop l).run P w = .ok jump w') :
    step P (lone f cs w) = .next (lone { f with todo := (jump.map Item.code).toList ++ k } cs w') := by
  obtain ⟨fn, tmps, todo, defers, mode, kind, ro⟩ := f
  subst hm ht
  exact step_lone_go (by simp [stepG, stepG.exec, h])

/-- what the machine does on an operation's answer, as far as we need it -/
def answer (P : Program) (f : Frame) (cs : List Frame) (kind : CallKind) (dfr : Bool) : Result Next → Option (Frame × List Frame × World)
  | .ok (.value v) w => some (if dfr then f else f.finish v, cs, w)
  | .ok .skip w => some (if dfr then f else f.finish undef, cs, w)
  | .ok (.enter g args) w => some (Frame.enter P g args kind, f :: cs, w)
  | .ok (.round l g tmps assign body) w => some (Frame.round l g tmps assign body kind, f :: cs, w)
  | .ok (.defer d) w => if dfr then none else some ({ f with defers := d :: f.defers }.finish undef, cs, w)
  | .ok .recover w => if dfr then none else match f.roundOf with
    | none => (match tryRecover f cs with
      | some (v, cs) => some (f.finish v, cs, w)
      | none => some (f.finish .nilIface, cs, w))
    | some _ => none
  | .halt (.panic v) w => some (f.raise [{ v, recovered := false }], cs, w)
  | _ => none

/-- no item that calls by the machine's own hand -/
def noHand : List Item → Prop
  | .call .. :: _ => False
  | .extern .. :: _ => False
  | _ => True

theorem bare_apply {s : Sem Next} {f' : Frame} {cs' : List Frame} {w' : World} (hn : noHand f.todo) (h : answer P f cs .normal false (s.run P w) = some (f', cs', w')) :
    (stepG.apply P true f cs none s w).bare = .go { frame := f', callers := cs', status := .running, dying := none } w' := by
  have hk : (match f.todo with | .call _ true _ _ :: _ => CallKind.wrapped | _ => CallKind.normal) = .normal := by
    cases hq : f.todo with
    | nil => rfl
    | cons x r =>
      rw [hq] at hn
      cases x <;> first | rfl | exact hn.elim
  cases hr : s.run P w with
  | ok n w1 =>
    rw [hr] at h
    cases n <;> simp only [answer, if_false, Bool.false_eq_true] at h <;> try (cases h; done)
    case value v => cases h; simp [stepG.apply, hr]
    case skip => cases h; simp [stepG.apply, hr]
    case enter g args => cases h; simp only [stepG.apply, hr, Sem.runT_eq, GStep.bare_after]; simp; exact congrArg (Frame.enter P g args) hk
    case round l g tmps a b => cases h; simp [stepG.apply, hr]
    case defer d => cases h; simp [stepG.apply, hr]
    case recover =>
      cases hro : f.roundOf with
      | some l => rw [hro] at h; cases h
      | none =>
        rw [hro] at h
        cases htr : tryRecover f cs with
        | none => rw [htr] at h; cases h; simp [stepG.apply, hr, hro, htr]
        | some x => obtain ⟨v, cs2⟩ := x; rw [htr] at h; cases h; simp [stepG.apply, hr, hro, htr]
  | halt x w1 =>
    rw [hr] at h
    cases x <;> simp only [answer] at h <;> try (cases h; done)
    case panic v => cases h; simp [stepG.apply, hr]

theorem w_op {ops : Array Oper} {i : Nat} {rest : List Nat} {o : Oper} {f' : Frame} {cs' : List Frame} {w' : World} (hm : f.mode = .run) (ht : f.todo = .inRegion ops (i :: rest) :: k) (ho : ops[i]? = some o)
    (hw : Region.wanted o (yielded ops f.tmps) = true) (hd : f.roundOf = none ∨ ∀ c, o.op ≠ .defer c)
    (h : answer P f cs .normal false ((execOp f.eval o).run P w) = some (f', cs', w')) : step P (lone f cs w) = .next (lone f' cs' w') := by
  refine step_lone_go ?_
  rw [← bare_apply (by rw [ht]; trivial) h]
  obtain ⟨fn, tmps, todo, defers, mode, kind, ro⟩ := f
  simp only at hm ht hw hd
  subst hm ht
  simp only [stepG, stepG.exec, ho, Option.map_some, Option.getD_some, hw, if_true, stepG.oper, Frame.oper?]
  rcases hd with hd | hd
  · subst hd; rfl
  · obtain ⟨dst, op, type, pos, after, guard⟩ := o
    cases op <;> first | rfl | (cases ro <;> rfl) | exact absurd rfl (hd _)

theorem w_unwanted {ops : Array Oper} {i : Nat} {rest : List Nat} {o : Oper} (hm : f.mode = .run) (ht : f.todo = .inRegion ops (i :: rest) :: k) (ho : ops[i]? = some o)
    (hw : Region.wanted o (yielded ops f.tmps) = false) : step P (lone f cs w) = .next (lone (f.finish undef) cs w) := by
  obtain ⟨fn, tmps, todo, defers, mode, kind, ro⟩ := f
  simp only at hm ht hw
  subst hm ht
  exact step_lone_go (by simp [stepG, stepG.exec, ho, hw])

theorem w_beginRound {l : Nat} {w' : World} (hm : f.mode = .run) (hr : f.roundOf = some l) (ht : f.todo = .beginRound :: k) (h : (Instr.beginRound l).run P w = .ok () w') :
    step P (lone f cs w) = .next (lone (f.finish undef) cs w') := by
  obtain ⟨fn, tmps, todo, defers, mode, kind, ro⟩ := f
  subst hm hr ht
  have hrun : (do Instr.beginRound l; pure Next.skip : Sem Next).run P w = .ok .skip w' := by simp only [Sem.run_bind, h, Result.andThen_ok, Sem.run_pure]
  refine step_lone_go ?_
  rw [← bare_apply (P := P) (f := { fn, tmps, todo := .beginRound :: k, defers, mode := .run, kind, roundOf := some l }) (cs := cs) (w := w) (s := (do Instr.beginRound l; pure Next.skip : Sem Next)) trivial (by rw [hrun]; rfl)]
  simp only [stepG, stepG.exec]
  rfl

theorem w_rangeFunc {g : Operand} {ps : Array Tmp} {assign body : Code} {l : Nat} {mark : List Deferred} {w1 : World} {f' : Frame} {cs' : List Frame} {w' : World} {s : Sem Next} (hm : f.mode = .run)
    (ht : f.todo = .code (.rangeFunc g ps assign body) :: k) (h : (Instr.enterLoop f.fn f.tmps ps assign body f.roundOf).run P w = .ok (l, mark) w1)
    (hs : (do let d ← resolve ({ f with todo := .inRangeFunc l :: k, defers := mark ++ f.defers } : Frame).eval { callee := .value g, args := #[.const (.func (.yield l) #[] #[])], argTypes := #[] } 0; invoke d.target d.args) = s)
    (ha : answer P { f with todo := .inRangeFunc l :: k, defers := mark ++ f.defers } cs .normal false (s.run P w1) = some (f', cs', w')) : step P (lone f cs w) = .next (lone f' cs' w') := by
  refine step_lone_go ?_
  rw [← bare_apply (f := { f with todo := .inRangeFunc l :: k, defers := mark ++ f.defers }) trivial ha]
  obtain ⟨fn, tmps, todo, defers, mode, kind, ro⟩ := f
  simp only at hm ht h hs
  subst hm ht
  rw [← hs]
  simp [stepG, stepG.exec, h]

/-! behind a frame's end: its deferred calls, its results -/
theorem w_collected {b : Nat} {args : Array Value} {ds calls : List Deferred} {w' : World} (hm : f.mode ≠ .run) (hd : f.defers = { target := .collected b, args } :: ds) (h : (Instr.takeDeferred b).run P w = .ok calls w') :
    step P (lone f cs w) = .next (lone { f with defers := calls ++ ds } cs w') := by
  obtain ⟨fn, tmps, todo, defers, mode, kind, ro⟩ := f
  simp only at hm hd
  subst hd
  cases mode with
  | run => exact absurd rfl hm
  | returning => exact step_lone_go (by simp [stepG, unwind, h])
  | panicking c => exact step_lone_go (by simp [stepG, unwind, h])

theorem w_deferred {fv : Fn} {cap args : Array Value} {ds : List Deferred} {f' : Frame} {cs' : List Frame} {w' : World} (hm : f.mode ≠ .run) (hd : f.defers = { target := .fn fv cap, args } :: ds)
    (h : answer P { f with defers := ds } cs .deferred true ((invoke (.fn fv cap) args).run P w) = some (f', cs', w')) : step P (lone f cs w) = .next (lone f' cs' w') := by
  have key : (callDeferred P { f with defers := ds } cs none { target := .fn fv cap, args } w).bare = .go { frame := f', callers := cs', status := .running, dying := none } w' := by
    cases hr : (invoke (.fn fv cap) args).run P w with
    | ok n w1 =>
      rw [hr] at h
      cases n <;> simp only [answer, if_true] at h <;> try (cases h; done)
      case value v => cases h; simp [callDeferred, hr]
      case skip => cases h; simp [callDeferred, hr]
      case enter g args => cases h; simp [callDeferred, hr]
      case round l g tmps a b => cases h; simp [callDeferred, hr]
    | halt x w1 =>
      rw [hr] at h
      cases x <;> simp only [answer] at h <;> try (cases h; done)
      case panic v => cases h; simp [callDeferred, hr]
  refine step_lone_go ?_
  rw [← key]
  obtain ⟨fn, tmps, todo, defers, mode, kind, ro⟩ := f
  simp only at hm hd
  subst hd
  cases mode with
  | run => exact absurd rfl hm
  | returning => simp [stepG, unwind]
  | panicking c => simp [stepG, unwind]

theorem w_return {fn : Func} {v : Value} {w' : World} {c : Frame} (hm : f.mode = .returning) (hd : f.defers = []) (hf : P.funcs[f.fn]? = some fn) (h : (results fn f.tmps).run P w = .ok v w') (hk : f.kind = .normal) :
    step P (lone f (c :: cs) w) = .next (lone (c.finish v) cs w') := by
  obtain ⟨fn, tmps, todo, defers, mode, kind, ro⟩ := f
  simp only at hm hd hf h hk
  subst hm hd hk
  exact step_lone_go (by simp [stepG, unwind, hf, h, doReturn])

theorem w_return_deferred {fn : Func} {v : Value} {w' : World} {c : Frame} (hm : f.mode = .returning) (hd : f.defers = []) (hf : P.funcs[f.fn]? = some fn) (h : (results fn f.tmps).run P w = .ok v w') (hk : f.kind = .deferred) :
    step P (lone f (c :: cs) w) = .next (lone { c with mode := settled c.mode } cs w') := by
  have hdr := doReturn_deferred (P := P) (f := f) (cs := cs) (w := w') (c := c) (v := v) hk
  obtain ⟨fn, tmps, todo, defers, mode, kind, ro⟩ := f
  simp only at hm hd hf h hk
  subst hm hd
  exact step_lone_go (by simp [stepG, unwind, hf, h, hdr])

theorem w_unwind {chain : List PanicEntry} {c : Frame} (hm : f.mode = .panicking chain) (hd : f.defers = []) (hn : noHand f.todo) :
    step P (lone f (c :: cs) w) = .next (lone (c.raise chain) cs w) := by
  obtain ⟨fn, tmps, todo, defers, mode, kind, ro⟩ := f
  simp only at hm hd hn
  subst hm hd
  have hc : Frame.catches P { fn, tmps, todo, defers := [], mode := .panicking chain, kind, roundOf := ro } = false := by
    unfold Frame.catches
    simp only
    split
    · exact hn.elim
    · rfl
  exact step_lone_go (by simp [stepG, unwind, hc])

end
end Go.Abs

namespace Go.Abs

/-! what a plan says -/
theorem shl_bit (i k : Nat) : (1 <<< i).testBit k = decide (k = i) := by
  rw [Nat.one_shiftLeft, Nat.testBit_two_pow]
  simp [eq_comm]

theorem or_bit (c i k : Nat) : (c ||| (1 <<< i)).testBit k = (c.testBit k || decide (k = i)) := by
  rw [Nat.testBit_or, shl_bit]

theorem within_spec {a b : Nat} (h : within a b = true) (k : Nat) (hk : a.testBit k = true) : b.testBit k = true := by
  unfold within at h
  have h := Nat.eq_of_beq_eq_true h
  have : (a &&& b).testBit k = true := by rw [h]; exact hk
  rw [Nat.testBit_and] at this
  simp at this
  exact this.2

theorem edgeBits_spec (acc : List Nat) (k : Nat) : ∀ es : List Edge, (edgeBits acc es).testBit k = true ↔ ∃ e ∈ es, Region.binds .any e = true ∧ (k = e.on ∨ (nth acc e.on).testBit k = true)
  | [] => by simp [edgeBits]
  | e :: r => by
    unfold edgeBits
    cases hb : Region.binds .any e with
    | true =>
      simp only [cond_true, Nat.testBit_or, shl_bit, Bool.or_eq_true, decide_eq_true_eq, edgeBits_spec acc k r, List.mem_cons, exists_eq_or_imp, hb, true_and]
      constructor
      · rintro (h | h | h)
        · exact .inl (.inl h)
        · exact .inl (.inr h)
        · exact .inr h
      · rintro ((h | h) | h)
        · exact .inl h
        · exact .inr (.inl h)
        · exact .inr (.inr h)
    | false =>
      simp only [cond_false, edgeBits_spec acc k r, List.mem_cons, exists_eq_or_imp, hb, Bool.false_eq_true, false_and, false_or]

theorem nth_append (a b : List Nat) : ∀ i, i < a.length → nth (a ++ b) i = nth a i := by
  induction a with
  | nil => intro i h; simp at h
  | cons x r ih =>
    intro i h
    cases i with
    | zero => rfl
    | succ i => simp at h; exact ih i h

theorem nth_append_at (a : List Nat) (x : Nat) : nth (a ++ [x]) a.length = x := by
  induction a with
  | nil => rfl
  | cons y r ih => exact ih

theorem masks_old : ∀ (l : List Oper) (acc : List Nat) (i : Nat), i < acc.length → nth (masks l acc) i = nth acc i
  | [], _, _, _ => rfl
  | o :: r, acc, i, h => by
    unfold masks
    rw [masks_old r _ i (by simp; omega), nth_append _ _ _ h]

theorem masks_nth : ∀ (l : List Oper) (acc : List Nat) (i : Nat) (o : Oper), l[i]? = some o →
    ∃ acc', acc'.length = acc.length + i ∧ nth (masks l acc) (acc.length + i) = edgeBits acc' o.after.toList ∧ ∀ k, k < acc.length + i → nth acc' k = nth (masks l acc) k
  | [], _, _, _, h => by simp at h
  | o :: r, acc, 0, o', h => by
    simp at h
    subst h
    refine ⟨acc, rfl, ?_, fun k hk => (masks_old _ _ _ (by omega)).symm⟩
    unfold masks
    rw [Nat.add_zero, masks_old r _ _ (by simp), nth_append_at]
  | o :: r, acc, i + 1, o', h => by
    simp at h
    obtain ⟨acc', h1, h2, h3⟩ := masks_nth r (acc ++ [edgeBits acc o.after.toList]) i o' h
    simp only [List.length_append, List.length_cons, List.length_nil, Nat.zero_add] at h1 h2 h3
    refine ⟨acc', by omega, ?_, fun k hk => ?_⟩
    · rw [← h2]
      unfold masks
      rw [show acc.length + (i + 1) = acc.length + 1 + i by omega]
      cases r <;> rfl
    · rw [h3 k (by omega)]
      cases r <;> rfl

def anc (ops : List Oper) (k i : Nat) : Prop := (nth (masks ops []) i).testBit k = true

theorem anc_spec {ops : List Oper} {i : Nat} {o : Oper} (ho : ops[i]? = some o) (he : ∀ e ∈ o.after.toList, Region.binds .any e = true → e.on < i) (k : Nat) :
    anc ops k i ↔ ∃ e ∈ o.after.toList, Region.binds .any e = true ∧ (k = e.on ∨ anc ops k e.on) := by
  obtain ⟨acc', h1, h2, h3⟩ := masks_nth ops [] i o ho
  simp only [List.length_nil, Nat.zero_add] at h1 h2 h3
  unfold anc
  rw [h2, edgeBits_spec]
  constructor
  · rintro ⟨e, hm, hb, h⟩
    exact ⟨e, hm, hb, h.imp id fun h => by rw [← h3 _ (he e hm hb)]; exact h⟩
  · rintro ⟨e, hm, hb, h⟩
    exact ⟨e, hm, hb, h.imp id fun h => by rw [h3 _ (he e hm hb)]; exact h⟩

/-- edges lead back -/
def Back (ops : List Oper) : Prop := ∀ (i : Nat) (o : Oper), ops[i]? = some o → ∀ e ∈ o.after.toList, Region.binds .any e = true → e.on < i

theorem anc_lt {ops : List Oper} (hb : Back ops) : ∀ (i k : Nat), i < ops.length → anc ops k i → k < i := by
  intro i
  induction i using Nat.strongRecOn with
  | ind i ih =>
    intro k hi h
    obtain ⟨o, ho⟩ : ∃ o, ops[i]? = some o := ⟨_, List.getElem?_eq_getElem hi⟩
    obtain ⟨e, hm, hbi, h⟩ := (anc_spec ho (hb i o ho) k).1 h
    have := hb i o ho e hm hbi
    rcases h with h | h
    · omega
    · have := ih e.on this k (by omega) h
      omega

theorem classBits_spec (c : Op → Bool) (k : Nat) : ∀ (l : List Oper) (i : Nat), (classBits c l i).testBit k = true ↔ ∃ o, i ≤ k ∧ l[k - i]? = some o ∧ c o.op = true
  | [], i => by simp [classBits]
  | o :: r, i => by
    have key : (∃ o', i ≤ k ∧ (o :: r)[k - i]? = some o' ∧ c o'.op = true) ↔ ((k = i ∧ c o.op = true) ∨ ∃ o', i + 1 ≤ k ∧ r[k - (i + 1)]? = some o' ∧ c o'.op = true) := by
      constructor
      · rintro ⟨o', h1, h2, h3⟩
        by_cases e : k = i
        · subst e; simp at h2; subst h2; exact .inl ⟨rfl, h3⟩
        · rw [show k - i = (k - (i + 1)) + 1 by omega] at h2
          exact .inr ⟨o', by omega, by simpa using h2, h3⟩
      · rintro (⟨rfl, h⟩ | ⟨o', h1, h2, h3⟩)
        · exact ⟨o, Nat.le_refl _, by simp, h⟩
        · refine ⟨o', by omega, ?_, h3⟩
          rw [show k - i = (k - (i + 1)) + 1 by omega]
          simpa using h2
    rw [key]
    unfold classBits
    cases hc : c o.op with
    | true => simp only [cond_true, Nat.testBit_or, shl_bit, Bool.or_eq_true, decide_eq_true_eq, classBits_spec c k r (i + 1), and_true]
    | false => simp only [cond_false, classBits_spec c k r (i + 1), Bool.false_eq_true, and_false, false_or]

theorem firstReady_spec (cls : Nat → Bool) (done : Nat) : ∀ (ms : List Nat) (i j : Nat), firstReady cls done ms i = some j → i ≤ j ∧ j - i < ms.length ∧ done.testBit j = false ∧ cls j = true ∧ within (nth ms (j - i)) done = true
  | [], i, j, h => by simp [firstReady] at h
  | mk :: r, i, j, h => by
    unfold firstReady at h
    cases hc : (!done.testBit i && (cls i && within mk done)) with
    | true =>
      rw [hc] at h
      simp only [cond_true, Option.some.injEq] at h
      subst h
      simp only [Bool.and_eq_true, Bool.not_eq_true'] at hc
      exact ⟨Nat.le_refl _, by simp, hc.1, hc.2.1, by simpa [nth] using hc.2.2⟩
    | false =>
      rw [hc] at h
      simp only [cond_false] at h
      obtain ⟨h1, h2, h3, h4, h5⟩ := firstReady_spec cls done r (i + 1) j h
      refine ⟨by omega, by simp; omega, h3, h4, ?_⟩
      rw [show j - i = (j - (i + 1)) + 1 by omega]
      exact h5

theorem firstPure_spec {eff alc done : Nat} {ms : List Nat} {j : Nat} (h : firstPure eff alc done ms = some j) : 0 ≤ j ∧ j - 0 < ms.length ∧ done.testBit j = false ∧ (!eff.testBit j) = true ∧ within (nth ms (j - 0)) done = true := by
  unfold firstPure at h
  split at h
  · rename_i i hi
    cases h
    obtain ⟨h1, h2, h3, h4, h5⟩ := firstReady_spec _ _ _ _ _ hi
    simp only [Bool.and_eq_true] at h4
    exact ⟨h1, h2, h3, h4.1, h5⟩
  · exact firstReady_spec _ _ _ _ _ h

theorem again_mem (n eff done mask : Nat) : ∀ (N x : Nat), x ∈ again n eff done mask N ↔ ∃ k, k < N ∧ x = n + k ∧ done.testBit k = true ∧ eff.testBit k = false ∧ mask.testBit k = false
  | 0, x => by simp [again]
  | N + 1, x => by
    have key : (∃ k, k < N + 1 ∧ x = n + k ∧ done.testBit k = true ∧ eff.testBit k = false ∧ mask.testBit k = false) ↔
        ((x = n + N ∧ done.testBit N = true ∧ eff.testBit N = false ∧ mask.testBit N = false) ∨ ∃ k, k < N ∧ x = n + k ∧ done.testBit k = true ∧ eff.testBit k = false ∧ mask.testBit k = false) := by
      constructor
      · rintro ⟨k, h1, h2⟩
        by_cases e : k = N
        · subst e; exact .inl h2
        · exact .inr ⟨k, by omega, h2⟩
      · rintro (h | ⟨k, h1, h2⟩)
        · exact ⟨N, by omega, h⟩
        · exact ⟨k, by omega, h2⟩
    rw [key]
    unfold again
    cases h1 : done.testBit N <;> cases h2 : eff.testBit N <;> cases h3 : mask.testBit N <;> simp [again_mem n eff done mask N x]

theorem allAfter_spec (done e : Nat) : ∀ (ms : List Nat) (i : Nat), allAfter done e ms i = true → ∀ k, k < ms.length → done.testBit (i + k) = true ∨ i + k = e ∨ (nth ms k).testBit e = true
  | [], _, _, k, hk => by simp at hk
  | mk :: r, i, h, k, hk => by
    simp only [allAfter, Bool.and_eq_true, Bool.or_eq_true] at h
    cases k with
    | zero =>
      rcases h.1 with h | h | h
      · exact .inl h
      · exact .inr (.inl (Nat.eq_of_beq_eq_true h))
      · exact .inr (.inr h)
    | succ k =>
      have := allAfter_spec done e r (i + 1) h.2 k (by simpa using hk)
      rw [show i + 1 + k = i + (k + 1) by omega] at this
      exact this

theorem masks_length : ∀ (l : List Oper) (acc : List Nat), (masks l acc).length = acc.length + l.length
  | [], acc => by simp [masks]
  | o :: r, acc => by unfold masks; rw [masks_length]; simp; omega

/-- what comes next in a plan -/
inductive PlanAt (ops : List Oper) (eff alc : Nat) : Nat → List Nat → Prop
  | stop (C : Nat) (h : ∀ i, i < ops.length → C.testBit i = true) : PlanAt ops eff alc C []
  | pure (C x : Nat) (p : List Nat) (hx : x < ops.length) (he : eff.testBit x = false) (ha : alc.testBit x = false) (hc : C.testBit x = false) (hm : ∀ k, anc ops k x → C.testBit k = true)
      (hp : PlanAt ops eff alc (C ||| (1 <<< x)) p) : PlanAt ops eff alc C (x :: p)
  | alloc (C x : Nat) (p : List Nat) (hx : x < ops.length) (he : eff.testBit x = false) (ha : alc.testBit x = true) (hc : C.testBit x = false) (hm : ∀ k, anc ops k x → C.testBit k = true)
      (hp : PlanAt ops eff alc (C ||| (1 <<< x)) p) : PlanAt ops eff alc C (x :: (again ops.length eff (C ||| (1 <<< x)) 0 ops.length ++ p))
  | effect (C x : Nat) (p : List Nat) (hx : x < ops.length) (he : eff.testBit x = true) (hc : C.testBit x = false) (hm : ∀ k, anc ops k x → C.testBit k = true)
      (hall : ∀ i, i < ops.length → C.testBit i = true ∨ i = x ∨ anc ops x i) (hp : PlanAt ops eff alc (C ||| (1 <<< x)) p) : PlanAt ops eff alc C (x :: (again ops.length eff C (nth (masks ops []) x) ops.length ++ p))

theorem planGo_spec {ops : List Oper} {eff alc : Nat} : ∀ (f C : Nat) (p : List Nat), planGo ops.length (masks ops []) eff alc f C = some p → PlanAt ops eff alc C p := by
  intro f
  have hlen : (masks ops []).length = ops.length := by simp [masks_length]
  induction f with
  | zero =>
    intro C p h
    unfold planGo at h
    cases hb : Nat.beq (C + 1) (1 <<< ops.length) with
    | false => rw [hb] at h; cases h
    | true =>
      rw [hb] at h
      simp only [cond_true, Option.some.injEq] at h
      subst h
      have hb := Nat.eq_of_beq_eq_true hb
      rw [Nat.one_shiftLeft] at hb
      have hC : C = 2 ^ ops.length - 1 := by omega
      refine .stop _ fun i hi => ?_
      rw [hC, Nat.testBit_two_pow_sub_one]
      simpa using hi
  | succ f ih =>
    intro C p h
    unfold planGo at h
    split at h
    · rename_i i hi
      obtain ⟨_, h2, h3, h4, h5⟩ := firstPure_spec hi
      simp only [Nat.sub_zero] at h2 h5
      rw [hlen] at h2
      have he : eff.testBit i = false := by simpa using h4
      split at h
      · rename_i p' hp'
        simp only [Option.some.injEq] at h
        subst h
        cases ha : alc.testBit i with
        | true =>
          simp only [cond_true]
          exact .alloc _ i p' h2 he ha h3 (fun k hk => within_spec h5 k hk) (ih _ _ hp')
        | false =>
          simp only [cond_false]
          exact .pure _ i p' h2 he ha h3 (fun k hk => within_spec h5 k hk) (ih _ _ hp')
      · cases h
    · split at h
      · rename_i i hi
        obtain ⟨_, h2, h3, h4, h5⟩ := firstReady_spec _ _ _ _ _ hi
        simp only [Nat.sub_zero] at h2 h5
        rw [hlen] at h2
        cases hal : allAfter C i (masks ops []) 0 with
        | false => rw [hal] at h; cases h
        | true =>
          rw [hal] at h
          simp only [cond_true] at h
          split at h
          · rename_i p' hp'
            simp only [Option.some.injEq] at h
            subst h
            refine .effect _ i p' h2 h4 h3 (fun k hk => within_spec h5 k hk) (fun k hk => ?_) (ih _ _ hp')
            have := allAfter_spec C i _ 0 hal k (by rw [hlen]; exact hk)
            rw [Nat.zero_add] at this; exact this
          · cases h
      · cases h

theorem slotOkA_spec {ops : List Oper} {eff mi i d : Nat} : ∀ (l : List Oper) (mm : List Nat) (j0 : Nat), slotOkA ops eff mi i d l mm j0 = true → mm.length = l.length → ∀ j o, l[j]? = some o →
    (looksAtA ops o d = true → (nth mm j).testBit i = true ∨ (eff.testBit i = true ∧ (i = j0 + j ∨ mi.testBit (j0 + j) = true))) ∧ (i = j0 + j ∨ o.dst ≠ some d)
  | [], _, _, _, _, j, o, h => by simp at h
  | x :: r, mm, j0, hs, hl, j, o, h => by
    cases mm with
    | nil => simp at hl
    | cons m1 mr =>
      simp only [slotOkA, Bool.and_eq_true, List.tail_cons] at hs
      cases j with
      | zero =>
        simp at h
        subst h
        refine ⟨fun hl => ?_, ?_⟩
        · have h1 := hs.1
          rw [hl] at h1
          simp only [cond_true, Bool.or_eq_true, Bool.and_eq_true] at h1
          rcases h1 with h1 | ⟨h1, h2 | h2⟩
          · exact .inl h1
          · exact .inr ⟨h1, .inl (Nat.eq_of_beq_eq_true h2)⟩
          · exact .inr ⟨h1, .inr h2⟩
        · have h2 := hs.2.1
          simp only [Bool.or_eq_true] at h2
          rcases h2 with h2 | h2
          · exact .inl (Nat.eq_of_beq_eq_true h2)
          · refine .inr fun hd => ?_
            rw [hd] at h2
            simp at h2
      | succ j =>
        have := slotOkA_spec r mr (j0 + 1) hs.2.2 (by simpa using hl) j o (by simpa using h)
        rw [show j0 + 1 + j = j0 + (j + 1) by omega] at this
        exact this

/-- what the check of the slots says -/
structure SlotsOk (ops : List Oper) (eff : Nat) : Prop where
  dst : ∀ (i : Nat) (o : Oper), ops[i]? = some o → o.dst = none → eff.testBit i = true
  looks : ∀ (i : Nat) (o : Oper) (d : Tmp), ops[i]? = some o → o.dst = some d → ∀ (j : Nat) (o' : Oper), ops[j]? = some o' → looksAtA ops o' d = true → anc ops i j ∨ (eff.testBit i = true ∧ (i = j ∨ anc ops j i))
  once : ∀ (i : Nat) (o : Oper) (d : Tmp), ops[i]? = some o → o.dst = some d → ∀ (j : Nat) (o' : Oper), ops[j]? = some o' → o'.dst = some d → i = j
  back : Back ops

theorem slotsOkA_spec {ops : List Oper} {eff : Nat} : ∀ (l : List Oper) (i0 : Nat), slotsOkA ops (masks ops []) eff l i0 = true → ∀ i o, l[i]? = some o →
    (o.dst = none → eff.testBit (i0 + i) = true) ∧ (∀ d, o.dst = some d → slotOkA ops eff (nth (masks ops []) (i0 + i)) (i0 + i) d ops (masks ops []) 0 = true) ∧
    (∀ e ∈ o.after.toList, Region.binds .any e = true → e.on < i0 + i)
  | [], _, _, i, o, h => by simp at h
  | x :: r, i0, hs, i, o, h => by
    simp only [slotsOkA, Bool.and_eq_true] at hs
    obtain ⟨h1, h2, h3⟩ := hs
    cases i with
    | zero =>
      simp at h
      subst h
      refine ⟨fun hd => ?_, fun d hd => ?_, fun e he hb => ?_⟩
      · rw [hd] at h1; exact h1
      · rw [hd] at h1; exact h1
      · have := List.all_eq_true.1 h2 e he
        rw [hb] at this
        simp at this
        omega
    | succ i =>
      have := slotsOkA_spec r (i0 + 1) h3 i o (by simpa using h)
      rw [show i0 + 1 + i = i0 + (i + 1) by omega] at this
      exact this

theorem slotsOk_of {ops : List Oper} {eff : Nat} (h : slotsOkA ops (masks ops []) eff ops 0 = true) : SlotsOk ops eff := by
  have hlen : (masks ops []).length = ops.length := by simp [masks_length]
  refine ⟨fun i o ho hd => ?_, fun i o d ho hd j o' ho' hl => ?_, fun i o d ho hd j o' ho' hd' => ?_, fun i o ho e he hb => ?_⟩
  · simpa using (slotsOkA_spec ops 0 h i o ho).1 hd
  · have := (slotsOkA_spec ops 0 h i o ho).2.1 d hd
    rw [Nat.zero_add] at this
    have := (slotOkA_spec ops _ 0 this hlen j o' ho').1 hl
    rw [Nat.zero_add] at this
    exact this
  · have := (slotsOkA_spec ops 0 h i o ho).2.1 d hd
    rw [Nat.zero_add] at this
    have := (slotOkA_spec ops _ 0 this hlen j o' ho').2
    rw [Nat.zero_add] at this
    exact this.resolve_right fun h => h hd'
  · simpa using (slotsOkA_spec ops 0 h i o ho).2.2 e he hb

def effOf (P : Program) (ops : List Oper) : Nat := classBits (fun o => !(quietOp P o || allocOp P (clsOf P ops) o)) ops 0
def alcOf (P : Program) (ops : List Oper) : Nat := classBits (allocOp P (clsOf P ops)) ops 0

theorem planC_spec {P : Program} {c : Bool} {ops : List Oper} {p : List Nat} (h : planC P c ops = some p) : SlotsOk ops (classBits (fun o => !(quietOp P o || allocOp P c o)) ops 0) ∧ PlanAt ops (classBits (fun o => !(quietOp P o || allocOp P c o)) ops 0) (classBits (allocOp P c) ops 0) 0 p := by
  unfold planC at h
  simp only at h
  cases hs : slotsOkA ops (masks ops []) (classBits (fun o => !(quietOp P o || allocOp P c o)) ops 0) ops 0 with
  | false => rw [hs] at h; cases h
  | true =>
    rw [hs] at h
    simp only [cond_true] at h
    exact ⟨slotsOk_of hs, planGo_spec _ _ _ h⟩
theorem planA_spec {P : Program} {ops : List Oper} {p : List Nat} (h : planA P ops = some p) : SlotsOk ops (effOf P ops) ∧ PlanAt ops (effOf P ops) (alcOf P ops) 0 p := by
  unfold planA at h
  unfold effOf alcOf clsOf
  cases hp : planC P false ops with
  | some q =>
    rw [hp] at h
    simp only [Option.some.injEq] at h
    subst h
    exact planC_spec hp
  | none =>
    rw [hp] at h
    exact planC_spec h

/-! what the model's orders say -/
/-- the rest of a linearisation: S is what has been done -/
def Lin (ops : List Oper) : (Nat → Prop) → List Nat → Prop
  | S, [] => ∀ i, i < ops.length → S i
  | S, i :: r => i < ops.length ∧ ¬ S i ∧ (∀ k, anc ops k i → S k) ∧ Lin ops (fun k => S k ∨ k = i) r

theorem Lin.congr {ops : List Oper} : ∀ {l : List Nat} {S T : Nat → Prop}, (∀ k, S k ↔ T k) → Lin ops S l → Lin ops T l
  | [], S, T, h, hl => fun i hi => (h i).1 (hl i hi)
  | i :: r, S, T, h, ⟨h1, h2, h3, h4⟩ => ⟨h1, fun ht => h2 ((h i).2 ht), fun k hk => (h k).1 (h3 k hk), Lin.congr (fun k => by rw [h k]) h4⟩

def isDone (listed : Array Bool) (k : Nat) : Prop := listed.getD k false = true

theorem isDone_set {listed : Array Bool} {i : Nat} (hi : i < listed.size) (k : Nat) : isDone (listed.setIfInBounds i true) k ↔ (isDone listed k ∨ k = i) := by
  unfold isDone
  simp only [Array.getD_eq_getD_getElem?, Array.getElem?_setIfInBounds]
  by_cases e : i = k
  · subst e; simp [hi]
  · simp [e, Ne.symm e]

theorem mem_ready {ops : Array Oper} {listed : Array Bool} (hs : listed.size = ops.size) {i : Nat} (h : i ∈ Region.ready .any ops listed) :
    i < ops.size ∧ ¬ isDone listed i ∧ ∃ o, ops[i]? = some o ∧ ∀ e ∈ o.after.toList, Region.binds .any e = true → isDone listed e.on := by
  unfold Region.ready at h
  simp only [List.mem_filter, List.mem_range, Bool.and_eq_true, Bool.not_eq_true'] at h
  obtain ⟨hi, h1, h2⟩ := h
  refine ⟨hi, ?_, ops[i], by simp [hi], fun e he hb => ?_⟩
  · unfold isDone
    simp only [Array.getD_eq_getD_getElem?, Array.getElem?_eq_getElem (hs ▸ hi), Option.getD_some] at h1 ⊢
    simp [h1]
  · simp only [Array.getElem?_eq_getElem hi, Option.map_some, Option.getD_some] at h2
    rw [Array.all_eq_true'] at h2
    have := h2 e (by simpa using he)
    rw [hb] at this
    simpa [isDone] using this

theorem ready_of {ops : Array Oper} {listed : Array Bool} (hs : listed.size = ops.size) {i : Nat} {o : Oper} (ho : ops[i]? = some o) (hn : ¬ isDone listed i) (he : ∀ e ∈ o.after.toList, Region.binds .any e = true → isDone listed e.on) :
    i ∈ Region.ready .any ops listed := by
  have hi : i < ops.size := by
    rcases Nat.lt_or_ge i ops.size with h | h
    · exact h
    · rw [Array.getElem?_eq_none h] at ho; cases ho
  unfold Region.ready
  simp only [List.mem_filter, List.mem_range, Bool.and_eq_true, Bool.not_eq_true']
  refine ⟨hi, ?_, ?_⟩
  · unfold isDone at hn
    simp only [Array.getD_eq_getD_getElem?, Array.getElem?_eq_getElem (hs ▸ hi), Option.getD_some] at hn ⊢
    simpa using hn
  · simp only [ho, Option.map_some, Option.getD_some]
    rw [Array.all_eq_true']
    intro e hm
    cases hb : Region.binds .any e with
    | false => rfl
    | true => simpa [isDone] using he e (by simpa using hm) hb

theorem lin_go {ops : Array Oper} (hb : Back ops.toList) : ∀ (fuel t : Nat) (listed : Array Bool), listed.size = ops.size → (∀ i, isDone listed i → ∀ k, anc ops.toList k i → isDone listed k) →
    ops.size ≤ listed.toList.count true + fuel → Lin ops.toList (isDone listed) (Region.linearise.go .any ops fuel t listed []) := by
  intro fuel
  induction fuel with
  | zero =>
    intro t listed hs hcl hcount
    simp only [Region.linearise.go, List.reverse_nil]
    intro i hi
    have h1 : listed.toList.count true ≤ listed.toList.length := List.count_le_length
    have h4 : listed.toList.length = ops.size := by simpa using hs
    have h2 : listed.toList.count true = listed.toList.length := by omega
    have h3 := List.count_eq_length.1 h2
    unfold isDone
    have hi' : i < listed.size := by rw [hs]; simpa using hi
    simp only [Array.getD_eq_getD_getElem?, Array.getElem?_eq_getElem hi', Option.getD_some]
    exact (h3 _ (by simp)).symm
  | succ fuel ih =>
    intro t listed hs hcl hcount
    have hgo : Region.linearise.go .any ops (fuel + 1) t listed [] = (match (Region.ready .any ops listed)[t % (Region.ready .any ops listed).length]? with
      | some i => Region.linearise.go .any ops fuel (t / (Region.ready .any ops listed).length) (listed.setIfInBounds i true) [i]
      | none => [].reverse) := by rfl
    rw [hgo]
    cases hi : (Region.ready .any ops listed)[t % (Region.ready .any ops listed).length]? with
    | none =>
      have hnil : Region.ready .any ops listed = [] := by
        cases hr : Region.ready .any ops listed with
        | nil => rfl
        | cons x xs =>
          rw [hr] at hi
          have hlt : t % (x :: xs).length < (x :: xs).length := Nat.mod_lt _ (by simp)
          simp at hi
          simp at hlt
          omega
      simp only [List.reverse_nil]
      intro i hi
      induction i using Nat.strongRecOn with
      | ind i ih2 =>
        obtain ⟨o, ho⟩ : ∃ o, ops.toList[i]? = some o := ⟨_, List.getElem?_eq_getElem hi⟩
        by_cases hd : isDone listed i
        · exact hd
        · have := ready_of hs (i := i) (o := o) (by simpa using ho) hd fun e he hbe => ih2 e.on (hb i o ho e he hbe) (by have := hb i o ho e he hbe; omega)
          rw [hnil] at this
          cases this
    | some i =>
      simp only
      obtain ⟨h1, h2, o, h3, h4⟩ := mem_ready hs (List.mem_of_getElem? hi)
      rw [linearise_go_acc, List.reverse_singleton, List.singleton_append]
      have ho : ops.toList[i]? = some o := by simpa using h3
      have hanc : ∀ k, anc ops.toList k i → isDone listed k := by
        intro k hk
        obtain ⟨e, he, hbe, h⟩ := (anc_spec ho (hb i o ho) k).1 hk
        rcases h with h | h
        · rw [h]; exact h4 e he hbe
        · exact hcl _ (h4 e he hbe) k h
      refine ⟨by simpa using h1, h2, hanc, ?_⟩
      have hset := isDone_set (listed := listed) (i := i) (by omega)
      refine Lin.congr hset (ih _ _ (by simpa using hs) (fun j hj k hk => ?_) ?_)
      · rw [hset] at hj ⊢
        rcases hj with hj | rfl
        · exact .inl (hcl j hj k hk)
        · exact .inl (hanc k hk)
      · have hi' : i < listed.toList.length := by simp; omega
        have hf : listed.toList[i] = false := by
          unfold isDone at h2
          simp only [Array.getD_eq_getD_getElem?, Array.getElem?_eq_getElem (show i < listed.size by omega), Option.getD_some] at h2
          simpa using h2
        rw [Array.toList_setIfInBounds, List.count_set hi', hf]
        show ops.size ≤ listed.toList.count true - 0 + 1 + fuel
        omega

theorem lin_of {ops : Array Oper} (hb : Back ops.toList) (t : Nat) : Lin ops.toList (fun _ => False) (Region.linearise .any ops t) := by
  refine Lin.congr (fun k => ?_) (lin_go hb ops.size t (Array.replicate ops.size false) (by simp) (fun i hi => ?_) (by omega))
  · unfold isDone
    simp [Array.getElem?_replicate]
    split <;> simp
  · exfalso
    unfold isDone at hi
    simp [Array.getElem?_replicate] at hi
    split at hi <;> simp at hi

end Go.Abs

namespace Go.Abs

section
variable {P : Program}

/-! operands and guards -/
def GOk (m : Inj P) : Prop := ∀ g, g < P.globals.size → m g = some (g, 0)
theorem GOk.mono {m m' : Inj P} (h : m.le m') (g : GOk m) : GOk m' := fun i hi => h.map _ _ (g i hi)

def evalT (tm : Tm) : Operand → Value
  | .tmp t => tm.get t
  | .const v => v
  | .global g => .pointer (some ⟨g, 0, none⟩)
  | .func f => .func (.func f) #[] #[]
def evalW (tmps : Array Value) : Operand → Value
  | .tmp t => tmps.getD t undef
  | .const v => v
  | .global g => .pointer (some ⟨g, 0, none⟩)
  | .func f => .func (.func f) #[] #[]
theorem eval_evalT (fr : AFr) : fr.eval = evalT fr.tm := by funext x; cases x <;> rfl
theorem eval_evalW (f : Frame) : f.eval = evalW f.tmps := by funext x; cases x <;> rfl

theorem undef_rel (m : Inj P) : VRel m undef undef := .tuple .nil

theorem evalT_rel {m : Inj P} (hG : GOk m) {tm : Tm} {tmps : Array Value} {x : Operand} (hok : operandOk P x = true) (h : ∀ t, x = .tmp t → VRel m (tm.get t) (tmps.getD t undef)) : VRel m (evalT tm x) (evalW tmps x) := by
  cases x with
  | tmp t => exact h t rfl
  | const v => exact closedV_rel 4 v hok
  | global g => exact .ptr ⟨rfl, rfl, 0, hG g (blt_true.1 hok), rfl⟩
  | func f => exact .func (.inl ⟨rfl, fun l h => by cases h⟩) .nil .nil

theorem yielded_rel {m : Inj P} {ops : Array Oper} {tm : Tm} {tmps : Array Value} {j : Nat} (h : ∀ o d, ops.toList[j]? = some o → o.dst = some d → VRel m (tm.get d) (tmps.getD d undef)) :
    yielded ops tmps j = yieldedA ops tm j := by
  unfold yielded yieldedA
  cases ho : ops[j]? with
  | none =>
    have : ops.toList[j]? = none := by simpa using ho
    rw [this]; rfl
  | some o =>
    have ho' : ops.toList[j]? = some o := by simpa using ho
    rw [ho']
    simp only [Option.bind_some]
    cases hd : o.dst with
    | none => rfl
    | some d =>
      have hr := h o d ho' hd
      simp only [Option.bind_some]
      cases hs : tmps[d]? with
      | none =>
        rw [Array.getD_eq_getD_getElem?, hs, Option.getD_none] at hr
        generalize hq : tm.get d = x at hr
        cases hr
        rfl
      | some y =>
        rw [Array.getD_eq_getD_getElem?, hs, Option.getD_some] at hr
        generalize hq : tm.get d = x at hr
        cases hr <;> rfl

theorem wanted_rel {m : Inj P} {ops : Array Oper} {tm : Tm} {tmps : Array Value} {o : Oper} (h : ∀ j b, o.guard = some (j, b) → ∀ g d, ops.toList[j]? = some g → g.dst = some d → VRel m (tm.get d) (tmps.getD d undef)) :
    Region.wanted o (yielded ops tmps) = wantedA ops tm o := by
  unfold Region.wanted wantedA
  cases hg : o.guard with
  | none => rfl
  | some x =>
    obtain ⟨j, want⟩ := x
    simp only
    rw [yielded_rel (h j want hg)]
    cases yieldedA ops tm j with
    | none => rfl
    | some b => cases b <;> cases want <;> rfl

theorem looks_operand {ops : List Oper} {o : Oper} {t : Tmp} (h : Operand.tmp t ∈ o.op.operands.toList) : looksAtA ops o t = true := by
  unfold looksAtA
  rw [Bool.or_eq_true]
  exact .inl (List.any_eq_true.2 ⟨_, h, by simp [looksOperand]⟩)
theorem looks_guard {ops : List Oper} {o g : Oper} {j : Nat} {b : Bool} {d : Tmp} (h : o.guard = some (j, b)) (hg : ops[j]? = some g) (hd : g.dst = some d) : looksAtA ops o d = true := by
  unfold looksAtA
  rw [h]
  simp only [hg, hd]
  simp

/-! slots -/
theorem Tm.get_set (tm : Tm) (hs : tm.sz < maxId) (d t : Nat) (v : Value) : (tm.set d v).get t = if t = d ∧ d < tm.sz then v else tm.get t := by
  unfold Tm.set
  cases hb : Nat.blt d tm.sz with
  | false =>
    have := blt_false.1 hb
    rw [cond_false, if_neg (by omega)]
  | true =>
    have := blt_true.1 hb
    rw [cond_true]
    unfold Tm.get
    rw [Trie.get?_put depth tm.t d t (some v) (by unfold depth maxId at *; omega)]
    by_cases e : t = d
    · rw [if_pos e, if_pos ⟨e, this⟩]
    · rw [if_neg e, if_neg (by omega)]
theorem Tm.set_sz (tm : Tm) (d : Nat) (v : Value) : (tm.set d v).sz = tm.sz := by
  unfold Tm.set
  cases Nat.blt d tm.sz <;> rfl

theorem getD_set (tmps : Array Value) (d t : Nat) (v : Value) : (tmps.setIfInBounds d v).getD t undef = if t = d ∧ d < tmps.size then v else tmps.getD t undef := by
  simp only [Array.getD_eq_getD_getElem?, Array.getElem?_setIfInBounds]
  by_cases e : d = t
  · subst e
    by_cases h : d < tmps.size
    · simp [h]
    · simp [h]
  · rw [if_neg e, if_neg (by omega)]

theorem TmRel.oob {m : Inj P} {tm : Tm} {tmps : Array Value} (h : TmRel m tm tmps) (t : Nat) (ht : tm.sz ≤ t) : tm.get t = undef := by
  have := h.val t
  rw [Array.getD_eq_getD_getElem?, Array.getElem?_eq_none (by have := h.size; omega), Option.getD_none] at this
  generalize tm.get t = x at this
  unfold undef at this
  cases this with
  | tuple h => cases h; rfl

/-! operations that only look -/
variable {X : XNames}

theorem convert_quiet {A A' : AW} {s d : TypeId} {x v : Value} (hq : (match P.underlying d with | some (.slice _) => false | some _ => true | none => false) = true) (h : convertA P A s d x = .ok v A') : A' = A := by
  unfold convertA at h
  try simp only [Bool.cond_eq_ite] at h
  split at h
  case h_4 => rename_i hd; rw [hd] at hq; cases hq
  all_goals
    repeat' split at h
  all_goals first
    | (cases h; rfl)
    | (cases h; done)

theorem builtin_quiet {A A' : AW} {b : Builtin} {ts : List TypeId} {ty : TypeId} {args : List Value} {n : AN} (hb : quietB b = true) (h : builtinA P A b ts ty args = .ok n A') : A' = A ∧ ∃ v, n = .value v := by
  unfold builtinA at h
  simp only [Bool.cond_eq_ite] at h
  cases b <;> simp only [quietB] at hb <;> first | (cases hb; done) | skip
  all_goals
    repeat' split at h
  all_goals first | contradiction | (cases h; exact ⟨rfl, _, rfl⟩) | (cases h; done)

theorem quiet_exec {ρ : Operand → Value} {o : Oper} {A A' : AW} {n : AN} (hq : quietOp P o.op = true) (h : execA P X ρ o A = .ok n A') : A' = A ∧ ∃ v, n = .value v := by
  obtain ⟨dst, op, type, pos, after, guard⟩ := o
  cases op <;> simp only [quietOp] at hq <;> first | (cases hq; done) | skip
  case convert s d x =>
    unfold execA at h
    simp only at h
    split at h
    · rename_i v w hc; cases h; exact ⟨convert_quiet hq hc, _, rfl⟩
    · cases h
    · cases h
  case call c =>
    unfold execA at h
    simp only at h
    split at h
    rotate_left
    · cases h
    rename_i d hd
    split at hq
    rotate_left
    · cases hq
    rename_i b hc
    unfold resolveA at hd
    rw [hc] at hd
    simp only [Option.some.injEq] at hd
    subst hd
    exact builtin_quiet (ty := type) hq h
  all_goals
    unfold execA at h
    simp only at h
    repeat' split at h
  all_goals first | (cases h; exact ⟨rfl, _, rfl⟩) | (cases h; done) | skip

end
end Go.Abs

namespace Go.Abs

section
variable {P : Program} {X : XNames}

theorem pickAt_congr {ρ ρ2 : Operand → Value} : ∀ {l : List (Nat × Operand)}, (∀ x ∈ l.map (·.2), ρ x = ρ2 x) → pickAt l ρ = pickAt l ρ2
  | [], _ => rfl
  | (i, x) :: r, h => by
    simp only [pickAt]
    rw [h x (by simp), pickAt_congr fun y hy => h y (by simp at hy ⊢; exact .inr hy)]

theorem resolveA_congr {ρ ρ2 : Operand → Value} {c : Call} {type : TypeId} (h : ∀ x ∈ c.operands.toList, ρ x = ρ2 x) : resolveA ρ c type = resolveA ρ2 c type := by
  have hargs : c.args.toList.map ρ = c.args.toList.map ρ2 := List.map_congr_left fun x hx => h x (by simp [Call.operands] at hx ⊢; exact .inr hx)
  unfold resolveA
  simp only [hargs]
  cases hc : c.callee with
  | value f => have hf : ρ f = ρ2 f := h f (by simp [Call.operands, hc]); simp only [hf]
  | invoke r m => have hr : ρ r = ρ2 r := h r (by simp [Call.operands, hc]); simp only [hr]
  | builtin b => rfl

theorem execA_congr {ρ ρ2 : Operand → Value} {o : Oper} {A : AW} (h : ∀ x ∈ o.op.operands.toList, ρ x = ρ2 x) : execA P X ρ o A = execA P X ρ2 o A := by
  obtain ⟨dst, op, type, pos, after, guard⟩ := o
  cases op <;> simp only [Op.operands] at h <;> unfold execA <;> simp only
  case build t ps => rw [pickAt_congr h]
  case buildSlice t n ps => rw [pickAt_congr h]
  case makeFunc fn first captured =>
    rw [List.map_congr_left (l := first.toList) fun x hx => h x (by simp; exact .inl (by simpa using hx)), List.map_congr_left (l := captured.toList) fun x hx => h x (by simp; exact .inr (by simpa using hx))]
  case call c => rw [resolveA_congr h]
  case defer c => rw [resolveA_congr h]
  case makeMap t r => cases r <;> simp_all
  case slice t x lo hi mx => cases lo <;> cases hi <;> cases mx <;> simp_all
  all_goals (first | rfl | (simp_all; done))

theorem freshOf_congr {ρ ρ2 : Operand → Value} {op : Op} (h : ∀ x ∈ op.operands.toList, ρ x = ρ2 x) : freshOf P ρ op = freshOf P ρ2 op := by
  cases op <;> simp only [Op.operands] at h <;> unfold freshOf <;> simp only
  case buildSlice t n ps => rw [pickAt_congr h]
  case makeMap t r => cases r <;> simp_all
  all_goals (first | rfl | (simp_all; done))

/-! objects that only the abstract heap has -/
def idOf : Value → Option Nat
  | .pointer (some a) => some a.block
  | .slice (some a) _ _ => some a.block
  | .map (some b) => some b
  | _ => none

theorem new_spec {A A' : AW} {o : AO} {b : Nat} (h : A.new o = some (b, A')) : b = A.next ∧ A.next < maxId ∧ A' = { (A.put A.next o) with next := A.next + 1 } := by
  unfold AW.new at h
  cases hb : Nat.blt A.next maxId with
  | false => rw [hb] at h; cases h
  | true =>
    rw [hb] at h
    simp only [cond_true, Option.some.injEq, Prod.mk.injEq] at h
    exact ⟨h.1.symm, blt_true.1 hb, h.2.symm⟩

theorem newRow_spec {A A' : AW} {l : List Value} {e : TypeId} {a : Addr} (h : A.newRow l e = some (a, A')) : ∃ b, A.new (.row l e A.next 0 false) = some (b, A') ∧ a = ⟨b, 0, none⟩ := by
  unfold AW.newRow at h
  cases hc : l.all oneCell with
  | false => rw [hc] at h; cases h
  | true =>
    rw [hc, cond_true] at h
    split at h
    · rename_i b A1 hn
      simp only [Option.some.injEq, Prod.mk.injEq] at h
      exact ⟨b, by rw [hn, h.2], h.1.symm⟩
    · cases h

/-- an operation that makes an object: it is new, and the value leads to it -/
theorem alloc_exec {ρ : Operand → Value} {o : Oper} {A A' : AW} {n : AN} {cl : Bool} (hq : allocOp P cl o.op = true) (h : execA P X ρ o A = .ok n A') :
    ∃ v ob b, n = .value v ∧ A.new ob = some (b, A') ∧ (∀ f k, ob.fam = some (f, k) → f = A.next) ∧ idOf v = some b := by
  obtain ⟨dst, op, type, pos, after, guard⟩ := o
  have row : ∀ (l : List Value) (e : TypeId), (∀ f k, (AO.row l e A.next 0 false).fam = some (f, k) → f = A.next) := fun l e f k h => by simp [AO.fam] at h; exact h.1.symm
  cases op <;> simp only [allocOp] at hq <;> first | (cases hq; done) | skip
  case alloc e =>
    unfold execA at h
    simp only at h
    split at h
    rotate_left
    · cases h
    split at h
    rotate_left
    · cases h
    rename_i z hz a A1 hn
    cases h
    obtain ⟨b, h1, rfl⟩ := newRow_spec hn
    exact ⟨_, _, b, rfl, h1, row _ _, rfl⟩
  case box e x =>
    unfold execA at h
    simp only at h
    split at h
    rotate_left
    · cases h
    rename_i a A1 hn
    cases h
    obtain ⟨b, h1, rfl⟩ := newRow_spec hn
    exact ⟨_, _, b, rfl, h1, row _ _, rfl⟩
  case buildSlice t len parts =>
    unfold execA buildSliceA at h
    simp only [Bool.cond_eq_ite] at h
    repeat' split at h
    all_goals first | (cases h; done) | skip
    all_goals
      rename_i hb
      repeat' split at hb
      all_goals first | (cases hb; done) | skip
    rename_i hn
    cases hb
    cases h
    obtain ⟨b, h1, rfl⟩ := newRow_spec hn
    exact ⟨_, _, b, rfl, h1, row _ _, rfl⟩
  case makeMap t r =>
    unfold execA at h
    simp only at h
    repeat' split at h
    all_goals first | (cases h; done) | skip
    all_goals
      rename_i hn
      cases h
      exact ⟨_, _, _, rfl, hn, fun f k h => by simp [AO.fam] at h, rfl⟩
  case convert s d x =>
    simp only [Bool.and_eq_true] at hq
    obtain ⟨_, hq⟩ := hq
    split at hq
    rotate_left
    · cases hq
    rename_i e hs hd
    split at hq
    rotate_left
    · cases hq
    rename_i he h1
    unfold execA convertA at h
    cases hx : ρ x with
    | string str =>
      simp only [hs, hd, hx, he, h1] at h
      cases hn : A.new (.row (str.data.toList.map fun b => .int .u8 b.toNat) e A.next 0 false) with
      | none => rw [hn] at h; cases h
      | some p =>
        obtain ⟨b, A1⟩ := p
        rw [hn] at h
        cases h
        exact ⟨_, _, _, rfl, hn, row _ _, rfl⟩
    | _ => simp [hs, hd, hx] at h

/-- a new object that the world has not made yet -/
theorem Rel.ghost {m : Inj P} {A A' : AW} {w : World} (r : Rel m A w) {o : AO} {b : Nat} (h : A.new o = some (b, A')) (hf : ∀ f k, o.fam = some (f, k) → f = A.next) :
    Rel m A' w ∧ A'.next = A.next + 1 ∧ b = A.next ∧ m b = none ∧ (∀ j, j ≠ b → A'.get j = A.get j) := by
  obtain ⟨rfl, hmax, rfl⟩ := new_spec h
  have hg' : ∀ j, ({ A.put A.next o with next := A.next + 1 } : AW).get j = if j = A.next then some o else A.get j := fun j => AW.get_put A _ j o hmax
  have hmn := (r.fresh A.next (Nat.le_refl _)).2.1
  refine ⟨⟨?_, ?_, ?_, ?_, ?_, ?_, ?_⟩, rfl, rfl, hmn, fun j hj => by rw [hg', if_neg hj]⟩
  · intro i oi c d hi hm
    rw [hg'] at hi
    split at hi
    · rename_i e; subst e; rw [hmn] at hm; cases hm
    · exact r.obj i oi c d hi hm
  · intro i cs e k ro hi c d hm
    rw [hg'] at hi
    split at hi
    · rename_i e; subst e; rw [hmn] at hm; cases hm
    · exact r.home i cs e k ro hi c d hm
  · intro i j oi oj c di dj hij hi hj hmi hmj
    rw [hg'] at hi hj
    split at hi
    · rename_i e; subst e; rw [hmn] at hmi; cases hmi
    · split at hj
      · rename_i e; subst e; rw [hmn] at hmj; cases hmj
      · exact r.sep i j oi oj c di dj hij hi hj hmi hmj
  · intro i oi f k hi hfam
    rw [hg'] at hi
    split at hi
    · rename_i e
      subst e
      cases hi
      have := hf f k hfam
      subst this
      refine ⟨?_, by show _ < A.next + 1; omega⟩
      have : A.fams.get? A.next = none := (r.fresh _ (Nat.le_refl _)).2.2
      show A.next ∈ (match A.fams.get? A.next with | some l => l | none => [A.next])
      rw [this]; simp
    · obtain ⟨h1, h2⟩ := r.mem i oi f k hi hfam
      exact ⟨h1, by show _ < A.next + 1; omega⟩
  · intro i hi
    have hi' : A.next + 1 ≤ i := hi
    obtain ⟨h1, h2, h3⟩ := r.fresh i (by omega)
    exact ⟨by rw [hg', if_neg (by omega)]; exact h1, h2, h3⟩
  · show A.next + 1 ≤ maxId
    omega
  · intro i cs e f k ro c d hi hm
    rw [hg'] at hi
    split at hi
    · rename_i e'; subst e'; rw [hmn] at hm; cases hm
    · exact r.room i cs e f k ro c d hi hm

/-- From (m, A, w) the run has come to (m', A', w'); what lies below lo and is not in the world is not in it yet. -/
structure EvL (lo : Nat) (m : Inj P) (A : AW) (w : World) (m' : Inj P) (A' : AW) (w' : World) : Prop where
  ext : m.le m'
  rel : Rel m' A' w'
  size : w.heap.size ≤ w'.heap.size
  os : w'.os = w.os
  tape : w'.tape = w.tape
  output : w'.output = w.output
  draws : w.drawn ≤ w'.drawn
  keep : ∀ c, c < w.heap.size → ¬ Own m A c → w'.heap[c]? = w.heap[c]?
  own : ∀ c, c < w.heap.size → Own m' A' c → Own m A c
  next : A.next ≤ A'.next
  same : ∀ i, i < lo → m' i = m i

theorem Ev.low {m m' : Inj P} {A A' : AW} {w w' : World} (h : Ev m A w m' A' w') {lo : Nat} (hl : lo ≤ A.next) : EvL lo m A w m' A' w' :=
  ⟨h.ext, h.rel, h.size, h.os, h.tape, h.output, h.draws, h.keep, h.own, h.next, fun i hi => h.same i (by omega)⟩
theorem EvL.refl {m : Inj P} {A : AW} {w : World} (r : Rel m A w) (lo : Nat) : EvL lo m A w m A w :=
  ⟨.refl m, r, Nat.le_refl _, rfl, rfl, rfl, Nat.le_refl _, fun _ _ _ => rfl, fun _ _ h => h, Nat.le_refl _, fun _ _ => rfl⟩
theorem EvL.weak {lo lo' : Nat} {m m' : Inj P} {A A' : AW} {w w' : World} (h : EvL lo m A w m' A' w') (hl : lo' ≤ lo) : EvL lo' m A w m' A' w' :=
  { h with same := fun i hi => h.same i (by omega) }
theorem EvL.trans {lo : Nat} {m m' m'' : Inj P} {A A' A'' : AW} {w w' w'' : World} (h : EvL lo m A w m' A' w') (k : EvL lo m' A' w' m'' A'' w'') : EvL lo m A w m'' A'' w'' := by
  refine ⟨h.ext.trans k.ext, k.rel, Nat.le_trans h.size k.size, k.os.trans h.os, k.tape.trans h.tape, k.output.trans h.output, Nat.le_trans h.draws k.draws, fun c hc hn => ?_, fun c hc ho => ?_, Nat.le_trans h.next k.next, fun i hi => (k.same i hi).trans (h.same i hi)⟩
  · rw [k.keep c (Nat.lt_of_lt_of_le hc h.size) (fun ho => hn (h.own c hc ho)), h.keep c hc hn]
  · exact h.own c hc (k.own c (Nat.lt_of_lt_of_le hc h.size) ho)

theorem EvL.ghost {m : Inj P} {A A' : AW} {w : World} (r : Rel m A w) {o : AO} {b : Nat} (h : A.new o = some (b, A')) (hf : ∀ f k, o.fam = some (f, k) → f = A.next) (lo : Nat) : EvL lo m A w m A' w := by
  obtain ⟨h1, h2, rfl, h4, h5⟩ := r.ghost h hf
  refine ⟨.refl m, h1, Nat.le_refl _, rfl, rfl, rfl, Nat.le_refl _, fun _ _ _ => rfl, fun c hc ⟨i, oi, d, hi, hro, hm⟩ => ?_, by omega, fun _ _ => rfl⟩
  have hne : i ≠ A.next := fun e => by rw [e, h4] at hm; cases hm
  exact ⟨i, oi, d, by rw [← h5 i hne]; exact hi, hro, hm⟩

/-- the world makes it -/
theorem EvL.realise {m : Inj P} {A : AW} {w : World} (r : Rel m A w) {o : AO} {o' : Obj} {b : Nat} (hb : A.get b = some o) (hm : m b = none) (hr : ORel m 0 o o') {lo : Nat} (hlo : lo ≤ b) :
    ∃ m', EvL lo m A w m' A { w with heap := w.heap.push o' } ∧ m' b = some (w.heap.size, 0) ∧ (∀ j, j ≠ b → m' j = m j) := by
  have hle : m.le (m.ext b (w.heap.size, 0) 0 0 0 (fun h => absurd rfl h)) := Inj.le_ext hm
  refine ⟨m.ext b (w.heap.size, 0) 0 0 0 (fun h => absurd rfl h), ⟨hle, ⟨?_, ?_, ?_, r.mem, ?_, r.lim, ?_⟩, by simp, rfl, rfl, rfl, Nat.le_refl _, fun c hc _ => heap_alloc_lt w o' c hc, ?_, Nat.le_refl _, fun i hi => Inj.ext_other (by omega)⟩, Inj.ext_self, fun j hj => Inj.ext_other hj⟩
  · intro i oi c d hi hmi
    by_cases e : i = b
    · subst e
      rw [Inj.ext_self] at hmi
      cases hmi
      rw [hb] at hi
      cases hi
      exact ⟨o', heap_alloc_self w o', hr.mono hle⟩
    · rw [Inj.ext_other e] at hmi
      obtain ⟨oi', h2, h3⟩ := r.obj i oi c d hi hmi
      exact ⟨oi', by rw [heap_alloc_lt _ _ _ (r.blockLt hi hmi)]; exact h2, h3.mono hle⟩
  · intro i cs e k ro hi c d hmi
    by_cases e' : i = b
    · subst e'
      rw [Inj.ext_self] at hmi
      cases hmi; rfl
    · rw [Inj.ext_other e'] at hmi
      exact r.home i cs e k ro hi c d hmi
  · intro i j oi oj c di dj hij hi hj hmi hmj
    by_cases ei : i = b
    · subst ei
      rw [Inj.ext_self] at hmi
      cases hmi
      rw [Inj.ext_other (Ne.symm hij)] at hmj
      have := r.blockLt hj hmj
      omega
    · rw [Inj.ext_other ei] at hmi
      by_cases ej : j = b
      · subst ej
        rw [Inj.ext_self] at hmj
        cases hmj
        have := r.blockLt hi hmi
        omega
      · rw [Inj.ext_other ej] at hmj
        exact r.sep i j oi oj c di dj hij hi hj hmi hmj
  · intro i hi
    obtain ⟨h1, h2, h3⟩ := r.fresh i hi
    have hbn := r.lt hb
    exact ⟨h1, by rw [Inj.ext_other (by omega)]; exact h2, h3⟩
  · intro i cs e f k ro c d hi hmi
    by_cases e' : i = b
    · subst e'
      rw [Inj.ext_self] at hmi
      cases hmi
      rw [hb] at hi
      cases hi
      obtain ⟨cs', fr, rfl, _⟩ := hr
      rw [Inj.ext_room, Inj.ext_el]
      exact ⟨fun h => absurd rfl h, cs', e, fr, heap_alloc_self w _, by omega, fun _ k hk => by omega⟩
    · rw [Inj.ext_other e'] at hmi
      rw [Inj.ext_room_other e', Inj.ext_el_other e']
      obtain ⟨g1, cs', e2, fr, g2, g3, g4⟩ := r.room i cs e f k ro c d hi hmi
      exact ⟨g1, cs', e2, fr, by rw [heap_alloc_lt _ _ _ (r.blockLt hi hmi)]; exact g2, g3, g4⟩
  · rintro c hc ⟨i, oi, d, hi, hro, hmi⟩
    by_cases e : i = b
    · subst e
      rw [Inj.ext_self] at hmi; cases hmi
      omega
    · rw [Inj.ext_other e] at hmi
      exact ⟨i, oi, d, hi, hro, hmi⟩

/-- the world makes it, with room behind it -/
theorem EvL.realiseR {m : Inj P} {A : AW} {w : World} (r : Rel m A w) {o : AO} {o' : Obj} {b : Nat} (hb : A.get b = some o) (hm : m b = none) (hr : ORel m 0 o o') {lo : Nat} (hlo : lo ≤ b) {R : Nat} {el : TypeId} {st : Nat} (hR : R ≠ 0 → szT P el = some st)
    (hroom : ∀ cs e f b ro, o = .row cs e f b ro → (R ≠ 0 → el = e) ∧ ∃ cs' e' fr, o' = .cells cs' e' fr ∧ R ≤ cs'.size ∧ (ro = false → ∀ k, k < R → ¬ (fr.1 ≤ k ∧ k < fr.2))) :
    EvL lo m A w (m.ext b (w.heap.size, 0) R el st hR) A { w with heap := w.heap.push o' } := by
  have hle : m.le (m.ext b (w.heap.size, 0) R el st hR) := Inj.le_ext hm
  refine ⟨hle, ⟨?_, ?_, ?_, r.mem, ?_, r.lim, ?_⟩, by simp, rfl, rfl, rfl, Nat.le_refl _, fun c hc _ => heap_alloc_lt w o' c hc, ?_, Nat.le_refl _, fun i hi => Inj.ext_other (by omega)⟩
  · intro i oi c d hi hmi
    by_cases e : i = b
    · subst e
      rw [Inj.ext_self] at hmi
      cases hmi
      rw [hb] at hi
      cases hi
      exact ⟨o', heap_alloc_self w o', hr.mono hle⟩
    · rw [Inj.ext_other e] at hmi
      obtain ⟨oi', h2, h3⟩ := r.obj i oi c d hi hmi
      exact ⟨oi', by rw [heap_alloc_lt _ _ _ (r.blockLt hi hmi)]; exact h2, h3.mono hle⟩
  · intro i cs e k ro hi c d hmi
    by_cases e' : i = b
    · subst e'
      rw [Inj.ext_self] at hmi
      cases hmi; rfl
    · rw [Inj.ext_other e'] at hmi
      exact r.home i cs e k ro hi c d hmi
  · intro i j oi oj c di dj hij hi hj hmi hmj
    by_cases ei : i = b
    · subst ei
      rw [Inj.ext_self] at hmi
      cases hmi
      rw [Inj.ext_other (Ne.symm hij)] at hmj
      have := r.blockLt hj hmj
      omega
    · rw [Inj.ext_other ei] at hmi
      by_cases ej : j = b
      · subst ej
        rw [Inj.ext_self] at hmj
        cases hmj
        have := r.blockLt hi hmi
        omega
      · rw [Inj.ext_other ej] at hmj
        exact r.sep i j oi oj c di dj hij hi hj hmi hmj
  · intro i hi
    obtain ⟨h1, h2, h3⟩ := r.fresh i hi
    have hbn := r.lt hb
    exact ⟨h1, by rw [Inj.ext_other (by omega)]; exact h2, h3⟩
  · intro i cs e f k ro c d hi hmi
    by_cases e' : i = b
    · subst e'
      rw [Inj.ext_self] at hmi
      cases hmi
      rw [hb] at hi
      cases hi
      rw [Inj.ext_room, Inj.ext_el]
      obtain ⟨g1, cs', e', fr, rfl, g2, g3⟩ := hroom _ _ _ _ _ rfl
      exact ⟨g1, cs', e', fr, heap_alloc_self w _, by omega, by simpa using g3⟩
    · rw [Inj.ext_other e'] at hmi
      rw [Inj.ext_room_other e', Inj.ext_el_other e']
      obtain ⟨g1, cs', e2, fr, g2, g3, g4⟩ := r.room i cs e f k ro c d hi hmi
      exact ⟨g1, cs', e2, fr, by rw [heap_alloc_lt _ _ _ (r.blockLt hi hmi)]; exact g2, g3, g4⟩
  · rintro c hc ⟨i, oi, d, hi, hro, hmi⟩
    by_cases e : i = b
    · subst e
      rw [Inj.ext_self] at hmi; cases hmi
      omega
    · rw [Inj.ext_other e] at hmi
      exact ⟨i, oi, d, hi, hro, hmi⟩

/-- what the world's run of such an operation makes -/
theorem fresh_run {m : Inj P} {w : World} {ρ ρ' : Operand → Value} {o : Oper} {c : Fresh} (hρ : ∀ x ∈ o.op.operands.toList, VRel m (ρ x) (ρ' x)) (h : freshOf P ρ o.op = some c) :
    match c with
    | .row cs e => ∃ cs', VRels m cs cs' ∧ (execOp ρ' o).run P w = .ok (.value (.pointer (some ⟨w.heap.size, 0, none⟩))) { w with heap := w.heap.push (.cells ⟨cs'⟩ e) }
    | .slice cs e len => ∃ cs', VRels m cs cs' ∧ (execOp ρ' o).run P w = .ok (.value (.slice (some ⟨w.heap.size, 0, none⟩) len len)) { w with heap := w.heap.push (.cells ⟨cs'⟩ e) } ∧ len < capU
    | .map => (execOp ρ' o).run P w = .ok (.value (.map (some w.heap.size))) { w with heap := w.heap.push (.map #[] 0) }
    | .bytes cs e => VRels m cs cs ∧ szT P e = some 1 ∧ ∃ cap, cs.length ≤ cap ∧ (execOp ρ' o).run P w = .ok (.value (.slice (some ⟨w.heap.size, 0, none⟩) cs.length cap)) { w with drawn := w.drawn + 1, heap := w.heap.push (.cells (cs.toArray ++ Array.replicate (cap - cs.length) (.int .u8 0)) e (cap, cap + 1)) } := by
  obtain ⟨dst, op, type, pos, after, guard⟩ := o
  cases op <;> simp only [freshOf] at h <;> first | (cases h; done) | skip
  case alloc e =>
    split at h
    rotate_left
    · cases h
    rename_i z hz
    cases hc : z.cells.toList.all oneCell with
    | false => rw [hc] at h; cases h
    | true =>
      rw [hc, cond_true, Option.some.injEq] at h
      subst h
      obtain ⟨_, hcl⟩ := zeroT_info hz
      exact ⟨_, (closedV_rel (m := m) 4 z hcl).cells, by simp [execOp, Instr.alloc, run_zeroValue_ok hz, newVar, run_newRow]⟩
  case box e x =>
    cases hc : (ρ x).cells.toList.all oneCell with
    | false => rw [hc] at h; cases h
    | true =>
      rw [hc, cond_true, Option.some.injEq] at h
      subst h
      exact ⟨_, (hρ x (by simp [Op.operands])).cells, by simp [execOp, Instr.box, newVar, run_newRow]⟩
  case buildSlice t len parts =>
    split at h
    rotate_left
    · cases h
    rename_i e ht
    split at h
    rotate_left
    · cases h
    rename_i size hs
    cases hc : (Nat.ble (len * size) 16777216 && Nat.blt len room) with
    | false => rw [hc] at h; cases h
    | true =>
      rw [hc, cond_true] at h
      simp only [Bool.and_eq_true] at hc
      have h1 := ble_true.1 hc.1
      have h2 := blt_true.1 hc.2
      unfold room at h2
      split at h
      rotate_left
      · cases h
      rename_i zs hz
      split at h
      rotate_left
      · cases h
      rename_i cs hcs
      cases hall : cs.all oneCell with
      | false => rw [hall] at h; cases h
      | true =>
        rw [hall, cond_true, Option.some.injEq] at h
        subst h
        have hp : PartsRel m (pickAt parts.toList ρ) (parts.map fun x => (x.1, ρ' x.2)).toList := by
          rw [Array.toList_map]
          exact pickAt_rel parts.toList fun x hx => hρ x.2 (List.mem_map.2 ⟨x, hx, rfl⟩)
        obtain ⟨hzr, zero, hrun, hmap⟩ := zerosT_spec (P := P) (m := m) hz
        obtain ⟨out', g3, g4⟩ := fill_sound (place' := fun i => some (i * size, size)) (fun i x hx => hx) hp hzr hcs
        refine ⟨out', g4, ?_, by unfold capU; omega⟩
        have hlim : ¬ (len * size > 2 ^ 24) := by omega
        simp only [execOp, Instr.buildSlice, Sem.run_bind, run_underlying (sliceElemT_spec ht), Result.andThen_ok, run_sizeOf_ok hs, if_neg hlim]
        rcases hrun with ⟨h0, rfl⟩ | ⟨h0, z, rfl, hzv⟩
        · simp only [if_pos h0, Sem.run_bind, Sem.run_pure, Result.andThen_ok, hmap, g3, run_newRow]
        · simp only [if_neg h0, Sem.run_bind, hzv, Sem.run_pure, Result.andThen_ok, hmap, g3, run_newRow]
  case makeMap t r =>
    cases r with
    | none =>
      simp only [Option.some.injEq] at h
      subst h
      simp [execOp, Instr.makeMap]
    | some y =>
      simp only at h
      split at h
      rotate_left
      · cases h
      rename_i mt k n hm hi
      simp only [Option.some.injEq] at h
      subst h
      have hy := hρ y (by simp [Op.operands])
      rw [hi] at hy
      generalize hq : ρ' y = z at hy
      cases hy
      unfold mapTypes at hm
      split at hm
      · rename_i hu
        simp [execOp, Instr.makeMap, run_underlying hu, hq, asInt, asIntOf]
      · cases hm

  case convert src d x =>
    split at h
    rotate_left
    · cases h
    rename_i e str hs hd hx
    split at h
    rotate_left
    · cases h
    rename_i he h1
    simp only [Option.some.injEq] at h
    subst h
    have hy := hρ x (by simp [Op.operands])
    rw [hx] at hy
    generalize hq : ρ' x = z at hy
    cases hy
    have hrel : VRels m (str.data.toList.map fun b => Value.int .u8 (b.toNat : Int)) (str.data.toList.map fun b => Value.int .u8 (b.toNat : Int)) := VRels.map _ _ (fun b => .int _ _) _
    have hf : (Question.appendCap str.size 0 e).forced = false := rfl
    have hcut := appendCap_cut str.size 0 e (w.tape w.drawn (.appendCap str.size 0 e))
    have hsz := Lib.size_eq str
    generalize hcap : (Question.appendCap str.size 0 e).cut (w.tape w.drawn (.appendCap str.size 0 e)) = cap at *
    have harr : (str.data.map fun b => Value.int .u8 b.toNat) = (str.data.toList.map fun b => Value.int .u8 (b.toNat : Int)).toArray := by
      apply Array.ext'; simp
    have hsize : ((str.data.toList.map fun b => Value.int .u8 (b.toNat : Int)).toArray ++ Array.replicate (cap - str.size) (Value.int .u8 0)).size = cap := by
      simp only [Array.size_append, List.size_toArray, List.length_map, Array.size_replicate]
      omega
    refine ⟨hrel, h1, cap, by simp only [List.length_map]; omega, ?_⟩
    have hlen : (str.data.toList.map fun b => Value.int .u8 (b.toNat : Int)).length = str.size := by rw [List.length_map]; exact hsz
    rw [hlen]
    have hmk := run_markNew (P := P) { w with drawn := w.drawn + 1 } ((str.data.toList.map fun b => Value.int .u8 (b.toNat : Int)).toArray ++ Array.replicate (cap - str.size) (Value.int .u8 0)) e
    rw [hsize] at hmk
    simp only at hmk
    simp only [execOp, hq, convert, Sem.run_bind, run_underlying hs, run_underlying hd, run_underlying he, Result.andThen_ok, Conv.stringToBytes, run_choose, hf, Bool.false_eq_true, if_false, hcap, run_newRow, harr, hmk]
    rfl

theorem rowHas_spec {A : AW} {b : Nat} {cs : List Value} {e : TypeId} (h : rowHas A b cs e = true) : ∃ f k ro, A.get b = some (.row cs e f k ro) := by
  unfold rowHas at h
  split at h
  · rename_i ds e' f k ro hg
    simp only [Bool.and_eq_true] at h
    have h1 := Nat.eq_of_beq_eq_true h.1
    have h2 := sameL_eq (sameV_eq 6) h.2
    subst h1 h2
    exact ⟨f, k, ro, hg⟩
  · cases h

theorem rowRel_fresh {m : Inj P} {cs cs' : List Value} (h : VRels m cs cs') (e : TypeId) (f k : Nat) (ro : Bool) : ORel m 0 (.row cs e f k ro) (.cells ⟨cs'⟩ e) := by
  refine ⟨_, _, rfl, fun i v hv => ?_⟩
  obtain ⟨v', h1, h2⟩ := h.get hv
  exact ⟨v', by simpa using h1, fun _ => h2, fun _ => by simp⟩

/-- the world makes what is still as it was made -/
theorem make_sound {m : Inj P} {A : AW} {w : World} (r : Rel m A w) {ρ ρ' : Operand → Value} {o : Oper} {c : Fresh} {v : Value} {b lo : Nat} (hρ : ∀ x ∈ o.op.operands.toList, VRel m (ρ x) (ρ' x)) (h : freshOf P ρ o.op = some c)
    (hs : stillFresh A v c = true) (hid : idOf v = some b) (hm : m b = none) (hlo : lo ≤ b) :
    ∃ v' w' m', (execOp ρ' o).run P w = .ok (.value v') w' ∧ EvL lo m A w m' A w' ∧ VRel m' v v' ∧ (∀ j, j ≠ b → m' j = m j) := by
  have hrun := fresh_run (w := w) hρ h
  cases c with
  | row cs e =>
    obtain ⟨cs', h1, h2⟩ := hrun
    simp only [stillFresh] at hs
    split at hs
    · rename_i a
      simp only [Bool.and_eq_true, Option.isNone_iff_eq_none] at hs
      obtain ⟨f, k, ro, hg⟩ := rowHas_spec hs.2.2
      simp only [idOf, Option.some.injEq] at hid
      subst hid
      obtain ⟨m', g1, g2, g3⟩ := EvL.realise r hg hm (rowRel_fresh h1 e f k ro) hlo
      exact ⟨_, _, m', h2, g1, .ptr ⟨hs.2.1, rfl, 0, g2, by rw [Nat.eq_of_beq_eq_true hs.1]⟩, g3⟩
    · cases hs
  | slice cs e len =>
    obtain ⟨cs', h1, h2, h3⟩ := hrun
    simp only [stillFresh] at hs
    split at hs
    · rename_i a n c
      simp only [Bool.and_eq_true, Option.isNone_iff_eq_none] at hs
      obtain ⟨q1, q2, q3, q4, q5⟩ := hs
      have q3 := Nat.eq_of_beq_eq_true q3
      have q4 := Nat.eq_of_beq_eq_true q4
      subst q3 q4
      obtain ⟨f, k, ro, hg⟩ := rowHas_spec q5
      simp only [idOf, Option.some.injEq] at hid
      subst hid
      obtain ⟨m', g1, g2, g3⟩ := EvL.realise r hg hm (rowRel_fresh h1 e f k ro) hlo
      exact ⟨_, _, m', h2, g1, .slice (.inl ⟨h3, rfl⟩) (Nat.le_refl _) (fun _ => ⟨q2, rfl, 0, g2, by rw [Nat.eq_of_beq_eq_true q1]⟩), g3⟩
    · cases hs
  | map =>
    simp only [stillFresh] at hs
    split at hs
    · rename_i b'
      split at hs
      · rename_i hg
        simp only [idOf, Option.some.injEq] at hid
        subst hid
        obtain ⟨m', g1, g2, g3⟩ := EvL.realise (o' := .map #[] 0) r hg hm ⟨rfl, [], rfl, .nil⟩ hlo
        exact ⟨_, _, m', hrun, g1, .map g2, g3⟩
      · cases hs
    · cases hs
  | bytes cs e =>
    obtain ⟨h1, hs1, cap, hcap, hrun⟩ := hrun
    simp only [stillFresh] at hs
    split at hs
    · rename_i a n c
      simp only [Bool.and_eq_true, Option.isNone_iff_eq_none] at hs
      obtain ⟨q1, q2, q3, q4, q5⟩ := hs
      have q3 := Nat.eq_of_beq_eq_true q3
      have q4 := Nat.eq_of_beq_eq_true q4
      subst q3 q4
      obtain ⟨f, k, ro, hg⟩ := rowHas_spec q5.1
      obtain rfl : ro = false := by
        have := q5.2
        unfold rowOwn at this
        rw [hg] at this
        simpa using this
      simp only [idOf, Option.some.injEq] at hid
      subst hid
      have r1 : Rel m A { w with drawn := w.drawn + 1 } := r.congr rfl
      have hsize : (cs.toArray ++ Array.replicate (cap - cs.length) (Value.int .u8 0)).size = cap := by
        simp only [Array.size_append, List.size_toArray, Array.size_replicate]
        omega
      have g := EvL.realiseR (o' := .cells (cs.toArray ++ Array.replicate (cap - cs.length) (.int .u8 0)) e (cap, cap + 1)) r1 hg hm ⟨_, _, rfl, rowRel_more h1 _ _ hcap⟩ hlo (R := cap) (el := e) (st := 1) (fun _ => hs1)
        (fun csx ex fx bx rox hx => by cases hx; exact ⟨fun _ => rfl, _, _, _, rfl, by omega, fun _ j hj => by simp; omega⟩)
      refine ⟨_, _, _, hrun, ⟨g.ext, g.rel, g.size, g.os, g.tape, g.output, by have := g.draws; exact Nat.le_of_succ_le this, g.keep, g.own, g.next, g.same⟩, ?_, fun j hj => Inj.ext_other hj⟩
      exact .slice (.inr ⟨by omega, by omega, by have h0 := Nat.eq_of_beq_eq_true q1; simp only [Inj.ext_room, Inj.ext_st]; omega, fun hp => by simp only [Inj.ext_room]; omega, _, Inj.ext_self⟩) hcap (fun _ => ⟨q2, rfl, _, Inj.ext_self, by rw [Nat.eq_of_beq_eq_true q1]⟩)
    · cases hs

end
end Go.Abs

namespace Go.Abs

section
variable {P : Program} {X : XNames}

/-- what was found when the operation was run is still found -/
def Valid (P : Program) (X : XNames) (A : AW) (ops : Array Oper) (tm : Tm) (i : Nat) : Prop :=
  ∀ o d, ops.toList[i]? = some o → o.dst = some d →
    (wantedA ops tm o = false → tm.get d = undef) ∧
    (wantedA ops tm o = true → (quietOp P o.op = true → ∃ A', execA P X (evalT tm) o A = .ok (.value (tm.get d)) A') ∧
      (quietOp P o.op = false → ∃ c, freshOf P (evalT tm) o.op = some c ∧ stillFresh A (tm.get d) c = true))

theorem recheck_valid {fr : AFr} {A : AW} {ops : Array Oper} {i : Nat} (h : recheckA P X fr A ops i = true) : Valid P X A ops fr.tm i := by
  intro o d ho hd
  unfold recheckA at h
  rw [ho] at h
  simp only [hd] at h
  rw [eval_evalT] at h
  cases hw : wantedA ops fr.tm o with
  | false =>
    rw [hw] at h
    simp only [cond_false] at h
    exact And.intro (fun _ => (sameV_eq _ _ _ h).symm) (fun h => Bool.noConfusion h)
  | true =>
    rw [hw] at h
    simp only [cond_true] at h
    refine And.intro (fun h => Bool.noConfusion h) (fun _ => ⟨fun hq => ?_, fun hq => ?_⟩)
    · rw [hq, cond_true] at h
      split at h
      · rename_i v A' he
        rw [← sameV_eq _ _ _ h]
        exact ⟨A', he⟩
      · cases h
    · rw [hq, cond_false] at h
      split at h
      · rename_i c hc
        exact ⟨c, hc, h⟩
      · cases h

/-- a frame in a region that draws its order: S is what the world has done, C what the abstract machine has done, rl what it still looks at again, pl the rest of the plan -/
structure DrawAt (P : Program) (X : XNames) (m : Inj P) (A : AW) (live : Bool) (lo hi : Nat) (tm : Tm) (tmps : Array Value) (ops : Array Oper) (S : Nat → Prop) (C : Nat) (rl pl : List Nat) (rest : List Nat) : Prop where
  plan : PlanAt ops.toList (effOf P ops.toList) (alcOf P ops.toList) C pl
  slotsOk : SlotsOk ops.toList (effOf P ops.toList)
  opsOk : ops.toList.all (opOk P) = true
  rls : ∀ x ∈ rl, ops.size ≤ x
  lin : Lin ops.toList S rest
  sub : ∀ i, S i → C.testBit i = true
  bits : ∀ i, C.testBit i = true → i < ops.size
  closed : ∀ i, C.testBit i = true → ∀ k, anc ops.toList k i → C.testBit k = true
  inb : ∀ (i : Nat) (o : Oper) (d : Tmp), ops.toList[i]? = some o → o.dst = some d → d < tm.sz
  effs : ∀ i, C.testBit i = true → (effOf P ops.toList).testBit i = true → S i
  size : tmps.size = tm.sz
  small : tm.sz < maxId
  oob : ∀ t, tm.sz ≤ t → tm.get t = undef
  slots : ∀ t, (∀ (i : Nat) (o : Oper), C.testBit i = true → ¬ S i → ops.toList[i]? = some o → o.dst ≠ some t) → VRel m (tm.get t) (tmps.getD t undef)
  ghost : ∀ (i : Nat) (o : Oper) (d : Tmp), C.testBit i = true → ¬ S i → ops.toList[i]? = some o → o.dst = some d → quietOp P o.op = false → wantedA ops tm o = true → ∃ b, idOf (tm.get d) = some b ∧ m b = none ∧ lo ≤ b ∧ b < hi
  apart : ∀ (i j : Nat) (o p : Oper) (d e : Tmp), C.testBit i = true → ¬ S i → ops.toList[i]? = some o → o.dst = some d → quietOp P o.op = false → wantedA ops tm o = true →
    C.testBit j = true → ¬ S j → ops.toList[j]? = some p → p.dst = some e → quietOp P p.op = false → wantedA ops tm p = true → idOf (tm.get d) = idOf (tm.get e) → i = j
  valid : live = true → ∀ i, C.testBit i = true → ¬ S i → (ops.size + i) ∈ rl ∨ Valid P X A ops tm i
  wait : live = false → rl = [] ∧ ∃ x p' r, pl = x :: p' ∧ rest = x :: r ∧ (effOf P ops.toList).testBit x = true

theorem eff_op {ops : List Oper} {i : Nat} {o : Oper} (ho : ops[i]? = some o) : (effOf P ops).testBit i = true ↔ (quietOp P o.op = false ∧ allocOp P (clsOf P ops) o.op = false) := by
  unfold effOf
  rw [classBits_spec]
  constructor
  · rintro ⟨o', _, h2, h3⟩
    rw [Nat.sub_zero, ho] at h2
    cases h2
    simpa using h3
  · rintro ⟨h1, h2⟩
    exact ⟨o, Nat.zero_le _, by simpa using ho, by simp [h1, h2]⟩

theorem alc_op {ops : List Oper} {i : Nat} {o : Oper} (ho : ops[i]? = some o) : (alcOf P ops).testBit i = true ↔ allocOp P (clsOf P ops) o.op = true := by
  unfold alcOf
  rw [classBits_spec]
  constructor
  · rintro ⟨o', _, h2, h3⟩
    rw [Nat.sub_zero, ho] at h2
    cases h2
    exact h3
  · intro h
    exact ⟨o, Nat.zero_le _, by simpa using ho, h⟩

theorem quiet_alloc {c : Bool} {op : Op} (h : allocOp P c op = true) : quietOp P op = false := by
  cases op <;> first | rfl | (cases h; done) | skip
  case convert s d x =>
    simp only [allocOp, Bool.and_eq_true] at h
    obtain ⟨_, h⟩ := h
    unfold quietOp
    cases hd : P.underlying d with
    | none => rw [hd] at h; split at h <;> simp_all
    | some u => cases u <;> simp_all

/-- the operation that the world does next: all that it looks at is related -/
theorem DrawAt.looked {m : Inj P} {A : AW} {live : Bool} {lo hi : Nat} {tm : Tm} {tmps : Array Value} {ops : Array Oper} {S : Nat → Prop} {C : Nat} {rl pl rest : List Nat} {i : Nat}
    (D : DrawAt P X m A live lo hi tm tmps ops S C rl pl rest) (hanc : ∀ k, anc ops.toList k i → S k) {o : Oper} (ho : ops.toList[i]? = some o) {t : Tmp} (hl : looksAtA ops.toList o t = true) :
    VRel m (tm.get t) (tmps.getD t undef) := by
  refine D.slots t fun j o' hc hs ho' hd => ?_
  rcases D.slotsOk.looks j o' t ho' hd i o ho hl with h | ⟨h, _⟩
  · exact hs (hanc j h)
  · exact hs (D.effs j hc h)

theorem DrawAt.operands {m : Inj P} (hG : GOk m) {A : AW} {live : Bool} {lo hi : Nat} {tm : Tm} {tmps : Array Value} {ops : Array Oper} {S : Nat → Prop} {C : Nat} {rl pl rest : List Nat} {i : Nat}
    (D : DrawAt P X m A live lo hi tm tmps ops S C rl pl rest) (hanc : ∀ k, anc ops.toList k i → S k) {o : Oper} (ho : ops.toList[i]? = some o) :
    ∀ x ∈ o.op.operands.toList, VRel m (evalT tm x) (evalW tmps x) := by
  intro x hx
  refine evalT_rel hG ?_ fun t ht => ?_
  · have := List.all_eq_true.1 D.opsOk o (List.mem_of_getElem? ho)
    exact List.all_eq_true.1 this x hx
  · subst ht
    exact D.looked hanc ho (looks_operand hx)

theorem DrawAt.wanted {m : Inj P} {A : AW} {live : Bool} {lo hi : Nat} {tm : Tm} {tmps : Array Value} {ops : Array Oper} {S : Nat → Prop} {C : Nat} {rl pl rest : List Nat} {i : Nat}
    (D : DrawAt P X m A live lo hi tm tmps ops S C rl pl rest) (hanc : ∀ k, anc ops.toList k i → S k) {o : Oper} (ho : ops.toList[i]? = some o) :
    Region.wanted o (yielded ops tmps) = wantedA ops tm o :=
  wanted_rel fun _ _ hg _ _ hj hd => D.looked hanc ho (looks_guard hg hj hd)

theorem finish_region {f : Frame} {ops : Array Oper} {i : Nat} {rest : List Nat} {k : List Item} {o : Oper} (ht : f.todo = .inRegion ops (i :: rest) :: k) (ho : ops.toList[i]? = some o) (v : Value) :
    f.finish v = { f with tmps := (match o.dst with | some d => f.tmps.setIfInBounds d v | none => f.tmps), todo := .inRegion ops rest :: k } := by
  have ho' : ops[i]? = some o := by simpa using ho
  simp only [Frame.finish, ht, ho', Option.bind_some]
  cases o.dst <;> rfl

theorem finishA_region {fr : AFr} {ops : Array Oper} {i : Nat} {rest : List Nat} {k : List Item} {o : Oper} (ht : fr.todo = .inRegion ops (i :: rest) :: k) (ho : ops.toList[i]? = some o) (v : Value) :
    fr.finish v = { fr with tm := (match o.dst with | some d => fr.tm.set d v | none => fr.tm), todo := .inRegion ops rest :: k } := by
  simp only [AFr.finish, ht, ho]
  cases o.dst <;> rfl

/-- the world does one operation that the abstract machine has done already -/
theorem DrawAt.catch1 (hX : XOk P X) {m : Inj P} (hG : GOk m) {A : AW} {w : World} (r : Rel m A w) {lo hi : Nat} {tm : Tm} {ops : Array Oper} {S : Nat → Prop} {C : Nat} {pl rest : List Nat} {i : Nat} {f : Frame} {cs : List Frame} {k : List Item}
    (D : DrawAt P X m A true lo hi tm f.tmps ops S C [] pl (i :: rest)) (hiC : C.testBit i = true) (hhi : hi ≤ A.next) (hlo : lo ≤ A.next) (hmode : f.mode = .run) (htodo : f.todo = .inRegion ops (i :: rest) :: k) :
    ∃ tmps' m' w', step P (lone f cs w) = .next (lone { f with tmps := tmps', todo := .inRegion ops rest :: k } cs w') ∧ EvL lo m A w m' A w' ∧
      DrawAt P X m' A true lo hi tm tmps' ops (fun j => S j ∨ j = i) C [] pl rest := by
  obtain ⟨hlt, hnS, hanc, hlin⟩ := D.lin
  obtain ⟨o, ho⟩ : ∃ o, ops.toList[i]? = some o := ⟨_, List.getElem?_eq_getElem hlt⟩
  have heff : (effOf P ops.toList).testBit i = false := by
    cases h : (effOf P ops.toList).testBit i with
    | false => rfl
    | true => exact absurd (D.effs i hiC h) hnS
  obtain ⟨d, hd⟩ : ∃ d, o.dst = some d := by
    cases h : o.dst with
    | some d => exact ⟨d, rfl⟩
    | none => rw [D.slotsOk.dst i o ho h] at heff; cases heff
  have hval : Valid P X A ops tm i := by
    rcases D.valid rfl i hiC hnS with h | h
    · cases h
    · exact h
  have hw := D.wanted hanc ho
  have hops := D.operands hG hanc ho
  have hfin := fun v => finish_region htodo ho v
  simp only [hd] at hfin
  have ho' : ops[i]? = some o := by simpa using ho
  -- what is left to show once the world has done its step
  have key : ∀ (m' : Inj P) (w' : World) (v' : Value), EvL lo m A w m' A w' → VRel m' (tm.get d) v' → (∀ j o d b, j ≠ i → C.testBit j = true → ¬ S j → ops.toList[j]? = some o → o.dst = some d → quietOp P o.op = false → wantedA ops tm o = true → idOf (tm.get d) = some b → m' b = m b) →
      DrawAt P X m' A true lo hi tm (f.tmps.setIfInBounds d v') ops (fun j => S j ∨ j = i) C [] pl rest := by
    intro m' w' v' hev hv hgh
    refine ⟨D.plan, D.slotsOk, D.opsOk, fun x hx => by (cases hx), hlin, ?_, D.bits, D.closed, D.inb, fun j hj he => .inl (D.effs j hj he), by simpa using D.size, D.small, D.oob, ?_, ?_, ?_, ?_, fun h => Bool.noConfusion h⟩
    · rintro j (hj | rfl)
      · exact D.sub j hj
      · exact hiC
    · intro t ht
      rw [getD_set, D.size]
      split
      · rename_i h
        rw [h.1]
        exact hv
      · rename_i hne
        by_cases e : t = d
        · subst e
          have hsz : tm.sz ≤ t := by omega
          rw [D.oob t hsz, Array.getD_eq_getD_getElem?, Array.getElem?_eq_none (by rw [D.size]; exact hsz)]
          exact undef_rel m'
        · refine (D.slots t fun j o' hc hs ho2 hd2 => ?_).mono hev.ext
          by_cases e2 : j = i
          · subst e2
            rw [ho] at ho2
            cases ho2
            rw [hd] at hd2
            cases hd2
            exact e rfl
          · exact ht j o' hc (fun h => h.elim hs e2) ho2 hd2
    · intro j o' d' hc hs ho2 hd2 hq hwa
      have hs' : ¬ S j := fun h => hs (.inl h)
      have hne : j ≠ i := fun h => hs (.inr h)
      obtain ⟨b, h1, h2, h3, h4⟩ := D.ghost j o' d' hc hs' ho2 hd2 hq hwa
      exact ⟨b, h1, by rw [hgh j o' d' b hne hc hs' ho2 hd2 hq hwa h1]; exact h2, h3, h4⟩
    · intro j1 j2 o1 o2 d1 d2 a1 a2 a3 a4 a5 a6 b1 b2 b3 b4 b5 b6
      exact D.apart j1 j2 o1 o2 d1 d2 a1 (fun h => a2 (.inl h)) a3 a4 a5 a6 b1 (fun h => b2 (.inl h)) b3 b4 b5 b6
    · intro _ j hc hs
      exact D.valid rfl j hc fun h => hs (.inl h)
  obtain ⟨v1, v2⟩ := hval o d ho hd
  cases hwa : wantedA ops tm o with
  | false =>
    rw [hwa] at hw
    have hstep := w_unwanted (P := P) (cs := cs) (w := w) hmode htodo ho' hw
    rw [hfin undef] at hstep
    exact ⟨_, m, w, hstep, .refl r lo, key m w undef (.refl r lo) (by rw [v1 hwa]; exact undef_rel m) fun _ _ _ _ _ _ _ _ _ _ _ _ => rfl⟩
  | true =>
    rw [hwa] at hw
    cases hq : quietOp P o.op with
    | true =>
      obtain ⟨A', he⟩ := (v2 hwa).1 hq
      obtain ⟨rfl, _⟩ := quiet_exec hq he
      have hs := exec_sound hX r hops
      rw [he] at hs
      obtain ⟨n', w', m', h1, h2, v', rfl, h3⟩ := hs
      have hans : answer P f cs .normal false ((execOp f.eval o).run P w) = some (f.finish v', cs, w') := by
        rw [eval_evalW, h1]; rfl
      have hstep := w_op (P := P) hmode htodo ho' hw (.inr fun c hc => by rw [hc] at hq; cases hq) hans
      rw [hfin v'] at hstep
      exact ⟨_, m', w', hstep, h2.low hlo, key m' w' v' (h2.low hlo) h3 fun j o2 d2 b hne hc hs2 ho2 hd2 hq2 hwa2 hid => by
        obtain ⟨b', g1, g2, g3, g4⟩ := D.ghost j o2 d2 hc hs2 ho2 hd2 hq2 hwa2
        rw [g1, Option.some.injEq] at hid
        subst hid
        exact h2.same _ (by omega)⟩
    | false =>
      obtain ⟨c, hf, hst⟩ := (v2 hwa).2 hq
      obtain ⟨b, g1, g2, g3, g4⟩ := D.ghost i o d hiC hnS ho hd hq hwa
      obtain ⟨v', w', m', h1, h2, h3, h4⟩ := make_sound r hops hf hst g1 g2 g3
      have hans : answer P f cs .normal false ((execOp f.eval o).run P w) = some (f.finish v', cs, w') := by
        rw [eval_evalW, h1]; rfl
      have hnd : ∀ c, o.op ≠ .defer c := by
        intro c hc
        rw [hc] at hf
        cases hf
      have hstep := w_op (P := P) hmode htodo ho' hw (.inr hnd) hans
      rw [hfin v'] at hstep
      exact ⟨_, m', w', hstep, h2, key m' w' v' h2 h3 fun j o2 d2 b2 hne hc hs2 ho2 hd2 hq2 hwa2 hid => by
        refine h4 b2 fun e => hne ?_
        subst e
        exact D.apart j i o2 o d2 d hc hs2 ho2 hd2 hq2 hwa2 hiC hnS ho hd hq hwa (by rw [hid, g1])⟩

def atStop : Option Nat → List Nat → Prop
  | none, l => l = []
  | some x, l => ∃ r, l = x :: r

/-- the world does all that the abstract machine has done, up to 'stop' -/
theorem DrawAt.catchTo (hX : XOk P X) {lo hi : Nat} {A : AW} {tm : Tm} {ops : Array Oper} {C : Nat} {pl : List Nat} {cs : List Frame} {k : List Item} (stop : Option Nat) (hhi : hi ≤ A.next) (hlo : lo ≤ A.next) :
    ∀ (rest : List Nat) {m : Inj P} (_ : GOk m) {w : World} (_ : Rel m A w) {S : Nat → Prop} {f : Frame}
      (_ : DrawAt P X m A true lo hi tm f.tmps ops S C [] pl rest) (_ : ∀ i, i < ops.size → C.testBit i = true ∨ (some i = stop ∧ ¬ S i) ∨ ∃ x, stop = some x ∧ anc ops.toList x i)
      (_ : ∀ x, stop = some x → x < ops.size ∧ C.testBit x = false) (_ : f.mode = .run) (_ : f.todo = .inRegion ops rest :: k),
      ∃ S' tmps' rest' m' w', Steps P (lone f cs w) (lone { f with tmps := tmps', todo := .inRegion ops rest' :: k } cs w') ∧ EvL lo m A w m' A w' ∧
        DrawAt P X m' A true lo hi tm tmps' ops S' C [] pl rest' ∧ atStop stop rest' := by
  intro rest
  induction rest with
  | nil =>
    intro m hG w r S f D hall hstop hmode htodo
    cases stop with
    | none =>
      refine ⟨S, f.tmps, [], m, w, ?_, .refl r lo, D, rfl⟩
      rw [show ({ f with tmps := f.tmps, todo := .inRegion ops [] :: k } : Frame) = f by rw [← htodo]]
      exact .refl P _
    | some x =>
      obtain ⟨h1, h2⟩ := hstop x rfl
      have := D.sub x (D.lin x (by simpa using h1))
      rw [h2] at this
      cases this
  | cons i rest ih =>
    intro m hG w r S f D hall hstop hmode htodo
    obtain ⟨hlt, hnS, hanc, hlin⟩ := D.lin
    have hlt' : i < ops.size := by simpa using hlt
    by_cases hst : stop = some i
    · subst hst
      refine ⟨S, f.tmps, i :: rest, m, w, ?_, .refl r lo, D, rest, rfl⟩
      rw [show ({ f with tmps := f.tmps, todo := .inRegion ops (i :: rest) :: k } : Frame) = f by rw [← htodo]]
      exact .refl P _
    · have hiC : C.testBit i = true := by
        rcases hall i hlt' with h | ⟨h, _⟩ | ⟨x, h1, h2⟩
        · exact h
        · exact absurd h.symm hst
        · have h3 := D.sub x (hanc x h2)
          rw [(hstop x h1).2] at h3
          cases h3
      obtain ⟨tmps', m', w', s1, s2, s3⟩ := D.catch1 hX hG r hiC hhi hlo hmode htodo (cs := cs) (w := w)
      obtain ⟨S'', tmps'', rest'', m'', w'', t1, t2, t3, t4⟩ := ih (hG.mono s2.ext) s2.rel (f := { f with tmps := tmps', todo := .inRegion ops rest :: k }) s3 (fun j hj => by
        rcases hall j hj with h | ⟨h, h'⟩ | h
        · exact .inl h
        · refine .inr (.inl ⟨h, fun hh => ?_⟩)
          rcases hh with hh | rfl
          · exact h' hh
          · exact hst h.symm
        · exact .inr (.inr h)) hstop hmode rfl
      exact ⟨S'', tmps'', rest'', m'', w'', .head s1 t1, s2.trans t2, t3, t4⟩

end
end Go.Abs

namespace Go.Abs

section
variable {P : Program} {X : XNames}

theorem wantedA_congr {ops : Array Oper} {o : Oper} {tm tm' : Tm} (h : ∀ t, looksAtA ops.toList o t = true → tm'.get t = tm.get t) : wantedA ops tm' o = wantedA ops tm o := by
  unfold wantedA
  cases hg : o.guard with
  | none => rfl
  | some x =>
    obtain ⟨j, want⟩ := x
    simp only
    unfold yieldedA
    cases hj : ops.toList[j]? with
    | none => rfl
    | some g =>
      simp only
      cases hd : g.dst with
      | none => rfl
      | some d => simp only; rw [h d (looks_guard hg hj hd)]

theorem evalT_congr {ops : List Oper} {o : Oper} {tm tm' : Tm} (h : ∀ t, looksAtA ops o t = true → tm'.get t = tm.get t) : ∀ x ∈ o.op.operands.toList, evalT tm' x = evalT tm x := by
  intro x hx
  cases x with
  | tmp t => exact h t (looks_operand hx)
  | _ => rfl

theorem Valid.congr {A : AW} {ops : Array Oper} {tm tm' : Tm} {i : Nat} (hv : Valid P X A ops tm i) (hl : ∀ o, ops.toList[i]? = some o → (∀ t, looksAtA ops.toList o t = true → tm'.get t = tm.get t) ∧ ∀ d, o.dst = some d → tm'.get d = tm.get d) :
    Valid P X A ops tm' i := by
  intro o d ho hd
  obtain ⟨h1, h2⟩ := hl o ho
  obtain ⟨v1, v2⟩ := hv o d ho hd
  rw [wantedA_congr h1, h2 d hd, execA_congr (evalT_congr h1), freshOf_congr (evalT_congr h1)]
  exact ⟨v1, v2⟩

variable {m : Inj P} {A A' : AW} {live : Bool} {lo hi : Nat} {tm : Tm} {tmps : Array Value} {ops : Array Oper} {S : Nat → Prop} {C : Nat} {rl pl rest : List Nat}

theorem DrawAt.recheck {x : Nat} (D : DrawAt P X m A true lo hi tm tmps ops S C (x :: rl) pl rest) (hv : Valid P X A ops tm (x - ops.size)) : DrawAt P X m A true lo hi tm tmps ops S C rl pl rest := by
  refine { D with rls := fun y hy => D.rls y (List.mem_cons_of_mem _ hy), valid := fun _ j hc hs => ?_, wait := fun h => Bool.noConfusion h }
  rcases D.valid rfl j hc hs with h | h
  · cases h with
    | head => exact .inr (by rw [show ops.size + j - ops.size = j by omega] at hv; exact hv)
    | tail _ h => exact .inl h
  · exact .inr h

/-- one more operation, no effect, run ahead of the world -/
theorem DrawAt.advance {q p' rl' : List Nat} {x hi' : Nat} {o : Oper} {d : Tmp} {v : Value} (D : DrawAt P X m A true lo hi tm tmps ops S C [] q rest) (hx : x < ops.size) (hc : C.testBit x = false)
    (he : (effOf P ops.toList).testBit x = false) (hm : ∀ k, anc ops.toList k x → C.testBit k = true) (ho : ops.toList[x]? = some o) (hd : o.dst = some d) (hhi : hi ≤ hi') (hlo : lo ≤ hi)
    (hg : quietOp P o.op = false → wantedA ops tm o = true → ∃ b, idOf v = some b ∧ m b = none ∧ hi ≤ b ∧ b < hi') (hp : PlanAt ops.toList (effOf P ops.toList) (alcOf P ops.toList) (C ||| (1 <<< x)) p') (hrl : ∀ y ∈ rl', ops.size ≤ y)
    (hv : ∀ j, (C ||| (1 <<< x)).testBit j = true → ¬ S j → (ops.size + j) ∈ rl' ∨ Valid P X A' ops (tm.set d v) j) :
    DrawAt P X m A' true lo hi' (tm.set d v) tmps ops S (C ||| (1 <<< x)) rl' p' rest := by
  have hsz := D.inb x o d ho hd
  have get : ∀ t, t ≠ d → (tm.set d v).get t = tm.get t := fun t ht => by rw [Tm.get_set tm D.small, if_neg (fun h => ht h.1)]
  have getd : (tm.set d v).get d = v := by rw [Tm.get_set tm D.small, if_pos ⟨rfl, hsz⟩]
  have bit : ∀ j, (C ||| (1 <<< x)).testBit j = true ↔ (C.testBit j = true ∨ j = x) := fun j => by rw [or_bit]; simp
  have look : ∀ i o', (C.testBit i = true ∨ i = x) → ops.toList[i]? = some o' → ∀ t, looksAtA ops.toList o' t = true → (tm.set d v).get t = tm.get t := by
    intro i o' hi ho' t hl
    refine get t fun e => ?_
    subst e
    rcases D.slotsOk.looks x o t ho hd i o' ho' hl with h | ⟨h, _⟩
    · rcases hi with hi | rfl
      · rw [D.closed i hi x h] at hc; cases hc
      · have := anc_lt D.slotsOk.back i i (by simpa using hx) h
        omega
    · rw [he] at h; cases h
  have dst : ∀ i o' d', C.testBit i = true → ops.toList[i]? = some o' → o'.dst = some d' → (tm.set d v).get d' = tm.get d' := by
    intro i o' d' hi ho' hd'
    refine get d' fun e => ?_
    subst e
    have := D.slotsOk.once x o d' ho hd i o' ho' hd'
    subst this
    rw [hi] at hc; cases hc
  have hS : ¬ S x := fun h => by rw [D.sub x h] at hc; cases hc
  refine ⟨hp, D.slotsOk, D.opsOk, hrl, D.lin, fun i hi => (bit i).2 (.inl (D.sub i hi)), ?_, ?_, by intro i o d h1 h2; rw [Tm.set_sz]; exact D.inb i o d h1 h2, ?_, by rw [Tm.set_sz]; exact D.size, by rw [Tm.set_sz]; exact D.small, ?_, ?_, ?_, ?_, fun _ => hv, fun h => Bool.noConfusion h⟩
  · intro i hi
    rcases (bit i).1 hi with h | rfl
    · exact D.bits i h
    · exact hx
  · intro i hi k hk
    rcases (bit i).1 hi with h | rfl
    · exact (bit k).2 (.inl (D.closed i h k hk))
    · exact (bit k).2 (.inl (hm k hk))
  · intro i hi hei
    rcases (bit i).1 hi with h | rfl
    · exact D.effs i h hei
    · rw [he] at hei; cases hei
  · intro t ht
    rw [Tm.set_sz] at ht
    rw [get t (fun e => absurd hsz (by subst e; exact Nat.not_lt.2 ht))]
    exact D.oob t ht
  · intro t ht
    have hne : t ≠ d := fun e => by
      subst e
      exact ht x o ((bit x).2 (.inr rfl)) hS ho hd
    rw [get t hne]
    exact D.slots t fun i o' hi hs ho' => ht i o' ((bit i).2 (.inl hi)) hs ho'
  · intro i o' d' hi hs ho' hd' hq hw
    rw [wantedA_congr (look i o' ((bit i).1 hi) ho')] at hw
    rcases (bit i).1 hi with h | rfl
    · rw [dst i o' d' h ho' hd']
      obtain ⟨b, g1, g2, g3, g4⟩ := D.ghost i o' d' h hs ho' hd' hq hw
      exact ⟨b, g1, g2, g3, by omega⟩
    · rw [ho] at ho'
      cases ho'
      rw [hd] at hd'
      cases hd'
      rw [getd]
      obtain ⟨b, g1, g2, g3, g4⟩ := hg hq hw
      exact ⟨b, g1, g2, by omega, g4⟩
  · intro i j oi oj di dj i1 i2 i3 i4 i5 i6 j1 j2 j3 j4 j5 j6 hid
    rw [wantedA_congr (look i oi ((bit i).1 i1) i3)] at i6
    rw [wantedA_congr (look j oj ((bit j).1 j1) j3)] at j6
    rcases (bit i).1 i1 with hi | rfl <;> rcases (bit j).1 j1 with hj | rfl
    · rw [dst i oi di hi i3 i4, dst j oj dj hj j3 j4] at hid
      exact D.apart i j oi oj di dj hi i2 i3 i4 i5 i6 hj j2 j3 j4 j5 j6 hid
    · exfalso
      rw [ho] at j3
      cases j3
      rw [hd] at j4
      cases j4
      rw [dst i oi di hi i3 i4, getd] at hid
      obtain ⟨b, g1, g2, g3, g4⟩ := D.ghost i oi di hi i2 i3 i4 i5 i6
      obtain ⟨b', k1, k2, k3, k4⟩ := hg j5 j6
      rw [g1, k1] at hid
      cases hid
      omega
    · exfalso
      rw [ho] at i3
      cases i3
      rw [hd] at i4
      cases i4
      rw [dst j oj dj hj j3 j4, getd] at hid
      obtain ⟨b, g1, g2, g3, g4⟩ := D.ghost j oj dj hj j2 j3 j4 j5 j6
      obtain ⟨b', k1, k2, k3, k4⟩ := hg i5 i6
      rw [g1, k1] at hid
      cases hid
      omega
    · rfl

/-- what has been found stays, where a slot that nobody looks at is written -/
theorem DrawAt.keepValid {q : List Nat} {x : Nat} {o : Oper} {d : Tmp} (D : DrawAt P X m A true lo hi tm tmps ops S C [] q rest) (v : Value) (hc : C.testBit x = false) (he : (effOf P ops.toList).testBit x = false)
    (ho : ops.toList[x]? = some o) (hd : o.dst = some d) {j : Nat} (hj : C.testBit j = true) (hs : ¬ S j) : Valid P X A ops (tm.set d v) j := by
  rcases D.valid rfl j hj hs with h | h
  · cases h
  · refine h.congr fun o' ho' => ⟨fun t hl => ?_, fun d' hd' => ?_⟩
    · rw [Tm.get_set tm D.small, if_neg]
      rintro ⟨rfl, _⟩
      rcases D.slotsOk.looks x o t ho hd j o' ho' hl with h | ⟨h, _⟩
      · rw [D.closed j hj x h] at hc; cases hc
      · rw [he] at h; cases h
    · rw [Tm.get_set tm D.small, if_neg]
      rintro ⟨rfl, _⟩
      have := D.slotsOk.once x o d' ho hd j o' ho' hd'
      subst this
      rw [hj] at hc; cases hc

/-- an effect has been done, in the world too -/
theorem DrawAt.effect {x : Nat} {p' r : List Nat} {o : Oper} {tm' : Tm} {tmps' : Array Value} {hi' : Nat} (D : DrawAt P X m A live lo hi tm tmps ops S C [] (x :: (again ops.toList.length (effOf P ops.toList) C (nth (masks ops.toList []) x) ops.toList.length ++ p')) (x :: r))
    (he : (effOf P ops.toList).testBit x = true) (hx : x < ops.size) (hc : C.testBit x = false) (hm : ∀ k, anc ops.toList k x → C.testBit k = true) (hp : PlanAt ops.toList (effOf P ops.toList) (alcOf P ops.toList) (C ||| (1 <<< x)) p')
    (ho : ops.toList[x]? = some o) (hhi : hi ≤ hi') (hsz : tm'.sz = tm.sz) (hsz' : tmps'.size = tmps.size) (hother : ∀ t, o.dst ≠ some t → tm'.get t = tm.get t ∧ tmps'.getD t undef = tmps.getD t undef)
    (hoob : ∀ t, tm'.sz ≤ t → tm'.get t = undef) (hself : ∀ t, o.dst = some t → VRel m (tm'.get t) (tmps'.getD t undef)) :
    DrawAt P X m A' true lo hi' tm' tmps' ops (fun j => S j ∨ j = x) (C ||| (1 <<< x)) (again ops.toList.length (effOf P ops.toList) C (nth (masks ops.toList []) x) ops.toList.length) p' r := by
  obtain ⟨_, hnS, hanc, hlin⟩ := D.lin
  have bit : ∀ j, (C ||| (1 <<< x)).testBit j = true ↔ (C.testBit j = true ∨ j = x) := fun j => by rw [or_bit]; simp
  have pend : ∀ j, (C ||| (1 <<< x)).testBit j = true → ¬ (S j ∨ j = x) → C.testBit j = true ∧ ¬ S j ∧ j ≠ x := fun j hj hs =>
    ⟨((bit j).1 hj).resolve_right fun h => hs (.inr h), fun h => hs (.inl h), fun h => hs (.inr h)⟩
  have look : ∀ i o', C.testBit i = true → ¬ S i → ops.toList[i]? = some o' → ∀ t, looksAtA ops.toList o' t = true → tm'.get t = tm.get t := by
    intro i o' hi hs ho' t hl
    refine (hother t fun e => ?_).1
    rcases D.slotsOk.looks x o t ho e i o' ho' hl with h | ⟨_, h | h⟩
    · rw [D.closed i hi x h] at hc; cases hc
    · subst h; rw [hi] at hc; cases hc
    · exact hs (hanc i h)
  have dst : ∀ i o' d', C.testBit i = true → ops.toList[i]? = some o' → o'.dst = some d' → tm'.get d' = tm.get d' := by
    intro i o' d' hi ho' hd'
    refine (hother d' fun e => ?_).1
    have := D.slotsOk.once x o d' ho e i o' ho' hd'
    subst this
    rw [hi] at hc; cases hc
  refine ⟨hp, D.slotsOk, D.opsOk, ?_, hlin, ?_, ?_, ?_, by rw [hsz]; exact D.inb, ?_, by rw [hsz, hsz']; exact D.size, by rw [hsz]; exact D.small, hoob, ?_, ?_, ?_, ?_, fun h => Bool.noConfusion h⟩
  · intro y hy
    obtain ⟨k, _, rfl, _⟩ := (again_mem _ _ _ _ _ y).1 hy
    simp
  · rintro i (hi | rfl)
    · exact (bit i).2 (.inl (D.sub i hi))
    · exact (bit i).2 (.inr rfl)
  · intro i hi
    rcases (bit i).1 hi with h | rfl
    · exact D.bits i h
    · exact hx
  · intro i hi k hk
    rcases (bit i).1 hi with h | rfl
    · exact (bit k).2 (.inl (D.closed i h k hk))
    · exact (bit k).2 (.inl (hm k hk))
  · intro i hi hei
    rcases (bit i).1 hi with h | rfl
    · exact .inl (D.effs i h hei)
    · exact .inr rfl
  · intro t ht
    by_cases e : o.dst = some t
    · exact hself t e
    · obtain ⟨h1, h2⟩ := hother t e
      rw [h1, h2]
      exact D.slots t fun i o' hi hs ho' hd' => ht i o' ((bit i).2 (.inl hi)) (fun h => h.elim hs fun h => by subst h; rw [hi] at hc; cases hc) ho' hd'
  · intro i o' d' hi hs ho' hd' hq hw
    obtain ⟨p1, p2, p3⟩ := pend i hi hs
    rw [wantedA_congr (look i o' p1 p2 ho')] at hw
    rw [dst i o' d' p1 ho' hd']
    obtain ⟨b, g1, g2, g3, g4⟩ := D.ghost i o' d' p1 p2 ho' hd' hq hw
    exact ⟨b, g1, g2, g3, by omega⟩
  · intro i j oi oj di dj i1 i2 i3 i4 i5 i6 j1 j2 j3 j4 j5 j6 hid
    obtain ⟨p1, p2, p3⟩ := pend i i1 i2
    obtain ⟨q1, q2, q3⟩ := pend j j1 j2
    rw [wantedA_congr (look i oi p1 p2 i3)] at i6
    rw [wantedA_congr (look j oj q1 q2 j3)] at j6
    rw [dst i oi di p1 i3 i4, dst j oj dj q1 j3 j4] at hid
    exact D.apart i j oi oj di dj p1 p2 i3 i4 i5 i6 q1 q2 j3 j4 j5 j6 hid
  · intro _ j hj hs
    obtain ⟨p1, p2, p3⟩ := pend j hj hs
    refine .inl ((again_mem _ _ _ _ _ _).2 ⟨j, by simpa using D.bits j p1, by simp, p1, ?_, ?_⟩)
    · cases h : (effOf P ops.toList).testBit j with
      | false => rfl
      | true => exact absurd (D.effs j p1 h) p2
    · cases h : (nth (masks ops.toList []) x).testBit j with
      | false => rfl
      | true => exact absurd (hanc j h) p2

theorem DrawAt.toWait {x : Nat} {p' r : List Nat} (D : DrawAt P X m A true lo hi tm tmps ops S C [] (x :: p') (x :: r)) (he : (effOf P ops.toList).testBit x = true) (hi' : Nat) (hhi : hi ≤ hi') : DrawAt P X m A' false lo hi' tm tmps ops S C [] (x :: p') (x :: r) :=
  { D with
    ghost := fun i o d h1 h2 h3 h4 h5 h6 => by
      obtain ⟨b, g1, g2, g3, g4⟩ := D.ghost i o d h1 h2 h3 h4 h5 h6
      exact ⟨b, g1, g2, g3, by omega⟩
    valid := fun h => Bool.noConfusion h
    wait := fun _ => ⟨rfl, x, p', r, rfl, rfl, he⟩ }

theorem DrawAt.mono {m' : Inj P} {hi' : Nat} (D : DrawAt P X m A false lo hi tm tmps ops S C rl pl rest) (h : m.le m') (hs : ∀ i, i < hi → m' i = m i) (hhi : hi ≤ hi') : DrawAt P X m' A' false lo hi' tm tmps ops S C rl pl rest :=
  { D with
    slots := fun t ht => (D.slots t ht).mono h
    ghost := fun i o d h1 h2 h3 h4 h5 h6 => by
      obtain ⟨b, g1, g2, g3, g4⟩ := D.ghost i o d h1 h2 h3 h4 h5 h6
      exact ⟨b, g1, by rw [hs b g4]; exact g2, g3, by omega⟩
    valid := fun h => Bool.noConfusion h }

theorem DrawAt.done (D : DrawAt P X m A true lo hi tm tmps ops S C [] [] []) : TmRel m tm tmps := by
  refine ⟨D.size, D.small, fun t => D.slots t fun i o hc hs ho _ => ?_⟩
  exact hs (D.lin i (by simpa using D.bits i hc))

theorem DrawAt.start {p : List Nat} {hi : Nat} (hT : TmRel m tm tmps) (hp : planA P ops.toList = some p) (ho : ops.toList.all (opOk P) = true) (hin : ∀ (i : Nat) (o : Oper) (d : Tmp), ops.toList[i]? = some o → o.dst = some d → d < tm.sz)
    (hl : Lin ops.toList (fun _ => False) rest) : DrawAt P X m A true lo hi tm tmps ops (fun _ => False) 0 [] p rest := by
  obtain ⟨h1, h2⟩ := planA_spec hp
  refine ⟨h2, h1, ho, fun x hx => by (cases hx), hl, fun i h => h.elim, fun i h => ?_, fun i h => ?_, hin, fun i h => ?_, hT.size, hT.small, hT.oob, fun t _ => hT.val t, fun i o d h => ?_, fun i j o q d e h => ?_, fun _ i h => ?_, fun h => Bool.noConfusion h⟩
  all_goals (rw [Nat.zero_testBit] at h; cases h)

theorem dstsIn_spec {n : Nat} : ∀ {l : List Oper}, dstsIn n l = true → ∀ (i : Nat) (o : Oper) (d : Tmp), l[i]? = some o → o.dst = some d → d < n
  | [], _, i, o, d, h, _ => by simp at h
  | x :: r, h, i, o, d, ho, hd => by
    simp only [dstsIn, Bool.and_eq_true] at h
    cases i with
    | zero =>
      simp at ho
      subst ho
      have := h.1
      rw [hd] at this
      exact blt_true.1 this
    | succ i => exact dstsIn_spec h.2 i o d (by simpa using ho) hd

end
end Go.Abs

namespace Go.Abs

section
variable {P : Program} {X : XNames}

/-! related frames -/
structure PRel (m : Inj P) (p p' : PanicEntry) : Prop where
  v : VRel m p.v p'.v
  recovered : p'.recovered = p.recovered
  goexit : p'.goexit = p.goexit
theorem PRel.mono {m m' : Inj P} (h : m.le m') {p p' : PanicEntry} (r : PRel m p p') : PRel m' p p' := ⟨r.v.mono h, r.recovered, r.goexit⟩

inductive ModeRel (m : Inj P) : FrameMode → FrameMode → Prop
  | run : ModeRel m .run .run
  | returning : ModeRel m .returning .returning
  | panicking {c c' : List PanicEntry} (h : All2 (PRel m) c c') : ModeRel m (.panicking c) (.panicking c')
theorem ModeRel.mono {m m' : Inj P} (h : m.le m') {a b : FrameMode} (r : ModeRel m a b) : ModeRel m' a b := by
  cases r with
  | run => exact .run
  | returning => exact .returning
  | panicking r => exact .panicking (r.mono fun _ _ x => x.mono h)

def RoundRel (m : Inj P) : Option Nat → Option Nat → Prop
  | none, none => True
  | some l, some l' => m l = some (l', 0)
  | _, _ => False
theorem RoundRel.mono {m m' : Inj P} (h : m.le m') {a b : Option Nat} (r : RoundRel m a b) : RoundRel m' a b := by
  cases a <;> cases b <;> first | exact r | exact h.map _ _ r

def IRel (m : Inj P) : Item → Item → Prop
  | .code c, x => x = .code c ∧ codeOk P c = true
  | .inBlock id, x => x = .inBlock id
  | .inLoop b, x => x = .inLoop b ∧ codeOk P b = true
  | .inScope b, x => x = .inScope b ∧ codeOk P b = true
  | .inRegion ops l, x => x = .inRegion ops l ∧ ops.toList.all (opOk P) = true
  | .inRangeFunc l, x => ∃ l', x = .inRangeFunc l' ∧ m l = some (l', 0)
  | .endRangeFunc l, x => ∃ l', x = .endRangeFunc l' ∧ m l = some (l', 0)
  | .beginRound, x => x = .beginRound
  | _, _ => False
theorem IRel.mono {m m' : Inj P} (h : m.le m') {a b : Item} (r : IRel m a b) : IRel m' a b := by
  cases a <;> first
    | exact r
    | (obtain ⟨l', e, hm⟩ := r; exact ⟨l', e, h.map _ _ hm⟩)

structure FCore (m : Inj P) (a : AFr) (f : Frame) : Prop where
  fn : f.fn = a.fn
  kind : f.kind = a.kind
  kindOk : a.kind = .normal ∨ a.kind = .deferred
  mode : ModeRel m a.mode f.mode
  round : RoundRel m a.roundOf f.roundOf
  defers : All2 (DRel m) a.defers f.defers
theorem FCore.mono {m m' : Inj P} (h : m.le m') {a : AFr} {f : Frame} (r : FCore m a f) : FCore m' a f :=
  ⟨r.fn, r.kind, r.kindOk, r.mode.mono h, r.round.mono h, r.defers.mono fun _ _ x => x.mono h⟩

inductive FBody (P : Program) (X : XNames) (m : Inj P) (A : AW) (live : Bool) (lo hi : Nat) (a : AFr) (f : Frame) : Prop
  | plain (h : a.dr = false) (tm : TmRel m a.tm f.tmps) (todo : All2 (IRel m) a.todo f.todo)
  | draw (ops : Array Oper) (S : Nat → Prop) (C : Nat) (rl pl rest : List Nat) (k k' : List Item) (h : a.dr = true) (mode : a.mode = .run) (ta : a.todo = .inRegion ops (rl ++ pl) :: k) (tf : f.todo = .inRegion ops rest :: k')
      (hk : All2 (IRel m) k k') (D : DrawAt P X m A live lo hi a.tm f.tmps ops S C rl pl rest)

structure FRel (P : Program) (X : XNames) (m : Inj P) (A : AW) (live : Bool) (lo hi : Nat) (a : AFr) (f : Frame) : Prop where
  core : FCore m a f
  body : FBody P X m A live lo hi a f

theorem FRel.mono {m m' : Inj P} {A A' : AW} {lo hi hi' : Nat} {a : AFr} {f : Frame} (r : FRel P X m A false lo hi a f) (h : m.le m') (hs : ∀ i, i < hi → m' i = m i) (hhi : hi ≤ hi') : FRel P X m' A' false lo hi' a f := by
  refine ⟨r.core.mono h, ?_⟩
  cases r.body with
  | plain g tm todo => exact .plain g (tm.mono h) (todo.mono fun _ _ x => x.mono h)
  | draw ops S C rl pl rest k k' g1 g2 g3 g4 g5 D => exact .draw ops S C rl pl rest k k' g1 g2 g3 g4 (g5.mono fun _ _ x => x.mono h) (D.mono h hs hhi)

/-- the frames below: what each has not made in the world yet lies below 'hi' -/
inductive Stk (P : Program) (X : XNames) (m : Inj P) (A : AW) (base : Nat) : Nat → List AFr → List Frame → Prop
  | nil (hi : Nat) (h : base ≤ hi) : Stk P X m A base hi [] []
  | cons (lo hi : Nat) (a : AFr) (f : Frame) (l : List AFr) (l' : List Frame) (h : lo ≤ hi) (r : FRel P X m A false lo hi a f) (t : Stk P X m A base lo l l') : Stk P X m A base hi (a :: l) (f :: l')

theorem Stk.base {m : Inj P} {A : AW} {base hi : Nat} {l : List AFr} {l' : List Frame} (s : Stk P X m A base hi l l') : base ≤ hi := by
  induction s with
  | nil hi h => exact h
  | cons lo hi a f l l' h r t ih => omega

theorem Stk.mono {m m' : Inj P} {A A' : AW} {base hi : Nat} {l : List AFr} {l' : List Frame} (s : Stk P X m A base hi l l') (h : m.le m') : (∀ i, i < hi → m' i = m i) → Stk P X m' A' base hi l l' := by
  induction s with
  | nil hi h => intro _; exact .nil hi h
  | cons lo hi a f l l' hl r t ih => intro hs; exact .cons lo hi a f l l' hl (r.mono h hs (Nat.le_refl _)) (ih fun i hi => hs i (by omega))

theorem Stk.up {m : Inj P} {A : AW} {base hi hi' : Nat} {l : List AFr} {l' : List Frame} (s : Stk P X m A base hi l l') (h : hi ≤ hi') : Stk P X m A base hi' l l' := by
  cases s with
  | nil _ hb => exact .nil hi' (by omega)
  | cons lo _ a f l l' hl r t => exact .cons lo hi' a f l l' (by omega) (r.mono (.refl m) (fun _ _ => rfl) h) t

/-- the frame at the bottom -/
def Bot (f0 : FuncId) : List AFr → Prop
  | [] => False
  | [x] => x.kind = .normal ∧ x.fn = f0 ∧ x.roundOf = none
  | _ :: r => Bot f0 r

theorem Bot.tail {f0 : FuncId} {x y : AFr} {r : List AFr} (h : Bot f0 (x :: y :: r)) : Bot f0 (y :: r) := h
theorem Bot.push {f0 : FuncId} {x : AFr} {r : List AFr} (h : Bot f0 r) : Bot f0 (x :: r) := by
  cases r with
  | nil => exact h.elim
  | cons y r => exact h
theorem Bot.top {f0 : FuncId} {x y : AFr} {r : List AFr} (h : Bot f0 (x :: r)) (h1 : y.kind = x.kind) (h2 : y.fn = x.fn) (h3 : y.roundOf = x.roundOf) : Bot f0 (y :: r) := by
  cases r with
  | nil => exact ⟨h1.trans h.1, h2.trans h.2.1, h3.trans h.2.2⟩
  | cons z r => exact h

/-- the world is where the abstract machine is -/
structure SRel (P : Program) (X : XNames) (f0 : FuncId) (base lo : Nat) (m : Inj P) (s : ASt) (f : Frame) (cs : List Frame) (w : World) : Prop where
  rel : Rel m s.w w
  glob : GOk m
  below : lo ≤ s.w.next
  top : FRel P X m s.w true lo s.w.next s.fr f
  stk : Stk P X m s.w base lo s.cs cs
  bot : Bot f0 (s.fr :: s.cs)

/-- what a step of the abstract machine says of the world -/
def Sim (P : Program) (X : XNames) (f0 : FuncId) (base : Nat) (cs0 : List Frame) (m : Inj P) (A : AW) (w : World) (mach : Machine) (s' : ASt) : Prop :=
  ∃ lo' m' f' cs' w', Steps P mach (lone f' (cs' ++ cs0) w') ∧ EvL base m A w m' s'.w w' ∧ SRel P X f0 base lo' m' s' f' cs' w'

/-! finishing -/
theorem fin_plain {m : Inj P} {a : AFr} {f : Frame} (htm : TmRel m a.tm f.tmps) (htodo : All2 (IRel m) a.todo f.todo) {v v' : Value} (hv : VRel m v v') : TmRel m (a.finish v).tm (f.finish v').tmps ∧ All2 (IRel m) (a.finish v).todo (f.finish v').todo := by
  cases hta : a.todo with
  | nil =>
    rw [hta] at htodo
    generalize htf : f.todo = y at htodo
    cases htodo
    simp only [AFr.finish, hta, Frame.finish, htf]
    exact ⟨htm, by exact .nil⟩
  | cons x k =>
    rw [hta] at htodo
    generalize htf : f.todo = y at htodo
    cases htodo with
    | cons hx hk =>
      rename_i x' k'
      cases x with
      | code c =>
        obtain ⟨rfl, hc⟩ := hx
        simp only [AFr.finish, hta, Frame.finish, htf]
        exact ⟨htm, .cons ⟨rfl, hc⟩ hk⟩
      | inBlock id =>
        have hx : x' = .inBlock id := hx
        subst hx
        simp only [AFr.finish, hta, Frame.finish, htf]
        exact ⟨htm, .cons rfl hk⟩
      | inLoop b =>
        obtain ⟨rfl, hc⟩ := hx
        simp only [AFr.finish, hta, Frame.finish, htf]
        exact ⟨htm, .cons ⟨rfl, hc⟩ hk⟩
      | inScope b =>
        obtain ⟨rfl, hc⟩ := hx
        simp only [AFr.finish, hta, Frame.finish, htf]
        exact ⟨htm, .cons ⟨rfl, hc⟩ hk⟩
      | inRegion ops l =>
        obtain ⟨rfl, hc⟩ := hx
        cases l with
        | nil =>
          simp only [AFr.finish, hta, Frame.finish, htf]
          exact ⟨htm, .cons ⟨rfl, hc⟩ hk⟩
        | cons i l =>
          simp only [AFr.finish, hta, Frame.finish, htf]
          refine ⟨?_, .cons ⟨rfl, hc⟩ hk⟩
          cases ho : ops[i]? with
          | none =>
            have : ops.toList[i]? = none := by simpa using ho
            rw [this]
            exact htm
          | some o =>
            have : ops.toList[i]? = some o := by simpa using ho
            rw [this]
            simp only [Option.bind_some]
            cases o.dst with
            | none => exact htm
            | some d => exact htm.set hv
      | inRangeFunc l =>
        obtain ⟨l', rfl, hl⟩ := hx
        simp only [AFr.finish, hta, Frame.finish, htf]
        exact ⟨htm, .cons ⟨l', rfl, hl⟩ hk⟩
      | endRangeFunc l =>
        obtain ⟨l', rfl, hl⟩ := hx
        simp only [AFr.finish, hta, Frame.finish, htf]
        exact ⟨htm, .cons ⟨l', rfl, hl⟩ hk⟩
      | beginRound =>
        have hx : x' = .beginRound := hx
        subst hx
        simp only [AFr.finish, hta, Frame.finish, htf]
        exact ⟨htm, hk⟩
      | call => exact hx.elim
      | extern => exact hx.elim

theorem finishA_same (a : AFr) (v : Value) : (a.finish v).fn = a.fn ∧ (a.finish v).kind = a.kind ∧ (a.finish v).mode = a.mode ∧ (a.finish v).roundOf = a.roundOf ∧ (a.finish v).defers = a.defers ∧ (a.finish v).dr = a.dr := by
  unfold AFr.finish
  split <;> exact ⟨rfl, rfl, rfl, rfl, rfl, rfl⟩
theorem finish_same (f : Frame) (v : Value) : (f.finish v).fn = f.fn ∧ (f.finish v).kind = f.kind ∧ (f.finish v).mode = f.mode ∧ (f.finish v).roundOf = f.roundOf ∧ (f.finish v).defers = f.defers := by
  unfold Frame.finish
  split <;> exact ⟨rfl, rfl, rfl, rfl, rfl⟩

theorem IRel.noHand {m : Inj P} : ∀ {k k' : List Item}, All2 (IRel m) k k' → noHand k'
  | _, _, .nil => trivial
  | x :: _, _, .cons h _ => by
    cases x <;> first
      | (obtain ⟨rfl, _⟩ := h; trivial)
      | (obtain ⟨_, rfl, _⟩ := h; trivial)
      | (have h : _ = _ := h; subst h; trivial)
      | exact h.elim

theorem FRel.noHand {m : Inj P} {A : AW} {live : Bool} {lo hi : Nat} {a : AFr} {f : Frame} (r : FRel P X m A live lo hi a f) : noHand f.todo := by
  cases r.body with
  | plain h tm todo => exact IRel.noHand todo
  | draw ops S C rl pl rest k k' h1 h2 h3 h4 h5 D => rw [h4]; trivial

theorem FCore.finish {m : Inj P} {a : AFr} {f : Frame} (h : FCore m a f) (_hn : Abs.noHand f.todo) (v v' : Value) : FCore m (a.finish v) (f.finish v') := by
  obtain ⟨a1, a2, a3, a4, a5, a6⟩ := finishA_same a v
  obtain ⟨b1, b2, b3, b4, b5⟩ := finish_same f v'
  exact ⟨by rw [a1, b1]; exact h.fn, by rw [a2, b2]; exact h.kind, by rw [a2]; exact h.kindOk, by rw [a3, b3]; exact h.mode, by rw [a4, b4]; exact h.round, by rw [a5, b5]; exact h.defers⟩

/-- a frame that waits for an answer gets it -/
theorem FRel.finish {m : Inj P} {A : AW} {lo hi hi' : Nat} {a : AFr} {f : Frame} (r : FRel P X m A false lo hi a f) {v v' : Value} (hv : VRel m v v') (hhi : hi ≤ hi') : FRel P X m A true lo hi' (a.finish v) (f.finish v') := by
  refine ⟨r.core.finish r.noHand v v', ?_⟩
  cases r.body with
  | plain h tm todo =>
    obtain ⟨h1, h2⟩ := fin_plain tm todo hv
    exact .plain ((finishA_same a v).2.2.2.2.2.trans h) h1 h2
  | draw ops S C rl pl rest k k' h1 h2 h3 h4 h5 D =>
    obtain ⟨rfl, x, p', r', rfl, rfl, he⟩ := D.wait rfl
    have hplan := D.plan
    cases hplan with
    | pure _ _ _ g1 g2 => rw [g2] at he; cases he
    | alloc _ _ _ g1 g2 => rw [g2] at he; cases he
    | effect _ _ p g1 g2 g3 g4 g5 g6 =>
      obtain ⟨o, ho⟩ : ∃ o, ops.toList[x]? = some o := ⟨_, List.getElem?_eq_getElem g1⟩
      rw [finishA_region h3 ho v, finish_region h4 ho v']
      refine .draw ops (fun j => S j ∨ j = x) (C ||| (1 <<< x)) (again ops.toList.length (effOf P ops.toList) C (nth (masks ops.toList []) x) ops.toList.length) p r' k k' h1 h2 rfl rfl h5 ?_
      cases hd : o.dst with
      | none =>
        refine D.effect g2 (by simpa using g1) g3 g4 g6 ho hhi rfl rfl (fun t _ => ⟨rfl, rfl⟩) D.oob fun t ht => ?_
        rw [hd] at ht; cases ht
      | some d =>
        have hin := D.inb x o d ho hd
        refine D.effect g2 (by simpa using g1) g3 g4 g6 ho hhi (Tm.set_sz _ _ _) (by simp) (fun t ht => ?_) (fun t ht => ?_) fun t ht => ?_
        · have hne : t ≠ d := fun e => ht (by rw [hd, e])
          rw [Tm.get_set _ D.small, if_neg (fun h => hne h.1), getD_set, if_neg (fun h => hne h.1)]
          exact ⟨rfl, rfl⟩
        · rw [Tm.set_sz] at ht
          rw [Tm.get_set _ D.small, if_neg (by omega)]
          exact D.oob t ht
        · rw [hd] at ht
          cases ht
          rw [Tm.get_set _ D.small, if_pos ⟨rfl, hin⟩, getD_set, if_pos ⟨rfl, by rw [D.size]; exact hin⟩]
          exact hv

end
end Go.Abs

namespace Go.Abs

section
variable {P : Program} {X : XNames}

/-- what the machine asks of a program -/
structure POk (P : Program) : Prop where
  code : ∀ (f : FuncId) (fn : Func) (c : Code), P.funcs[f]? = some fn → fn.body = some c → codeOk P c = true
  mixed : P.follows .mixedOrders = true

/-! entering a function -/
theorem fill_get : ∀ (l : List Value) (tm : Tm) (i t : Nat), tm.sz < maxId → (Tm.fill tm i l).sz = tm.sz ∧ (Tm.fill tm i l).get t = if i ≤ t ∧ t < tm.sz then (match l[t - i]? with | some v => v | none => tm.get t) else tm.get t
  | [], tm, i, t, _ => by simp [Tm.fill]
  | v :: r, tm, i, t, hs => by
    have ih := fill_get r (tm.set i v) (i + 1) t (by rw [Tm.set_sz]; exact hs)
    rw [Tm.set_sz] at ih
    refine ⟨ih.1, ?_⟩
    show (Tm.fill (tm.set i v) (i + 1) r).get t = _
    rw [ih.2, Tm.get_set tm hs]
    by_cases e : t = i
    · subst e
      rw [if_neg (by omega)]
      by_cases h : t < tm.sz
      · simp [h]
      · simp [h]
    · have g : (if t = i ∧ i < tm.sz then v else tm.get t) = tm.get t := if_neg (fun h => e h.1)
      rw [g]
      by_cases h : i + 1 ≤ t ∧ t < tm.sz
      · rw [if_pos h, if_pos (by omega), show t - i = (t - (i + 1)) + 1 by omega]
        rfl
      · rw [if_neg h, if_neg (by omega)]

theorem fill_rel {m : Inj P} {args args' : List Value} (ha : VRels m args args') {n k : Nat} (hn : n < maxId) (hle : args.length ≤ n) (hk : k = n - args.length) :
    TmRel m (Tm.fill ⟨n, .nil⟩ 0 args) (⟨args'⟩ ++ Array.replicate k undef) := by
  have hl := ha.length
  refine ⟨?_, ?_, fun t => ?_⟩
  · rw [(fill_get args ⟨n, .nil⟩ 0 0 hn).1]
    simp
    omega
  · rw [(fill_get args ⟨n, .nil⟩ 0 0 hn).1]; exact hn
  · rw [(fill_get args ⟨n, .nil⟩ 0 t hn).2]
    have hnil : (⟨n, .nil⟩ : Tm).get t = undef := rfl
    rw [hnil, Array.getD_eq_getD_getElem?, Array.getElem?_append]
    simp only [Nat.zero_le, true_and, Nat.sub_zero, List.size_toArray]
    by_cases h : t < args.length
    · rw [if_pos (show t < n by omega), if_pos (show t < args'.length by omega)]
      obtain ⟨v', h1, h2⟩ := ha.get (List.getElem?_eq_getElem h)
      rw [List.getElem?_eq_getElem h]
      simp only [List.getElem?_toArray, h1, Option.getD_some]
      exact h2
    · rw [if_neg (show ¬ t < args'.length by omega), List.getElem?_eq_none (by omega)]
      have : ((Array.replicate k undef)[t - args'.length]?).getD undef = undef := by
        simp only [Array.getElem?_replicate]
        split <;> rfl
      rw [this]
      simp only [ite_self]
      exact undef_rel m

theorem enter_rel (hP : POk P) {m : Inj P} {A : AW} {f : FuncId} {args args' : List Value} {kind : CallKind} {fr : AFr} (h : enterA P f args kind = some fr) (ha : VRels m args args') (hk : kind = .normal ∨ kind = .deferred) (lo hi : Nat) :
    FRel P X m A true lo hi fr (Frame.enter P f ⟨args'⟩ kind) ∧ fr.kind = kind ∧ fr.fn = f ∧ fr.roundOf = none := by
  unfold enterA at h
  split at h
  rotate_left
  · cases h
  rename_i fn hf
  split at h
  rotate_left
  · cases h
  rename_i c hb
  simp only at h
  have hl := ha.length
  have hmax : (bif Nat.ble fn.ntmps args.length then args.length else fn.ntmps) = max fn.ntmps args.length := by
    cases hc : Nat.ble fn.ntmps args.length with
    | true => have := ble_true.1 hc; simp only [cond_true]; omega
    | false => have := ble_false.1 hc; simp only [cond_false]; omega
  rw [hmax] at h
  cases hlt : Nat.blt (max fn.ntmps args.length) maxId with
  | false => rw [hlt] at h; cases h
  | true =>
    rw [hlt, cond_true, Option.some.injEq] at h
    subst h
    have hlt := blt_true.1 hlt
    refine ⟨⟨⟨rfl, rfl, hk, .run, trivial, .nil⟩, .plain rfl ?_ ?_⟩, rfl, rfl, rfl⟩
    · simp only [Frame.enter, hf, Option.map_some, Option.getD_some]
      exact fill_rel ha hlt (by omega) (by simp; omega)
    · simp only [Frame.enter, hf, hb, Option.bind_some, Option.getD_some]
      exact .cons ⟨rfl, hP.code f fn c hf hb⟩ .nil

/-! recover -/
theorem Stk.inv {m : Inj P} {A : AW} {base hi : Nat} {c : AFr} {rest : List AFr} {l' : List Frame} (s : Stk P X m A base hi (c :: rest) l') :
    ∃ lo f r', l' = f :: r' ∧ lo ≤ hi ∧ FRel P X m A false lo hi c f ∧ Stk P X m A base lo rest r' := by
  cases s with
  | cons lo _ _ f _ r' h r t => exact ⟨lo, f, r', rfl, h, r, t⟩

/-- with another mode, another end -/
theorem FRel.setMode {m : Inj P} {A : AW} {live live' : Bool} {lo hi : Nat} {a : AFr} {f : Frame} (r : FRel P X m A live lo hi a f) (hd : a.dr = false) {u u' : FrameMode} (hu : ModeRel m u u') :
    FRel P X m A live' lo hi { a with mode := u } { f with mode := u' } := by
  refine ⟨⟨r.core.fn, r.core.kind, r.core.kindOk, hu, r.core.round, r.core.defers⟩, ?_⟩
  cases r.body with
  | plain h tm todo => exact .plain h tm todo
  | draw ops S C rl pl rest k k' h1 => rw [hd] at h1; cases h1

theorem FRel.plainOf {m : Inj P} {A : AW} {live : Bool} {lo hi : Nat} {a : AFr} {f : Frame} (r : FRel P X m A live lo hi a f) (hm : a.mode ≠ .run) : a.dr = false := by
  cases r.body with
  | plain h tm todo => exact h
  | draw ops S C rl pl rest k k' h1 h2 => exact absurd h2 hm

theorem FRel.plainLive {m : Inj P} {A : AW} {live live' : Bool} {lo hi hi' : Nat} {a : AFr} {f : Frame} (r : FRel P X m A live lo hi a f) (hd : a.dr = false) : FRel P X m A live' lo hi' a f := by
  refine ⟨r.core, ?_⟩
  cases r.body with
  | plain h tm todo => exact .plain h tm todo
  | draw ops S C rl pl rest k k' h1 => rw [hd] at h1; cases h1

theorem recover_sim {m : Inj P} {A : AW} {base hi : Nat} {a : AFr} {f : Frame} {cs : List AFr} {csW cs0 : List Frame} (hk : f.kind = a.kind) (hb : cs = [] → a.kind = .normal) (hko : a.kind = .normal ∨ a.kind = .deferred) (s : Stk P X m A base hi cs csW) :
    match tryRecoverA a cs with
    | none => tryRecover f (csW ++ cs0) = none
    | some (v, cs') => ∃ v' csW', tryRecover f (csW ++ cs0) = some (v', csW' ++ cs0) ∧ VRel m v v' ∧ Stk P X m A base hi cs' csW' ∧ (∀ f0 x, Bot f0 (x :: cs) → Bot f0 (x :: cs')) := by
  unfold tryRecoverA tryRecover
  rw [hk]
  rcases hko with hn | hn
  · rw [hn]
  · rw [hn]
    cases cs with
    | nil => rw [hb rfl] at hn; cases hn
    | cons c rest =>
      obtain ⟨lo, g, r', rfl, h1, h2, h3⟩ := s.inv
      simp only [List.cons_append]
      have hmode := h2.core.mode
      generalize hcm : c.mode = cm at hmode
      generalize hgm : g.mode = gm at hmode
      cases hmode with
      | run => simp
      | returning => simp
      | panicking hch =>
        cases hch with
        | nil => simp
        | cons hp ht =>
          rename_i p p' older older'
          obtain ⟨v, rc, ge⟩ := p
          obtain ⟨v', rc', ge'⟩ := p'
          have e1 : rc' = rc := hp.recovered
          have e2 : ge' = ge := hp.goexit
          subst e1 e2
          cases rc' <;> cases ge' <;> simp only
          case false.false =>
            refine ⟨v', { g with mode := .panicking ({ v := v', recovered := true } :: older') } :: r', rfl, hp.v, ?_, fun f0 x hbot => ?_⟩
            · exact .cons lo hi _ _ _ _ h1 (h2.setMode (h2.plainOf (by rw [hcm]; simp)) (.panicking (.cons ⟨hp.v, rfl, rfl⟩ ht))) h3
            · have : Bot f0 (c :: rest) := hbot
              exact Bot.push (this.top (y := { c with mode := _ }) rfl rfl rfl)

/-! an operation's answer -/
theorem Bot.kind {f0 : FuncId} {x : AFr} {cs : List AFr} (h : Bot f0 (x :: cs)) : cs = [] → x.kind = .normal := by
  intro e
  subst e
  exact h.1

theorem Bot.finish {f0 : FuncId} {x : AFr} {cs : List AFr} (h : Bot f0 (x :: cs)) (v : Value) : Bot f0 (x.finish v :: cs) := by
  obtain ⟨a1, a2, a3, a4, a5, a6⟩ := finishA_same x v
  exact h.top a2 a1 a4

theorem apply_sim (hP : POk P) {f0 : FuncId} {base lo : Nat} {m : Inj P} {A : AW} {w : World} {fr : AFr} {f : Frame} {cs : List AFr} {csW cs0 : List Frame} {res : R AN} {s : Sem Next} {s' : ASt}
    (hr : RNext P m A w res s) (hG : GOk m) (hlo : lo ≤ A.next) (ht : FRel P X m A false lo A.next fr f) (hs : Stk P X m A base lo cs csW) (hb : Bot f0 (fr :: cs))
    (hn : ∀ i A', res ≠ .ok (.rangeNext i) A') (hout : applyA P fr cs false res = .next s') :
    ∃ f' csW' w', answer P f (csW ++ cs0) .normal false (s.run P w) = some (f', csW' ++ cs0, w') ∧ ∃ lo' m', EvL base m A w m' s'.w w' ∧ SRel P X f0 base lo' m' s' f' csW' w' := by
  have hbase := hs.base
  cases res with
  | fail y => cases hout
  | panic v A' =>
    obtain ⟨v', w', m', h1, h2, h3⟩ := hr
    simp only [applyA] at hout
    cases hd : fr.dr with
    | true => rw [hd] at hout; cases hout
    | false =>
      rw [hd] at hout
      simp only [cond_false, AOut.next.injEq] at hout
      subst hout
      refine ⟨_, csW, w', by rw [h1]; rfl, lo, m', (h2.low (by omega)), h2.rel, hG.mono h2.ext, by have := h2.next; show lo ≤ A'.next; omega, ?_, hs.mono h2.ext fun i hi => h2.same i (by omega), ?_⟩
      · have hf := (ht.mono (A' := A') h2.ext h2.same h2.next)
        have hmode := hf.core.mode
        simp only [AFr.raise, Frame.raise]
        generalize hcm : fr.mode = cm at hmode
        generalize hgm : f.mode = gm at hmode
        cases hmode with
        | run => exact hf.setMode hd (.panicking (.cons ⟨h3, rfl, rfl⟩ .nil))
        | returning => exact hf.setMode hd (.panicking (.cons ⟨h3, rfl, rfl⟩ .nil))
        | panicking hch => exact hf.setMode hd (.panicking (.cons ⟨h3, rfl, rfl⟩ hch))
      · refine hb.top ?_ ?_ ?_ <;> (unfold AFr.raise; split <;> rfl)
  | ok n A' =>
    have fin : ∀ (v v' : Value) (w' : World) (m' : Inj P) (fr2 : AFr) (f2 : Frame), Ev m A w m' A' w' → VRel m' v v' → FRel P X m' A' false lo A'.next fr2 f2 → Bot f0 (fr2 :: cs) →
        EvL base m A w m' A' w' ∧ SRel P X f0 base lo m' ⟨fr2.finish v, cs, A'⟩ (f2.finish v') csW w' := by
      intro v v' w' m' fr2 f2 h2 h3 h4 h5
      refine ⟨h2.low (by omega), h2.rel, hG.mono h2.ext, by have := h2.next; show lo ≤ A'.next; omega, h4.finish h3 (Nat.le_refl _), hs.mono h2.ext fun i hi => h2.same i (by omega), h5.finish v⟩
    cases n with
    | value v =>
      obtain ⟨n', w', m', h1, h2, v', rfl, h3⟩ := hr
      simp only [applyA, cond_false, AOut.next.injEq] at hout
      subst hout
      obtain ⟨g1, g2⟩ := fin v v' w' m' fr f h2 h3 (ht.mono h2.ext h2.same h2.next) hb
      exact ⟨_, csW, w', by rw [h1]; rfl, lo, m', g1, g2⟩
    | skip =>
      obtain ⟨n', w', m', h1, h2, h3⟩ := hr
      have h3 : n' = .skip := h3
      subst h3
      simp only [applyA, cond_false, AOut.next.injEq] at hout
      subst hout
      obtain ⟨g1, g2⟩ := fin undef undef w' m' fr f h2 (undef_rel m') (ht.mono h2.ext h2.same h2.next) hb
      exact ⟨_, csW, w', by rw [h1]; rfl, lo, m', g1, g2⟩
    | enter g args =>
      obtain ⟨n', w', m', h1, h2, args', rfl, h3⟩ := hr
      simp only [applyA, cond_false] at hout
      split at hout
      rotate_left
      · cases hout
      rename_i fr' he
      simp only [AOut.next.injEq] at hout
      subst hout
      obtain ⟨g1, g2, g3, g4⟩ := enter_rel (X := X) (A := A') hP he h3 (.inl rfl) A'.next A'.next
      refine ⟨_, f :: csW, w', by rw [h1]; rfl, A'.next, m', h2.low (by omega), h2.rel, hG.mono h2.ext, Nat.le_refl _, g1, ?_, hb.push⟩
      exact .cons lo A'.next fr f cs csW (by have := h2.next; omega) (ht.mono h2.ext h2.same h2.next) (hs.mono h2.ext fun i hi => h2.same i (by omega))
    | round l fn tm assign body =>
      obtain ⟨n', w', m', h1, h2, l', tmps', rfl, h3, h4, h5, h6⟩ := hr
      simp only [applyA, cond_false, AOut.next.injEq] at hout
      subst hout
      refine ⟨_, f :: csW, w', by rw [h1]; rfl, A'.next, m', h2.low (by omega), h2.rel, hG.mono h2.ext, Nat.le_refl _, ?_, ?_, hb.push⟩
      · refine ⟨⟨rfl, rfl, .inl rfl, .run, h3, .nil⟩, .plain rfl h4 (.cons ⟨rfl, h5⟩ (.cons rfl (.cons ⟨rfl, h6⟩ .nil)))⟩
      · exact .cons lo A'.next fr f cs csW (by have := h2.next; omega) (ht.mono h2.ext h2.same h2.next) (hs.mono h2.ext fun i hi => h2.same i (by omega))
    | defer d =>
      obtain ⟨n', w', m', h1, h2, d', rfl, h3⟩ := hr
      simp only [applyA, cond_false] at hout
      split at hout
      rotate_left
      · cases hout
      rename_i hro
      simp only [AOut.next.injEq] at hout
      subst hout
      have h4 := ht.mono (A' := A') h2.ext h2.same h2.next
      have h5 : FRel P X m' A' false lo A'.next { fr with defers := d :: fr.defers } { f with defers := d' :: f.defers } := by
        refine ⟨⟨h4.core.fn, h4.core.kind, h4.core.kindOk, h4.core.mode, h4.core.round, .cons h3 h4.core.defers⟩, ?_⟩
        cases h4.body with
        | plain q1 q2 q3 => exact .plain q1 q2 q3
        | draw ops S C rl pl rest k k' q1 q2 q3 q4 q5 D => exact .draw ops S C rl pl rest k k' q1 q2 q3 q4 q5 D
      obtain ⟨g1, g2⟩ := fin undef undef w' m' _ _ h2 (undef_rel m') h5 (hb.top rfl rfl rfl)
      exact ⟨_, csW, w', by rw [h1]; rfl, lo, m', g1, g2⟩
    | recover =>
      obtain ⟨n', w', m', h1, h2, h3⟩ := hr
      have h3 : n' = .recover := h3
      subst h3
      simp only [applyA, Bool.false_or] at hout
      cases hro : fr.roundOf with
      | some l => rw [hro] at hout; cases hout
      | none =>
        rw [hro] at hout
        simp only [Option.isSome_none, cond_false] at hout
        have hfro : f.roundOf = none := by
          have := ht.core.round
          rw [hro] at this
          cases hq : f.roundOf with
          | none => rfl
          | some l => rw [hq] at this; exact this.elim
        have h4 := ht.mono (A' := A') h2.ext h2.same h2.next
        have hs' : Stk P X m' A' base lo cs csW := hs.mono h2.ext fun i hi => h2.same i (by omega)
        have hrec := recover_sim (cs0 := cs0) h4.core.kind hb.kind h4.core.kindOk hs'
        cases htr : tryRecoverA fr cs with
        | none =>
          rw [htr] at hrec hout
          simp only [AOut.next.injEq] at hout
          subst hout
          obtain ⟨g1, g2⟩ := fin .nilIface .nilIface w' m' fr f h2 .nilIface h4 hb
          exact ⟨_, csW, w', by rw [h1]; simp only [answer, Bool.false_eq_true, if_false, hfro, hrec], lo, m', g1, g2⟩
        | some x =>
          obtain ⟨v, cs'⟩ := x
          rw [htr] at hrec hout
          obtain ⟨v', csW', e1, e2, e3, e4⟩ := hrec
          simp only [AOut.next.injEq] at hout
          subst hout
          refine ⟨_, csW', w', by rw [h1]; simp only [answer, Bool.false_eq_true, if_false, hfro, e1], lo, m', h2.low (by omega), h2.rel, hG.mono h2.ext, by have := h2.next; show lo ≤ A'.next; omega, h4.finish e2 (Nat.le_refl _), e3, (e4 f0 fr hb).finish v⟩
    | rangeNext i => exact absurd rfl (hn i A')

end
end Go.Abs

namespace Go.Abs

section
variable {P : Program} {X : XNames} {f0 : FuncId} {base lo : Nat} {m : Inj P} {A : AW} {w : World} {fr : AFr} {cs : List AFr} {f : Frame} {csW cs0 : List Frame}

/-- from one's own state on -/
theorem SRel.sim {s : ASt} {mach : Machine} {m' : Inj P} {w' : World} (h : SRel P X f0 base lo m' s f csW w') (hs : Steps P mach (lone f (csW ++ cs0) w')) (hev : EvL base m A w m' s.w w') : Sim P X f0 base cs0 m A w mach s :=
  ⟨lo, m', f, csW, w', hs, hev, h⟩

theorem SRel.baseLe {s : ASt} (h : SRel P X f0 base lo m s f csW w) : base ≤ lo := h.stk.base

/-- a step that only changes what is to be done -/
theorem SRel.todo {s : ASt} {mach : Machine} {k k' : List Item} (h : SRel P X f0 base lo m s f csW w) (hd : s.fr.dr = false) (hk : All2 (IRel m) k k') (hs : Steps P mach (lone { f with todo := k' } (csW ++ cs0) w)) :
    Sim P X f0 base cs0 m s.w w mach ⟨{ s.fr with todo := k }, s.cs, s.w⟩ := by
  refine ⟨lo, m, _, csW, w, hs, .refl h.rel base, h.rel, h.glob, h.below, ⟨⟨h.top.core.fn, h.top.core.kind, h.top.core.kindOk, h.top.core.mode, h.top.core.round, h.top.core.defers⟩, ?_⟩, h.stk, h.bot.top rfl rfl rfl⟩
  cases h.top.body with
  | plain h1 tm todo => exact .plain h1 tm hk
  | draw ops S C rl pl rest j j' h1 => rw [hd] at h1; cases h1

/-- a frame gives its answer to the one below -/
theorem SRel.answer {s : ASt} {mach : Machine} {c : AFr} {rest : List AFr} (h : SRel P X f0 base lo m s f csW w) (hcs : s.cs = c :: rest) {m' : Inj P} {A' : AW} {w' : World} (hev : Ev m s.w w m' A' w') {v v' : Value} (hv : VRel m' v v')
    (hs : ∀ g l, csW = g :: l → Steps P mach (lone (g.finish v') (l ++ cs0) w')) : Sim P X f0 base cs0 m s.w w mach ⟨c.finish v, rest, A'⟩ := by
  have hstk := h.stk
  rw [hcs] at hstk
  have hb := h.bot
  rw [hcs] at hb
  obtain ⟨lo1, g, l, rfl, h1, h2, h3⟩ := hstk.inv
  have hlo := h.below
  have hbase := h.baseLe
  refine ⟨lo1, m', g.finish v', l, w', hs g l rfl, hev.low (by omega), hev.rel, h.glob.mono hev.ext, by have := hev.next; show lo1 ≤ A'.next; omega, ?_, h3.mono hev.ext fun i hi => hev.same i (by omega), (Bot.tail hb).finish v⟩
  exact (h2.mono (A' := A') hev.ext (fun i hi => hev.same i (by omega)) (Nat.le_refl lo)).finish hv (by have := hev.next; show lo ≤ A'.next; omega)

theorem settled_rel {m : Inj P} {u u' : FrameMode} (h : ModeRel m u u') : ModeRel m (settled u) (settled u') := by
  cases h with
  | run => exact .run
  | returning => exact .returning
  | panicking hc =>
    cases hc with
    | nil => exact .panicking .nil
    | cons hp ht =>
      rename_i p p' older older'
      obtain ⟨v, rc, ge⟩ := p
      obtain ⟨v', rc', ge'⟩ := p'
      have e1 : rc' = rc := hp.recovered
      have e2 : ge' = ge := hp.goexit
      subst e1 e2
      cases rc' with
      | false => exact .panicking (.cons hp ht)
      | true =>
        have key : ∀ {l l' : List PanicEntry}, All2 (PRel m) l l' → All2 (PRel m) (l.dropWhile (!·.goexit)) (l'.dropWhile (!·.goexit)) := by
          intro l l' h
          induction h with
          | nil => exact .nil
          | cons hp ht ih =>
            rename_i q q' r r'
            simp only [List.dropWhile_cons]
            rw [show q'.goexit = q.goexit from hp.goexit]
            cases q.goexit with
            | false => exact ih
            | true => exact .cons hp ht
        have hk := key ht
        simp only [settled]
        generalize older.dropWhile (!·.goexit) = a at hk
        generalize older'.dropWhile (!·.goexit) = b at hk
        cases hk with
        | nil => exact .returning
        | cons hp ht => exact .panicking (.cons hp ht)

/-- a deferred call's frame has ended -/
theorem SRel.settle {s : ASt} {mach : Machine} {c : AFr} {rest : List AFr} (h : SRel P X f0 base lo m s f csW w) (hcs : s.cs = c :: rest) (hc : c.dr = false) {m' : Inj P} {A' : AW} {w' : World} (hev : Ev m s.w w m' A' w')
    (hs : ∀ g l, csW = g :: l → Steps P mach (lone { g with mode := settled g.mode } (l ++ cs0) w')) : Sim P X f0 base cs0 m s.w w mach ⟨{ c with mode := settled c.mode }, rest, A'⟩ := by
  have hstk := h.stk
  rw [hcs] at hstk
  have hb := h.bot
  rw [hcs] at hb
  obtain ⟨lo1, g, l, rfl, h1, h2, h3⟩ := hstk.inv
  have hlo := h.below
  have hbase := h.baseLe
  refine ⟨lo1, m', _, l, w', hs g l rfl, hev.low (by omega), hev.rel, h.glob.mono hev.ext, by have := hev.next; show lo1 ≤ A'.next; omega, ?_, h3.mono hev.ext fun i hi => hev.same i (by omega), (Bot.tail hb).top rfl rfl rfl⟩
  have h4 := h2.mono (A' := A') (hi' := A'.next) hev.ext (fun i hi => hev.same i (by omega)) (by have := hev.next; show lo ≤ A'.next; omega)
  exact h4.setMode hc (settled_rel h4.core.mode)

theorem doReturnA_normal {c : AFr} {rest : List AFr} {v : Value} {A' : AW} {s' : ASt} (hk : fr.kind = .normal) (h : doReturnA fr (c :: rest) v A' = .next s') : s' = ⟨c.finish v, rest, A'⟩ := by
  unfold doReturnA at h
  rw [hk] at h
  simp only [AOut.next.injEq] at h
  exact h.symm

theorem doReturnA_deferred {c : AFr} {rest : List AFr} {v : Value} {A' : AW} {s' : ASt} (hk : fr.kind = .deferred) (h : doReturnA fr (c :: rest) v A' = .next s') : c.dr = false ∧ s' = ⟨{ c with mode := settled c.mode }, rest, A'⟩ := by
  unfold doReturnA at h
  rw [hk] at h
  obtain ⟨fn, tm, todo, defers, mode, kind, ro, dr⟩ := c
  simp only at h
  cases mode with
  | run => cases dr <;> simp at h; exact ⟨rfl, by rw [← h]; rfl⟩
  | returning => cases dr <;> simp at h; exact ⟨rfl, by rw [← h]; rfl⟩
  | panicking chain =>
    cases chain with
    | nil => cases dr <;> simp at h; exact ⟨rfl, by rw [← h]; rfl⟩
    | cons p older =>
      obtain ⟨u, rc, ge⟩ := p
      cases rc with
      | false => cases dr <;> simp at h; exact ⟨rfl, by rw [← h]; rfl⟩
      | true =>
        simp only [settled]
        simp only at h
        cases hq : older.dropWhile (!·.goexit) with
        | nil => rw [hq] at h; cases dr <;> simp at h; exact ⟨rfl, by rw [← h]⟩
        | cons a b => rw [hq] at h; cases dr <;> simp at h; exact ⟨rfl, by rw [← h]⟩

/-- what the loop of a round is -/
theorem Rel.loopAt (r : Rel m A w) {l l' : Nat} {lp : ALoop} (hg : A.get l = some (.loop lp)) (hm : m l = some (l', 0)) : ∃ lp', w.heap[l']? = some (.loop lp') ∧ LRel m lp lp' := by
  obtain ⟨c0, d0, o', g1, g2, g3⟩ := r.objAt hg hm
  rw [hm] at g1
  simp only [Option.some.injEq, Prod.mk.injEq] at g1
  obtain ⟨rfl, rfl⟩ := g1
  obtain ⟨_, lp', rfl, h⟩ := g3
  exact ⟨lp', g2, h⟩

theorem run_getLoop {l' : Nat} {lp' : Loop} (h : w.heap[l']? = some (.loop lp')) : (Instr.getLoop l').run P w = .ok lp' w := by
  simp only [Instr.getLoop, Sem.run_bind, run_getObj_ok P w l' _ h (by simp), Result.andThen_ok]
  rfl

theorem round_end (r : Rel m A w) {l l' : Nat} {lp : ALoop} (hg : A.get l = some (.loop lp)) (hm : m l = some (l', 0)) (jump : Option Code) (hj : ∀ c, jump = some c → codeOk P c = true) :
    ∃ w', (Instr.endRound l' jump).run P w = .ok (.bool jump.isNone) w' ∧ Ev m A w m (A.put l (.loop { lp with state := if jump.isNone then .ready else .done, pending := jump })) w' := by
  obtain ⟨lp', h1, h2⟩ := r.loopAt hg hm
  refine ⟨_, ?_, Ev.putObj r hg rfl rfl hm h1 (o2 := .loop { lp with state := if jump.isNone then .ready else .done, pending := jump }) (o2' := .loop { lp' with state := if jump.isNone then .ready else .done, pending := jump })
    ⟨rfl, _, rfl, rfl, rfl, h2.fn, h2.tm, h2.params, h2.assign, h2.body, h2.defers, h2.ok.1, h2.ok.2.1, hj⟩ rfl rfl⟩
  simp only [Instr.endRound, Sem.run_bind, run_getLoop h1, Result.andThen_ok, run_setObj_ok P w l' _ _ h1 (by simp), Sem.run_pure]

theorem round_begin (r : Rel m A w) {l l' : Nat} {lp : ALoop} (hg : A.get l = some (.loop lp)) (hm : m l = some (l', 0)) (hs : lp.state = .ready) :
    ∃ w', (Instr.beginRound l').run P w = .ok () w' ∧ Ev m A w m (A.put l (.loop { lp with state := .busy })) w' := by
  obtain ⟨lp', h1, h2⟩ := r.loopAt hg hm
  refine ⟨_, ?_, Ev.putObj r hg rfl rfl hm h1 (o2 := .loop { lp with state := .busy }) (o2' := .loop { lp' with state := .busy })
    ⟨rfl, _, rfl, rfl, h2.pending, h2.fn, h2.tm, h2.params, h2.assign, h2.body, h2.defers, h2.ok⟩ rfl rfl⟩
  have hs' : lp'.state = .ready := by rw [h2.state, hs]
  simp only [Instr.beginRound, Sem.run_bind, run_getLoop h1, Result.andThen_ok, run_setObj_ok P w l' _ _ h1 (by simp), hs', Sem.run_pure]

theorem loop_end (r : Rel m A w) {l l' : Nat} {lp : ALoop} (hg : A.get l = some (.loop lp)) (hm : m l = some (l', 0)) (hs : lp.state ≠ .busy) :
    ∃ w', (Instr.endLoop l').run P w = .ok lp.pending w' ∧ Ev m A w m (A.put l (.loop { lp with state := .exhausted })) w' := by
  obtain ⟨lp', h1, h2⟩ := r.loopAt hg hm
  refine ⟨_, ?_, Ev.putObj r hg rfl rfl hm h1 (o2 := .loop { lp with state := .exhausted }) (o2' := .loop { lp' with state := .exhausted })
    ⟨rfl, _, rfl, rfl, h2.pending, h2.fn, h2.tm, h2.params, h2.assign, h2.body, h2.defers, h2.ok⟩ rfl rfl⟩
  have hs' : (lp'.state == .busy) = false := by rw [h2.state]; cases hq : lp.state <;> first | rfl | exact absurd hq hs
  simp only [Instr.endLoop, Sem.run_bind, run_getLoop h1, Result.andThen_ok, hs', Bool.false_eq_true, if_false, Sem.run_pure, run_setObj_ok P w l' _ _ h1 (by simp), h2.pending]

/-- leaving a frame's body -/
theorem leave_sim {s s' : ASt} {jump : Option Code} (h : SRel P X f0 base lo m s f csW w) (hmode : s.fr.mode = .run) (hjump : Jump f.todo jump) (hjA : jump = none ∨ ∃ c, jump = some c)
    (hout : (match s.fr.roundOf with
      | none => (match jump with
        | none => AOut.next ⟨{ s.fr with mode := .returning }, s.cs, s.w⟩
        | some .ret => .next ⟨{ s.fr with mode := .returning }, s.cs, s.w⟩
        | _ => .fail "leave")
      | some l => (match s.w.get l with
        | some (.loop r) => doReturnA s.fr s.cs (.bool jump.isNone) (s.w.put l (.loop { r with state := if jump.isNone then .ready else .done, pending := jump }))
        | _ => .fail "endRound")) = .next s') (hd : s.fr.dr = false) : Sim P X f0 base cs0 m s.w w (lone f (csW ++ cs0) w) s' := by
  have hfm : f.mode = .run := by
    have := h.top.core.mode
    rw [hmode] at this
    generalize f.mode = u at this
    cases this; rfl
  cases hro : s.fr.roundOf with
  | none =>
    rw [hro] at hout
    simp only at hout
    have hfro : f.roundOf = none := by
      have := h.top.core.round
      rw [hro] at this
      cases hq : f.roundOf with
      | none => rfl
      | some l => rw [hq] at this; exact this.elim
    have key : s' = ⟨{ s.fr with mode := .returning }, s.cs, s.w⟩ ∧ (f.todo = [] ∨ ∃ k, f.todo = .code .ret :: k) := by
      generalize htf : f.todo = t at hjump
      cases hjump with
      | done => simp only [AOut.next.injEq] at hout; exact ⟨hout.symm, .inl rfl⟩
      | ret k => simp only [AOut.next.injEq] at hout; exact ⟨hout.symm, .inr ⟨k, rfl⟩⟩
      | exit id k hh => cases hout
      | goto l k hh => cases hout
    obtain ⟨rfl, htf⟩ := key
    refine ⟨lo, m, _, csW, w, .one (w_leave hfm hfro htf), .refl h.rel base, h.rel, h.glob, h.below, h.top.setMode hd .returning, h.stk, h.bot.top rfl rfl rfl⟩
  | some l =>
    rw [hro] at hout
    simp only at hout
    have hr := h.top.core.round
    rw [hro] at hr
    cases hfr : f.roundOf with
    | none => rw [hfr] at hr; exact hr.elim
    | some l' =>
      rw [hfr] at hr
      have hr : m l = some (l', 0) := hr
      split at hout
      rotate_left
      · cases hout
      rename_i lp hg
      have hj : ∀ c, jump = some c → codeOk P c = true := by
        intro c hc
        subst hc
        generalize f.todo = t at hjump
        cases hjump <;> rfl
      obtain ⟨w', g1, g2⟩ := round_end h.rel hg hr jump hj
      cases hcs : s.cs with
      | nil => rw [hcs] at hout; cases hout
      | cons c rest =>
        rw [hcs] at hout
        rcases h.top.core.kindOk with hk | hk
        · rw [doReturnA_normal hk hout]
          exact h.answer hcs g2 (.bool _) fun g l2 hl => by
            subst hl
            exact .one (w_round hfm hfr hjump g1 (h.top.core.kind.trans hk))
        · obtain ⟨h1, rfl⟩ := doReturnA_deferred hk hout
          exact h.settle hcs h1 g2 fun g l2 hl => by
            subst hl
            exact .one (w_round_deferred hfm hfr hjump g1 (h.top.core.kind.trans hk))

end
end Go.Abs
