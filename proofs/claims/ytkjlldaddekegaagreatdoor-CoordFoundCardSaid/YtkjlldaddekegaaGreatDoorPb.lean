/-
  The steps of an abstract machine are shown to be those of the model, and what a program asks of its calls gives what they answer. Conditions: none for the last theorem, those that each theorem states for the others.
-/
import Derived.Test.YtkjlldaddekegaaGreatDoorPa
import Derived.Below
import Derived.Carry
import Derived.ChangeSame
import Derived.Deep.Strs
import Derived.HandedShaped
import Derived.Orders
import Derived.ProofKit
import Derived.Stop.Joined
set_option maxRecDepth 100000
set_option maxHeartbeats 1000000
namespace Go.Abs
variable {l id i:Nat} {c f':Frame} {a b:Code} {k':List Item} {jump:Option Code} {v:Value} {w':World} {cs':List Frame} {rest:List Nat} {args:Array Value} {ds:List Deferred} {fn:Func}
section
variable {P:Program} {f:Frame} {cs:List Frame} {w:World} {k:List Item}
theorem YR(hm:f.mode=.run)(ht:f.todo=.code .skip::k):step P (lone f cs w)=.next (lone { f with todo:=k } cs w):=by
 obtain ⟨fn,tmps,todo,defers,mode,kind,ro⟩:=f;subst hm ht;exact step_lone_go (by simp [stepG,stepG.exec])
theorem WH(hm:f.mode=.run)(ht:f.todo=.code (.label l)::k):step P (lone f cs w)=.next (lone { f with todo:=k } cs w):=by
 obtain ⟨fn,tmps,todo,defers,mode,kind,ro⟩:=f;subst hm ht;exact step_lone_go (by simp [stepG,stepG.exec])
theorem Td(hm:f.mode=.run)(ht:f.todo=.inBlock l::k):step P (lone f cs w)=.next (lone { f with todo:=k } cs w):=by
 obtain ⟨fn,tmps,todo,defers,mode,kind,ro⟩:=f;subst hm ht;exact step_lone_go (by simp [stepG,stepG.exec])
theorem Tc{c:Code}(hm:f.mode=.run)(ht:f.todo=.inScope c::k):step P (lone f cs w)=.next (lone { f with todo:=k } cs w):=by
 obtain ⟨fn,tmps,todo,defers,mode,kind,ro⟩:=f;subst hm ht;exact step_lone_go (by simp [stepG,stepG.exec])
theorem AaA(hm:f.mode=.run)(ht:f.todo=.code (.seq a b)::k):step P (lone f cs w)=.next (lone { f with todo:=.code a:: .code b::k } cs w):=by
 obtain ⟨fn,tmps,todo,defers,mode,kind,ro⟩:=f;subst hm ht;exact step_lone_go (by simp [stepG,stepG.exec])
theorem QY{c:Operand}{t:Bool}(hm:f.mode=.run)(ht:f.todo=.code (.cond c a b)::k)(hc:f.eval c=.bool t):
  step P (lone f cs w)=.next (lone { f with todo:=.code (if t then a else b)::k } cs w):=by
 obtain ⟨fn,tmps,todo,defers,mode,kind,ro⟩:=f;subst hm ht;exact step_lone_go (by simp [stepG,stepG.exec,hc])
theorem WI{c:Code}(hm:f.mode=.run)(ht:f.todo=.code (.block id c)::k):step P (lone f cs w)=.next (lone { f with todo:=.code c:: .inBlock id::k } cs w):=by
 obtain ⟨fn,tmps,todo,defers,mode,kind,ro⟩:=f;subst hm ht;exact step_lone_go (by simp [stepG,stepG.exec])
theorem YS{c:Code}(hm:f.mode=.run)(ht:f.todo=.code (.loop c)::k):step P (lone f cs w)=.next (lone { f with todo:=.code c:: .inLoop c::k } cs w):=by
 obtain ⟨fn,tmps,todo,defers,mode,kind,ro⟩:=f;subst hm ht;exact step_lone_go (by simp [stepG,stepG.exec])
theorem UI{c:Code}(hm:f.mode=.run)(ht:f.todo=.inLoop c::k):step P (lone f cs w)=.next (lone { f with todo:=.code c:: .inLoop c::k } cs w):=by
 obtain ⟨fn,tmps,todo,defers,mode,kind,ro⟩:=f;subst hm ht;exact step_lone_go (by simp [stepG,stepG.exec])
theorem WD{c:Code}(hm:f.mode=.run)(ht:f.todo=.code (.scope c)::k):step P (lone f cs w)=.next (lone { f with todo:=.code c:: .inScope c::k } cs w):=by
 obtain ⟨fn,tmps,todo,defers,mode,kind,ro⟩:=f;subst hm ht;exact step_lone_go (by simp [stepG,stepG.exec])
theorem YU(hm:f.mode=.run)(ht:f.todo=.code (.exit id)::k)(h:exitTo id k=some k'):step P (lone f cs w)=.next (lone { f with todo:=k' } cs w):=by
 obtain ⟨fn,tmps,todo,defers,mode,kind,ro⟩:=f;subst hm ht;exact step_lone_go (by simp [stepG,stepG.exec,h])
theorem YT(hm:f.mode=.run)(ht:f.todo=.code (.goto l)::k)(h:gotoIn l k=some k'):step P (lone f cs w)=.next (lone { f with todo:=k' } cs w):=by
 obtain ⟨fn,tmps,todo,defers,mode,kind,ro⟩:=f;subst hm ht;exact step_lone_go (by simp [stepG,stepG.exec,h])
theorem UH{ops:Array Oper}(hm:f.mode=.run)(ht:f.todo=.code (.region id ops false)::k):
  step P (lone f cs w)=.next (lone { f with todo:=.inRegion ops (List.range ops.size)::k } cs w):=by
 obtain ⟨fn,tmps,todo,defers,mode,kind,ro⟩:=f;subst hm ht;exact step_lone_go (by simp [stepG,stepG.exec])
theorem YV{ops:Array Oper}(hm:f.mode=.run)(ht:f.todo=.code (.region id ops true)::k):
  ∃ t,step P (lone f cs w)=.next (lone { f with todo:=.inRegion ops (Region.schedule (P.follows .mixedOrders) ops t)::k } cs { w with drawn:=w.drawn+1 }):=by
 obtain ⟨fn,tmps,todo,defers,mode,kind,ro⟩:=f;subst hm ht;exact ⟨_,step_lone_go (by simp [stepG,stepG.exec,choose,Sem.run,Question.forced,Question.cut];rfl)⟩
theorem Yd{ops:Array Oper}(hm:f.mode=.run)(ht:f.todo=.inRegion ops []::k):step P (lone f cs w)=.next (lone { f with todo:=k } cs w):=by
 obtain ⟨fn,tmps,todo,defers,mode,kind,ro⟩:=f;subst hm ht;exact step_lone_go (by simp [stepG,stepG.exec])
theorem WG(hm:f.mode=.run)(hr:f.roundOf=none)(ht:f.todo=[]∨∃ k,f.todo=.code .ret::k):step P (lone f cs w)=.next (lone { f with mode:=.returning } cs w):=by
 obtain ⟨fn,tmps,todo,defers,mode,kind,ro⟩:=f;subst hm hr;rcases ht with ht | ⟨k,ht⟩<;>subst ht<;>exact step_lone_go (by simp [stepG,stepG.exec])
inductive Jump:List Item→Option Code→Prop
 |done:Jump [] none
 |ret (k:List Item):Jump (.code .ret::k) (some .ret)
 |exit (id:Nat) (k:List Item) (h:exitTo id k=none):Jump (.code (.exit id)::k) (some (.exit id))
 |goto (l:Nat) (k:List Item) (h:gotoIn l k=none):Jump (.code (.goto l)::k) (some (.goto l))
theorem WE (hm:f.mode=.run) (hr:f.roundOf=some l) (ht:Jump f.todo jump) (h:(Instr.endRound l jump).run P w=.ok v w')
  (hk:f.kind=.normal):step P (lone f (c::cs) w)=.next (lone (c.finish v) cs w'):=by
 obtain ⟨fn,tmps,todo,defers,mode,kind,ro⟩:=f;subst hm hr;simp only at hk ht;subst hk;cases ht with
 |done=>exact step_lone_go (by simp [stepG,stepG.exec,h,doReturn])
 |ret k=>exact step_lone_go (by simp [stepG,stepG.exec,h,doReturn])
 |exit id k hh=>exact step_lone_go (by simp [stepG,stepG.exec,h,hh,doReturn])
 |goto l' k hh=>exact step_lone_go (by simp [stepG,stepG.exec,h,hh,doReturn])
def settled(m:FrameMode):FrameMode:=
 match m with
 |.panicking ({ recovered:=true,.. }::older)=>(match older.dropWhile (!·.goexit) with
  |[]=>.returning
  |rest=>.panicking rest)
 |m=>m
theorem CY(hk:f.kind=.deferred):doReturn P true f (c::cs) none v w=.go { frame:={ c with mode:=settled c.mode },callers:=cs,status:=.running,dying:=none } w:=by
 obtain ⟨fn,tmps,todo,defers,mode,kind,ro⟩:=c;cases mode with
 |run=>simp [doReturn,hk,settled]
 |returning=>simp [doReturn,hk,settled]
 |panicking chain=>
  cases chain with
  |nil=>simp [doReturn,hk,settled]
  |cons p older=>
   obtain ⟨u,rec,ge⟩:=p;cases rec with
   |false=>simp [doReturn,hk,settled]
   |true=>cases h:older.dropWhile (!·.goexit)<;>simp [doReturn,hk,settled,h]
theorem J9 (hm:f.mode=.run) (hr:f.roundOf=some l) (ht:Jump f.todo jump) (h:(Instr.endRound l jump).run P w=.ok v w')
  (hk:f.kind=.deferred):step P (lone f (c::cs) w)=.next (lone { c with mode:=settled c.mode } cs w'):=by
 obtain ⟨fn,tmps,todo,defers,mode,kind,ro⟩:=f;subst hm hr;simp only at hk ht;cases ht with
 |done=>exact step_lone_go (by simp [stepG,stepG.exec,h,CY,hk])
 |ret k=>exact step_lone_go (by simp [stepG,stepG.exec,h,CY,hk])
 |exit id k hh=>exact step_lone_go (by simp [stepG,stepG.exec,h,hh,CY,hk])
 |goto l' k hh=>exact step_lone_go (by simp [stepG,stepG.exec,h,hh,CY,hk])
theorem QX(hm:f.mode=.run)(ht:f.todo=.endRangeFunc l::k)(h:(Instr.endLoop l).run P w=.ok jump w'):
  step P (lone f cs w)=.next (lone { f with todo:=(jump.map Item.code).toList++k } cs w'):=by
 obtain ⟨fn,tmps,todo,defers,mode,kind,ro⟩:=f;subst hm ht;exact step_lone_go (by simp [stepG,stepG.exec,h])
def answer(P:Program)(f:Frame)(cs:List Frame)(kind:CallKind)(dfr:Bool):Result Next→Option (Frame × List Frame × World)
 |.ok (.value v) w=>some (if dfr then f else f.finish v,cs,w)
 |.ok .skip w=>some (if dfr then f else f.finish undef,cs,w)
 |.ok (.enter g args) w=>some (Frame.enter P g args kind,f::cs,w)
 |.ok (.round l g tmps assign body) w=>some (Frame.round l g tmps assign body kind,f::cs,w)
 |.ok (.defer d) w=>if dfr then none else some ({ f with defers:=d::f.defers }.finish undef,cs,w)
 |.ok .recover w=>if dfr then none else match f.roundOf with
  |none=>(match tryRecover f cs with
   |some (v,cs)=>some (f.finish v,cs,w)
   |none=>some (f.finish .nilIface,cs,w))
  |some _=>none
 |.halt (.panic v) w=>some (f.raise [{ v,recovered:=false }],cs,w)
 |_=>none
def GD:List Item→Prop
 |.call .. ::_=>False
 |.extern .. ::_=>False
 |_=>True
theorem Jm{s:Sem Next}(hn:GD f.todo)(h:answer P f cs .normal false (s.run P w)=some (f',cs',w')):
  (stepG.apply P true f cs none s w).bare=.go { frame:=f',callers:=cs',status:=.running,dying:=none } w':=by
 have hk:(match f.todo with | .call _ true _ _::_=>CallKind.wrapped | _=>CallKind.normal)=.normal:=by
  cases hq:f.todo with
  |nil=>rfl
  |cons x r=>
   rw [hq] at hn;cases x<;>first | rfl | exact hn.elim
 cases hr:s.run P w with
 |ok n w1=>
  rw [hr] at h;cases n<;>simp only [answer,if_false,Bool.false_eq_true] at h<;>try (cases h;done)
  case value v=>cases h;simp [stepG.apply,hr]
  case skip=>cases h;simp [stepG.apply,hr]
  case enter g args=>cases h;simp only [stepG.apply,hr,Sem.runT_eq,GStep.bare_after];simp;exact congrArg (Frame.enter P g args) hk
  case round l g tmps a b=>cases h;simp [stepG.apply,hr]
  case defer d=>cases h;simp [stepG.apply,hr]
  case recover=>
   cases hro:f.roundOf with
   |some l=>rw [hro] at h;cases h
   |none=>
    rw [hro] at h;cases htr:tryRecover f cs with
    |none=>rw [htr] at h;cases h;simp [stepG.apply,hr,hro,htr]
    |some x=>obtain ⟨v,cs2⟩:=x;rw [htr] at h;cases h;simp [stepG.apply,hr,hro,htr]
 |halt x w1=>
  rw [hr] at h;cases x<;>simp only [answer] at h<;>try (cases h;done)
  case panic v=>cases h;simp [stepG.apply,hr]
theorem Pz {ops:Array Oper} {o:Oper} (hm:f.mode=.run) (ht:f.todo=.inRegion ops (i::rest)::k) (ho:ops[i]? =some o)
  (hw:Region.wanted o (yielded ops f.tmps)=true) (hd:f.roundOf=none∨∀ c,o.op≠ .defer c)
  (h:answer P f cs .normal false ((execOp f.eval o).run P w)=some (f',cs',w')):step P (lone f cs w)=.next (lone f' cs' w'):=by
 refine step_lone_go ?_;rw [← Jm (by rw [ht];trivial) h];obtain ⟨fn,tmps,todo,defers,mode,kind,ro⟩:=f;simp only at hm ht hw hd;subst hm ht;simp only [stepG,stepG.exec,ho,Option.map_some,Option.getD_some,hw,if_true,stepG.oper,Frame.oper?];rcases hd with hd | hd
 ·subst hd;rfl
 ·obtain ⟨dst,op,type,pos,after,guard⟩:=o;cases op<;>first | rfl | (cases ro<;>rfl) | exact absurd rfl (hd _)
theorem I4 {ops:Array Oper} {o:Oper} (hm:f.mode=.run) (ht:f.todo=.inRegion ops (i::rest)::k) (ho:ops[i]? =some o)
  (hw:Region.wanted o (yielded ops f.tmps)=false):step P (lone f cs w)=.next (lone (f.finish undef) cs w):=by
 obtain ⟨fn,tmps,todo,defers,mode,kind,ro⟩:=f;simp only at hm ht hw;subst hm ht;exact step_lone_go (by simp [stepG,stepG.exec,ho,hw])
theorem Oo(hm:f.mode=.run)(hr:f.roundOf=some l)(ht:f.todo=.beginRound::k)(h:(Instr.beginRound l).run P w=.ok () w'):
  step P (lone f cs w)=.next (lone (f.finish undef) cs w'):=by
 obtain ⟨fn,tmps,todo,defers,mode,kind,ro⟩:=f;subst hm hr ht;have hrun:(do Instr.beginRound l;pure Next.skip:Sem Next).run P w=.ok .skip w':=by simp only [Sem.run_bind,h,Result.andThen_ok,Sem.run_pure]
 refine step_lone_go ?_;rw [← Jm (P:=P) (f:={ fn,tmps,todo:=.beginRound::k,defers,mode:=.run,kind,roundOf:=some l }) (cs:=cs) (w:=w) (s:=(do Instr.beginRound l;pure Next.skip:Sem Next)) trivial (by rw [hrun];rfl)];simp only [stepG,stepG.exec];rfl
theorem Py {g:Operand} {ps:Array Tmp} {assign body:Code} {mark:List Deferred} {w1:World} {f':Frame} {cs':List Frame} {w':World} {s:Sem Next} (hm:f.mode=.run)
  (ht:f.todo=.code (.rangeFunc g ps assign body)::k) (h:(Instr.enterLoop f.fn f.tmps ps assign body f.roundOf).run P w=.ok (l,mark) w1)
  (hs:(do let d ← resolve ({ f with todo:=.inRangeFunc l::k,defers:=mark++f.defers }:Frame).eval { callee:=.value g,args:=#[.const (.func (.yield l) #[] #[])],argTypes:=#[] } 0;invoke d.target d.args)=s)
  (ha:answer P { f with todo:=.inRangeFunc l::k,defers:=mark++f.defers } cs .normal false (s.run P w1)=some (f',cs',w')):step P (lone f cs w)=.next (lone f' cs' w'):=by
 refine step_lone_go ?_;rw [← Jm (f:={ f with todo:=.inRangeFunc l::k,defers:=mark++f.defers }) trivial ha];obtain ⟨fn,tmps,todo,defers,mode,kind,ro⟩:=f;simp only at hm ht h hs;subst hm ht;rw [← hs];simp [stepG,stepG.exec,h]
theorem PA{b:Nat}{args:Array Value}{ds calls:List Deferred}{w':World}(hm:f.mode≠ .run)(hd:f.defers={ target:=.collected b,args }::ds)(h:(Instr.takeDeferred b).run P w=.ok calls w'):
  step P (lone f cs w)=.next (lone { f with defers:=calls++ds } cs w'):=by
 obtain ⟨fn,tmps,todo,defers,mode,kind,ro⟩:=f;simp only at hm hd;subst hd;cases mode with
 |run=>exact absurd rfl hm
 |returning=>exact step_lone_go (by simp [stepG,unwind,h])
 |panicking c=>exact step_lone_go (by simp [stepG,unwind,h])
theorem FF {fv:Fn} {cap args:Array Value} {ds:List Deferred} {f':Frame} {cs':List Frame} {w':World} (hm:f.mode≠ .run) (hd:f.defers={ target:=.fn fv cap,args }::ds)
  (h:answer P { f with defers:=ds } cs .deferred true ((invoke (.fn fv cap) args).run P w)=some (f',cs',w')):step P (lone f cs w)=.next (lone f' cs' w'):=by
 have key:(callDeferred P { f with defers:=ds } cs none { target:=.fn fv cap,args } w).bare=.go { frame:=f',callers:=cs',status:=.running,dying:=none } w':=by
  cases hr:(invoke (.fn fv cap) args).run P w with
  |ok n w1=>
   rw [hr] at h;cases n<;>simp only [answer,if_true] at h<;>try (cases h;done)
   case value v=>cases h;simp [callDeferred,hr]
   case skip=>cases h;simp [callDeferred,hr]
   case enter g args=>cases h;simp [callDeferred,hr]
   case round l g tmps a b=>cases h;simp [callDeferred,hr]
  |halt x w1=>
   rw [hr] at h;cases x<;>simp only [answer] at h<;>try (cases h;done)
   case panic v=>cases h;simp [callDeferred,hr]
 refine step_lone_go ?_;rw [← key];obtain ⟨fn,tmps,todo,defers,mode,kind,ro⟩:=f;simp only at hm hd;subst hd;cases mode with
 |run=>exact absurd rfl hm
 |returning=>simp [stepG,unwind]
 |panicking c=>simp [stepG,unwind]
theorem UG(hm:f.mode=.returning)(hd:f.defers=[])(hf:P.funcs[f.fn]? =some fn)(h:(results fn f.tmps).run P w=.ok v w')(hk:f.kind=.normal):
  step P (lone f (c::cs) w)=.next (lone (c.finish v) cs w'):=by
 obtain ⟨fn,tmps,todo,defers,mode,kind,ro⟩:=f;simp only at hm hd hf h hk;subst hm hd hk;exact step_lone_go (by simp [stepG,unwind,hf,h,doReturn])
theorem Js(hm:f.mode=.returning)(hd:f.defers=[])(hf:P.funcs[f.fn]? =some fn)(h:(results fn f.tmps).run P w=.ok v w')(hk:f.kind=.deferred):
  step P (lone f (c::cs) w)=.next (lone { c with mode:=settled c.mode } cs w'):=by
 have hdr:=CY (P:=P) (f:=f) (cs:=cs) (w:=w') (c:=c) (v:=v) hk;obtain ⟨fn,tmps,todo,defers,mode,kind,ro⟩:=f;simp only at hm hd hf h hk;subst hm hd;exact step_lone_go (by simp [stepG,unwind,hf,h,hdr])
theorem UF{chain:List PanicEntry}(hm:f.mode=.panicking chain)(hd:f.defers=[])(hn:GD f.todo):
  step P (lone f (c::cs) w)=.next (lone (c.raise chain) cs w):=by
 obtain ⟨fn,tmps,todo,defers,mode,kind,ro⟩:=f;simp only at hm hd hn;subst hm hd;have hc:Frame.catches P { fn,tmps,todo,defers:=[],mode:=.panicking chain,kind,roundOf:=ro }=false:=by
  unfold Frame.catches;simp only;split
  ·exact hn.elim
  ·rfl
 exact step_lone_go (by simp [stepG,unwind,hc])
end
variable {i eff alc:Nat} {listed:Array Bool}
theorem Ox(i k:Nat):(1 <<< i).testBit k=decide (k=i):=by
 rw [Nat.one_shiftLeft,Nat.testBit_two_pow];simp [eq_comm]
theorem Mv(c i k:Nat):(c ||| (1 <<< i)).testBit k=(c.testBit k || decide (k=i)):=by
 rw [Nat.testBit_or,Ox]
theorem HI{a b:Nat}(h:within a b=true)(k:Nat)(hk:a.testBit k=true):b.testBit k=true:=by
 unfold within at h;have h:=Nb h
 have:(a&&& b).testBit k=true:=by rw [h];exact hk
 rw [Nat.testBit_and] at this;simp at this;exact this.2
theorem GJ(acc:List Nat)(k:Nat):∀ es:List Edge,(E2 acc es).testBit k=true↔∃ e∈es,Region.binds .any e=true∧(k=e.on∨(nth acc e.on).testBit k=true)
 |[]=>by simp [E2]
 |e::r=>by
  unfold E2;cases hb:Region.binds .any e with
  |true=>
   simp only [Ct,Nat.testBit_or,Ox,Bool.or_eq_true,decide_eq_true_eq,GJ acc k r,Mk,exists_eq_or_imp,hb,true_and];constructor
   ·rintro (h | h | h)
    ·exact .inl (.inl h)
    ·exact .inl (.inr h)
    ·exact .inr h
   ·rintro ((h | h) | h)
    ·exact .inl h
    ·exact .inr (.inl h)
    ·exact .inr (.inr h)
  |false=>
   simp only [Cf,GJ acc k r,Mk,exists_eq_or_imp,hb,Bool.false_eq_true,false_and,false_or]
theorem RA(a b:List Nat):∀ i,i<a.length→nth (a++b) i=nth a i:=by
 induction a with
 |nil=>intro i h;simp at h
 |cons x r ih=>
  intro i h;cases i with
  |zero=>rfl
  |succ i=>simp at h;exact ih i h
theorem Nw(a:List Nat)(x:Nat):nth (a++[x]) a.length=x:=by
 induction a with
 |nil=>rfl
 |cons y r ih=>exact ih
theorem Kl:∀ (l:List Oper) (acc:List Nat) (i:Nat),i<acc.length→nth (Dc l acc) i=nth acc i
 |[],_,_,_=>rfl
 |o::r,acc,i,h=>by
  unfold Dc;rw [Kl r _ i (by simp;omega),RA _ _ _ h]
theorem N3:∀ (l:List Oper) (acc:List Nat) (i:Nat) (o:Oper),l[i]? =some o→
  ∃ acc',acc'.length=acc.length+i∧nth (Dc l acc) (acc.length+i)=E2 acc' o.after.toList∧∀ k,k<acc.length+i→nth acc' k=nth (Dc l acc) k
 |[],_,_,_,h=>by simp at h
 |o::r,acc,0,o',h=>by
  simp at h;subst h;refine ⟨acc,rfl,?_,fun k hk=>(Kl _ _ _ (by omega)).symm⟩;unfold Dc;rw [Nat.add_zero,Kl r _ _ (by simp),Nw]
 |o::r,acc,i+1,o',h=>by
  simp at h;obtain ⟨acc',h1,h2,h3⟩:=N3 r (acc++[E2 acc o.after.toList]) i o' h;simp only [Lq,Lc,Ln,Nat.zero_add] at h1 h2 h3;refine ⟨acc',by omega,?_,fun k hk=>?_⟩
  ·rw [← h2];unfold Dc;rw [show acc.length+(i+1)=acc.length+1+i by omega];cases r<;>rfl
  ·rw [h3 k (by omega)];cases r<;>rfl
def anc(ops:List Oper)(k i:Nat):Prop:=(nth (Dc ops []) i).testBit k=true
theorem QO{ops:List Oper}{o:Oper}(ho:ops[i]? =some o)(he:∀ e∈o.after.toList,Region.binds .any e=true→e.on<i)(k:Nat):
  anc ops k i↔∃ e∈o.after.toList,Region.binds .any e=true∧(k=e.on∨anc ops k e.on):=by
 obtain ⟨acc',h1,h2,h3⟩:=N3 ops [] i o ho;simp only [Ln,Nat.zero_add] at h1 h2 h3;unfold anc;rw [h2,GJ];constructor
 ·rintro ⟨e,hm,hb,h⟩;exact ⟨e,hm,hb,h.imp id fun h=>by rw [← h3 _ (he e hm hb)];exact h⟩
 ·rintro ⟨e,hm,hb,h⟩;exact ⟨e,hm,hb,h.imp id fun h=>by rw [h3 _ (he e hm hb)];exact h⟩
def XO(ops:List Oper):Prop:=∀ (i:Nat) (o:Oper),ops[i]? =some o→∀ e∈o.after.toList,Region.binds .any e=true→e.on<i
theorem Wm{ops:List Oper}(hb:XO ops):∀ (i k:Nat),i<ops.length→anc ops k i→k<i:=by
 intro i
 induction i using Nat.strongRecOn with
 |ind i ih=>
  intro k hi h;obtain ⟨o,ho⟩:∃ o,ops[i]? =some o:=⟨_,Ge hi⟩;obtain ⟨e,hm,hbi,h⟩:=(QO ho (hb i o ho) k).1 h
  have:=hb i o ho e hm hbi
  rcases h with h | h
  ·omega
  ·have:=ih e.on this k (by omega) h
   omega
theorem Eu(c:Op→Bool)(k:Nat):∀ (l:List Oper) (i:Nat),(Dw c l i).testBit k=true↔∃ o,i≤k∧l[k-i]? =some o∧c o.op=true
 |[],i=>by simp [Dw]
 |o::r,i=>by
  have key:(∃ o',i≤k∧(o::r)[k-i]? =some o'∧c o'.op=true)↔((k=i∧c o.op=true)∨∃ o',i+1≤k∧r[k-(i+1)]? =some o'∧c o'.op=true):=by
   constructor
   ·rintro ⟨o',h1,h2,h3⟩;by_cases e:k=i
    ·subst e;simp at h2;subst h2;exact .inl ⟨rfl,h3⟩
    ·rw [show k-i=(k-(i+1))+1 by omega] at h2;exact .inr ⟨o',by omega,by simpa using h2,h3⟩
   ·rintro (⟨rfl,h⟩ | ⟨o',h1,h2,h3⟩)
    ·exact ⟨o,Nl _,by simp,h⟩
    ·refine ⟨o',by omega,?_,h3⟩;rw [show k-i=(k-(i+1))+1 by omega]
     simpa using h2
  rw [key];unfold Dw;cases hc:c o.op with
  |true=>simp only [Ct,Nat.testBit_or,Ox,Bool.or_eq_true,decide_eq_true_eq,Eu c k r (i+1),and_true]
  |false=>simp only [Cf,Eu c k r (i+1),Bool.false_eq_true,and_false,false_or]
theorem DZ(cls:Nat→Bool)(done:Nat):∀ (ms:List Nat) (i j:Nat),D6 cls done ms i=some j→i≤j∧j-i<ms.length∧done.testBit j=false∧cls j=true∧within (nth ms (j-i)) done=true
 |[],i,j,h=>by simp [D6] at h
 |mk::r,i,j,h=>by
  unfold D6 at h;cases hc:(!done.testBit i&&(cls i&&within mk done)) with
  |true=>
   rw [hc] at h;simp only [Ct,Oi] at h;subst h;simp only [Bq,Bool.not_eq_true'] at hc;exact ⟨Nl _,by simp,hc.1,hc.2.1,by simpa [nth] using hc.2.2⟩
  |false=>
   rw [hc] at h;simp only [Cf] at h;obtain ⟨h1,h2,h3,h4,h5⟩:=DZ cls done r (i+1) j h;refine ⟨by omega,by simp;omega,h3,h4,?_⟩;rw [show j-i=(j-(i+1))+1 by omega];exact h5
theorem MW{done:Nat}{ms:List Nat}{j:Nat}(h:Kw eff alc done ms=some j):0≤j∧j-0<ms.length∧done.testBit j=false∧(!eff.testBit j)=true∧within (nth ms (j-0)) done=true:=by
 unfold Kw at h;split at h
 ·rename_i i hi;cases h;obtain ⟨h1,h2,h3,h4,h5⟩:=DZ _ _ _ _ _ hi;simp only [Bq] at h4;exact ⟨h1,h2,h3,h4.1,h5⟩
 ·exact DZ _ _ _ _ _ h
theorem G2(n eff done mask:Nat):∀ (N x:Nat),x∈again n eff done mask N↔∃ k,k<N∧x=n+k∧done.testBit k=true∧eff.testBit k=false∧mask.testBit k=false
 |0,x=>by simp [again]
 |N+1,x=>by
  have key:(∃ k,k<N+1∧x=n+k∧done.testBit k=true∧eff.testBit k=false∧mask.testBit k=false)↔
    ((x=n+N∧done.testBit N=true∧eff.testBit N=false∧mask.testBit N=false)∨∃ k,k<N∧x=n+k∧done.testBit k=true∧eff.testBit k=false∧mask.testBit k=false):=by
   constructor
   ·rintro ⟨k,h1,h2⟩;by_cases e:k=N
    ·subst e;exact .inl h2
    ·exact .inr ⟨k,by omega,h2⟩
   ·rintro (h | ⟨k,h1,h2⟩)
    ·exact ⟨N,by omega,h⟩
    ·exact ⟨k,by omega,h2⟩
  rw [key];unfold again;cases h1:done.testBit N<;>cases h2:eff.testBit N<;>cases h3:mask.testBit N<;>simp [G2 n eff done mask N x]
theorem I1(done e:Nat):∀ (ms:List Nat) (i:Nat),Ik done e ms i=true→∀ k,k<ms.length→done.testBit (i+k)=true∨i+k=e∨(nth ms k).testBit e=true
 |[],_,_,k,hk=>by simp at hk
 |mk::r,i,h,k,hk=>by
  simp only [Ik,Bq,Bool.or_eq_true] at h;cases k with
  |zero=>
   rcases h.1 with h | h | h
   ·exact .inl h
   ·exact .inr (.inl (Nb h))
   ·exact .inr (.inr h)
  |succ k=>
   have:=I1 done e r (i+1) h.2 k (by simpa using hk)
   rw [show i+1+k=i+(k+1) by omega] at this;exact this
theorem Hl:∀ (l:List Oper) (acc:List Nat),(Dc l acc).length=acc.length+l.length
 |[],acc=>by simp [Dc]
 |o::r,acc=>by unfold Dc;rw [Hl];simp;omega
inductive E5 (ops:List Oper) (eff alc:Nat):Nat→List Nat→Prop
 |stop (C:Nat) (h:∀ i,i<ops.length→C.testBit i=true):E5 ops eff alc C []
 |pure (C x:Nat) (p:List Nat) (hx:x<ops.length) (he:eff.testBit x=false) (ha:alc.testBit x=false) (hc:C.testBit x=false) (hm:∀ k,anc ops k x→C.testBit k=true)
   (hp:E5 ops eff alc (C ||| (1 <<< x)) p):E5 ops eff alc C (x::p)
 |alloc (C x:Nat) (p:List Nat) (hx:x<ops.length) (he:eff.testBit x=false) (ha:alc.testBit x=true) (hc:C.testBit x=false) (hm:∀ k,anc ops k x→C.testBit k=true)
   (hp:E5 ops eff alc (C ||| (1 <<< x)) p):E5 ops eff alc C (x::(again ops.length eff (C ||| (1 <<< x)) 0 ops.length++p))
 |effect (C x:Nat) (p:List Nat) (hx:x<ops.length) (he:eff.testBit x=true) (hc:C.testBit x=false) (hm:∀ k,anc ops k x→C.testBit k=true)
   (hall:∀ i,i<ops.length→C.testBit i=true∨i=x∨anc ops x i) (hp:E5 ops eff alc (C ||| (1 <<< x)) p):E5 ops eff alc C (x::(again ops.length eff C (nth (Dc ops []) x) ops.length++p))
theorem P1{ops:List Oper}:∀ (f C:Nat) (p:List Nat),Kh ops.length (Dc ops []) eff alc f C=some p→E5 ops eff alc C p:=by
 intro f;have hlen:(Dc ops []).length=ops.length:=by simp [Hl]
 induction f with
 |zero=>
  intro C p h;unfold Kh at h;cases hb:Nat.beq (C+1) (1 <<< ops.length) with
  |false=>rw [hb] at h;cases h
  |true=>
   rw [hb] at h;simp only [Ct,Oi] at h;subst h;have hb:=Nb hb;rw [Nat.one_shiftLeft] at hb;have hC:C=2^ops.length-1:=by omega
   refine .stop _ fun i hi=>?_;rw [hC,Nat.testBit_two_pow_sub_one]
   simpa using hi
 |succ f ih=>
  intro C p h;unfold Kh at h;split at h
  ·rename_i i hi;obtain ⟨_,h2,h3,h4,h5⟩:=MW hi;simp only [Nat.sub_zero] at h2 h5;rw [hlen] at h2;have he:eff.testBit i=false:=by simpa using h4
   split at h
   ·rename_i p' hp';simp only [Oi] at h;subst h;cases ha:alc.testBit i with
    |true=>
     simp only [Ct];exact .alloc _ i p' h2 he ha h3 (fun k hk=>HI h5 k hk) (ih _ _ hp')
    |false=>
     simp only [Cf];exact .pure _ i p' h2 he ha h3 (fun k hk=>HI h5 k hk) (ih _ _ hp')
   ·cases h
  ·split at h
   ·rename_i i hi;obtain ⟨_,h2,h3,h4,h5⟩:=DZ _ _ _ _ _ hi;simp only [Nat.sub_zero] at h2 h5;rw [hlen] at h2;cases hal:Ik C i (Dc ops []) 0 with
    |false=>rw [hal] at h;cases h
    |true=>
     rw [hal] at h;simp only [Ct] at h;split at h
     ·rename_i p' hp';simp only [Oi] at h;subst h;refine .effect _ i p' h2 h4 h3 (fun k hk=>HI h5 k hk) (fun k hk=>?_) (ih _ _ hp')
      have:=I1 C i _ 0 hal k (by rw [hlen];exact hk)
      rw [Nat.zero_add] at this;exact this
     ·cases h
   ·cases h
theorem Ha{ops:List Oper}{eff mi i d:Nat}:∀ (l:List Oper) (mm:List Nat) (j0:Nat),Jv ops eff mi i d l mm j0=true→mm.length=l.length→∀ j o,l[j]? =some o→
  (CX ops o d=true→(nth mm j).testBit i=true∨(eff.testBit i=true∧(i=j0+j∨mi.testBit (j0+j)=true)))∧(i=j0+j∨o.dst≠some d)
 |[],_,_,_,_,j,o,h=>by simp at h
 |x::r,mm,j0,hs,hl,j,o,h=>by
  cases mm with
  |nil=>simp at hl
  |cons m1 mr=>
   simp only [Jv,Bq,List.tail_cons] at hs;cases j with
   |zero=>
    simp at h;subst h;refine ⟨fun hl=>?_,?_⟩
    ·have h1:=hs.1;rw [hl] at h1;simp only [Ct,Bool.or_eq_true,Bq] at h1;rcases h1 with h1 | ⟨h1,h2 | h2⟩
     ·exact .inl h1
     ·exact .inr ⟨h1,.inl (Nb h2)⟩
     ·exact .inr ⟨h1,.inr h2⟩
    ·have h2:=hs.2.1;simp only [Bool.or_eq_true] at h2;rcases h2 with h2 | h2
     ·exact .inl (Nb h2)
     ·refine .inr fun hd=>?_;rw [hd] at h2;simp at h2
   |succ j=>
    have:=Ha r mr (j0+1) hs.2.2 (by simpa using hl) j o (by simpa using h)
    rw [show j0+1+j=j0+(j+1) by omega] at this;exact this
structure Po (ops:List Oper) (eff:Nat):Prop where
 dst:∀ (i:Nat) (o:Oper),ops[i]? =some o→o.dst=none→eff.testBit i=true
 looks:∀ (i:Nat) (o:Oper) (d:Tmp),ops[i]? =some o→o.dst=some d→∀ (j:Nat) (o':Oper),ops[j]? =some o'→CX ops o' d=true→anc ops i j∨(eff.testBit i=true∧(i=j∨anc ops j i))
 once:∀ (i:Nat) (o:Oper) (d:Tmp),ops[i]? =some o→o.dst=some d→∀ (j:Nat) (o':Oper),ops[j]? =some o'→o'.dst=some d→i=j
 back:XO ops
theorem DX{ops:List Oper}{eff:Nat}:∀ (l:List Oper) (i0:Nat),GN ops (Dc ops []) eff l i0=true→∀ i o,l[i]? =some o→
  (o.dst=none→eff.testBit (i0+i)=true)∧(∀ d,o.dst=some d→Jv ops eff (nth (Dc ops []) (i0+i)) (i0+i) d ops (Dc ops []) 0=true)∧
  (∀ e∈o.after.toList,Region.binds .any e=true→e.on<i0+i)
 |[],_,_,i,o,h=>by simp at h
 |x::r,i0,hs,i,o,h=>by
  simp only [GN,Bq] at hs;obtain ⟨h1,h2,h3⟩:=hs;cases i with
  |zero=>
   simp at h;subst h;refine ⟨fun hd=>?_,fun d hd=>?_,fun e he hb=>?_⟩
   ·rw [hd] at h1;exact h1
   ·rw [hd] at h1;exact h1
   ·have:=List.all_eq_true.1 h2 e he
    rw [hb] at this;simp at this;omega
  |succ i=>
   have:=DX r (i0+1) h3 i o (by simpa using h)
   rw [show i0+1+i=i0+(i+1) by omega] at this;exact this
theorem Q9{ops:List Oper}(h:GN ops (Dc ops []) eff ops 0=true):Po ops eff:=by
 have hlen:(Dc ops []).length=ops.length:=by simp [Hl]
 refine ⟨fun i o ho hd=>?_,fun i o d ho hd j o' ho' hl=>?_,fun i o d ho hd j o' ho' hd'=>?_,fun i o ho e he hb=>?_⟩
 ·simpa using (DX ops 0 h i o ho).1 hd
 ·have:=(DX ops 0 h i o ho).2.1 d hd
  rw [Nat.zero_add] at this
  have:=(Ha ops _ 0 this hlen j o' ho').1 hl
  rw [Nat.zero_add] at this;exact this
 ·have:=(DX ops 0 h i o ho).2.1 d hd
  rw [Nat.zero_add] at this
  have:=(Ha ops _ 0 this hlen j o' ho').2
  rw [Nat.zero_add] at this;exact this.resolve_right fun h=>h hd'
 ·simpa using (DX ops 0 h i o ho).2.2 e he hb
def DL(P:Program)(ops:List Oper):Nat:=Dw (fun o=>!(Cj P o || D1 o)) ops 0
def Ol(ops:List Oper):Nat:=Dw D1 ops 0
theorem Mr{P:Program}{ops:List Oper}{p:List Nat}(h:Mt P ops=some p):Po ops (DL P ops)∧E5 ops (DL P ops) (Ol ops) 0 p:=by
 unfold Mt at h;simp only at h;cases hs:GN ops (Dc ops []) (Dw (fun o=>!(Cj P o || D1 o)) ops 0) ops 0 with
 |false=>rw [hs] at h;cases h
 |true=>
  rw [hs] at h;simp only [Ct] at h;exact ⟨Q9 hs,P1 _ _ _ h⟩
def Lin(ops:List Oper):(Nat→Prop)→List Nat→Prop
 |S,[]=>∀ i,i<ops.length→S i
 |S,i::r=>i<ops.length∧¬ S i∧(∀ k,anc ops k i→S k)∧Lin ops (fun k=>S k∨k=i) r
theorem Lin.congr{ops:List Oper}:∀ {l:List Nat} {S T:Nat→Prop},(∀ k,S k↔T k)→Lin ops S l→Lin ops T l
 |[],S,T,h,hl=>fun i hi=>(h i).1 (hl i hi)
 |i::r,S,T,h,⟨h1,h2,h3,h4⟩=>⟨h1,fun ht=>h2 ((h i).2 ht),fun k hk=>(h k).1 (h3 k hk),Lin.congr (fun k=>by rw [h k]) h4⟩
def isDone(listed:Array Bool)(k:Nat):Prop:=listed.getD k false=true
theorem RO(hi:i<listed.size)(k:Nat):isDone (listed.setIfInBounds i true) k↔(isDone listed k∨k=i):=by
 unfold isDone;simp only [Array.getD_eq_getD_getElem?,Array.getElem?_setIfInBounds];by_cases e:i=k
 ·subst e;simp [hi]
 ·simp [e,Ne.symm e]
theorem mem_ready{ops:Array Oper}(hs:listed.size=ops.size)(h:i∈Region.ready .any ops listed):
  i<ops.size∧¬ isDone listed i∧∃ o,ops[i]? =some o∧∀ e∈o.after.toList,Region.binds .any e=true→isDone listed e.on:=by
 unfold Region.ready at h;simp only [List.mem_filter,List.mem_range,Bq,Bool.not_eq_true'] at h;obtain ⟨hi,h1,h2⟩:=h;refine ⟨hi,?_,ops[i],by simp [hi],fun e he hb=>?_⟩
 ·unfold isDone;simp only [Array.getD_eq_getD_getElem?,Array.getElem?_eq_getElem (hs▸hi),Option.getD_some] at h1 ⊢;simp [h1]
 ·simp only [Array.getElem?_eq_getElem hi,Option.map_some,Option.getD_some] at h2;rw [Array.all_eq_true'] at h2
  have:=h2 e (by simpa using he)
  rw [hb] at this
  simpa [isDone] using this
theorem U7{ops:Array Oper}(hs:listed.size=ops.size){o:Oper}(ho:ops[i]? =some o)(hn:¬ isDone listed i)(he:∀ e∈o.after.toList,Region.binds .any e=true→isDone listed e.on):
  i∈Region.ready .any ops listed:=by
 have hi:i<ops.size:=by
  rcases Nat.lt_or_ge i ops.size with h | h
  ·exact h
  ·rw [Array.getElem?_eq_none h] at ho;cases ho
 unfold Region.ready;simp only [List.mem_filter,List.mem_range,Bq,Bool.not_eq_true'];refine ⟨hi,?_,?_⟩
 ·unfold isDone at hn;simp only [Array.getD_eq_getD_getElem?,Array.getElem?_eq_getElem (hs▸hi),Option.getD_some] at hn ⊢
  simpa using hn
 ·simp only [ho,Option.map_some,Option.getD_some];rw [Array.all_eq_true'];intro e hm;cases hb:Region.binds .any e with
  |false=>rfl
  |true=>simpa [isDone] using he e (by simpa using hm) hb
theorem Zh{ops:Array Oper}(hb:XO ops.toList):∀ (fuel t:Nat) (listed:Array Bool),listed.size=ops.size→(∀ i,isDone listed i→∀ k,anc ops.toList k i→isDone listed k)→
  ops.size≤listed.toList.count true+fuel→Lin ops.toList (isDone listed) (Region.linearise.go .any ops fuel t listed []):=by
 intro fuel
 induction fuel with
 |zero=>
  intro t listed hs hcl hcount;simp only [Region.linearise.go,List.reverse_nil];intro i hi;have h1:listed.toList.count true≤listed.toList.length:=List.count_le_length;have h4:listed.toList.length=ops.size:=by simpa using hs
  have h2:listed.toList.count true=listed.toList.length:=by omega
  have h3:=List.count_eq_length.1 h2;unfold isDone;have hi':i<listed.size:=by rw [hs];simpa using hi
  simp only [Array.getD_eq_getD_getElem?,Array.getElem?_eq_getElem hi',Option.getD_some];exact (h3 _ (by simp)).symm
 |succ fuel ih=>
  intro t listed hs hcl hcount;have hgo:Region.linearise.go .any ops (fuel+1) t listed []=(match (Region.ready .any ops listed)[t%(Region.ready .any ops listed).length]? with
   |some i=>Region.linearise.go .any ops fuel (t/(Region.ready .any ops listed).length) (listed.setIfInBounds i true) [i]
   |none=>[].reverse):=by rfl
  rw [hgo];cases hi:(Region.ready .any ops listed)[t%(Region.ready .any ops listed).length]? with
  |none=>
   have hnil:Region.ready .any ops listed=[]:=by
    cases hr:Region.ready .any ops listed with
    |nil=>rfl
    |cons x xs=>
     rw [hr] at hi;have hlt:t%(x::xs).length<(x::xs).length:=Nat.mod_lt _ (by simp);simp at hi;simp at hlt;omega
   simp only [List.reverse_nil];intro i hi
   induction i using Nat.strongRecOn with
   |ind i ih2=>
    obtain ⟨o,ho⟩:∃ o,ops.toList[i]? =some o:=⟨_,Ge hi⟩;by_cases hd:isDone listed i
    ·exact hd
    ·have:=U7 hs (i:=i) (o:=o) (by simpa using ho) hd fun e he hbe=>ih2 e.on (hb i o ho e he hbe) (by have:=hb i o ho e he hbe;omega)
     rw [hnil] at this;cases this
  |some i=>
   simp only;obtain ⟨h1,h2,o,h3,h4⟩:=mem_ready hs (List.mem_of_getElem? hi);rw [linearise_go_acc,List.reverse_singleton,List.singleton_append];have ho:ops.toList[i]? =some o:=by simpa using h3
   have hanc:∀ k,anc ops.toList k i→isDone listed k:=by
    intro k hk;obtain ⟨e,he,hbe,h⟩:=(QO ho (hb i o ho) k).1 hk;rcases h with h | h
    ·rw [h];exact h4 e he hbe
    ·exact hcl _ (h4 e he hbe) k h
   refine ⟨by simpa using h1,h2,hanc,?_⟩;have hset:=RO (listed:=listed) (i:=i) (by omega);refine Lin.congr hset (ih _ _ (by simpa using hs) (fun j hj k hk=>?_) ?_)
   ·rw [hset] at hj ⊢;rcases hj with hj | rfl
    ·exact .inl (hcl j hj k hk)
    ·exact .inl (hanc k hk)
   ·have hi':i<listed.toList.length:=by simp;omega
    have hf:listed.toList[i]=false:=by
     unfold isDone at h2;simp only [Array.getD_eq_getD_getElem?,Array.getElem?_eq_getElem (show i<listed.size by omega),Option.getD_some] at h2
     simpa using h2
    rw [Array.toList_setIfInBounds,List.count_set hi',hf];show ops.size≤listed.toList.count true-0+1+fuel;omega
theorem Zg{ops:Array Oper}(hb:XO ops.toList)(t:Nat):Lin ops.toList (fun _=>False) (Region.linearise .any ops t):=by
 refine Lin.congr (fun k=>?_) (Zh hb ops.size t (Array.replicate ops.size false) (by simp) (fun i hi=>?_) (by omega))
 ·unfold isDone;simp [Array.getElem?_replicate];split<;>simp
 ·exfalso;unfold isDone at hi;simp [Array.getElem?_replicate] at hi;split at hi<;>simp at hi
variable {tmps:Array Value} {j:Nat} {A A':AW}
section
variable {P:Program}
def GOk(m:Inj P):Prop:=∀ g,g<P.globals.size→m g=some (g,0)
theorem GOk.mono{m m':Inj P}(h:m.le m')(g:GOk m):GOk m':=fun i hi=>h.map _ _ (g i hi)
def BJ(tm:Tm):Operand→Value
 |.tmp t=>tm.get t
 |.const v=>v
 |.global g=>.pointer (some ⟨g,0,none⟩)
 |.func f=>.func (.func f) #[] #[]
def evalW(tmps:Array Value):Operand→Value
 |.tmp t=>tmps.getD t undef
 |.const v=>v
 |.global g=>.pointer (some ⟨g,0,none⟩)
 |.func f=>.func (.func f) #[] #[]
theorem BW(fr:AFr):fr.eval=BJ fr.tm:=by funext x;cases x<;>rfl
theorem CB(f:Frame):f.eval=evalW f.tmps:=by funext x;cases x<;>rfl
theorem DN(m:Inj P):AI m undef undef:=.tuple .nil
theorem FD{m:Inj P}(hG:GOk m){tm:Tm}{x:Operand}(hok:Iu P x=true)(h:∀ t,x=.tmp t→AI m (tm.get t) (tmps.getD t undef)):AI m (BJ tm x) (evalW tmps x):=by
 cases x with
 |tmp t=>exact h t rfl
 |const v=>exact BP 4 v hok
 |global g=>exact .ptr ⟨rfl,rfl,0,hG g (Ax.1 hok),rfl⟩
 |func f=>exact .func (.inl ⟨rfl,fun l h=>by cases h⟩) .nil .nil
theorem Ps{m:Inj P}{ops:Array Oper}{tm:Tm}(h:∀ o d,ops.toList[j]? =some o→o.dst=some d→AI m (tm.get d) (tmps.getD d undef)):
  yielded ops tmps j=Eg ops tm j:=by
 unfold yielded Eg;cases ho:ops[j]? with
 |none=>
  have:ops.toList[j]? =none:=by simpa using ho
  rw [this];rfl
 |some o=>
  have ho':ops.toList[j]? =some o:=by simpa using ho
  rw [ho'];simp only [Option.bind_some];cases hd:o.dst with
  |none=>rfl
  |some d=>
   have hr:=h o d ho' hd;simp only [Option.bind_some];cases hs:tmps[d]? with
   |none=>
    rw [Array.getD_eq_getD_getElem?,hs,Option.getD_none] at hr;generalize hq:tm.get d=x at hr;cases hr;rfl
   |some y=>
    rw [Array.getD_eq_getD_getElem?,hs,Option.getD_some] at hr;generalize hq:tm.get d=x at hr;cases hr<;>rfl
theorem G6{m:Inj P}{ops:Array Oper}{tm:Tm}{o:Oper}(h:∀ j b,o.guard=some (j,b)→∀ g d,ops.toList[j]? =some g→g.dst=some d→AI m (tm.get d) (tmps.getD d undef)):
  Region.wanted o (yielded ops tmps)=AS ops tm o:=by
 unfold Region.wanted AS;cases hg:o.guard with
 |none=>rfl
 |some x=>
  obtain ⟨j,want⟩:=x;simp only;rw [Ps (h j want hg)];cases Eg ops tm j with
  |none=>rfl
  |some b=>cases b<;>cases want<;>rfl
theorem IS{ops:List Oper}{o:Oper}{t:Tmp}(h:Operand.tmp t∈o.op.operands.toList):CX ops o t=true:=by
 unfold CX;rw [Bool.or_eq_true];exact .inl (List.any_eq_true.2 ⟨_,h,by simp [JP]⟩)
theorem KW{ops:List Oper}{o g:Oper}{b:Bool}{d:Tmp}(h:o.guard=some (j,b))(hg:ops[j]? =some g)(hd:g.dst=some d):CX ops o d=true:=by
 unfold CX;rw [h];simp only [hg,hd]
 simp
theorem Tm.Ep(tm:Tm)(hs:tm.sz<Ak)(d t:Nat)(v:Value):(tm.set d v).get t=if t=d∧d<tm.sz then v else tm.get t:=by
 unfold Tm.set;cases hb:Nat.blt d tm.sz with
 |false=>
  have:=EQ.1 hb
  rw [Cf,Ff (by omega)]
 |true=>
  have:=Ax.1 hb
  rw [Ct];unfold Tm.get;rw [Trie.get?_put depth tm.t d t (some v) (by unfold depth Ak at *;omega)];by_cases e:t=d
  ·rw [if_pos e,if_pos ⟨e,this⟩]
  ·rw [Ff e,Ff (by omega)]
theorem Tm.HP(tm:Tm)(d:Nat)(v:Value):(tm.set d v).sz=tm.sz:=by
 unfold Tm.set;cases Nat.blt d tm.sz<;>rfl
theorem MR(tmps:Array Value)(d t:Nat)(v:Value):(tmps.setIfInBounds d v).getD t undef=if t=d∧d<tmps.size then v else tmps.getD t undef:=by
 simp only [Array.getD_eq_getD_getElem?,Array.getElem?_setIfInBounds];by_cases e:d=t
 ·subst e;by_cases h:d<tmps.size
  ·simp [h]
  ·simp [h]
 ·rw [Ff e,Ff (by omega)]
theorem Db.oob{m:Inj P}{tm:Tm}(h:Db m tm tmps)(t:Nat)(ht:tm.sz≤t):tm.get t=undef:=by
 have:=h.val t
 rw [Array.getD_eq_getD_getElem?,Array.getElem?_eq_none (by have:=h.size;omega),Option.getD_none] at this;generalize tm.get t=x at this;unfold undef at this;cases this with
 |tuple h=>cases h;rfl
variable {X:Bc}
theorem NN{s d:TypeId}{x v:Value}(hq:(match P.underlying d with | some (.slice _)=>false | some _=>true | none=>false)=true)(h:AK P A s d x=.ok v A'):A'=A:=by
 unfold AK at h
 try simp only [Bool.cond_eq_ite] at h
 split at h
 case h_4=>rename_i hd;rw [hd] at hq;cases hq
 all_goals
  repeat' split at h
 all_goals first
  |(cases h;rfl)
  |(cases h;done)
theorem NQ{b:Builtin}{ts:List TypeId}{ty:TypeId}{args:List Value}{n:AN}(hb:Rj b=true)(h:Ca P A b ts ty args=.ok n A'):A'=A∧∃ v,n=.value v:=by
 unfold Ca at h;simp only [Bool.cond_eq_ite] at h;cases b<;>simp only [Rj] at hb<;>first | (cases hb;done) | skip
 all_goals
  repeat' split at h
 all_goals first | contradiction | (cases h;exact ⟨rfl,_,rfl⟩) | (cases h;done)
theorem D3{ρ:Operand→Value}{o:Oper}{n:AN}(hq:Cj P o.op=true)(h:AL P X ρ o A=.ok n A'):A'=A∧∃ v,n=.value v:=by
 obtain ⟨dst,op,type,pos,after,guard⟩:=o;cases op<;>simp only [Cj] at hq<;>first | (cases hq;done) | skip
 case convert s d x=>
  unfold AL at h;simp only at h;split at h
  ·rename_i v w hc;cases h;exact ⟨NN hq hc,_,rfl⟩
  ·cases h
  ·cases h
 case call c=>
  unfold AL at h;simp only at h;split at h
  rotate_left
  ·cases h
  rename_i d hd;split at hq
  rotate_left
  ·cases hq
  rename_i b hc;unfold C7 at hd;rw [hc] at hd;simp only [Oi] at hd;subst hd;exact NQ (ty:=type) hq h
 all_goals
  unfold AL at h;simp only at h
  repeat' split at h
 all_goals first | (cases h;exact ⟨rfl,_,rfl⟩) | (cases h;done) | skip
end
variable {A A':AW} {b lo:Nat} {e:TypeId} {w w':World} {cs:List Value}
section
variable {P:Program} {X:Bc}
theorem Fg{ρ ρ2:Operand→Value}:∀ {l:List (Nat × Operand)},(∀ x∈l.map (·.2),ρ x=ρ2 x)→EK l ρ=EK l ρ2
 |[],_=>rfl
 |(i,x)::r,h=>by
  simp only [EK];rw [h x (by simp),Fg fun y hy=>h y (by simp at hy ⊢;exact .inr hy)]
theorem HR{ρ ρ2:Operand→Value}{c:Call}{type:TypeId}(h:∀ x∈c.operands.toList,ρ x=ρ2 x):C7 ρ c type=C7 ρ2 c type:=by
 have hargs:c.args.toList.map ρ=c.args.toList.map ρ2:=List.map_congr_left fun x hx=>h x (by simp [Call.operands] at hx ⊢;exact .inr hx);unfold C7;simp only [hargs];cases hc:c.callee with
 |value f=>have hf:ρ f=ρ2 f:=h f (by simp [Call.operands,hc]);simp only [hf]
 |invoke r m=>have hr:ρ r=ρ2 r:=h r (by simp [Call.operands,hc]);simp only [hr]
 |builtin b=>rfl
theorem Le{ρ ρ2:Operand→Value}{o:Oper}(h:∀ x∈o.op.operands.toList,ρ x=ρ2 x):AL P X ρ o A=AL P X ρ2 o A:=by
 obtain ⟨dst,op,type,pos,after,guard⟩:=o;cases op<;>simp only [Op.operands] at h<;>unfold AL<;>simp only
 case build t ps=>rw [Fg h]
 case buildSlice t n ps=>rw [Fg h]
 case makeFunc fn first captured=>
  rw [List.map_congr_left (l:=first.toList) fun x hx=>h x (by simp;exact .inl (by simpa using hx)),List.map_congr_left (l:=captured.toList) fun x hx=>h x (by simp;exact .inr (by simpa using hx))]
 case call c=>rw [HR h]
 case defer c=>rw [HR h]
 case makeMap t r=>cases r<;>simp_all
 case slice t x lo hi mx=>cases lo<;>cases hi<;>cases mx<;>simp_all
 all_goals (first | rfl | (simp_all;done))
theorem NB{ρ ρ2:Operand→Value}{op:Op}(h:∀ x∈op.operands.toList,ρ x=ρ2 x):Bi P ρ op=Bi P ρ2 op:=by
 cases op<;>simp only [Op.operands] at h<;>unfold Bi<;>simp only
 case buildSlice t n ps=>rw [Fg h]
 case makeMap t r=>cases r<;>simp_all
 all_goals (first | rfl | (simp_all;done))
def MO:Value→Option Nat
 |.pointer (some a)=>some a.block
 |.slice (some a) _ _=>some a.block
 |.map (some b)=>some b
 |_=>none
theorem Vm{o:AO}(h:A.new o=some (b,A')):b=A.next∧A.next<Ak∧A'={ (A.put A.next o) with next:=A.next+1 }:=by
 unfold AW.new at h;cases hb:Nat.blt A.next Ak with
 |false=>rw [hb] at h;cases h
 |true=>
  rw [hb] at h;simp only [Ct,Oi,Pj] at h;exact ⟨h.1.symm,Ax.1 hb,h.2.symm⟩
theorem HX{l:List Value}{a:Addr}(h:A.newRow l e=some (a,A')):∃ b,A.new (.row l e A.next 0 false)=some (b,A')∧a=⟨b,0,none⟩:=by
 unfold AW.newRow at h;cases hc:l.all AP with
 |false=>rw [hc] at h;cases h
 |true=>
  rw [hc,Ct] at h;split at h
  ·rename_i b A1 hn;simp only [Oi,Pj] at h;exact ⟨b,by rw [hn,h.2],h.1.symm⟩
  ·cases h
theorem Nj{ρ:Operand→Value}{o:Oper}{n:AN}(hq:D1 o.op=true)(h:AL P X ρ o A=.ok n A'):
  ∃ v ob b,n=.value v∧A.new ob=some (b,A')∧(∀ f k,ob.fam=some (f,k)→f=A.next)∧MO v=some b:=by
 obtain ⟨dst,op,type,pos,after,guard⟩:=o;have row:∀ (l:List Value) (e:TypeId),(∀ f k,(AO.row l e A.next 0 false).fam=some (f,k)→f=A.next):=fun l e f k h=>by simp [AO.fam] at h;exact h.1.symm
 cases op<;>simp only [D1] at hq<;>first | (cases hq;done) | skip
 case alloc e=>
  unfold AL at h;simp only at h;split at h
  rotate_left
  ·cases h
  split at h
  rotate_left
  ·cases h
  rename_i z hz a A1 hn;cases h;obtain ⟨b,h1,rfl⟩:=HX hn;exact ⟨_,_,b,rfl,h1,row _ _,rfl⟩
 case box e x=>
  unfold AL at h;simp only at h;split at h
  rotate_left
  ·cases h
  rename_i a A1 hn;cases h;obtain ⟨b,h1,rfl⟩:=HX hn;exact ⟨_,_,b,rfl,h1,row _ _,rfl⟩
 case buildSlice t len parts=>
  unfold AL Aq at h;simp only [Bool.cond_eq_ite] at h
  repeat' split at h
  all_goals first | (cases h;done) | skip
  all_goals
   rename_i hb
   repeat' split at hb
   all_goals first | (cases hb;done) | skip
  rename_i hn;cases hb;cases h;obtain ⟨b,h1,rfl⟩:=HX hn;exact ⟨_,_,b,rfl,h1,row _ _,rfl⟩
 case makeMap t r=>
  unfold AL at h;simp only at h
  repeat' split at h
  all_goals first | (cases h;done) | skip
  all_goals
   rename_i hn;cases h;exact ⟨_,_,_,rfl,hn,fun f k h=>by simp [AO.fam] at h,rfl⟩
theorem Rel.Fb{m:Inj P}(r:Rel m A w){o:AO}(h:A.new o=some (b,A'))(hf:∀ f k,o.fam=some (f,k)→f=A.next):
  Rel m A' w∧A'.next=A.next+1∧b=A.next∧m b=none∧(∀ j,j≠b→A'.get j=A.get j):=by
 obtain ⟨rfl,hmax,rfl⟩:=Vm h;have hg':∀ j,({ A.put A.next o with next:=A.next+1 }:AW).get j=if j=A.next then some o else A.get j:=fun j=>AW.Cp A _ j o hmax
 have hmn:=(r.fresh A.next (Nl _)).2.1;refine ⟨⟨?_,?_,?_,?_,?_,?_,?_⟩,rfl,rfl,hmn,fun j hj=>by rw [hg',Ff hj]⟩
 ·intro i oi c d hi hm;rw [hg'] at hi;split at hi
  ·rename_i e;subst e;rw [hmn] at hm;cases hm
  ·exact r.obj i oi c d hi hm
 ·intro i cs e k ro hi c d hm;rw [hg'] at hi;split at hi
  ·rename_i e;subst e;rw [hmn] at hm;cases hm
  ·exact r.home i cs e k ro hi c d hm
 ·intro i j oi oj c di dj hij hi hj hmi hmj;rw [hg'] at hi hj;split at hi
  ·rename_i e;subst e;rw [hmn] at hmi;cases hmi
  ·split at hj
   ·rename_i e;subst e;rw [hmn] at hmj;cases hmj
   ·exact r.sep i j oi oj c di dj hij hi hj hmi hmj
 ·intro i oi f k hi hfam;rw [hg'] at hi;split at hi
  ·rename_i e;subst e;cases hi
   have:=hf f k hfam
   subst this;refine ⟨?_,by show _<A.next+1;omega⟩
   have:A.fams.get? A.next=none:=(r.fresh _ (Nl _)).2.2
   show A.next∈(match A.fams.get? A.next with | some l=>l | none=>[A.next]);rw [this];simp
  ·obtain ⟨h1,h2⟩:=r.mem i oi f k hi hfam;exact ⟨h1,by show _<A.next+1;omega⟩
 ·intro i hi;have hi':A.next+1≤i:=hi;obtain ⟨h1,h2,h3⟩:=r.fresh i (by omega);exact ⟨by rw [hg',Ff (by omega)];exact h1,h2,h3⟩
 ·show A.next+1≤Ak;omega
 ·intro i cs e f k ro c d hi hm;rw [hg'] at hi;split at hi
  ·rename_i e';subst e';rw [hmn] at hm;cases hm
  ·exact r.room i cs e f k ro c d hi hm
structure EvL (lo:Nat) (m:Inj P) (A:AW) (w:World) (m':Inj P) (A':AW) (w':World):Prop where
 ext:m.le m'
 rel:Rel m' A' w'
 size:w.heap.size≤w'.heap.size
 os:w'.os=w.os
 tape:w'.tape=w.tape
 output:w'.output=w.output
 draws:w.drawn≤w'.drawn
 keep:∀ c,c<w.heap.size→¬ Own m A c→w'.heap[c]? =w.heap[c]?
 own:∀ c,c<w.heap.size→Own m' A' c→Own m A c
 next:A.next≤A'.next
 same:∀ i,i<lo→m' i=m i
theorem Ev.low{m m':Inj P}(h:Ev m A w m' A' w')(hl:lo≤A.next):EvL lo m A w m' A' w':=
 ⟨h.ext,h.rel,h.size,h.os,h.tape,h.output,h.draws,h.keep,h.own,h.next,fun i hi=>h.same i (by omega)⟩
theorem EvL.refl{m:Inj P}(r:Rel m A w)(lo:Nat):EvL lo m A w m A w:=
 ⟨.refl m,r,Nl _,rfl,rfl,rfl,Nl _,fun _ _ _=>rfl,fun _ _ h=>h,Nl _,fun _ _=>rfl⟩
theorem EvL.On{lo':Nat}{m m':Inj P}(h:EvL lo m A w m' A' w')(hl:lo'≤lo):EvL lo' m A w m' A' w':=
 { h with same:=fun i hi=>h.same i (by omega) }
theorem EvL.trans{m m' m'':Inj P}{A'':AW}{w'':World}(h:EvL lo m A w m' A' w')(k:EvL lo m' A' w' m'' A'' w''):EvL lo m A w m'' A'' w'':=by
 refine ⟨h.ext.trans k.ext,k.rel,Nat.le_trans h.size k.size,k.os.trans h.os,k.tape.trans h.tape,k.output.trans h.output,Nat.le_trans h.draws k.draws,fun c hc hn=>?_,fun c hc ho=>?_,Nat.le_trans h.next k.next,fun i hi=>(k.same i hi).trans (h.same i hi)⟩
 ·rw [k.keep c (Nat.lt_of_lt_of_le hc h.size) (fun ho=>hn (h.own c hc ho)),h.keep c hc hn]
 ·exact h.own c hc (k.own c (Nat.lt_of_lt_of_le hc h.size) ho)
theorem EvL.Fb{m:Inj P}(r:Rel m A w){o:AO}(h:A.new o=some (b,A'))(hf:∀ f k,o.fam=some (f,k)→f=A.next)(lo:Nat):EvL lo m A w m A' w:=by
 obtain ⟨h1,h2,rfl,h4,h5⟩:=r.Fb h hf;refine ⟨.refl m,h1,Nl _,rfl,rfl,rfl,Nl _,fun _ _ _=>rfl,fun c hc ⟨i,oi,d,hi,hro,hm⟩=>?_,by omega,fun _ _=>rfl⟩;have hne:i≠A.next:=fun e=>by rw [e,h4] at hm;cases hm
 exact ⟨i,oi,d,by rw [← h5 i hne];exact hi,hro,hm⟩
theorem EvL.OE{m:Inj P}(r:Rel m A w){o:AO}{o':Obj}(hb:A.get b=some o)(hm:m b=none)(hr:G4 m 0 o o')(hlo:lo≤b):
  ∃ m',EvL lo m A w m' A { w with heap:=w.heap.push o' }∧m' b=some (w.heap.size,0)∧(∀ j,j≠b→m' j=m j):=by
 have hle:m.le (m.ext b (w.heap.size,0) 0 0 0 (fun h=>absurd rfl h)):=Inj.RK hm;refine ⟨m.ext b (w.heap.size,0) 0 0 0 (fun h=>absurd rfl h),⟨hle,⟨?_,?_,?_,r.mem,?_,r.lim,?_⟩,by simp,rfl,rfl,rfl,Nl _,fun c hc _=>CL w o' c hc,?_,Nl _,fun i hi=>Inj.Bp (by omega)⟩,Inj.Bs,fun j hj=>Inj.Bp hj⟩
 ·intro i oi c d hi hmi;by_cases e:i=b
  ·subst e;rw [Inj.Bs] at hmi;cases hmi;rw [hb] at hi;cases hi;exact ⟨o',Dr w o',hr.mono hle⟩
  ·rw [Inj.Bp e] at hmi;obtain ⟨oi',h2,h3⟩:=r.obj i oi c d hi hmi;exact ⟨oi',by rw [CL _ _ _ (r.Ez hi hmi)];exact h2,h3.mono hle⟩
 ·intro i cs e k ro hi c d hmi;by_cases e':i=b
  ·subst e';rw [Inj.Bs] at hmi;cases hmi;rfl
  ·rw [Inj.Bp e'] at hmi;exact r.home i cs e k ro hi c d hmi
 ·intro i j oi oj c di dj hij hi hj hmi hmj;by_cases ei:i=b
  ·subst ei;rw [Inj.Bs] at hmi;cases hmi;rw [Inj.Bp (Ne.symm hij)] at hmj
   have:=r.Ez hj hmj
   omega
  ·rw [Inj.Bp ei] at hmi;by_cases ej:j=b
   ·subst ej;rw [Inj.Bs] at hmj;cases hmj
    have:=r.Ez hi hmi
    omega
   ·rw [Inj.Bp ej] at hmj;exact r.sep i j oi oj c di dj hij hi hj hmi hmj
 ·intro i hi;obtain ⟨h1,h2,h3⟩:=r.fresh i hi;have hbn:=r.lt hb;exact ⟨h1,by rw [Inj.Bp (by omega)];exact h2,h3⟩
 ·intro i cs e f k ro c d hi hmi;by_cases e':i=b
  ·subst e';rw [Inj.Bs] at hmi;cases hmi;rw [hb] at hi;cases hi;obtain ⟨cs',fr,rfl,_⟩:=hr;rw [Inj.CQ,Inj.RS];exact ⟨fun h=>absurd rfl h,cs',e,fr,Dr w _,by omega,fun _ k hk=>by omega⟩
  ·rw [Inj.Bp e'] at hmi;rw [Inj.FW e',Inj.Hq e'];obtain ⟨g1,cs',e2,fr,g2,g3,g4⟩:=r.room i cs e f k ro c d hi hmi;exact ⟨g1,cs',e2,fr,by rw [CL _ _ _ (r.Ez hi hmi)];exact g2,g3,g4⟩
 ·rintro c hc ⟨i,oi,d,hi,hro,hmi⟩;by_cases e:i=b
  ·subst e;rw [Inj.Bs] at hmi;cases hmi;omega
  ·rw [Inj.Bp e] at hmi;exact ⟨i,oi,d,hi,hro,hmi⟩
theorem TI{m:Inj P}{ρ ρ':Operand→Value}{o:Oper}{c:QR}(hρ:∀ x∈o.op.operands.toList,AI m (ρ x) (ρ' x))(h:Bi P ρ o.op=some c):
  match c with
  |.row cs e=>∃ cs',AJ m cs cs'∧(execOp ρ' o).run P w=.ok (.value (.pointer (some ⟨w.heap.size,0,none⟩))) { w with heap:=w.heap.push (.cells ⟨cs'⟩ e) }
  |.slice cs e len=>∃ cs',AJ m cs cs'∧(execOp ρ' o).run P w=.ok (.value (.slice (some ⟨w.heap.size,0,none⟩) len len)) { w with heap:=w.heap.push (.cells ⟨cs'⟩ e) }∧len<Bo
  |.map=>(execOp ρ' o).run P w=.ok (.value (.map (some w.heap.size))) { w with heap:=w.heap.push (.map #[] 0) }:=by
 obtain ⟨dst,op,type,pos,after,guard⟩:=o;cases op<;>simp only [Bi] at h<;>first | (cases h;done) | skip
 case alloc e=>
  split at h
  rotate_left
  ·cases h
  rename_i z hz;cases hc:z.cells.toList.all AP with
  |false=>rw [hc] at h;cases h
  |true=>
   rw [hc,Ct,Oi] at h;subst h;obtain ⟨_,hcl⟩:=Cr hz;exact ⟨_,(BP (m:=m) 4 z hcl).cells,by simp [execOp,Instr.alloc,Bl hz,newVar,Ci]⟩
 case box e x=>
  cases hc:(ρ x).cells.toList.all AP with
  |false=>rw [hc] at h;cases h
  |true=>
   rw [hc,Ct,Oi] at h;subst h;exact ⟨_,(hρ x (by simp [Op.operands])).cells,by simp [execOp,Instr.box,newVar,Ci]⟩
 case buildSlice t len parts=>
  split at h
  rotate_left
  ·cases h
  rename_i e ht;split at h
  rotate_left
  ·cases h
  rename_i size hs;cases hc:(Nat.ble (len*size) 16777216&&Nat.blt len room) with
  |false=>rw [hc] at h;cases h
  |true=>
   rw [hc,Ct] at h;simp only [Bq] at hc;have h1:=Bj.1 hc.1;have h2:=Ax.1 hc.2;unfold room at h2;split at h
   rotate_left
   ·cases h
   rename_i zs hz;split at h
   rotate_left
   ·cases h
   rename_i cs hcs;cases hall:cs.all AP with
   |false=>rw [hall] at h;cases h
   |true=>
    rw [hall,Ct,Oi] at h;subst h;have hp:Gh m (EK parts.toList ρ) (parts.map fun x=>(x.1,ρ' x.2)).toList:=by
     rw [Array.toList_map];exact Hh parts.toList fun x hx=>hρ x.2 (List.mem_map.2 ⟨x,hx,rfl⟩)
    obtain ⟨hzr,zero,hrun,hmap⟩:=HF (P:=P) (m:=m) hz;obtain ⟨out',g3,g4⟩:=FV (place':=fun i=>some (i*size,size)) (fun i x hx=>hx) hp hzr hcs;refine ⟨out',g4,?_,by unfold Bo;omega⟩;have hlim:¬ (len*size>2^24):=by omega
    simp only [execOp,Instr.buildSlice,Sem.run_bind,run_underlying (CA ht),Result.andThen_ok,Bg hs,Ff hlim];rcases hrun with ⟨h0,rfl⟩ | ⟨h0,z,rfl,hzv⟩
    ·simp only [if_pos h0,Sem.run_bind,Sem.run_pure,Result.andThen_ok,hmap,g3,Ci]
    ·simp only [Ff h0,Sem.run_bind,hzv,Sem.run_pure,Result.andThen_ok,hmap,g3,Ci]
 case makeMap t r=>
  cases r with
  |none=>
   simp only [Oi] at h;subst h;simp [execOp,Instr.makeMap]
  |some y=>
   simp only at h;split at h
   rotate_left
   ·cases h
   rename_i mt k n hm hi;simp only [Oi] at h;subst h;have hy:=hρ y (by simp [Op.operands]);rw [hi] at hy;generalize hq:ρ' y=z at hy;cases hy;unfold Dp at hm;split at hm
   ·rename_i hu;simp [execOp,Instr.makeMap,run_underlying hu,hq,asInt,asIntOf]
   ·cases hm
theorem KS(h:EH A b cs e=true):∃ f k ro,A.get b=some (.row cs e f k ro):=by
 unfold EH at h;split at h
 ·rename_i ds e' f k ro hg;simp only [Bq] at h;have h1:=Nb h.1;have h2:=FI (FH 6) h.2;subst h1 h2;exact ⟨f,k,ro,hg⟩
 ·cases h
theorem JE{m:Inj P}{cs':List Value}(h:AJ m cs cs')(e:TypeId)(f k:Nat)(ro:Bool):G4 m 0 (.row cs e f k ro) (.cells ⟨cs'⟩ e):=by
 refine ⟨_,_,rfl,fun i v hv=>?_⟩;obtain ⟨v',h1,h2⟩:=h.get hv;exact ⟨v',by simpa using h1,fun _=>h2,fun _=>by simp⟩
theorem RF {m:Inj P} (r:Rel m A w) {ρ ρ':Operand→Value} {o:Oper} {c:QR} {v:Value} (hρ:∀ x∈o.op.operands.toList,AI m (ρ x) (ρ' x)) (h:Bi P ρ o.op=some c)
  (hs:Cb A v c=true) (hid:MO v=some b) (hm:m b=none) (hlo:lo≤b):
  ∃ v' w' m',(execOp ρ' o).run P w=.ok (.value v') w'∧EvL lo m A w m' A w'∧AI m' v v'∧(∀ j,j≠b→m' j=m j):=by
 have hrun:=TI (w:=w) hρ h;cases c with
 |row cs e=>
  obtain ⟨cs',h1,h2⟩:=hrun;simp only [Cb] at hs;split at hs
  ·rename_i a;simp only [Bq,Option.isNone_iff_eq_none] at hs;obtain ⟨f,k,ro,hg⟩:=KS hs.2.2;simp only [MO,Oi] at hid;subst hid;obtain ⟨m',g1,g2,g3⟩:=EvL.OE r hg hm (JE h1 e f k ro) hlo;exact ⟨_,_,m',h2,g1,.ptr ⟨hs.2.1,rfl,0,g2,by rw [Nb hs.1]⟩,g3⟩
  ·cases hs
 |slice cs e len=>
  obtain ⟨cs',h1,h2,h3⟩:=hrun;simp only [Cb] at hs;split at hs
  ·rename_i a n c;simp only [Bq,Option.isNone_iff_eq_none] at hs;obtain ⟨q1,q2,q3,q4,q5⟩:=hs;have q3:=Nb q3;have q4:=Nb q4;subst q3 q4;obtain ⟨f,k,ro,hg⟩:=KS q5;simp only [MO,Oi] at hid;subst hid;obtain ⟨m',g1,g2,g3⟩:=EvL.OE r hg hm (JE h1 e f k ro) hlo;exact ⟨_,_,m',h2,g1,.slice (.inl ⟨h3,rfl⟩) (Nl _) (fun _=>⟨q2,rfl,0,g2,by rw [Nb q1]⟩),g3⟩
  ·cases hs
 |map=>
  simp only [Cb] at hs;split at hs
  ·rename_i b';split at hs
   ·rename_i hg;simp only [MO,Oi] at hid;subst hid;obtain ⟨m',g1,g2,g3⟩:=EvL.OE (o':=.map #[] 0) r hg hm ⟨rfl,[],rfl,.nil⟩ hlo;exact ⟨_,_,m',hrun,g1,.map g2,g3⟩
   ·cases hs
  ·cases hs
end
variable {fr:AFr} {A:AW} {i lo hi C:Nat} {live:Bool} {tmps:Array Value} {S:Nat→Prop} {rl pl rest:List Nat} {f:Frame} {k:List Item} {cs:List Frame}
section
variable {P:Program} {X:Bc}
def Valid(P:Program)(X:Bc)(A:AW)(ops:Array Oper)(tm:Tm)(i:Nat):Prop:=
 ∀ o d,ops.toList[i]? =some o→o.dst=some d→
  (AS ops tm o=false→tm.get d=undef)∧
  (AS ops tm o=true→(Cj P o.op=true→∃ A',AL P X (BJ tm) o A=.ok (.value (tm.get d)) A')∧
   (Cj P o.op=false→∃ c,Bi P (BJ tm) o.op=some c∧Cb A (tm.get d) c=true))
theorem Ns{ops:Array Oper}(h:FK P X fr A ops i=true):Valid P X A ops fr.tm i:=by
 intro o d ho hd;unfold FK at h;rw [ho] at h;simp only [hd] at h;rw [BW] at h;cases hw:AS ops fr.tm o with
 |false=>
  rw [hw] at h;simp only [Cf] at h;exact And.intro (fun _=>(FH _ _ _ h).symm) (fun h=>Bool.noConfusion h)
 |true=>
  rw [hw] at h;simp only [Ct] at h;refine And.intro (fun h=>Bool.noConfusion h) (fun _=>⟨fun hq=>?_,fun hq=>?_⟩)
  ·rw [hq,Ct] at h;split at h
   ·rename_i v A' he;rw [← FH _ _ _ h];exact ⟨A',he⟩
   ·cases h
  ·rw [hq,Cf] at h;split at h
   ·rename_i c hc;exact ⟨c,hc,h⟩
   ·cases h
structure BE (P:Program) (X:Bc) (m:Inj P) (A:AW) (live:Bool) (lo hi:Nat) (tm:Tm) (tmps:Array Value) (ops:Array Oper) (S:Nat→Prop) (C:Nat) (rl pl:List Nat) (rest:List Nat):Prop where
 plan:E5 ops.toList (DL P ops.toList) (Ol ops.toList) C pl
 slotsOk:Po ops.toList (DL P ops.toList)
 opsOk:ops.toList.all (Rv P)=true
 rls:∀ x∈rl,ops.size≤x
 lin:Lin ops.toList S rest
 sub:∀ i,S i→C.testBit i=true
 bits:∀ i,C.testBit i=true→i<ops.size
 closed:∀ i,C.testBit i=true→∀ k,anc ops.toList k i→C.testBit k=true
 inb:∀ (i:Nat) (o:Oper) (d:Tmp),ops.toList[i]? =some o→o.dst=some d→d<tm.sz
 effs:∀ i,C.testBit i=true→(DL P ops.toList).testBit i=true→S i
 size:tmps.size=tm.sz
 small:tm.sz<Ak
 oob:∀ t,tm.sz≤t→tm.get t=undef
 slots:∀ t,(∀ (i:Nat) (o:Oper),C.testBit i=true→¬ S i→ops.toList[i]? =some o→o.dst≠some t)→AI m (tm.get t) (tmps.getD t undef)
 Fb:∀ (i:Nat) (o:Oper) (d:Tmp),C.testBit i=true→¬ S i→ops.toList[i]? =some o→o.dst=some d→Cj P o.op=false→AS ops tm o=true→∃ b,MO (tm.get d)=some b∧m b=none∧lo≤b∧b<hi
 apart:∀ (i j:Nat) (o p:Oper) (d e:Tmp),C.testBit i=true→¬ S i→ops.toList[i]? =some o→o.dst=some d→Cj P o.op=false→AS ops tm o=true→
  C.testBit j=true→¬ S j→ops.toList[j]? =some p→p.dst=some e→Cj P p.op=false→AS ops tm p=true→MO (tm.get d)=MO (tm.get e)→i=j
 valid:live=true→∀ i,C.testBit i=true→¬ S i→(ops.size+i)∈rl∨Valid P X A ops tm i
 wait:live=false→rl=[]∧∃ x p' r,pl=x::p'∧rest=x::r∧(DL P ops.toList).testBit x=true
theorem R5{ops:List Oper}{o:Oper}(ho:ops[i]? =some o):(DL P ops).testBit i=true↔(Cj P o.op=false∧D1 o.op=false):=by
 unfold DL;rw [Eu];constructor
 ·rintro ⟨o',_,h2,h3⟩;rw [Nat.sub_zero,ho] at h2;cases h2
  simpa using h3
 ·rintro ⟨h1,h2⟩;exact ⟨o,Nat.zero_le _,by simpa using ho,by simp [h1,h2]⟩
theorem Wn{ops:List Oper}{o:Oper}(ho:ops[i]? =some o):(Ol ops).testBit i=true↔D1 o.op=true:=by
 unfold Ol;rw [Eu];constructor
 ·rintro ⟨o',_,h2,h3⟩;rw [Nat.sub_zero,ho] at h2;cases h2;exact h3
 ·intro h;exact ⟨o,Nat.zero_le _,by simpa using ho,h⟩
theorem PX{op:Op}(h:D1 op=true):Cj P op=false:=by
 cases op<;>first | rfl | (cases h;done)
theorem BE.looked {m:Inj P} {tm:Tm} {ops:Array Oper}
  (D:BE P X m A live lo hi tm tmps ops S C rl pl rest) (hanc:∀ k,anc ops.toList k i→S k) {o:Oper} (ho:ops.toList[i]? =some o) {t:Tmp} (hl:CX ops.toList o t=true):
  AI m (tm.get t) (tmps.getD t undef):=by
 refine D.slots t fun j o' hc hs ho' hd=>?_;rcases D.slotsOk.looks j o' t ho' hd i o ho hl with h | ⟨h,_⟩
 ·exact hs (hanc j h)
 ·exact hs (D.effs j hc h)
theorem BE.operands {m:Inj P} (hG:GOk m) {tm:Tm} {ops:Array Oper}
  (D:BE P X m A live lo hi tm tmps ops S C rl pl rest) (hanc:∀ k,anc ops.toList k i→S k) {o:Oper} (ho:ops.toList[i]? =some o):
  ∀ x∈o.op.operands.toList,AI m (BJ tm x) (evalW tmps x):=by
 intro x hx;refine FD hG ?_ fun t ht=>?_
 ·have:=List.all_eq_true.1 D.opsOk o (List.mem_of_getElem? ho)
  exact List.all_eq_true.1 this x hx
 ·subst ht;exact D.looked hanc ho (IS hx)
theorem BE.wanted {m:Inj P} {tm:Tm} {ops:Array Oper}
  (D:BE P X m A live lo hi tm tmps ops S C rl pl rest) (hanc:∀ k,anc ops.toList k i→S k) {o:Oper} (ho:ops.toList[i]? =some o):
  Region.wanted o (yielded ops tmps)=AS ops tm o:=
 G6 fun _ _ hg _ _ hj hd=>D.looked hanc ho (KW hg hj hd)
theorem IU{ops:Array Oper}{o:Oper}(ht:f.todo=.inRegion ops (i::rest)::k)(ho:ops.toList[i]? =some o)(v:Value):
  f.finish v={ f with tmps:=(match o.dst with | some d=>f.tmps.setIfInBounds d v | none=>f.tmps),todo:=.inRegion ops rest::k }:=by
 have ho':ops[i]? =some o:=by simpa using ho
 simp only [Frame.finish,ht,ho',Option.bind_some];cases o.dst<;>rfl
theorem H8{ops:Array Oper}{o:Oper}(ht:fr.todo=.inRegion ops (i::rest)::k)(ho:ops.toList[i]? =some o)(v:Value):
  fr.finish v={ fr with tm:=(match o.dst with | some d=>fr.tm.set d v | none=>fr.tm),todo:=.inRegion ops rest::k }:=by
 simp only [AFr.finish,ht,ho];cases o.dst<;>rfl
theorem BE.ZK (hX:XOk P X) {m:Inj P} (hG:GOk m) {w:World} (r:Rel m A w) {tm:Tm} {ops:Array Oper}
  (D:BE P X m A true lo hi tm f.tmps ops S C [] pl (i::rest)) (hiC:C.testBit i=true) (hhi:hi≤A.next) (hlo:lo≤A.next) (hmode:f.mode=.run) (htodo:f.todo=.inRegion ops (i::rest)::k):
  ∃ tmps' m' w',step P (lone f cs w)=.next (lone { f with tmps:=tmps',todo:=.inRegion ops rest::k } cs w')∧EvL lo m A w m' A w'∧
   BE P X m' A true lo hi tm tmps' ops (fun j=>S j∨j=i) C [] pl rest:=by
 obtain ⟨hlt,hnS,hanc,hlin⟩:=D.lin;obtain ⟨o,ho⟩:∃ o,ops.toList[i]? =some o:=⟨_,Ge hlt⟩;have heff:(DL P ops.toList).testBit i=false:=by
  cases h:(DL P ops.toList).testBit i with
  |false=>rfl
  |true=>exact absurd (D.effs i hiC h) hnS
 obtain ⟨d,hd⟩:∃ d,o.dst=some d:=by
  cases h:o.dst with
  |some d=>exact ⟨d,rfl⟩
  |none=>rw [D.slotsOk.dst i o ho h] at heff;cases heff
 have hval:Valid P X A ops tm i:=by
  rcases D.valid rfl i hiC hnS with h | h
  ·cases h
  ·exact h
 have hw:=D.wanted hanc ho;have hops:=D.operands hG hanc ho;have hfin:=fun v=>IU htodo ho v;simp only [hd] at hfin;have ho':ops[i]? =some o:=by simpa using ho
 have key:∀ (m':Inj P) (w':World) (v':Value),EvL lo m A w m' A w'→AI m' (tm.get d) v'→(∀ j o d b,j≠i→C.testBit j=true→¬ S j→ops.toList[j]? =some o→o.dst=some d→Cj P o.op=false→AS ops tm o=true→MO (tm.get d)=some b→m' b=m b)→
   BE P X m' A true lo hi tm (f.tmps.setIfInBounds d v') ops (fun j=>S j∨j=i) C [] pl rest:=by
  intro m' w' v' hev hv hgh;refine ⟨D.plan,D.slotsOk,D.opsOk,fun x hx=>by (cases hx),hlin,?_,D.bits,D.closed,D.inb,fun j hj he=>.inl (D.effs j hj he),by simpa using D.size,D.small,D.oob,?_,?_,?_,?_,fun h=>Bool.noConfusion h⟩
  ·rintro j (hj | rfl)
   ·exact D.sub j hj
   ·exact hiC
  ·intro t ht;rw [MR,D.size];split
   ·rename_i h;rw [h.1];exact hv
   ·rename_i hne;by_cases e:t=d
    ·subst e;have hsz:tm.sz≤t:=by omega
     rw [D.oob t hsz,Array.getD_eq_getD_getElem?,Array.getElem?_eq_none (by rw [D.size];exact hsz)];exact DN m'
    ·refine (D.slots t fun j o' hc hs ho2 hd2=>?_).mono hev.ext;by_cases e2:j=i
     ·subst e2;rw [ho] at ho2;cases ho2;rw [hd] at hd2;cases hd2;exact e rfl
     ·exact ht j o' hc (fun h=>h.elim hs e2) ho2 hd2
  ·intro j o' d' hc hs ho2 hd2 hq hwa;have hs':¬ S j:=fun h=>hs (.inl h);have hne:j≠i:=fun h=>hs (.inr h);obtain ⟨b,h1,h2,h3,h4⟩:=D.Fb j o' d' hc hs' ho2 hd2 hq hwa;exact ⟨b,h1,by rw [hgh j o' d' b hne hc hs' ho2 hd2 hq hwa h1];exact h2,h3,h4⟩
  ·intro j1 j2 o1 o2 d1 d2 a1 a2 a3 a4 a5 a6 b1 b2 b3 b4 b5 b6;exact D.apart j1 j2 o1 o2 d1 d2 a1 (fun h=>a2 (.inl h)) a3 a4 a5 a6 b1 (fun h=>b2 (.inl h)) b3 b4 b5 b6
  ·intro _ j hc hs;exact D.valid rfl j hc fun h=>hs (.inl h)
 obtain ⟨v1,v2⟩:=hval o d ho hd;cases hwa:AS ops tm o with
 |false=>
  rw [hwa] at hw;have hstep:=I4 (P:=P) (cs:=cs) (w:=w) hmode htodo ho' hw;rw [hfin undef] at hstep;exact ⟨_,m,w,hstep,.refl r lo,key m w undef (.refl r lo) (by rw [v1 hwa];exact DN m) fun _ _ _ _ _ _ _ _ _ _ _ _=>rfl⟩
 |true=>
  rw [hwa] at hw;cases hq:Cj P o.op with
  |true=>
   obtain ⟨A',he⟩:=(v2 hwa).1 hq;obtain ⟨rfl,_⟩:=D3 hq he;have hs:=FX hX r hops;rw [he] at hs;obtain ⟨n',w',m',h1,h2,v',rfl,h3⟩:=hs;have hans:answer P f cs .normal false ((execOp f.eval o).run P w)=some (f.finish v',cs,w'):=by
    rw [CB,h1];rfl
   have hstep:=Pz (P:=P) hmode htodo ho' hw (.inr fun c hc=>by rw [hc] at hq;cases hq) hans;rw [hfin v'] at hstep;exact ⟨_,m',w',hstep,h2.low hlo,key m' w' v' (h2.low hlo) h3 fun j o2 d2 b hne hc hs2 ho2 hd2 hq2 hwa2 hid=>by
    obtain ⟨b',g1,g2,g3,g4⟩:=D.Fb j o2 d2 hc hs2 ho2 hd2 hq2 hwa2;rw [g1,Oi] at hid;subst hid;exact h2.same _ (by omega)⟩
  |false=>
   obtain ⟨c,hf,hst⟩:=(v2 hwa).2 hq;obtain ⟨b,g1,g2,g3,g4⟩:=D.Fb i o d hiC hnS ho hd hq hwa;obtain ⟨v',w',m',h1,h2,h3,h4⟩:=RF r hops hf hst g1 g2 g3;have hans:answer P f cs .normal false ((execOp f.eval o).run P w)=some (f.finish v',cs,w'):=by
    rw [CB,h1];rfl
   have hnd:∀ c,o.op≠ .defer c:=by
    intro c hc;rw [hc] at hf;cases hf
   have hstep:=Pz (P:=P) hmode htodo ho' hw (.inr hnd) hans;rw [hfin v'] at hstep;exact ⟨_,m',w',hstep,h2,key m' w' v' h2 h3 fun j o2 d2 b2 hne hc hs2 ho2 hd2 hq2 hwa2 hid=>by
    refine h4 b2 fun e=>hne ?_;subst e;exact D.apart j i o2 o d2 d hc hs2 ho2 hd2 hq2 hwa2 hiC hnS ho hd hq hwa (by rw [hid,g1])⟩
def ZT:Option Nat→List Nat→Prop
 |none,l=>l=[]
 |some x,l=>∃ r,l=x::r
theorem BE.LN(hX:XOk P X){tm:Tm}{ops:Array Oper}(stop:Option Nat)(hhi:hi≤A.next)(hlo:lo≤A.next):
  ∀ (rest:List Nat) {m:Inj P} (_:GOk m) {w:World} (_:Rel m A w) {S:Nat→Prop} {f:Frame}
   (_:BE P X m A true lo hi tm f.tmps ops S C [] pl rest) (_:∀ i,i<ops.size→C.testBit i=true∨(some i=stop∧¬ S i)∨∃ x,stop=some x∧anc ops.toList x i)
   (_:∀ x,stop=some x→x<ops.size∧C.testBit x=false) (_:f.mode=.run) (_:f.todo=.inRegion ops rest::k),
   ∃ S' tmps' rest' m' w',Steps P (lone f cs w) (lone { f with tmps:=tmps',todo:=.inRegion ops rest'::k } cs w')∧EvL lo m A w m' A w'∧
    BE P X m' A true lo hi tm tmps' ops S' C [] pl rest'∧ZT stop rest':=by
 intro rest
 induction rest with
 |nil=>
  intro m hG w r S f D hall hstop hmode htodo;cases stop with
  |none=>
   refine ⟨S,f.tmps,[],m,w,?_,.refl r lo,D,rfl⟩;rw [show ({ f with tmps:=f.tmps,todo:=.inRegion ops []::k }:Frame)=f by rw [← htodo]];exact .refl P _
  |some x=>
   obtain ⟨h1,h2⟩:=hstop x rfl
   have:=D.sub x (D.lin x (by simpa using h1))
   rw [h2] at this;cases this
 |cons i rest ih=>
  intro m hG w r S f D hall hstop hmode htodo;obtain ⟨hlt,hnS,hanc,hlin⟩:=D.lin;have hlt':i<ops.size:=by simpa using hlt
  by_cases hst:stop=some i
  ·subst hst;refine ⟨S,f.tmps,i::rest,m,w,?_,.refl r lo,D,rest,rfl⟩;rw [show ({ f with tmps:=f.tmps,todo:=.inRegion ops (i::rest)::k }:Frame)=f by rw [← htodo]];exact .refl P _
  ·have hiC:C.testBit i=true:=by
    rcases hall i hlt' with h | ⟨h,_⟩ | ⟨x,h1,h2⟩
    ·exact h
    ·exact absurd h.symm hst
    ·have h3:=D.sub x (hanc x h2);rw [(hstop x h1).2] at h3;cases h3
   obtain ⟨tmps',m',w',s1,s2,s3⟩:=D.ZK hX hG r hiC hhi hlo hmode htodo (cs:=cs) (w:=w);obtain ⟨S'',tmps'',rest'',m'',w'',t1,t2,t3,t4⟩:=ih (hG.mono s2.ext) s2.rel (f:={ f with tmps:=tmps',todo:=.inRegion ops rest::k }) s3 (fun j hj=>by
    rcases hall j hj with h | ⟨h,h'⟩ | h
    ·exact .inl h
    ·refine .inr (.inl ⟨h,fun hh=>?_⟩);rcases hh with hh | rfl
     ·exact h' hh
     ·exact hst h.symm
    ·exact .inr (.inr h)) hstop hmode rfl
   exact ⟨S'',tmps'',rest'',m'',w'',.head s1 t1,s2.trans t2,t3,t4⟩
end
variable {x hi':Nat} {q p' r:List Nat} {d:Tmp}
section
variable {P:Program} {X:Bc}
theorem CI{ops:Array Oper}{o:Oper}{tm tm':Tm}(h:∀ t,CX ops.toList o t=true→tm'.get t=tm.get t):AS ops tm' o=AS ops tm o:=by
 unfold AS;cases hg:o.guard with
 |none=>rfl
 |some x=>
  obtain ⟨j,want⟩:=x;simp only;unfold Eg;cases hj:ops.toList[j]? with
  |none=>rfl
  |some g=>
   simp only;cases hd:g.dst with
   |none=>rfl
   |some d=>simp only;rw [h d (KW hg hj hd)]
theorem Ic{ops:List Oper}{o:Oper}{tm tm':Tm}(h:∀ t,CX ops o t=true→tm'.get t=tm.get t):∀ x∈o.op.operands.toList,BJ tm' x=BJ tm x:=by
 intro x hx;cases x with
 |tmp t=>exact h t (IS hx)
 |_=>rfl
theorem Valid.congr{A:AW}{ops:Array Oper}{tm tm':Tm}{i:Nat}(hv:Valid P X A ops tm i)(hl:∀ o,ops.toList[i]? =some o→(∀ t,CX ops.toList o t=true→tm'.get t=tm.get t)∧∀ d,o.dst=some d→tm'.get d=tm.get d):
  Valid P X A ops tm' i:=by
 intro o d ho hd;obtain ⟨h1,h2⟩:=hl o ho;obtain ⟨v1,v2⟩:=hv o d ho hd;rw [CI h1,h2 d hd,Le (Ic h1),NB (Ic h1)];exact ⟨v1,v2⟩
variable {m:Inj P} {A A':AW} {live:Bool} {lo hi:Nat} {tm:Tm} {tmps:Array Value} {ops:Array Oper} {S:Nat→Prop} {C:Nat} {rl pl rest:List Nat}
theorem BE.WM(D:BE P X m A true lo hi tm tmps ops S C (x::rl) pl rest)(hv:Valid P X A ops tm (x-ops.size)):BE P X m A true lo hi tm tmps ops S C rl pl rest:=by
 refine { D with rls:=fun y hy=>D.rls y (List.mem_cons_of_mem _ hy),valid:=fun _ j hc hs=>?_,wait:=fun h=>Bool.noConfusion h };rcases D.valid rfl j hc hs with h | h
 ·cases h with
  |head=>exact .inr (by rw [show ops.size+j-ops.size=j by omega] at hv;exact hv)
  |tail _ h=>exact .inl h
 ·exact .inr h
theorem BE.advance {rl':List Nat} {o:Oper} {v:Value} (D:BE P X m A true lo hi tm tmps ops S C [] q rest) (hx:x<ops.size) (hc:C.testBit x=false)
  (he:(DL P ops.toList).testBit x=false) (hm:∀ k,anc ops.toList k x→C.testBit k=true) (ho:ops.toList[x]? =some o) (hd:o.dst=some d) (hhi:hi≤hi') (hlo:lo≤hi)
  (hg:Cj P o.op=false→AS ops tm o=true→∃ b,MO v=some b∧m b=none∧hi≤b∧b<hi') (hp:E5 ops.toList (DL P ops.toList) (Ol ops.toList) (C ||| (1 <<< x)) p') (hrl:∀ y∈rl',ops.size≤y)
  (hv:∀ j,(C ||| (1 <<< x)).testBit j=true→¬ S j→(ops.size+j)∈rl'∨Valid P X A' ops (tm.set d v) j):
  BE P X m A' true lo hi' (tm.set d v) tmps ops S (C ||| (1 <<< x)) rl' p' rest:=by
 have hsz:=D.inb x o d ho hd;have get:∀ t,t≠d→(tm.set d v).get t=tm.get t:=fun t ht=>by rw [Tm.Ep tm D.small,Ff (fun h=>ht h.1)]
 have getd:(tm.set d v).get d=v:=by rw [Tm.Ep tm D.small,if_pos ⟨rfl,hsz⟩]
 have bit:∀ j,(C ||| (1 <<< x)).testBit j=true↔(C.testBit j=true∨j=x):=fun j=>by rw [Mv];simp
 have look:∀ i o',(C.testBit i=true∨i=x)→ops.toList[i]? =some o'→∀ t,CX ops.toList o' t=true→(tm.set d v).get t=tm.get t:=by
  intro i o' hi ho' t hl;refine get t fun e=>?_;subst e;rcases D.slotsOk.looks x o t ho hd i o' ho' hl with h | ⟨h,_⟩
  ·rcases hi with hi | rfl
   ·rw [D.closed i hi x h] at hc;cases hc
   ·have:=Wm D.slotsOk.back i i (by simpa using hx) h
    omega
  ·rw [he] at h;cases h
 have dst:∀ i o' d',C.testBit i=true→ops.toList[i]? =some o'→o'.dst=some d'→(tm.set d v).get d'=tm.get d':=by
  intro i o' d' hi ho' hd';refine get d' fun e=>?_;subst e
  have:=D.slotsOk.once x o d' ho hd i o' ho' hd'
  subst this;rw [hi] at hc;cases hc
 have hS:¬ S x:=fun h=>by rw [D.sub x h] at hc;cases hc
 refine ⟨hp,D.slotsOk,D.opsOk,hrl,D.lin,fun i hi=>(bit i).2 (.inl (D.sub i hi)),?_,?_,by intro i o d h1 h2;rw [Tm.HP];exact D.inb i o d h1 h2,?_,by rw [Tm.HP];exact D.size,by rw [Tm.HP];exact D.small,?_,?_,?_,?_,fun _=>hv,fun h=>Bool.noConfusion h⟩
 ·intro i hi;rcases (bit i).1 hi with h | rfl
  ·exact D.bits i h
  ·exact hx
 ·intro i hi k hk;rcases (bit i).1 hi with h | rfl
  ·exact (bit k).2 (.inl (D.closed i h k hk))
  ·exact (bit k).2 (.inl (hm k hk))
 ·intro i hi hei;rcases (bit i).1 hi with h | rfl
  ·exact D.effs i h hei
  ·rw [he] at hei;cases hei
 ·intro t ht;rw [Tm.HP] at ht;rw [get t (fun e=>absurd hsz (by subst e;exact Nat.not_lt.2 ht))];exact D.oob t ht
 ·intro t ht;have hne:t≠d:=fun e=>by
   subst e;exact ht x o ((bit x).2 (.inr rfl)) hS ho hd
  rw [get t hne];exact D.slots t fun i o' hi hs ho'=>ht i o' ((bit i).2 (.inl hi)) hs ho'
 ·intro i o' d' hi hs ho' hd' hq hw;rw [CI (look i o' ((bit i).1 hi) ho')] at hw;rcases (bit i).1 hi with h | rfl
  ·rw [dst i o' d' h ho' hd'];obtain ⟨b,g1,g2,g3,g4⟩:=D.Fb i o' d' h hs ho' hd' hq hw;exact ⟨b,g1,g2,g3,by omega⟩
  ·rw [ho] at ho';cases ho';rw [hd] at hd';cases hd';rw [getd];obtain ⟨b,g1,g2,g3,g4⟩:=hg hq hw;exact ⟨b,g1,g2,by omega,g4⟩
 ·intro i j oi oj di dj i1 i2 i3 i4 i5 i6 j1 j2 j3 j4 j5 j6 hid;rw [CI (look i oi ((bit i).1 i1) i3)] at i6;rw [CI (look j oj ((bit j).1 j1) j3)] at j6;rcases (bit i).1 i1 with hi | rfl<;>rcases (bit j).1 j1 with hj | rfl
  ·rw [dst i oi di hi i3 i4,dst j oj dj hj j3 j4] at hid;exact D.apart i j oi oj di dj hi i2 i3 i4 i5 i6 hj j2 j3 j4 j5 j6 hid
  ·exfalso;rw [ho] at j3;cases j3;rw [hd] at j4;cases j4;rw [dst i oi di hi i3 i4,getd] at hid;obtain ⟨b,g1,g2,g3,g4⟩:=D.Fb i oi di hi i2 i3 i4 i5 i6;obtain ⟨b',k1,k2,k3,k4⟩:=hg j5 j6;rw [g1,k1] at hid;cases hid;omega
  ·exfalso;rw [ho] at i3;cases i3;rw [hd] at i4;cases i4;rw [dst j oj dj hj j3 j4,getd] at hid;obtain ⟨b,g1,g2,g3,g4⟩:=D.Fb j oj dj hj j2 j3 j4 j5 j6;obtain ⟨b',k1,k2,k3,k4⟩:=hg i5 i6;rw [g1,k1] at hid;cases hid;omega
  ·rfl
theorem BE.TH {o:Oper} (D:BE P X m A true lo hi tm tmps ops S C [] q rest) (v:Value) (hc:C.testBit x=false) (he:(DL P ops.toList).testBit x=false)
  (ho:ops.toList[x]? =some o) (hd:o.dst=some d) {j:Nat} (hj:C.testBit j=true) (hs:¬ S j):Valid P X A ops (tm.set d v) j:=by
 rcases D.valid rfl j hj hs with h | h
 ·cases h
 ·refine h.congr fun o' ho'=>⟨fun t hl=>?_,fun d' hd'=>?_⟩
  ·rw [Tm.Ep tm D.small,Ff];rintro ⟨rfl,_⟩;rcases D.slotsOk.looks x o t ho hd j o' ho' hl with h | ⟨h,_⟩
   ·rw [D.closed j hj x h] at hc;cases hc
   ·rw [he] at h;cases h
  ·rw [Tm.Ep tm D.small,Ff];rintro ⟨rfl,_⟩
   have:=D.slotsOk.once x o d' ho hd j o' ho' hd'
   subst this;rw [hj] at hc;cases hc
theorem BE.effect {o:Oper} {tm':Tm} {tmps':Array Value} (D:BE P X m A live lo hi tm tmps ops S C [] (x::(again ops.toList.length (DL P ops.toList) C (nth (Dc ops.toList []) x) ops.toList.length++p')) (x::r))
  (he:(DL P ops.toList).testBit x=true) (hx:x<ops.size) (hc:C.testBit x=false) (hm:∀ k,anc ops.toList k x→C.testBit k=true) (hp:E5 ops.toList (DL P ops.toList) (Ol ops.toList) (C ||| (1 <<< x)) p')
  (ho:ops.toList[x]? =some o) (hhi:hi≤hi') (hsz:tm'.sz=tm.sz) (hsz':tmps'.size=tmps.size) (hother:∀ t,o.dst≠some t→tm'.get t=tm.get t∧tmps'.getD t undef=tmps.getD t undef)
  (hoob:∀ t,tm'.sz≤t→tm'.get t=undef) (hself:∀ t,o.dst=some t→AI m (tm'.get t) (tmps'.getD t undef)):
  BE P X m A' true lo hi' tm' tmps' ops (fun j=>S j∨j=x) (C ||| (1 <<< x)) (again ops.toList.length (DL P ops.toList) C (nth (Dc ops.toList []) x) ops.toList.length) p' r:=by
 obtain ⟨_,hnS,hanc,hlin⟩:=D.lin;have bit:∀ j,(C ||| (1 <<< x)).testBit j=true↔(C.testBit j=true∨j=x):=fun j=>by rw [Mv];simp
 have pend:∀ j,(C ||| (1 <<< x)).testBit j=true→¬ (S j∨j=x)→C.testBit j=true∧¬ S j∧j≠x:=fun j hj hs=>
  ⟨((bit j).1 hj).resolve_right fun h=>hs (.inr h),fun h=>hs (.inl h),fun h=>hs (.inr h)⟩
 have look:∀ i o',C.testBit i=true→¬ S i→ops.toList[i]? =some o'→∀ t,CX ops.toList o' t=true→tm'.get t=tm.get t:=by
  intro i o' hi hs ho' t hl;refine (hother t fun e=>?_).1;rcases D.slotsOk.looks x o t ho e i o' ho' hl with h | ⟨_,h | h⟩
  ·rw [D.closed i hi x h] at hc;cases hc
  ·subst h;rw [hi] at hc;cases hc
  ·exact hs (hanc i h)
 have dst:∀ i o' d',C.testBit i=true→ops.toList[i]? =some o'→o'.dst=some d'→tm'.get d'=tm.get d':=by
  intro i o' d' hi ho' hd';refine (hother d' fun e=>?_).1
  have:=D.slotsOk.once x o d' ho e i o' ho' hd'
  subst this;rw [hi] at hc;cases hc
 refine ⟨hp,D.slotsOk,D.opsOk,?_,hlin,?_,?_,?_,by rw [hsz];exact D.inb,?_,by rw [hsz,hsz'];exact D.size,by rw [hsz];exact D.small,hoob,?_,?_,?_,?_,fun h=>Bool.noConfusion h⟩
 ·intro y hy;obtain ⟨k,_,rfl,_⟩:=(G2 _ _ _ _ _ y).1 hy
  simp
 ·rintro i (hi | rfl)
  ·exact (bit i).2 (.inl (D.sub i hi))
  ·exact (bit i).2 (.inr rfl)
 ·intro i hi;rcases (bit i).1 hi with h | rfl
  ·exact D.bits i h
  ·exact hx
 ·intro i hi k hk;rcases (bit i).1 hi with h | rfl
  ·exact (bit k).2 (.inl (D.closed i h k hk))
  ·exact (bit k).2 (.inl (hm k hk))
 ·intro i hi hei;rcases (bit i).1 hi with h | rfl
  ·exact .inl (D.effs i h hei)
  ·exact .inr rfl
 ·intro t ht;by_cases e:o.dst=some t
  ·exact hself t e
  ·obtain ⟨h1,h2⟩:=hother t e;rw [h1,h2];exact D.slots t fun i o' hi hs ho' hd'=>ht i o' ((bit i).2 (.inl hi)) (fun h=>h.elim hs fun h=>by subst h;rw [hi] at hc;cases hc) ho' hd'
 ·intro i o' d' hi hs ho' hd' hq hw;obtain ⟨p1,p2,p3⟩:=pend i hi hs;rw [CI (look i o' p1 p2 ho')] at hw;rw [dst i o' d' p1 ho' hd'];obtain ⟨b,g1,g2,g3,g4⟩:=D.Fb i o' d' p1 p2 ho' hd' hq hw;exact ⟨b,g1,g2,g3,by omega⟩
 ·intro i j oi oj di dj i1 i2 i3 i4 i5 i6 j1 j2 j3 j4 j5 j6 hid;obtain ⟨p1,p2,p3⟩:=pend i i1 i2;obtain ⟨q1,q2,q3⟩:=pend j j1 j2;rw [CI (look i oi p1 p2 i3)] at i6;rw [CI (look j oj q1 q2 j3)] at j6;rw [dst i oi di p1 i3 i4,dst j oj dj q1 j3 j4] at hid;exact D.apart i j oi oj di dj p1 p2 i3 i4 i5 i6 q1 q2 j3 j4 j5 j6 hid
 ·intro _ j hj hs;obtain ⟨p1,p2,p3⟩:=pend j hj hs;refine .inl ((G2 _ _ _ _ _ _).2 ⟨j,by simpa using D.bits j p1,by simp,p1,?_,?_⟩)
  ·cases h:(DL P ops.toList).testBit j with
   |false=>rfl
   |true=>exact absurd (D.effs j p1 h) p2
  ·cases h:(nth (Dc ops.toList []) x).testBit j with
   |false=>rfl
   |true=>exact absurd (hanc j h) p2
theorem BE.Q3(D:BE P X m A true lo hi tm tmps ops S C [] (x::p') (x::r))(he:(DL P ops.toList).testBit x=true)(hi':Nat)(hhi:hi≤hi'):BE P X m A' false lo hi' tm tmps ops S C [] (x::p') (x::r):=
 { D with
  Fb:=fun i o d h1 h2 h3 h4 h5 h6=>by
   obtain ⟨b,g1,g2,g3,g4⟩:=D.Fb i o d h1 h2 h3 h4 h5 h6;exact ⟨b,g1,g2,g3,by omega⟩
  valid:=fun h=>Bool.noConfusion h
  wait:=fun _=>⟨rfl,x,p',r,rfl,rfl,he⟩ }
theorem BE.mono{m':Inj P}(D:BE P X m A false lo hi tm tmps ops S C rl pl rest)(h:m.le m')(hs:∀ i,i<hi→m' i=m i)(hhi:hi≤hi'):BE P X m' A' false lo hi' tm tmps ops S C rl pl rest:=
 { D with
  slots:=fun t ht=>(D.slots t ht).mono h
  Fb:=fun i o d h1 h2 h3 h4 h5 h6=>by
   obtain ⟨b,g1,g2,g3,g4⟩:=D.Fb i o d h1 h2 h3 h4 h5 h6;exact ⟨b,g1,by rw [hs b g4];exact g2,g3,by omega⟩
  valid:=fun h=>Bool.noConfusion h }
theorem BE.done(D:BE P X m A true lo hi tm tmps ops S C [] [] []):Db m tm tmps:=by
 refine ⟨D.size,D.small,fun t=>D.slots t fun i o hc hs ho _=>?_⟩;exact hs (D.lin i (by simpa using D.bits i hc))
theorem BE.start {p:List Nat} {hi:Nat} (hT:Db m tm tmps) (hp:Mt P ops.toList=some p) (ho:ops.toList.all (Rv P)=true) (hin:∀ (i:Nat) (o:Oper) (d:Tmp),ops.toList[i]? =some o→o.dst=some d→d<tm.sz)
  (hl:Lin ops.toList (fun _=>False) rest):BE P X m A true lo hi tm tmps ops (fun _=>False) 0 [] p rest:=by
 obtain ⟨h1,h2⟩:=Mr hp;refine ⟨h2,h1,ho,fun x hx=>by (cases hx),hl,fun i h=>h.elim,fun i h=>?_,fun i h=>?_,hin,fun i h=>?_,hT.size,hT.small,hT.oob,fun t _=>hT.val t,fun i o d h=>?_,fun i j o q d e h=>?_,fun _ i h=>?_,fun h=>Bool.noConfusion h⟩
 all_goals (rw [Nat.zero_testBit] at h;cases h)
theorem Lf{n:Nat}:∀ {l:List Oper},Ie n l=true→∀ (i:Nat) (o:Oper) (d:Tmp),l[i]? =some o→o.dst=some d→d<n
 |[],_,i,o,d,h,_=>by simp at h
 |x::r,h,i,o,d,ho,hd=>by
  simp only [Ie,Bq] at h;cases i with
  |zero=>
   simp at ho;subst ho
   have:=h.1
   rw [hd] at this;exact Ax.1 this
  |succ i=>exact Lf h.2 i o d (by simpa using ho) hd
end
variable {a x y:AFr} {f:Frame} {A A':AW} {lo hi hi':Nat} {f0:FuncId} {r:List AFr} {v v':Value}
section
variable {P:Program} {X:Bc}
structure Sn (m:Inj P) (p p':PanicEntry):Prop where
 v:AI m p.v p'.v
 recovered:p'.recovered=p.recovered
 goexit:p'.goexit=p.goexit
theorem Sn.mono{m m':Inj P}(h:m.le m'){p p':PanicEntry}(r:Sn m p p'):Sn m' p p':=⟨r.v.mono h,r.recovered,r.goexit⟩
inductive EY (m:Inj P):FrameMode→FrameMode→Prop
 |run:EY m .run .run
 |returning:EY m .returning .returning
 |panicking {c c':List PanicEntry} (h:BK (Sn m) c c'):EY m (.panicking c) (.panicking c')
theorem EY.mono{m m':Inj P}(h:m.le m'){a b:FrameMode}(r:EY m a b):EY m' a b:=by
 cases r with
 |run=>exact .run
 |returning=>exact .returning
 |panicking r=>exact .panicking (r.mono fun _ _ x=>x.mono h)
def Io(m:Inj P):Option Nat→Option Nat→Prop
 |none,none=>True
 |some l,some l'=>m l=some (l',0)
 |_,_=>False
theorem Io.mono{m m':Inj P}(h:m.le m'){a b:Option Nat}(r:Io m a b):Io m' a b:=by
 cases a<;>cases b<;>first | exact r | exact h.map _ _ r
def Fx(m:Inj P):Item→Item→Prop
 |.code c,x=>x=.code c∧codeOk P c=true
 |.inBlock id,x=>x=.inBlock id
 |.inLoop b,x=>x=.inLoop b∧codeOk P b=true
 |.inScope b,x=>x=.inScope b∧codeOk P b=true
 |.inRegion ops l,x=>x=.inRegion ops l∧ops.toList.all (Rv P)=true
 |.inRangeFunc l,x=>∃ l',x=.inRangeFunc l'∧m l=some (l',0)
 |.endRangeFunc l,x=>∃ l',x=.endRangeFunc l'∧m l=some (l',0)
 |.beginRound,x=>x=.beginRound
 |_,_=>False
theorem Fx.mono{m m':Inj P}(h:m.le m'){a b:Item}(r:Fx m a b):Fx m' a b:=by
 cases a<;>first
  |exact r
  |(obtain ⟨l',e,hm⟩:=r;exact ⟨l',e,h.map _ _ hm⟩)
structure Np (m:Inj P) (a:AFr) (f:Frame):Prop where
 fn:f.fn=a.fn
 kind:f.kind=a.kind
 kindOk:a.kind=.normal∨a.kind=.deferred
 mode:EY m a.mode f.mode
 round:Io m a.roundOf f.roundOf
 defers:BK (QS m) a.defers f.defers
theorem Np.mono{m m':Inj P}(h:m.le m')(r:Np m a f):Np m' a f:=
 ⟨r.fn,r.kind,r.kindOk,r.mode.mono h,r.round.mono h,r.defers.mono fun _ _ x=>x.mono h⟩
inductive Ade (P:Program) (X:Bc) (m:Inj P) (A:AW) (live:Bool) (lo hi:Nat) (a:AFr) (f:Frame):Prop
 |plain (h:a.dr=false) (tm:Db m a.tm f.tmps) (todo:BK (Fx m) a.todo f.todo)
 |draw (ops:Array Oper) (S:Nat→Prop) (C:Nat) (rl pl rest:List Nat) (k k':List Item) (h:a.dr=true) (mode:a.mode=.run) (ta:a.todo=.inRegion ops (rl++pl)::k) (tf:f.todo=.inRegion ops rest::k')
   (hk:BK (Fx m) k k') (D:BE P X m A live lo hi a.tm f.tmps ops S C rl pl rest)
structure Dy (P:Program) (X:Bc) (m:Inj P) (A:AW) (live:Bool) (lo hi:Nat) (a:AFr) (f:Frame):Prop where
 core:Np m a f
 body:Ade P X m A live lo hi a f
theorem Dy.mono{m m':Inj P}(r:Dy P X m A false lo hi a f)(h:m.le m')(hs:∀ i,i<hi→m' i=m i)(hhi:hi≤hi'):Dy P X m' A' false lo hi' a f:=by
 refine ⟨r.core.mono h,?_⟩;cases r.body with
 |plain g tm todo=>exact .plain g (tm.mono h) (todo.mono fun _ _ x=>x.mono h)
 |draw ops S C rl pl rest k k' g1 g2 g3 g4 g5 D=>exact .draw ops S C rl pl rest k k' g1 g2 g3 g4 (g5.mono fun _ _ x=>x.mono h) (D.mono h hs hhi)
inductive Stk (P:Program) (X:Bc) (m:Inj P) (A:AW) (base:Nat):Nat→List AFr→List Frame→Prop
 |nil (hi:Nat) (h:base≤hi):Stk P X m A base hi [] []
 |cons (lo hi:Nat) (a:AFr) (f:Frame) (l:List AFr) (l':List Frame) (h:lo≤hi) (r:Dy P X m A false lo hi a f) (t:Stk P X m A base lo l l'):Stk P X m A base hi (a::l) (f::l')
theorem Stk.base{m:Inj P}{A:AW}{base hi:Nat}{l:List AFr}{l':List Frame}(s:Stk P X m A base hi l l'):base≤hi:=by
 induction s with
 |nil hi h=>exact h
 |cons lo hi a f l l' h r t ih=>omega
theorem Stk.mono{m m':Inj P}{base:Nat}{l:List AFr}{l':List Frame}(s:Stk P X m A base hi l l')(h:m.le m'):(∀ i,i<hi→m' i=m i)→Stk P X m' A' base hi l l':=by
 induction s with
 |nil hi h=>intro _;exact .nil hi h
 |cons lo hi a f l l' hl r t ih=>intro hs;exact .cons lo hi a f l l' hl (r.mono h hs (Nl _)) (ih fun i hi=>hs i (by omega))
def Bot(f0:FuncId):List AFr→Prop
 |[]=>False
 |[x]=>x.kind=.normal∧x.fn=f0∧x.roundOf=none
 |_::r=>Bot f0 r
theorem Bot.tail(h:Bot f0 (x::y::r)):Bot f0 (y::r):=h
theorem Bot.push(h:Bot f0 r):Bot f0 (x::r):=by
 cases r with
 |nil=>exact h.elim
 |cons y r=>exact h
theorem Bot.top(h:Bot f0 (x::r))(h1:y.kind=x.kind)(h2:y.fn=x.fn)(h3:y.roundOf=x.roundOf):Bot f0 (y::r):=by
 cases r with
 |nil=>exact ⟨h1.trans h.1,h2.trans h.2.1,h3.trans h.2.2⟩
 |cons z r=>exact h
structure CH (P:Program) (X:Bc) (f0:FuncId) (base lo:Nat) (m:Inj P) (s:ASt) (f:Frame) (cs:List Frame) (w:World):Prop where
 rel:Rel m s.w w
 glob:GOk m
 below:lo≤s.w.next
 top:Dy P X m s.w true lo s.w.next s.fr f
 stk:Stk P X m s.w base lo s.cs cs
 bot:Bot f0 (s.fr::s.cs)
def Sim(P:Program)(X:Bc)(f0:FuncId)(base:Nat)(cs0:List Frame)(m:Inj P)(A:AW)(w:World)(mach:Machine)(s':ASt):Prop:=
 ∃ lo' m' f' cs' w',Steps P mach (lone f' (cs'++cs0) w')∧EvL base m A w m' s'.w w'∧CH P X f0 base lo' m' s' f' cs' w'
theorem TO{m:Inj P}(htm:Db m a.tm f.tmps)(htodo:BK (Fx m) a.todo f.todo)(hv:AI m v v'):Db m (a.finish v).tm (f.finish v').tmps∧BK (Fx m) (a.finish v).todo (f.finish v').todo:=by
 cases hta:a.todo with
 |nil=>
  rw [hta] at htodo;generalize htf:f.todo=y at htodo;cases htodo;simp only [AFr.finish,hta,Frame.finish,htf];exact ⟨htm,by exact .nil⟩
 |cons x k=>
  rw [hta] at htodo;generalize htf:f.todo=y at htodo;cases htodo with
  |cons hx hk=>
   rename_i x' k';cases x with
   |code c=>
    obtain ⟨rfl,hc⟩:=hx;simp only [AFr.finish,hta,Frame.finish,htf];exact ⟨htm,.cons ⟨rfl,hc⟩ hk⟩
   |inBlock id=>
    have hx:x'=.inBlock id:=hx;subst hx;simp only [AFr.finish,hta,Frame.finish,htf];exact ⟨htm,.cons rfl hk⟩
   |inLoop b=>
    obtain ⟨rfl,hc⟩:=hx;simp only [AFr.finish,hta,Frame.finish,htf];exact ⟨htm,.cons ⟨rfl,hc⟩ hk⟩
   |inScope b=>
    obtain ⟨rfl,hc⟩:=hx;simp only [AFr.finish,hta,Frame.finish,htf];exact ⟨htm,.cons ⟨rfl,hc⟩ hk⟩
   |inRegion ops l=>
    obtain ⟨rfl,hc⟩:=hx;cases l with
    |nil=>
     simp only [AFr.finish,hta,Frame.finish,htf];exact ⟨htm,.cons ⟨rfl,hc⟩ hk⟩
    |cons i l=>
     simp only [AFr.finish,hta,Frame.finish,htf];refine ⟨?_,.cons ⟨rfl,hc⟩ hk⟩;cases ho:ops[i]? with
     |none=>
      have:ops.toList[i]? =none:=by simpa using ho
      rw [this];exact htm
     |some o=>
      have:ops.toList[i]? =some o:=by simpa using ho
      rw [this];simp only [Option.bind_some];cases o.dst with
      |none=>exact htm
      |some d=>exact htm.set hv
   |inRangeFunc l=>
    obtain ⟨l',rfl,hl⟩:=hx;simp only [AFr.finish,hta,Frame.finish,htf];exact ⟨htm,.cons ⟨l',rfl,hl⟩ hk⟩
   |endRangeFunc l=>
    obtain ⟨l',rfl,hl⟩:=hx;simp only [AFr.finish,hta,Frame.finish,htf];exact ⟨htm,.cons ⟨l',rfl,hl⟩ hk⟩
   |beginRound=>
    have hx:x'=.beginRound:=hx;subst hx;simp only [AFr.finish,hta,Frame.finish,htf];exact ⟨htm,hk⟩
   |call=>exact hx.elim
   |extern=>exact hx.elim
theorem Fq(a:AFr)(v:Value):(a.finish v).fn=a.fn∧(a.finish v).kind=a.kind∧(a.finish v).mode=a.mode∧(a.finish v).roundOf=a.roundOf∧(a.finish v).defers=a.defers∧(a.finish v).dr=a.dr:=by
 unfold AFr.finish;split<;>exact ⟨rfl,rfl,rfl,rfl,rfl,rfl⟩
theorem Qn(f:Frame)(v:Value):(f.finish v).fn=f.fn∧(f.finish v).kind=f.kind∧(f.finish v).mode=f.mode∧(f.finish v).roundOf=f.roundOf∧(f.finish v).defers=f.defers:=by
 unfold Frame.finish;split<;>exact ⟨rfl,rfl,rfl,rfl,rfl⟩
theorem Fx.GD{m:Inj P}:∀ {k k':List Item},BK (Fx m) k k'→GD k'
 |_,_,.nil=>trivial
 |x::_,_,.cons h _=>by
  cases x<;>first
   |(obtain ⟨rfl,_⟩:=h;trivial)
   |(obtain ⟨_,rfl,_⟩:=h;trivial)
   |(have h:_=_:=h;subst h;trivial)
   |exact h.elim
theorem Dy.GD{m:Inj P}{A:AW}{live:Bool}{lo hi:Nat}{a:AFr}{f:Frame}(r:Dy P X m A live lo hi a f):GD f.todo:=by
 cases r.body with
 |plain h tm todo=>exact Fx.GD todo
 |draw ops S C rl pl rest k k' h1 h2 h3 h4 h5 D=>rw [h4];trivial
theorem Np.finish{m:Inj P}(h:Np m a f)(_hn:Abs.GD f.todo)(v v':Value):Np m (a.finish v) (f.finish v'):=by
 obtain ⟨a1,a2,a3,a4,a5,a6⟩:=Fq a v;obtain ⟨b1,b2,b3,b4,b5⟩:=Qn f v';exact ⟨by rw [a1,b1];exact h.fn,by rw [a2,b2];exact h.kind,by rw [a2];exact h.kindOk,by rw [a3,b3];exact h.mode,by rw [a4,b4];exact h.round,by rw [a5,b5];exact h.defers⟩
theorem Dy.finish{m:Inj P}(r:Dy P X m A false lo hi a f)(hv:AI m v v')(hhi:hi≤hi'):Dy P X m A true lo hi' (a.finish v) (f.finish v'):=by
 refine ⟨r.core.finish r.GD v v',?_⟩;cases r.body with
 |plain h tm todo=>
  obtain ⟨h1,h2⟩:=TO tm todo hv;exact .plain ((Fq a v).2.2.2.2.2.trans h) h1 h2
 |draw ops S C rl pl rest k k' h1 h2 h3 h4 h5 D=>
  obtain ⟨rfl,x,p',r',rfl,rfl,he⟩:=D.wait rfl;have hplan:=D.plan;cases hplan with
  |pure _ _ _ g1 g2=>rw [g2] at he;cases he
  |alloc _ _ _ g1 g2=>rw [g2] at he;cases he
  |effect _ _ p g1 g2 g3 g4 g5 g6=>
   obtain ⟨o,ho⟩:∃ o,ops.toList[x]? =some o:=⟨_,Ge g1⟩;rw [H8 h3 ho v,IU h4 ho v'];refine .draw ops (fun j=>S j∨j=x) (C ||| (1 <<< x)) (again ops.toList.length (DL P ops.toList) C (nth (Dc ops.toList []) x) ops.toList.length) p r' k k' h1 h2 rfl rfl h5 ?_;cases hd:o.dst with
   |none=>
    refine D.effect g2 (by simpa using g1) g3 g4 g6 ho hhi rfl rfl (fun t _=>⟨rfl,rfl⟩) D.oob fun t ht=>?_;rw [hd] at ht;cases ht
   |some d=>
    have hin:=D.inb x o d ho hd;refine D.effect g2 (by simpa using g1) g3 g4 g6 ho hhi (Tm.HP _ _ _) (by simp) (fun t ht=>?_) (fun t ht=>?_) fun t ht=>?_
    ·have hne:t≠d:=fun e=>ht (by rw [hd,e]);rw [Tm.Ep _ D.small,Ff (fun h=>hne h.1),MR,Ff (fun h=>hne h.1)];exact ⟨rfl,rfl⟩
    ·rw [Tm.HP] at ht;rw [Tm.Ep _ D.small,Ff (by omega)];exact D.oob t ht
    ·rw [hd] at ht;cases ht;rw [Tm.Ep _ D.small,if_pos ⟨rfl,hin⟩,MR,if_pos ⟨rfl,by rw [D.size];exact hin⟩];exact hv
end
variable {args args':List Value} {A:AW} {f:Frame} {fr a x:AFr} {base hi lo:Nat} {live live':Bool} {cs:List AFr} {csW cs0:List Frame} {f0:FuncId}
section
variable {P:Program} {X:Bc}
structure POk (P:Program):Prop where
 code:∀ (f:FuncId) (fn:Func) (c:Code),P.funcs[f]? =some fn→fn.body=some c→codeOk P c=true
 mixed:P.follows .mixedOrders=true
theorem JW:∀ (l:List Value) (tm:Tm) (i t:Nat),tm.sz<Ak→(Tm.fill tm i l).sz=tm.sz∧(Tm.fill tm i l).get t=if i≤t∧t<tm.sz then (match l[t-i]? with | some v=>v | none=>tm.get t) else tm.get t
 |[],tm,i,t,_=>by simp [Tm.fill]
 |v::r,tm,i,t,hs=>by
  have ih:=JW r (tm.set i v) (i+1) t (by rw [Tm.HP];exact hs);rw [Tm.HP] at ih;refine ⟨ih.1,?_⟩;show (Tm.fill (tm.set i v) (i+1) r).get t=_;rw [ih.2,Tm.Ep tm hs];by_cases e:t=i
  ·subst e;rw [Ff (by omega)];by_cases h:t<tm.sz
   ·simp [h]
   ·simp [h]
  ·have g:(if t=i∧i<tm.sz then v else tm.get t)=tm.get t:=Ff (fun h=>e h.1);rw [g];by_cases h:i+1≤t∧t<tm.sz
   ·rw [if_pos h,if_pos (by omega),show t-i=(t-(i+1))+1 by omega];rfl
   ·rw [Ff h,Ff (by omega)]
theorem VP{m:Inj P}(ha:AJ m args args'){n k:Nat}(hn:n<Ak)(hle:args.length≤n)(hk:k=n-args.length):
  Db m (Tm.fill ⟨n,.nil⟩ 0 args) (⟨args'⟩++Array.replicate k undef):=by
 have hl:=ha.length;refine ⟨?_,?_,fun t=>?_⟩
 ·rw [(JW args ⟨n,.nil⟩ 0 0 hn).1]
  simp
  omega
 ·rw [(JW args ⟨n,.nil⟩ 0 0 hn).1];exact hn
 ·rw [(JW args ⟨n,.nil⟩ 0 t hn).2];have hnil:(⟨n,.nil⟩:Tm).get t=undef:=rfl;rw [hnil,Array.getD_eq_getD_getElem?,Array.getElem?_append];simp only [Nat.zero_le,true_and,Nat.sub_zero,List.size_toArray];by_cases h:t<args.length
  ·rw [if_pos (show t<n by omega),if_pos (show t<args'.length by omega)];obtain ⟨v',h1,h2⟩:=ha.get (Ge h);rw [Ge h];simp only [List.getElem?_toArray,h1,Option.getD_some];exact h2
  ·rw [Ff (show ¬ t<args'.length by omega),List.getElem?_eq_none (by omega)]
   have:((Array.replicate k undef)[t-args'.length]?).getD undef=undef:=by
    simp only [Array.getElem?_replicate];split<;>rfl
   rw [this];simp only [ite_self];exact DN m
theorem IF(hP:POk P){m:Inj P}{f:FuncId}{kind:CallKind}(h:AD P f args kind=some fr)(ha:AJ m args args')(hk:kind=.normal∨kind=.deferred)(lo hi:Nat):
  Dy P X m A true lo hi fr (Frame.enter P f ⟨args'⟩ kind)∧fr.kind=kind∧fr.fn=f∧fr.roundOf=none:=by
 unfold AD at h;split at h
 rotate_left
 ·cases h
 rename_i fn hf;split at h
 rotate_left
 ·cases h
 rename_i c hb;simp only at h;have hl:=ha.length;have hmax:(bif Nat.ble fn.ntmps args.length then args.length else fn.ntmps)=max fn.ntmps args.length:=by
  cases hc:Nat.ble fn.ntmps args.length with
  |true=>have:=Bj.1 hc;simp only [Ct];omega
  |false=>have:=BA.1 hc;simp only [Cf];omega
 rw [hmax] at h;cases hlt:Nat.blt (max fn.ntmps args.length) Ak with
 |false=>rw [hlt] at h;cases h
 |true=>
  rw [hlt,Ct,Oi] at h;subst h;have hlt:=Ax.1 hlt;refine ⟨⟨⟨rfl,rfl,hk,.run,trivial,.nil⟩,.plain rfl ?_ ?_⟩,rfl,rfl,rfl⟩
  ·simp only [Frame.enter,hf,Option.map_some,Option.getD_some];exact VP ha hlt (by omega) (by simp;omega)
  ·simp only [Frame.enter,hf,hb,Option.bind_some,Option.getD_some];exact .cons ⟨rfl,hP.code f fn c hf hb⟩ .nil
theorem Stk.inv{m:Inj P}{c:AFr}{rest:List AFr}{l':List Frame}(s:Stk P X m A base hi (c::rest) l'):
  ∃ lo f r',l'=f::r'∧lo≤hi∧Dy P X m A false lo hi c f∧Stk P X m A base lo rest r':=by
 cases s with
 |cons lo _ _ f _ r' h r t=>exact ⟨lo,f,r',rfl,h,r,t⟩
theorem Dy.Fc{m:Inj P}(r:Dy P X m A live lo hi a f)(hd:a.dr=false){u u':FrameMode}(hu:EY m u u'):
  Dy P X m A live' lo hi { a with mode:=u } { f with mode:=u' }:=by
 refine ⟨⟨r.core.fn,r.core.kind,r.core.kindOk,hu,r.core.round,r.core.defers⟩,?_⟩;cases r.body with
 |plain h tm todo=>exact .plain h tm todo
 |draw ops S C rl pl rest k k' h1=>rw [hd] at h1;cases h1
theorem Dy.JK{m:Inj P}(r:Dy P X m A live lo hi a f)(hm:a.mode≠ .run):a.dr=false:=by
 cases r.body with
 |plain h tm todo=>exact h
 |draw ops S C rl pl rest k k' h1 h2=>exact absurd h2 hm
theorem Dy.It{m:Inj P}{hi':Nat}(r:Dy P X m A live lo hi a f)(hd:a.dr=false):Dy P X m A live' lo hi' a f:=by
 refine ⟨r.core,?_⟩;cases r.body with
 |plain h tm todo=>exact .plain h tm todo
 |draw ops S C rl pl rest k k' h1=>rw [hd] at h1;cases h1
theorem PU{m:Inj P}(hk:f.kind=a.kind)(hb:cs=[]→a.kind=.normal)(hko:a.kind=.normal∨a.kind=.deferred)(s:Stk P X m A base hi cs csW):
  match Gk a cs with
  |none=>tryRecover f (csW++cs0)=none
  |some (v,cs')=>∃ v' csW',tryRecover f (csW++cs0)=some (v',csW'++cs0)∧AI m v v'∧Stk P X m A base hi cs' csW'∧(∀ f0 x,Bot f0 (x::cs)→Bot f0 (x::cs')):=by
 unfold Gk tryRecover;rw [hk];rcases hko with hn | hn
 ·rw [hn]
 ·rw [hn];cases cs with
  |nil=>rw [hb rfl] at hn;cases hn
  |cons c rest=>
   obtain ⟨lo,g,r',rfl,h1,h2,h3⟩:=s.inv;simp only [List.cons_append];have hmode:=h2.core.mode;generalize hcm:c.mode=cm at hmode;generalize hgm:g.mode=gm at hmode;cases hmode with
   |run=>simp
   |returning=>simp
   |panicking hch=>
    cases hch with
    |nil=>simp
    |cons hp ht=>
     rename_i p p' older older';obtain ⟨v,rc,ge⟩:=p;obtain ⟨v',rc',ge'⟩:=p';have e1:rc'=rc:=hp.recovered;have e2:ge'=ge:=hp.goexit;subst e1 e2;cases rc'<;>cases ge'<;>simp only
     case false.false=>
      refine ⟨v',{ g with mode:=.panicking ({ v:=v',recovered:=true }::older') }::r',rfl,hp.v,?_,fun f0 x hbot=>?_⟩
      ·exact .cons lo hi _ _ _ _ h1 (h2.Fc (h2.JK (by rw [hcm];simp)) (.panicking (.cons ⟨hp.v,rfl,rfl⟩ ht))) h3
      ·have:Bot f0 (c::rest):=hbot
       exact Bot.push (this.top (y:={ c with mode:=_ }) rfl rfl rfl)
theorem Bot.kind(h:Bot f0 (x::cs)):cs=[]→x.kind=.normal:=by
 intro e;subst e;exact h.1
theorem Bot.finish(h:Bot f0 (x::cs))(v:Value):Bot f0 (x.finish v::cs):=by
 obtain ⟨a1,a2,a3,a4,a5,a6⟩:=Fq x v;exact h.top a2 a1 a4
theorem KJ (hP:POk P) {m:Inj P} {w:World} {res:R AN} {s:Sem Next} {s':ASt}
  (hr:Bd P m A w res s) (hG:GOk m) (hlo:lo≤A.next) (ht:Dy P X m A false lo A.next fr f) (hs:Stk P X m A base lo cs csW) (hb:Bot f0 (fr::cs))
  (hn:∀ i A',res≠ .ok (.rangeNext i) A') (hout:AY P fr cs false res=.next s'):
  ∃ f' csW' w',answer P f (csW++cs0) .normal false (s.run P w)=some (f',csW'++cs0,w')∧∃ lo' m',EvL base m A w m' s'.w w'∧CH P X f0 base lo' m' s' f' csW' w':=by
 have hbase:=hs.base;cases res with
 |fail y=>cases hout
 |panic v A'=>
  obtain ⟨v',w',m',h1,h2,h3⟩:=hr;simp only [AY] at hout;cases hd:fr.dr with
  |true=>rw [hd] at hout;cases hout
  |false=>
   rw [hd] at hout;simp only [Cf,CT.next.injEq] at hout;subst hout;refine ⟨_,csW,w',by rw [h1];rfl,lo,m',(h2.low (by omega)),h2.rel,hG.mono h2.ext,by have:=h2.next;show lo≤A'.next;omega,?_,hs.mono h2.ext fun i hi=>h2.same i (by omega),?_⟩
   ·have hf:=(ht.mono (A':=A') h2.ext h2.same h2.next);have hmode:=hf.core.mode;simp only [AFr.raise,Frame.raise];generalize hcm:fr.mode=cm at hmode;generalize hgm:f.mode=gm at hmode;cases hmode with
    |run=>exact hf.Fc hd (.panicking (.cons ⟨h3,rfl,rfl⟩ .nil))
    |returning=>exact hf.Fc hd (.panicking (.cons ⟨h3,rfl,rfl⟩ .nil))
    |panicking hch=>exact hf.Fc hd (.panicking (.cons ⟨h3,rfl,rfl⟩ hch))
   ·refine hb.top ?_ ?_ ?_<;>(unfold AFr.raise;split<;>rfl)
 |ok n A'=>
  have fin:∀ (v v':Value) (w':World) (m':Inj P) (fr2:AFr) (f2:Frame),Ev m A w m' A' w'→AI m' v v'→Dy P X m' A' false lo A'.next fr2 f2→Bot f0 (fr2::cs)→
    EvL base m A w m' A' w'∧CH P X f0 base lo m' ⟨fr2.finish v,cs,A'⟩ (f2.finish v') csW w':=by
   intro v v' w' m' fr2 f2 h2 h3 h4 h5;refine ⟨h2.low (by omega),h2.rel,hG.mono h2.ext,by have:=h2.next;show lo≤A'.next;omega,h4.finish h3 (Nl _),hs.mono h2.ext fun i hi=>h2.same i (by omega),h5.finish v⟩
  cases n with
  |value v=>
   obtain ⟨n',w',m',h1,h2,v',rfl,h3⟩:=hr;simp only [AY,Cf,CT.next.injEq] at hout;subst hout;obtain ⟨g1,g2⟩:=fin v v' w' m' fr f h2 h3 (ht.mono h2.ext h2.same h2.next) hb;exact ⟨_,csW,w',by rw [h1];rfl,lo,m',g1,g2⟩
  |skip=>
   obtain ⟨n',w',m',h1,h2,h3⟩:=hr;have h3:n'=.skip:=h3;subst h3;simp only [AY,Cf,CT.next.injEq] at hout;subst hout;obtain ⟨g1,g2⟩:=fin undef undef w' m' fr f h2 (DN m') (ht.mono h2.ext h2.same h2.next) hb;exact ⟨_,csW,w',by rw [h1];rfl,lo,m',g1,g2⟩
  |enter g args=>
   obtain ⟨n',w',m',h1,h2,args',rfl,h3⟩:=hr;simp only [AY,Cf] at hout;split at hout
   rotate_left
   ·cases hout
   rename_i fr' he;simp only [CT.next.injEq] at hout;subst hout;obtain ⟨g1,g2,g3,g4⟩:=IF (X:=X) (A:=A') hP he h3 (.inl rfl) A'.next A'.next;refine ⟨_,f::csW,w',by rw [h1];rfl,A'.next,m',h2.low (by omega),h2.rel,hG.mono h2.ext,Nl _,g1,?_,hb.push⟩;exact .cons lo A'.next fr f cs csW (by have:=h2.next;omega) (ht.mono h2.ext h2.same h2.next) (hs.mono h2.ext fun i hi=>h2.same i (by omega))
  |round l fn tm assign body=>
   obtain ⟨n',w',m',h1,h2,l',tmps',rfl,h3,h4,h5,h6⟩:=hr;simp only [AY,Cf,CT.next.injEq] at hout;subst hout;refine ⟨_,f::csW,w',by rw [h1];rfl,A'.next,m',h2.low (by omega),h2.rel,hG.mono h2.ext,Nl _,?_,?_,hb.push⟩
   ·refine ⟨⟨rfl,rfl,.inl rfl,.run,h3,.nil⟩,.plain rfl h4 (.cons ⟨rfl,h5⟩ (.cons rfl (.cons ⟨rfl,h6⟩ .nil)))⟩
   ·exact .cons lo A'.next fr f cs csW (by have:=h2.next;omega) (ht.mono h2.ext h2.same h2.next) (hs.mono h2.ext fun i hi=>h2.same i (by omega))
  |defer d=>
   obtain ⟨n',w',m',h1,h2,d',rfl,h3⟩:=hr;simp only [AY,Cf] at hout;split at hout
   rotate_left
   ·cases hout
   rename_i hro;simp only [CT.next.injEq] at hout;subst hout;have h4:=ht.mono (A':=A') h2.ext h2.same h2.next;have h5:Dy P X m' A' false lo A'.next { fr with defers:=d::fr.defers } { f with defers:=d'::f.defers }:=by
    refine ⟨⟨h4.core.fn,h4.core.kind,h4.core.kindOk,h4.core.mode,h4.core.round,.cons h3 h4.core.defers⟩,?_⟩;cases h4.body with
    |plain q1 q2 q3=>exact .plain q1 q2 q3
    |draw ops S C rl pl rest k k' q1 q2 q3 q4 q5 D=>exact .draw ops S C rl pl rest k k' q1 q2 q3 q4 q5 D
   obtain ⟨g1,g2⟩:=fin undef undef w' m' _ _ h2 (DN m') h5 (hb.top rfl rfl rfl);exact ⟨_,csW,w',by rw [h1];rfl,lo,m',g1,g2⟩
  |recover=>
   obtain ⟨n',w',m',h1,h2,h3⟩:=hr;have h3:n'=.recover:=h3;subst h3;simp only [AY,Bool.false_or] at hout;cases hro:fr.roundOf with
   |some l=>rw [hro] at hout;cases hout
   |none=>
    rw [hro] at hout;simp only [Option.isSome_none,Cf] at hout;have hfro:f.roundOf=none:=by
     have:=ht.core.round
     rw [hro] at this;cases hq:f.roundOf with
     |none=>rfl
     |some l=>rw [hq] at this;exact this.elim
    have h4:=ht.mono (A':=A') h2.ext h2.same h2.next;have hs':Stk P X m' A' base lo cs csW:=hs.mono h2.ext fun i hi=>h2.same i (by omega);have hrec:=PU (cs0:=cs0) h4.core.kind hb.kind h4.core.kindOk hs';cases htr:Gk fr cs with
    |none=>
     rw [htr] at hrec hout;simp only [CT.next.injEq] at hout;subst hout;obtain ⟨g1,g2⟩:=fin .nilIface .nilIface w' m' fr f h2 .nilIface h4 hb;exact ⟨_,csW,w',by rw [h1];simp only [answer,Bool.false_eq_true,if_false,hfro,hrec],lo,m',g1,g2⟩
    |some x=>
     obtain ⟨v,cs'⟩:=x;rw [htr] at hrec hout;obtain ⟨v',csW',e1,e2,e3,e4⟩:=hrec;simp only [CT.next.injEq] at hout;subst hout;refine ⟨_,csW',w',by rw [h1];simp only [answer,Bool.false_eq_true,if_false,hfro,e1],lo,m',h2.low (by omega),h2.rel,hG.mono h2.ext,by have:=h2.next;show lo≤A'.next;omega,h4.finish e2 (Nl _),e3,(e4 f0 fr hb).finish v⟩
  |rangeNext i=>exact absurd rfl (hn i A')
end
variable {s s':ASt} {w':World} {c:AFr} {rest:List AFr} {A':AW} {v:Value} {l l':Nat}
section
variable {P:Program} {X:Bc} {f0:FuncId} {base lo:Nat} {m:Inj P} {A:AW} {w:World} {fr:AFr} {cs:List AFr} {f:Frame} {csW cs0:List Frame}
theorem CH.sim{mach:Machine}{m':Inj P}(h:CH P X f0 base lo m' s f csW w')(hs:Steps P mach (lone f (csW++cs0) w'))(hev:EvL base m A w m' s.w w'):Sim P X f0 base cs0 m A w mach s:=
 ⟨lo,m',f,csW,w',hs,hev,h⟩
theorem CH.ER(h:CH P X f0 base lo m s f csW w):base≤lo:=h.stk.base
theorem CH.todo{s:ASt}{mach:Machine}{k k':List Item}(h:CH P X f0 base lo m s f csW w)(hd:s.fr.dr=false)(hk:BK (Fx m) k k')(hs:Steps P mach (lone { f with todo:=k' } (csW++cs0) w)):
  Sim P X f0 base cs0 m s.w w mach ⟨{ s.fr with todo:=k },s.cs,s.w⟩:=by
 refine ⟨lo,m,_,csW,w,hs,.refl h.rel base,h.rel,h.glob,h.below,⟨⟨h.top.core.fn,h.top.core.kind,h.top.core.kindOk,h.top.core.mode,h.top.core.round,h.top.core.defers⟩,?_⟩,h.stk,h.bot.top rfl rfl rfl⟩;cases h.top.body with
 |plain h1 tm todo=>exact .plain h1 tm hk
 |draw ops S C rl pl rest j j' h1=>rw [hd] at h1;cases h1
theorem CH.answer {mach:Machine} (h:CH P X f0 base lo m s f csW w) (hcs:s.cs=c::rest) {m':Inj P} (hev:Ev m s.w w m' A' w') {v':Value} (hv:AI m' v v')
  (hs:∀ g l,csW=g::l→Steps P mach (lone (g.finish v') (l++cs0) w')):Sim P X f0 base cs0 m s.w w mach ⟨c.finish v,rest,A'⟩:=by
 have hstk:=h.stk;rw [hcs] at hstk;have hb:=h.bot;rw [hcs] at hb;obtain ⟨lo1,g,l,rfl,h1,h2,h3⟩:=hstk.inv;have hlo:=h.below;have hbase:=h.ER;refine ⟨lo1,m',g.finish v',l,w',hs g l rfl,hev.low (by omega),hev.rel,h.glob.mono hev.ext,by have:=hev.next;show lo1≤A'.next;omega,?_,h3.mono hev.ext fun i hi=>hev.same i (by omega),(Bot.tail hb).finish v⟩;exact (h2.mono (A':=A') hev.ext (fun i hi=>hev.same i (by omega)) (Nl lo)).finish hv (by have:=hev.next;show lo≤A'.next;omega)
theorem PJ{m:Inj P}{u u':FrameMode}(h:EY m u u'):EY m (settled u) (settled u'):=by
 cases h with
 |run=>exact .run
 |returning=>exact .returning
 |panicking hc=>
  cases hc with
  |nil=>exact .panicking .nil
  |cons hp ht=>
   rename_i p p' older older';obtain ⟨v,rc,ge⟩:=p;obtain ⟨v',rc',ge'⟩:=p';have e1:rc'=rc:=hp.recovered;have e2:ge'=ge:=hp.goexit;subst e1 e2;cases rc' with
   |false=>exact .panicking (.cons hp ht)
   |true=>
    have key:∀ {l l':List PanicEntry},BK (Sn m) l l'→BK (Sn m) (l.dropWhile (!·.goexit)) (l'.dropWhile (!·.goexit)):=by
     intro l l' h
     induction h with
     |nil=>exact .nil
     |cons hp ht ih=>
      rename_i q q' r r';simp only [List.dropWhile_cons];rw [show q'.goexit=q.goexit from hp.goexit];cases q.goexit with
      |false=>exact ih
      |true=>exact .cons hp ht
    have hk:=key ht;simp only [settled];generalize older.dropWhile (!·.goexit)=a at hk;generalize older'.dropWhile (!·.goexit)=b at hk;cases hk with
    |nil=>exact .returning
    |cons hp ht=>exact .panicking (.cons hp ht)
theorem CH.settle {mach:Machine} (h:CH P X f0 base lo m s f csW w) (hcs:s.cs=c::rest) (hc:c.dr=false) {m':Inj P} (hev:Ev m s.w w m' A' w')
  (hs:∀ g l,csW=g::l→Steps P mach (lone { g with mode:=settled g.mode } (l++cs0) w')):Sim P X f0 base cs0 m s.w w mach ⟨{ c with mode:=settled c.mode },rest,A'⟩:=by
 have hstk:=h.stk;rw [hcs] at hstk;have hb:=h.bot;rw [hcs] at hb;obtain ⟨lo1,g,l,rfl,h1,h2,h3⟩:=hstk.inv;have hlo:=h.below;have hbase:=h.ER;refine ⟨lo1,m',_,l,w',hs g l rfl,hev.low (by omega),hev.rel,h.glob.mono hev.ext,by have:=hev.next;show lo1≤A'.next;omega,?_,h3.mono hev.ext fun i hi=>hev.same i (by omega),(Bot.tail hb).top rfl rfl rfl⟩;have h4:=h2.mono (A':=A') (hi':=A'.next) hev.ext (fun i hi=>hev.same i (by omega)) (by have:=hev.next;show lo≤A'.next;omega);exact h4.Fc hc (PJ h4.core.mode)
theorem GZ(hk:fr.kind=.normal)(h:CP fr (c::rest) v A'=.next s'):s'=⟨c.finish v,rest,A'⟩:=by
 unfold CP at h;rw [hk] at h;simp only [CT.next.injEq] at h;exact h.symm
theorem FZ(hk:fr.kind=.deferred)(h:CP fr (c::rest) v A'=.next s'):c.dr=false∧s'=⟨{ c with mode:=settled c.mode },rest,A'⟩:=by
 unfold CP at h;rw [hk] at h;obtain ⟨fn,tm,todo,defers,mode,kind,ro,dr⟩:=c;simp only at h;cases mode with
 |run=>cases dr<;>simp at h;exact ⟨rfl,by rw [← h];rfl⟩
 |returning=>cases dr<;>simp at h;exact ⟨rfl,by rw [← h];rfl⟩
 |panicking chain=>
  cases chain with
  |nil=>cases dr<;>simp at h;exact ⟨rfl,by rw [← h];rfl⟩
  |cons p older=>
   obtain ⟨u,rc,ge⟩:=p;cases rc with
   |false=>cases dr<;>simp at h;exact ⟨rfl,by rw [← h];rfl⟩
   |true=>
    simp only [settled];simp only at h;cases hq:older.dropWhile (!·.goexit) with
    |nil=>rw [hq] at h;cases dr<;>simp at h;exact ⟨rfl,by rw [← h]⟩
    |cons a b=>rw [hq] at h;cases dr<;>simp at h;exact ⟨rfl,by rw [← h]⟩
theorem Rel.MF(r:Rel m A w){lp:GB}(hg:A.get l=some (.loop lp))(hm:m l=some (l',0)):∃ lp',w.heap[l']? =some (.loop lp')∧Wq m lp lp':=by
 obtain ⟨c0,d0,o',g1,g2,g3⟩:=r.EE hg hm;rw [hm] at g1;simp only [Oi,Pj] at g1;obtain ⟨rfl,rfl⟩:=g1;obtain ⟨_,lp',rfl,h⟩:=g3;exact ⟨lp',g2,h⟩
theorem Gl{lp':Loop}(h:w.heap[l']? =some (.loop lp')):(Instr.getLoop l').run P w=.ok lp' w:=by
 simp only [Instr.getLoop,Sem.run_bind,Be P w l' _ h (by simp),Result.andThen_ok];rfl
theorem Tr(r:Rel m A w){lp:GB}(hg:A.get l=some (.loop lp))(hm:m l=some (l',0))(jump:Option Code)(hj:∀ c,jump=some c→codeOk P c=true):
  ∃ w',(Instr.endRound l' jump).run P w=.ok (.bool jump.isNone) w'∧Ev m A w m (A.put l (.loop { lp with state:=if jump.isNone then .ready else .done,pending:=jump })) w':=by
 obtain ⟨lp',h1,h2⟩:=r.MF hg hm;refine ⟨_,?_,Ev.Ek r hg rfl rfl hm h1 (o2:=.loop { lp with state:=if jump.isNone then .ready else .done,pending:=jump }) (o2':=.loop { lp' with state:=if jump.isNone then .ready else .done,pending:=jump })
  ⟨rfl,_,rfl,rfl,rfl,h2.fn,h2.tm,h2.params,h2.assign,h2.body,h2.defers,h2.ok.1,h2.ok.2.1,hj⟩ rfl rfl⟩
 simp only [Instr.endRound,Sem.run_bind,Gl h1,Result.andThen_ok,BM P w l' _ _ h1 (by simp),Sem.run_pure]
theorem PQ(r:Rel m A w){lp:GB}(hg:A.get l=some (.loop lp))(hm:m l=some (l',0))(hs:lp.state=.ready):
  ∃ w',(Instr.beginRound l').run P w=.ok () w'∧Ev m A w m (A.put l (.loop { lp with state:=.busy })) w':=by
 obtain ⟨lp',h1,h2⟩:=r.MF hg hm;refine ⟨_,?_,Ev.Ek r hg rfl rfl hm h1 (o2:=.loop { lp with state:=.busy }) (o2':=.loop { lp' with state:=.busy })
  ⟨rfl,_,rfl,rfl,h2.pending,h2.fn,h2.tm,h2.params,h2.assign,h2.body,h2.defers,h2.ok⟩ rfl rfl⟩
 have hs':lp'.state=.ready:=by rw [h2.state,hs]
 simp only [Instr.beginRound,Sem.run_bind,Gl h1,Result.andThen_ok,BM P w l' _ _ h1 (by simp),hs',Sem.run_pure]
theorem Vu(r:Rel m A w){lp:GB}(hg:A.get l=some (.loop lp))(hm:m l=some (l',0))(hs:lp.state≠ .busy):
  ∃ w',(Instr.endLoop l').run P w=.ok lp.pending w'∧Ev m A w m (A.put l (.loop { lp with state:=.exhausted })) w':=by
 obtain ⟨lp',h1,h2⟩:=r.MF hg hm;refine ⟨_,?_,Ev.Ek r hg rfl rfl hm h1 (o2:=.loop { lp with state:=.exhausted }) (o2':=.loop { lp' with state:=.exhausted })
  ⟨rfl,_,rfl,rfl,h2.pending,h2.fn,h2.tm,h2.params,h2.assign,h2.body,h2.defers,h2.ok⟩ rfl rfl⟩
 have hs':(lp'.state== .busy)=false:=by rw [h2.state];cases hq:lp.state<;>first | rfl | exact absurd hq hs
 simp only [Instr.endLoop,Sem.run_bind,Gl h1,Result.andThen_ok,hs',Bool.false_eq_true,if_false,Sem.run_pure,BM P w l' _ _ h1 (by simp),h2.pending]
theorem TD {s':ASt} {jump:Option Code} (h:CH P X f0 base lo m s f csW w) (hmode:s.fr.mode=.run) (hjump:Jump f.todo jump) (hjA:jump=none∨∃ c,jump=some c)
  (hout:(match s.fr.roundOf with
   |none=>(match jump with
    |none=>CT.next ⟨{ s.fr with mode:=.returning },s.cs,s.w⟩
    |some .ret=>.next ⟨{ s.fr with mode:=.returning },s.cs,s.w⟩
    |_=>.fail "leave")
   |some l=>(match s.w.get l with
    |some (.loop r)=>CP s.fr s.cs (.bool jump.isNone) (s.w.put l (.loop { r with state:=if jump.isNone then .ready else .done,pending:=jump }))
    |_=>.fail "endRound"))=.next s') (hd:s.fr.dr=false):Sim P X f0 base cs0 m s.w w (lone f (csW++cs0) w) s':=by
 have hfm:f.mode=.run:=by
  have:=h.top.core.mode
  rw [hmode] at this;generalize f.mode=u at this;cases this;rfl
 cases hro:s.fr.roundOf with
 |none=>
  rw [hro] at hout;simp only at hout;have hfro:f.roundOf=none:=by
   have:=h.top.core.round
   rw [hro] at this;cases hq:f.roundOf with
   |none=>rfl
   |some l=>rw [hq] at this;exact this.elim
  have key:s'=⟨{ s.fr with mode:=.returning },s.cs,s.w⟩∧(f.todo=[]∨∃ k,f.todo=.code .ret::k):=by
   generalize htf:f.todo=t at hjump;cases hjump with
   |done=>simp only [CT.next.injEq] at hout;exact ⟨hout.symm,.inl rfl⟩
   |ret k=>simp only [CT.next.injEq] at hout;exact ⟨hout.symm,.inr ⟨k,rfl⟩⟩
   |exit id k hh=>cases hout
   |goto l k hh=>cases hout
  obtain ⟨rfl,htf⟩:=key;refine ⟨lo,m,_,csW,w,.one (WG hfm hfro htf),.refl h.rel base,h.rel,h.glob,h.below,h.top.Fc hd .returning,h.stk,h.bot.top rfl rfl rfl⟩
 |some l=>
  rw [hro] at hout;simp only at hout;have hr:=h.top.core.round;rw [hro] at hr;cases hfr:f.roundOf with
  |none=>rw [hfr] at hr;exact hr.elim
  |some l'=>
   rw [hfr] at hr;have hr:m l=some (l',0):=hr;split at hout
   rotate_left
   ·cases hout
   rename_i lp hg;have hj:∀ c,jump=some c→codeOk P c=true:=by
    intro c hc;subst hc;generalize f.todo=t at hjump;cases hjump<;>rfl
   obtain ⟨w',g1,g2⟩:=Tr h.rel hg hr jump hj;cases hcs:s.cs with
   |nil=>rw [hcs] at hout;cases hout
   |cons c rest=>
    rw [hcs] at hout;rcases h.top.core.kindOk with hk | hk
    ·rw [GZ hk hout];exact h.answer hcs g2 (.bool _) fun g l2 hl=>by
      subst hl;exact .one (WE hfm hfr hjump g1 (h.top.core.kind.trans hk))
    ·obtain ⟨h1,rfl⟩:=FZ hk hout;exact h.settle hcs h1 g2 fun g l2 hl=>by
      subst hl;exact .one (J9 hfm hfr hjump g1 (h.top.core.kind.trans hk))
end
section
variable {P:Program} {X:Bc} {f0:FuncId} {base lo:Nat} {m:Inj P} {A:AW} {w:World} {fr:AFr} {cs:List AFr} {f:Frame} {csW cs0:List Frame}
theorem M1{m:Inj P}(id:Nat):∀ {k k':List Item},BK (Fx m) k k'→(match Gr id k with | none=>exitTo id k'=none | some r=>∃ r',exitTo id k'=some r'∧BK (Fx m) r r')
 |_,_,.nil=>rfl
 |x::_,_,.cons h t=>by
  have ih:=M1 id t;cases x with
  |inBlock id'=>
   have h:_=_:=h;subst h;simp only [Gr,exitTo];cases hb:Nat.beq id' id with
   |true=>
    have:=beq_true.1 hb
    subst this;simp only [Ct,beq_self_eq_true,if_true];exact ⟨_,rfl,t⟩
   |false=>
    have:=beq_false.1 hb
    simp only [Cf,beq_iff_eq,Ff this];exact ih
  |code c=>obtain ⟨rfl,_⟩:=h;exact ih
  |inLoop c=>obtain ⟨rfl,_⟩:=h;exact ih
  |inScope c=>obtain ⟨rfl,_⟩:=h;exact ih
  |inRegion ops l=>obtain ⟨rfl,_⟩:=h;exact ih
  |inRangeFunc l=>obtain ⟨l',rfl,_⟩:=h;exact ih
  |endRangeFunc l=>obtain ⟨l',rfl,_⟩:=h;exact ih
  |beginRound=>have h:_=_:=h;subst h;exact ih
  |call=>exact h.elim
  |extern=>exact h.elim
theorem OW:∀ (c:Code) (l:Nat) (r:Code),codeOk P c=true→findLabel c l=some r→codeOk P r=true:=by
 intro c
 induction c with
 |seq a b iha ihb=>
  intro l r hc h;simp only [codeOk,Bq] at hc;simp only [findLabel] at h;split at h
  ·rename_i rest hr;cases h;simp only [codeOk,Bq];exact ⟨iha l rest hc.1 hr,hc.2⟩
  ·exact ihb l r hc.2 h
 |label l'=>
  intro l r hc h;simp only [findLabel] at h;split at h
  ·cases h;rfl
  ·cases h
 |_=>intro l r hc h;simp [findLabel] at h
theorem MP{m:Inj P}(l:Nat):∀ {k k':List Item},BK (Fx m) k k'→(match gotoIn l k with | none=>gotoIn l k'=none | some r=>∃ r',gotoIn l k'=some r'∧BK (Fx m) r r')
 |_,_,.nil=>rfl
 |x::_,_,.cons h t=>by
  have ih:=MP l t;cases x with
  |inScope body=>
   obtain ⟨rfl,hb⟩:=h;simp only [gotoIn];cases hf:findLabel body l with
   |none=>exact ih
   |some rest=>exact ⟨_,rfl,.cons ⟨rfl,OW body l rest hb hf⟩ (.cons ⟨rfl,hb⟩ t)⟩
  |code c=>obtain ⟨rfl,_⟩:=h;exact ih
  |inLoop c=>obtain ⟨rfl,_⟩:=h;exact ih
  |inBlock c=>have h:_=_:=h;subst h;exact ih
  |inRegion ops l=>obtain ⟨rfl,_⟩:=h;exact ih
  |inRangeFunc l=>obtain ⟨l',rfl,_⟩:=h;exact ih
  |endRangeFunc l=>obtain ⟨l',rfl,_⟩:=h;exact ih
  |beginRound=>have h:_=_:=h;subst h;exact ih
  |call=>exact h.elim
  |extern=>exact h.elim
theorem CH.H7{s:ASt}(h:CH P X f0 base lo m s f csW w)(hm:s.fr.mode=.run):f.mode=.run:=by
 have:=h.top.core.mode
 rw [hm] at this;generalize f.mode=u at this;cases this;rfl
theorem CH.plain{s:ASt}(h:CH P X f0 base lo m s f csW w)(hd:s.fr.dr=false):Db m s.fr.tm f.tmps∧BK (Fx m) s.fr.todo f.todo:=by
 cases h.top.body with
 |plain h1 tm todo=>exact ⟨tm,todo⟩
 |draw ops S C rl pl rest j j' h1=>rw [hd] at h1;cases h1
theorem Y8 (hX:XOk P X) (hP:POk P) {s s':ASt} {ops:Array Oper} {i:Nat} {rest:List Nat} {k:List Item} (h:CH P X f0 base lo m s f csW w) (hm:s.fr.mode=.run) (hd:s.fr.dr=false) (ht:s.fr.todo=.inRegion ops (i::rest)::k)
  (hout:(match ops.toList[i]? with
   |some o=>bif AS ops s.fr.tm o then AY P s.fr s.cs false (AL P X s.fr.eval o s.w) else .next ⟨s.fr.finish undef,s.cs,s.w⟩
   |none=>.fail "no operation")=.next s'):Sim P X f0 base cs0 m s.w w (lone f (csW++cs0) w) s':=by
 obtain ⟨htm,htodo⟩:=h.plain hd;rw [ht] at htodo;generalize htf:f.todo=y at htodo;cases htodo with
 |cons hx hk=>
  rename_i x' k';obtain ⟨rfl,hops⟩:=hx;have hfm:=h.H7 hm;have hw1:Dy P X m s.w false lo s.w.next s.fr f:=h.top.It hd;split at hout
  rotate_left
  ·cases hout
  rename_i o ho;have ho':ops[i]? =some o:=by simpa using ho
  have hwr:Region.wanted o (yielded ops f.tmps)=AS ops s.fr.tm o:=G6 fun _ _ _ _ d _ _=>htm.val d;cases hwa:AS ops s.fr.tm o with
  |false=>
   rw [hwa] at hout hwr;simp only [Cf,CT.next.injEq] at hout;subst hout;refine ⟨lo,m,_,csW,w,.one (I4 hfm htf ho' hwr),.refl h.rel base,h.rel,h.glob,h.below,hw1.finish (DN m) (Nl _),h.stk,h.bot.finish undef⟩
  |true=>
   rw [hwa] at hout hwr;simp only [Ct] at hout;have hoo:Rv P o=true:=List.all_eq_true.1 hops o (List.mem_of_getElem? ho);have hrn:Bd P m s.w w (AL P X s.fr.eval o s.w) (execOp f.eval o):=by
    rw [BW,CB];exact FX hX h.rel fun x hx=>FD h.glob (List.all_eq_true.1 hoo x hx) fun t _=>htm.val t
   obtain ⟨f',csW',w',h1,lo',m',h2,h3⟩:=KJ (cs0:=cs0) hP hrn h.glob h.below hw1 h.stk h.bot (by
    intro j A' he;rw [he] at hout;simp only [AY,Cf] at hout
    repeat' split at hout
    all_goals first | (cases hout;done) | skip
    all_goals (revert hout;generalize (_&&_:Bool)=z;cases z<;>intro hout<;>cases hout)) hout
   refine ⟨lo',m',f',csW',w',.one (Pz hfm htf ho' hwr ?_ h1),h2,h3⟩;cases hro:f.roundOf with
   |none=>exact .inl rfl
   |some l'=>
    right
    intro c hc;have hra:=h.top.core.round;rw [hro] at hra;cases hq:s.fr.roundOf with
    |none=>rw [hq] at hra;exact hra
    |some l=>
     unfold AL at hout;rw [hc] at hout;simp only at hout;split at hout
     ·cases hout
     ·simp only [AY,Cf] at hout;rw [hq] at hout;cases hout
     ·cases hout
end
variable {ps:Array Tmp} {assign body:Code} {l:Nat} {s s':ASt} {k:List Item}
section
variable {P:Program} {X:Bc} {f0:FuncId} {base lo:Nat} {m:Inj P} {A:AW} {w:World} {fr:AFr} {cs:List AFr} {f:Frame} {csW cs0:List Frame}
theorem LD {m:Inj P} {A:AW} {w:World} (r:Rel m A w) {ro ro':Option Nat} (hro:Io m ro ro') {fn:FuncId} {tm:Tm} {tmps:Array Value} (htm:Db m tm tmps) {ps:Array Tmp}
  (hc1:codeOk P assign=true) (hc2:codeOk P body=true) {d:Nat} {mark:List Deferred} {A1 A2:AW} {l:Nat}
  (h1:(match (generalizing:=false) ro with
    |some l=>(match A.get l with | some (.loop r)=>some (r.defers,([]:List Deferred),A) | _=>none)
    |none=>(match A.new (.deferred (some [])) with | some (r,w')=>some (r,[{ target:=.collected r,args:=#[] }],w') | none=>none))=some (d,mark,A1))
  (h2:A1.new (.loop { state:=.ready,pending:=none,fn,tm,params:=ps.toList,assign,body,defers:=d })=some (l,A2)):
  ∃ l' mark' w' m',(Instr.enterLoop fn tmps ps assign body ro').run P w=.ok (l',mark') w'∧Ev m A w m' A2 w'∧m' l=some (l',0)∧BK (QS m') mark mark':=by
 have part2:∀ (m1:Inj P) (w1:World) (d':Nat),Ev m A w m1 A1 w1→m1 d=some (d',0)→∃ m',Ev m A w m' A2 { w1 with heap:=w1.heap.push (.loop { state:=.ready,pending:=none,fn,tmps,params:=ps,assign,body,defers:=d' }) }∧m1.le m'∧m' l=some (w1.heap.size,0):=by
  intro m1 w1 d' hev hd;obtain ⟨m',g1,g2⟩:=Dh (o':=.loop { state:=.ready,pending:=none,fn,tmps,params:=ps,assign,body,defers:=d' }) hev.rel h2
   ⟨rfl,_,rfl,rfl,rfl,rfl,htm.mono hev.ext,rfl,rfl,rfl,hd,hc1,hc2,fun c hc=>by cases hc⟩ rfl
  exact ⟨m',hev.trans g1,g1.ext,g2⟩
 cases ro with
 |some lr=>
  cases ro' with
  |none=>exact hro.elim
  |some lr'=>
   have hro:m lr=some (lr',0):=hro;simp only at h1;split at h1
   rotate_left
   ·cases h1
   rename_i lp hg;simp only [Oi,Pj] at h1;obtain ⟨rfl,rfl,rfl⟩:=h1;obtain ⟨lp',g1,g2⟩:=r.MF hg hro;obtain ⟨m',k1,k2,k3⟩:=part2 m w lp'.defers (.refl r) g2.defers;refine ⟨w.heap.size,[],_,m',?_,k1,k3,.nil⟩;simp only [Instr.enterLoop,Sem.run_bind,Gl g1,Result.andThen_ok,Sem.run_pure];rfl
 |none=>
  cases ro' with
  |some l=>exact hro.elim
  |none=>
   simp only at h1;split at h1
   rotate_left
   ·cases h1
   rename_i b A' hn;simp only [Oi,Pj] at h1;obtain ⟨rfl,rfl,rfl⟩:=h1;obtain ⟨m1,g1,g2⟩:=Dh (o':=.deferred (some [])) r hn ⟨rfl,[],rfl,.nil⟩ rfl;obtain ⟨m',k1,k2,k3⟩:=part2 m1 _ _ g1 g2;refine ⟨_,[{ target:=.collected w.heap.size,args:=#[] }],_,m',?_,k1,k3,.cons ⟨⟨_,rfl,k2.map _ _ g2⟩,.nil⟩ .nil⟩;simp only [Instr.enterLoop,Sem.run_bind,Result.andThen_ok,Sem.run_pure];rfl
theorem Nt (hX:XOk P X) (hP:POk P) {s':ASt} {g:Operand} (h:CH P X f0 base lo m s f csW w) (hm:s.fr.mode=.run) (hd:s.fr.dr=false)
  (ht:s.fr.todo=.code (.rangeFunc g ps assign body)::k)
  (hout:(match (match s.fr.roundOf with
    |some l=>(match s.w.get l with | some (.loop r)=>some (r.defers,([]:List Deferred),s.w) | _=>none)
    |none=>(match s.w.new (.deferred (some [])) with | some (r,w')=>some (r,[{ target:=.collected r,args:=#[] }],w') | none=>none)) with
   |none=>CT.fail "enterLoop"
   |some (d,mark,w)=>(match w.new (.loop { state:=.ready,pending:=none,fn:=s.fr.fn,tm:=s.fr.tm,params:=ps.toList,assign,body,defers:=d }) with
    |none=>.fail "enterLoop"
    |some (l,w)=>
     let fr':={ s.fr with todo:=.inRangeFunc l::k,defers:=mark++s.fr.defers }
     match s.fr.eval g with
     |.func fn first captured=>AY P fr' s.cs false (BU P X w (.fn fn captured) (first.toList++[Value.func (.yield l) #[] #[]]))
     |_=>.fail "rangeFunc"))=.next s'):Sim P X f0 base cs0 m s.w w (lone f (csW++cs0) w) s':=by
 obtain ⟨htm,htodo⟩:=h.plain hd;have hbase:=h.ER;have hlo:=h.below;rw [ht] at htodo;generalize htf:f.todo=y at htodo;cases htodo with
 |cons hx hk=>
  rename_i x' k';obtain ⟨rfl,hcode⟩:=hx;simp only [codeOk,Bq] at hcode;have hfm:=h.H7 hm;split at hout
  ·cases hout
  rename_i d mark A1 h1;split at hout
  ·cases hout
  rename_i l A2 h2;simp only at hout;split at hout
  rotate_left
  ·cases hout
  rename_i fn first captured he
  obtain ⟨l',mark',w1,m1,g1,g2,g3,g4⟩:=LD h.rel h.top.core.round htm hcode.2.1 hcode.2.2 h1 h2;have hg:AI m1 (s.fr.eval g) (f.eval g):=by
   rw [BW,CB];exact (FD h.glob hcode.1 fun t _=>htm.val t).mono g2.ext
  rw [he] at hg;generalize hfe:f.eval g=y at hg;cases hg with
  |func hf ha hc=>
   rename_i f' a a' c c';have hwait:Dy P X m1 A2 false lo A2.next { s.fr with todo:=.inRangeFunc l::k,defers:=mark++s.fr.defers } { f with todo:=.inRangeFunc l'::k',defers:=mark'++f.defers }:=by
    refine ⟨⟨h.top.core.fn,h.top.core.kind,h.top.core.kindOk,h.top.core.mode.mono g2.ext,h.top.core.round.mono g2.ext,g4.append (h.top.core.defers.mono fun _ _ x=>x.mono g2.ext)⟩,?_⟩;exact .plain hd (htm.mono g2.ext) (.cons ⟨l',rfl,g3⟩ (hk.mono fun _ _ x=>x.mono g2.ext))
   have hyield:AI m1 (.func (.yield l) #[] #[]) (.func (.yield l') #[] #[]):=.func (.inr ⟨l,l',rfl,rfl,g3⟩) .nil .nil;have hinv:=FR hX g2.rel (c:=⟨c⟩) hf hc (ha.append (.cons hyield .nil));have hn:∀ i A',BU P X A2 (.fn fn ⟨c⟩) (a++[Value.func (.yield l) #[] #[]])≠ .ok (.rangeNext i) A':=by
    intro i A' he2;rw [he2] at hout;simp only [AY,Cf] at hout
    repeat' split at hout
    all_goals first | (cases hout;done) | skip
    all_goals (revert hout;generalize (_&&_:Bool)=z;cases z<;>intro hout<;>cases hout)
   have hstk:=h.stk.mono (A':=A2) g2.ext fun i hi=>g2.same i (by omega);obtain ⟨f2,csW',w',k1,lo',m',k2,k3⟩:=KJ (cs0:=cs0) hP hinv (h.glob.mono g2.ext) (by have:=g2.next;omega) hwait hstk (h.bot.top rfl rfl rfl) hn hout;refine ⟨lo',m',f2,csW',w',.one (Py (l:=l') (mark:=mark') (w1:=w1) hfm htf (by rw [h.top.core.fn];exact g1) rfl ?_),(g2.low (by omega)).trans k2,k3⟩;have hev:({ f with todo:=.inRangeFunc l'::k',defers:=mark'++f.defers }:Frame).eval=f.eval:=by rw [CB,CB]
   rw [hev];rw [← k1]
   have:(do let d ← resolve f.eval { callee:=.value g,args:=#[.const (.func (.yield l') #[] #[])],argTypes:=#[] } 0;invoke d.target d.args:Sem Next).run P w1=(invoke (.fn f' ⟨c'⟩) ⟨a'++[Value.func (.yield l') #[] #[]]⟩).run P w1:=by
    simp only [Sem.run_bind,resolve,hfe,Deferred.ofValue,Sem.run_pure,Result.andThen_ok];simp [Frame.eval]
   rw [this]
theorem Nf {s':ASt} (h:CH P X f0 base lo m s f csW w) (hm:s.fr.mode=.run) (hd:s.fr.dr=false) (ht:s.fr.todo=.beginRound::k)
  (hout:(match s.fr.roundOf with
   |some l=>(match s.w.get l with
    |some (.loop r)=>(match r.state with
     |.ready=>CT.next ⟨s.fr.finish undef,s.cs,s.w.put l (.loop { r with state:=.busy })⟩
     |_=>.fail "beginRound")
    |_=>.fail "beginRound")
   |none=>.fail "beginRound")=.next s'):Sim P X f0 base cs0 m s.w w (lone f (csW++cs0) w) s':=by
 obtain ⟨htm,htodo⟩:=h.plain hd;have hbase:=h.ER;have hlo:=h.below;rw [ht] at htodo;generalize htf:f.todo=y at htodo;cases htodo with
 |cons hx hk=>
  rename_i x' k';have hx:x'=.beginRound:=hx;subst hx;have hfm:=h.H7 hm;have hr:=h.top.core.round;split at hout
  rotate_left
  ·cases hout
  rename_i l hro;rw [hro] at hr;cases hfr:f.roundOf with
  |none=>rw [hfr] at hr;exact hr.elim
  |some l'=>
   rw [hfr] at hr;have hr:m l=some (l',0):=hr;split at hout
   rotate_left
   ·cases hout
   rename_i lp hg;split at hout
   rotate_left
   ·cases hout
   rename_i hst;simp only [CT.next.injEq] at hout;subst hout;obtain ⟨w',g1,g2⟩:=PQ h.rel hg hr hst;have hw1:Dy P X m (s.w.put l (.loop { lp with state:=.busy })) false lo s.w.next s.fr f:=((h.top.It (live':=false) (hi':=s.w.next) hd).mono g2.ext (fun _ _=>rfl) (Nl _));refine ⟨lo,m,_,csW,w',.one (Oo hfm hfr htf g1),g2.low (by omega),g2.rel,h.glob,hlo,hw1.finish (DN m) (Nl _),h.stk.mono g2.ext fun _ _=>rfl,h.bot.finish undef⟩
theorem O2 {s':ASt} (h:CH P X f0 base lo m s f csW w) (hm:s.fr.mode=.run) (hd:s.fr.dr=false) (ht:s.fr.todo=.endRangeFunc l::k)
  (hout:(match s.w.get l with
   |some (.loop r)=>(match r.state with
    |.busy=>CT.fail "endLoop"
    |_=>.next ⟨{ s.fr with todo:=(match r.pending with | some c=>.code c::k | none=>k) },s.cs,s.w.put l (.loop { r with state:=.exhausted })⟩)
   |_=>.fail "endLoop")=.next s'):Sim P X f0 base cs0 m s.w w (lone f (csW++cs0) w) s':=by
 obtain ⟨htm,htodo⟩:=h.plain hd;have hbase:=h.ER;have hlo:=h.below;rw [ht] at htodo;generalize htf:f.todo=y at htodo;cases htodo with
 |cons hx hk=>
  rename_i x' k';obtain ⟨l',rfl,hl⟩:=hx;have hfm:=h.H7 hm;split at hout
  rotate_left
  ·cases hout
  rename_i lp hg;have hne:lp.state≠ .busy:=by
   intro e;rw [e] at hout;cases hout
  have hout:CT.next ⟨{ s.fr with todo:=(match lp.pending with | some c=>.code c::k | none=>k) },s.cs,s.w.put l (.loop { lp with state:=.exhausted })⟩=.next s':=by
   cases hq:lp.state with
   |busy=>exact absurd hq hne
   |ready=>rw [hq] at hout;exact hout
   |done=>rw [hq] at hout;exact hout
   |exhausted=>rw [hq] at hout;exact hout
  simp only [CT.next.injEq] at hout;subst hout;obtain ⟨w',g1,g2⟩:=Vu h.rel hg hl hne;obtain ⟨lp',q1,q2⟩:=h.rel.MF hg hl;refine ⟨lo,m,_,csW,w',.one (QX hfm htf g1),g2.low (by omega),g2.rel,h.glob,hlo,⟨⟨h.top.core.fn,h.top.core.kind,h.top.core.kindOk,h.top.core.mode,h.top.core.round,h.top.core.defers⟩,.plain hd htm ?_⟩,
   h.stk.mono g2.ext fun _ _=>rfl,h.bot.top rfl rfl rfl⟩
  cases hp:lp.pending with
  |none=>simpa [hp] using hk
  |some c=>exact .cons ⟨rfl,q2.ok.2.2 c hp⟩ hk
end
variable {s:ASt} {k k':List Item} {S:Nat→Prop} {C:Nat} {rest:List Nat}
section
variable {P:Program} {X:Bc} {f0:FuncId} {base lo:Nat} {m:Inj P} {A:AW} {w:World} {fr:AFr} {cs:List AFr} {f:Frame} {csW cs0:List Frame}
theorem NJ (hP:POk P) {id:Nat} {ops:Array Oper} {p:List Nat} (h:CH P X f0 base lo m s f csW w) (hm:s.fr.mode=.run) (hd:s.fr.dr=false) (ht:s.fr.todo=.code (.region id ops true)::k)
  (hin:Ie s.fr.tm.sz ops.toList=true) (hp:Mt P ops.toList=some p):
  Sim P X f0 base cs0 m s.w w (lone f (csW++cs0) w) { s with fr:={ s.fr with todo:=.inRegion ops p::k,dr:=true } }:=by
 obtain ⟨htm,htodo⟩:=h.plain hd;have hbase:=h.ER;have hlo:=h.below;rw [ht] at htodo;generalize htf:f.todo=y at htodo;cases htodo with
 |cons hx hk=>
  rename_i x' k';obtain ⟨rfl,hcode⟩:=hx;have hfm:=h.H7 hm;obtain ⟨t,hstep⟩:=YV (P:=P) (cs:=csW++cs0) (w:=w) hfm htf;have hsched:Region.schedule (P.follows .mixedOrders) ops t=Region.linearise .any ops t:=by simp [Region.schedule,hP.mixed]
  rw [hsched] at hstep;have hev:=Ev.drawn h.rel (w.drawn+1) (Nat.le_succ _);have hso:=(Mr hp).1;refine ⟨lo,m,_,csW,_,.one hstep,hev.low (by omega),hev.rel,h.glob,hlo,⟨⟨h.top.core.fn,h.top.core.kind,h.top.core.kindOk,h.top.core.mode,h.top.core.round,h.top.core.defers⟩,?_⟩,h.stk.mono (.refl m) fun _ _=>rfl,h.bot.top rfl rfl rfl⟩;exact .draw ops (fun _=>False) 0 [] p _ k k' rfl hm rfl rfl hk (BE.start htm hp hcode (Lf hin) (Zg hso.back t))
theorem Qy (hX:XOk P X) {ops:Array Oper} (h:CH P X f0 base lo m s f csW w) (hm:s.fr.mode=.run)
  (htf:f.todo=.inRegion ops rest::k') (hk:BK (Fx m) k k') (D:BE P X m s.w true lo s.w.next s.fr.tm f.tmps ops S C [] [] rest):
  Sim P X f0 base cs0 m s.w w (lone f (csW++cs0) w) ⟨{ s.fr with todo:=k,dr:=false },s.cs,s.w⟩:=by
 have hbase:=h.ER;have hlo:=h.below;have hfm:=h.H7 hm;have hall:∀ i,i<ops.size→C.testBit i=true:=by
  intro i hi
  have:=D.plan
  cases this with
  |stop _ hh=>exact hh i (by simpa using hi)
 obtain ⟨S',tmps',rest',m',w',t1,t2,t3,t4⟩:=BE.LN hX (cs:=csW++cs0) (k:=k') none (Nl _) hlo rest h.glob h.rel D (fun i hi=>.inl (hall i hi)) (fun x hx=>by cases hx) hfm htf;have t4:rest'=[]:=t4;subst t4;refine ⟨lo,m',_,csW,w',t1.trans (.one (Yd (k:=k') (by exact hfm) rfl)),t2.On hbase,t2.rel,h.glob.mono t2.ext,hlo,⟨⟨h.top.core.fn,h.top.core.kind,h.top.core.kindOk,h.top.core.mode.mono t2.ext,h.top.core.round.mono t2.ext,h.top.core.defers.mono fun _ _ x=>x.mono t2.ext⟩,?_⟩,
  h.stk.mono t2.ext t2.same,h.bot.top rfl rfl rfl⟩
 exact .plain rfl t3.done (hk.mono fun _ _ x=>x.mono t2.ext)
theorem R7 (hX:XOk P X) (hP:POk P) {s':ASt} {ops:Array Oper} {x:Nat} {q:List Nat} (h:CH P X f0 base lo m s f csW w) (hm:s.fr.mode=.run) (hd:s.fr.dr=true)
  (ht:s.fr.todo=.inRegion ops (x::q)::k) (htf:f.todo=.inRegion ops rest::k') (hk:BK (Fx m) k k') (D:BE P X m s.w true lo s.w.next s.fr.tm f.tmps ops S C [] (x::q) rest)
  (hout:(match ops.toList[x]? with
   |some o=>bif AS ops s.fr.tm o then AY P s.fr s.cs false (AL P X s.fr.eval o s.w) else .next ⟨s.fr.finish undef,s.cs,s.w⟩
   |none=>.fail "no operation")=.next s'):Sim P X f0 base cs0 m s.w w (lone f (csW++cs0) w) s':=by
 have hbase:=h.ER;have hlo:=h.below;have hfm:=h.H7 hm;split at hout
 rotate_left
 ·cases hout
 rename_i o ho;have hfinA:=fun v=>H8 ht ho v;have hplan:=D.plan;have ahead:∀ (d:Tmp) (v:Value) (A':AW) (p' rl':List Nat),o.dst=some d→q=rl'++p'→EvL lo m s.w w m A' w→BE P X m A' true lo A'.next (s.fr.tm.set d v) f.tmps ops S (C ||| (1 <<< x)) rl' p' rest→
   Sim P X f0 base cs0 m s.w w (lone f (csW++cs0) w) ⟨s.fr.finish v,s.cs,A'⟩:=by
  intro d v A' p' rl' hod hq hev D';refine ⟨lo,m,f,csW,w,.refl P _,hev.On hbase,hev.rel,h.glob,by have:=hev.next;show lo≤A'.next;omega,?_,h.stk.mono (.refl m) fun _ _=>rfl,h.bot.finish v⟩;refine ⟨by
   obtain ⟨a1,a2,a3,a4,a5,a6⟩:=Fq s.fr v;exact ⟨by rw [a1];exact h.top.core.fn,by rw [a2];exact h.top.core.kind,by rw [a2];exact h.top.core.kindOk,by rw [a3];exact h.top.core.mode,by rw [a4];exact h.top.core.round,by rw [a5];exact h.top.core.defers⟩,?_⟩
  rw [hfinA v,hod];exact .draw ops S (C ||| (1 <<< x)) rl' p' rest k k' hd hm (by rw [hq]) htf hk D'
 cases hplan with
 |pure _ _ p g1 g2 g3 g4 g5 g6=>
  have hq:Cj P o.op=true:=by
   cases hq:Cj P o.op with
   |true=>rfl
   |false=>
    cases ha:D1 o.op with
    |true=>rw [(Wn ho).2 ha] at g3;cases g3
    |false=>rw [(R5 ho).2 ⟨hq,ha⟩] at g2;cases g2
  obtain ⟨d,hod⟩:∃ d,o.dst=some d:=by
   cases hh:o.dst with
   |some d=>exact ⟨d,rfl⟩
   |none=>rw [D.slotsOk.dst x o ho hh] at g2;cases g2
  have hsz:=D.inb x o d ho hod;have hself:∀ (v:Value) (t:Tmp),CX ops.toList o t=true→(s.fr.tm.set d v).get t=s.fr.tm.get t:=by
   intro v t hl;rw [Tm.Ep _ D.small,Ff];rintro ⟨rfl,_⟩;rcases D.slotsOk.looks x o t ho hod x o ho hl with h | ⟨h,_⟩
   ·have:=Wm D.slotsOk.back x x g1 h
    omega
   ·rw [g2] at h;cases h
  have adv:∀ v,((AS ops s.fr.tm o=false∧v=undef)∨(AS ops s.fr.tm o=true∧∃ A',AL P X (BJ s.fr.tm) o s.w=.ok (.value v) A'))→Sim P X f0 base cs0 m s.w w (lone f (csW++cs0) w) ⟨s.fr.finish v,s.cs,s.w⟩:=by
   intro v hv;refine ahead d v s.w q [] hod rfl (.refl h.rel lo) ?_;refine D.advance (by simpa using g1) g4 g2 g5 ho hod (Nl _) hlo (fun hh=>by rw [hq] at hh;cases hh) g6 (fun y hy=>by cases hy) fun j hj hs=>.inr ?_;rw [Mv] at hj;by_cases e:j=x
   ·subst e;intro o' d' ho' hd';rw [ho] at ho';cases ho';rw [hod] at hd';cases hd';rw [CI (hself v),Le (Ic (hself v)),Tm.Ep _ D.small,if_pos ⟨rfl,hsz⟩];rcases hv with ⟨h1,rfl⟩ | ⟨h1,h2⟩
    ·exact ⟨fun _=>rfl,fun hh=>by rw [h1] at hh;cases hh⟩
    ·exact ⟨fun hh=>by (rw [h1] at hh;cases hh),fun _=>⟨fun _=>h2,fun hh=>by rw [hq] at hh;cases hh⟩⟩
   ·exact D.TH v g4 g2 ho hod (by simpa [e] using hj) hs
  cases hwa:AS ops s.fr.tm o with
  |false=>
   rw [hwa] at hout;simp only [Cf,CT.next.injEq] at hout;subst hout;exact adv undef (.inl ⟨hwa,rfl⟩)
  |true=>
   rw [hwa] at hout;simp only [Ct] at hout;rw [BW] at hout;cases he:AL P X (BJ s.fr.tm) o s.w with
   |fail y=>rw [he] at hout;cases hout
   |panic v A'=>rw [he] at hout;simp only [AY,hd,Ct] at hout;cases hout
   |ok n A'=>
    obtain ⟨rfl,v,rfl⟩:=D3 hq he;rw [he] at hout;simp only [AY,Cf,CT.next.injEq] at hout;subst hout;exact adv v (.inr ⟨hwa,_,he⟩)
 |alloc _ _ p g1 g2 g3 g4 g5 g6=>
  have hal:=(Wn ho).1 g3;have hq:Cj P o.op=false:=PX hal;obtain ⟨d,hod⟩:∃ d,o.dst=some d:=by
   cases hh:o.dst with
   |some d=>exact ⟨d,rfl⟩
   |none=>rw [D.slotsOk.dst x o ho hh] at g2;cases g2
  have adv:∀ v A',EvL lo m s.w w m A' w→s.w.next≤A'.next→(AS ops s.fr.tm o=true→∃ b,MO v=some b∧m b=none∧s.w.next≤b∧b<A'.next)→Sim P X f0 base cs0 m s.w w (lone f (csW++cs0) w) ⟨s.fr.finish v,s.cs,A'⟩:=by
   intro v A' hev hnx hg;refine ahead d v A' p _ hod rfl hev ?_;refine D.advance (by simpa using g1) g4 g2 g5 ho hod hnx hlo (fun _=>hg) g6 (fun y hy=>?_) fun j hj hs=>.inl ?_
   ·obtain ⟨i,_,rfl,_⟩:=(G2 _ _ _ _ _ y).1 hy
    simp
   ·refine (G2 _ _ _ _ _ _).2 ⟨j,?_,by simp,hj,?_,by simp⟩
    ·rw [Mv] at hj;by_cases e:j=x
     ·subst e;exact g1
     ·simpa using D.bits j (by simpa [e] using hj)
    ·cases hh:(DL P ops.toList).testBit j with
     |false=>rfl
     |true=>
      rw [Mv] at hj;by_cases e:j=x
      ·subst e;rw [g2] at hh;cases hh
      ·exact absurd (D.effs j (by simpa [e] using hj) hh) hs
  cases hwa:AS ops s.fr.tm o with
  |false=>
   rw [hwa] at hout;simp only [Cf,CT.next.injEq] at hout;subst hout;exact adv undef s.w (.refl h.rel lo) (Nl _) fun hh=>by rw [hwa] at hh;cases hh
  |true=>
   rw [hwa] at hout;simp only [Ct] at hout;rw [BW] at hout;cases he:AL P X (BJ s.fr.tm) o s.w with
   |fail y=>rw [he] at hout;cases hout
   |panic v A'=>rw [he] at hout;simp only [AY,hd,Ct] at hout;cases hout
   |ok n A'=>
    obtain ⟨v,ob,b,rfl,h1,h2,h3⟩:=Nj hal he;rw [he] at hout;simp only [AY,Cf,CT.next.injEq] at hout;subst hout;obtain ⟨q1,q2,q3,q4,q5⟩:=h.rel.Fb h1 h2;exact adv v A' (EvL.Fb h.rel h1 h2 lo) (by omega) fun _=>⟨b,h3,q4,by omega,by omega⟩
 |effect _ _ p g1 g2 g3 g4 g5 g6=>
  obtain ⟨S',tmps',rest',m1,w1,t1,t2,t3,r,t4⟩:=BE.LN hX (cs:=csW++cs0) (k:=k') (some x) (Nl _) hlo rest h.glob h.rel D (fun i hi=>by
   rcases g5 i (by simpa using hi) with hh | rfl | hh
   ·exact .inl hh
   ·exact .inr (.inl ⟨rfl,fun hs=>by rw [D.sub i hs] at g3;cases g3⟩)
   ·exact .inr (.inr ⟨x,rfl,hh⟩)) (fun y hy=>by cases hy;exact ⟨by simpa using g1,g3⟩) hfm htf
  subst t4;obtain ⟨_,_,hanc,_⟩:=t3.lin;have hG1:=h.glob.mono t2.ext;have hops:=t3.operands hG1 hanc ho;have hwr:=t3.wanted hanc ho;have hW:Dy P X m1 s.w false lo s.w.next s.fr { f with tmps:=tmps',todo:=.inRegion ops (x::r)::k' }:=by
   refine ⟨⟨h.top.core.fn,h.top.core.kind,h.top.core.kindOk,h.top.core.mode.mono t2.ext,h.top.core.round.mono t2.ext,h.top.core.defers.mono fun _ _ x=>x.mono t2.ext⟩,?_⟩;exact .draw ops S' C [] _ (x::r) k k' hd hm ht rfl (hk.mono fun _ _ x=>x.mono t2.ext) (t3.Q3 g2 _ (Nl _))
  have hstk:=h.stk.mono (A':=s.w) t2.ext t2.same;have ho':ops[x]? =some o:=by simpa using ho
  cases hwa:AS ops s.fr.tm o with
  |false=>
   rw [hwa] at hout hwr;simp only [Cf,CT.next.injEq] at hout;subst hout;exact ⟨lo,m1,_,csW,w1,t1.trans (.one (I4 (by exact hfm) rfl ho' hwr)),t2.On hbase,t2.rel,hG1,hlo,hW.finish (DN m1) (Nl _),hstk,h.bot.finish undef⟩
  |true=>
   rw [hwa] at hout hwr;simp only [Ct] at hout;have hrn:Bd P m1 s.w w1 (AL P X s.fr.eval o s.w) (execOp (evalW tmps') o):=by
    rw [BW];exact FX hX t2.rel hops
   obtain ⟨f',csW',w',h1,lo',m',h2,h3⟩:=KJ (cs0:=cs0) hP hrn hG1 hlo hW hstk h.bot (by
    intro j A' he;rw [he] at hout;simp only [AY,Cf] at hout
    repeat' split at hout
    all_goals first | (cases hout;done) | skip
    all_goals (revert hout;generalize (_&&_:Bool)=z;cases z<;>intro hout<;>cases hout)) hout
   refine ⟨lo',m',f',csW',w',t1.trans (.one (Pz (by exact hfm) rfl ho' hwr ?_ ?_)),(t2.On hbase).trans h2,h3⟩
   ·cases hro:f.roundOf with
    |none=>exact .inl rfl
    |some l'=>
     right
     intro c hc;have hra:=h.top.core.round;rw [hro] at hra;cases hq:s.fr.roundOf with
     |none=>rw [hq] at hra;exact hra
     |some l=>
      unfold AL at hout;rw [hc] at hout;simp only at hout;split at hout
      ·cases hout
      ·simp only [AY,Cf] at hout;rw [hq] at hout;cases hout
      ·cases hout
   ·rw [← h1,CB]
end
variable {tmps:Array Value} {v:Value} {fn:Func} {b:Nat} {calls ds:List Deferred} {s s':ASt} {c:AFr} {rest:List AFr}
section
variable {P:Program} {X:Bc} {f0:FuncId} {base lo:Nat} {m:Inj P} {A:AW} {w:World} {fr:AFr} {cs:List AFr} {f:Frame} {csW cs0:List Frame}
theorem Dy.raise{live live':Bool}{hi:Nat}{a:AFr}{f:Frame}(r:Dy P X m A live lo hi a f)(hd:a.dr=false){vs vs':List PanicEntry}(hv:BK (Sn m) vs vs'):Dy P X m A live' lo hi (a.raise vs) (f.raise vs'):=by
 have hmode:=r.core.mode;simp only [AFr.raise,Frame.raise];generalize hcm:a.mode=cm at hmode;generalize hgm:f.mode=gm at hmode;cases hmode with
 |run=>exact r.Fc hd (.panicking hv)
 |returning=>exact r.Fc hd (.panicking hv)
 |panicking hch=>exact r.Fc hd (.panicking (hv.append hch))
def Vh(tmps:Array Value):ResultVar→Sem Value
 |.tmp t=>pure (tmps.getD t undef)
 |.cell a t=>do loadVar t (← asAddr (tmps.getD a undef))
def Ty(P:Program)(A:AW)(tm:Tm):ResultVar→Option Value
 |.tmp t=>some (tm.get t)
 |.cell a t=>(match tm.get a with | .pointer (some a)=>CC P A t a | _=>none)
theorem Rf(fn:Func)(tmps:Array Value):results fn tmps=(do let vs ← fn.results.mapM (Vh tmps);pure (if h:vs.size=1 then vs[0] else .tuple vs)):=by
 unfold results
 congr 1
theorem PR(fn:Func)(tm:Tm):Cu P A fn tm=(match Cu.go (Ty P A tm) fn.results.toList with | some [v]=>some v | some l=>some (.tuple ⟨l⟩) | none=>none):=by
 unfold Cu;simp only
 have:(fun x=>match x with | .tmp t=>some (tm.get t) | .cell a t=>(match tm.get a with | .pointer (some a)=>CC P A t a | _=>none):ResultVar→Option Value)=Ty P A tm:=by
  funext x
  cases x<;>rfl
 rw [← this];rfl
theorem Rx(r:Rel m A w){tm:Tm}(ht:Db m tm tmps){x:ResultVar}(h:Ty P A tm x=some v):∃ v',(Vh tmps x).run P w=.ok v' w∧AI m v v':=by
 cases x with
 |tmp t=>
  simp only [Ty,Oi] at h;subst h;exact ⟨_,rfl,ht.val t⟩
 |cell a t=>
  simp only [Ty] at h;have hv:=ht.val a;generalize tm.get a=y at h hv;split at h
  ·generalize hq:tmps.getD a undef=z at hv;cases hv with
   |ptr ha=>
    obtain ⟨v',h1,h2⟩:=Dv r h ha;refine ⟨v',?_,h2⟩;simp only [Vh,hq,Sem.run_bind,asAddr,Sem.run_pure,Result.andThen_ok];exact h1
  ·cases h
theorem Jh(r:Rel m A w){tm:Tm}{tmps:Array Value}(ht:Db m tm tmps):∀ {l:List ResultVar} {vs:List Value},Cu.go (Ty P A tm) l=some vs→
  ∃ vs',(l.mapM (Vh tmps)).run P w=.ok vs' w∧AJ m vs vs'
 |[],vs,h=>by
  simp only [Cu.go,Oi] at h;subst h;exact ⟨[],by simp,.nil⟩
 |x::l,vs,h=>by
  simp only [Cu.go] at h;split at h
  ·rename_i v vs1 h1 h2;simp only [Oi] at h;subst h;obtain ⟨v',g1,g2⟩:=Rx r ht h1;obtain ⟨vs',g3,g4⟩:=Jh r ht h2;refine ⟨v'::vs',?_,.cons g2 g4⟩;simp only [List.mapM_cons,Sem.run_bind,g1,Result.andThen_ok,g3,Sem.run_pure]
  ·cases h
theorem IM(r:Rel m A w){tm:Tm}(ht:Db m tm tmps)(h:Cu P A fn tm=some v):∃ v',(results fn tmps).run P w=.ok v' w∧AI m v v':=by
 rw [PR] at h;have key:∀ vs',(fn.results.toList.mapM (Vh tmps)).run P w=.ok vs' w→(results fn tmps).run P w=.ok (if h:vs'.length=1 then vs'[0] else .tuple ⟨vs'⟩) w:=by
  intro vs' hv;rw [Rf,Array.mapM_eq_mapM_toList];simp only [Sem.run_bind,map_eq_pure_bind,hv,Result.andThen_ok,Sem.run_pure]
  simp
 split at h
 ·rename_i u hg;simp only [Oi] at h;subst h;obtain ⟨vs',g1,g2⟩:=Jh r ht hg;cases g2 with
  |cons hv hn=>
   cases hn;exact ⟨_,key _ g1,hv⟩
 ·rename_i l hne hg;simp only [Oi] at h;subst h;obtain ⟨vs',g1,g2⟩:=Jh r ht hg;have hl:=g2.length;refine ⟨_,key _ g1,?_⟩;rw [dif_neg]
  ·exact .tuple g2
  ·intro h1;rw [hl] at h1;obtain ⟨u,rfl⟩:=List.length_eq_one_iff.1 h1;exact hne u rfl
 ·cases h
theorem Q5(r:Rel m A w){b':Nat}(hg:A.get b=some (.deferred (some calls)))(hm:m b=some (b',0)):
  ∃ calls' w',(Instr.takeDeferred b').run P w=.ok calls' w'∧Ev m A w m (A.put b (.deferred none)) w'∧BK (QS m) calls calls':=by
 obtain ⟨c0,d0,o',g1,g2,g3⟩:=r.EE hg hm;rw [hm] at g1;simp only [Oi,Pj] at g1;obtain ⟨rfl,rfl⟩:=g1;obtain ⟨_,ds',rfl,h⟩:=g3;refine ⟨ds',_,?_,Ev.Ek r hg rfl rfl hm g2 (o2:=.deferred none) (o2':=.deferred none) ⟨rfl,rfl⟩ rfl rfl,h⟩;simp only [Instr.takeDeferred,Sem.run_bind,Be P w b' _ g2 (by simp),Result.andThen_ok,BM P w b' _ _ g2 (by simp),Sem.run_pure]
theorem NO {b:Nat} {args:Array Value} {ds calls:List Deferred} (h:CH P X f0 base lo m s f csW w) (hm:s.fr.mode≠ .run) (hd:s.fr.defers={ target:=.collected b,args }::ds)
  (hg:s.w.get b=some (.deferred (some calls))):Sim P X f0 base cs0 m s.w w (lone f (csW++cs0) w) ⟨{ s.fr with defers:=calls++ds },s.cs,s.w.put b (.deferred none)⟩:=by
 have hbase:=h.ER;have hlo:=h.below;have hdr:=h.top.JK hm;obtain ⟨htm,htodo⟩:=h.plain hdr;have hdf:=h.top.core.defers;rw [hd] at hdf;generalize hfd:f.defers=y at hdf;cases hdf with
 |cons hx ht=>
  rename_i d' ds';obtain ⟨tg,ar⟩:=d';obtain ⟨b',hb',hmb⟩:=hx.target;simp only at hb';subst hb';obtain ⟨calls',w',g1,g2,g3⟩:=Q5 h.rel hg hmb;have hfm:f.mode≠ .run:=by
   intro e
   have:=h.top.core.mode
   rw [e] at this;generalize hq:s.fr.mode=u at this;cases this;exact hm hq
  exact ⟨lo,m,_,csW,w',.one (PA hfm hfd g1),g2.low (by omega),g2.rel,h.glob,hlo,
   ⟨⟨h.top.core.fn,h.top.core.kind,h.top.core.kindOk,h.top.core.mode,h.top.core.round,g3.append ht⟩,.plain hdr htm htodo⟩,h.stk.mono g2.ext fun _ _=>rfl,h.bot.top rfl rfl rfl⟩
theorem O4 (hX:XOk P X) (hP:POk P) {s':ASt} {d:Deferred} (h:CH P X f0 base lo m s f csW w) (hm:s.fr.mode≠ .run) (hd:s.fr.defers=d::ds) (hnc:∀ b,d.target≠ .collected b)
  (hout:AY P { s.fr with defers:=ds } s.cs true (BU P X s.w d.target d.args.toList)=.next s'):Sim P X f0 base cs0 m s.w w (lone f (csW++cs0) w) s':=by
 have hbase:=h.ER;have hlo:=h.below;have hdr:=h.top.JK hm;obtain ⟨htm,htodo⟩:=h.plain hdr;have hdf:=h.top.core.defers;rw [hd] at hdf;generalize hfd:f.defers=y at hdf;cases hdf with
 |cons hx ht=>
  rename_i d' ds';obtain ⟨tg',ar'⟩:=d';obtain ⟨tg,ar⟩:=d;obtain ⟨ar'⟩:=ar';have htg:=hx.target;have har:=hx.args;simp only at htg har hnc hout;cases tg with
  |collected b=>exact absurd rfl (hnc b)
  |fn fv c=>
   obtain ⟨fv',c',rfl,hf,hc⟩:=htg;have hinv:=FR hX h.rel hf hc har;have hfm:f.mode≠ .run:=by
    intro e
    have:=h.top.core.mode
    rw [e] at this;generalize hq:s.fr.mode=u at this;cases this;exact hm hq
   have hF:∀ (live:Bool) (m':Inj P) (A':AW) (hi:Nat),m.le m'→Dy P X m' A' live lo hi { s.fr with defers:=ds } { f with defers:=ds' }:=fun live m' A' hi hle=>
    ⟨⟨h.top.core.fn,h.top.core.kind,h.top.core.kindOk,h.top.core.mode.mono hle,h.top.core.round.mono hle,ht.mono fun _ _ x=>x.mono hle⟩,.plain hdr (htm.mono hle) (htodo.mono fun _ _ x=>x.mono hle)⟩
   have hB:Bot f0 ({ s.fr with defers:=ds }::s.cs):=h.bot.top rfl rfl rfl;generalize hres:BU P X s.w (.fn fv c) ar.toList=res at hout hinv;cases res with
   |fail y=>cases hout
   |panic v A'=>
    obtain ⟨v',w',m',h1,h2,h3⟩:=hinv;simp only [AY,hdr,Cf,CT.next.injEq] at hout;subst hout;refine ⟨lo,m',_,csW,w',.one (FF hfm hfd (by rw [h1];rfl)),h2.low (by omega),h2.rel,h.glob.mono h2.ext,by have:=h2.next;show lo≤A'.next;omega,?_,h.stk.mono h2.ext fun i hi=>h2.same i (by omega),?_⟩
    ·have hq:Dy P X m' A' true lo A'.next _ _:=(hF true m' A' A'.next h2.ext).raise hdr (vs:=[{ v,recovered:=false }]) (vs':=[{ v:=v',recovered:=false }]) (.cons ⟨h3,rfl,rfl⟩ .nil)
     simpa only [hdr] using hq
    ·refine h.bot.top ?_ ?_ ?_<;>(unfold AFr.raise;split<;>rfl)
   |ok n A'=>
    cases n with
    |value v=>
     obtain ⟨n',w',m',h1,h2,v',rfl,h3⟩:=hinv;simp only [AY,Ct,CT.next.injEq] at hout;subst hout;exact ⟨lo,m',_,csW,w',.one (FF hfm hfd (by rw [h1];rfl)),h2.low (by omega),h2.rel,h.glob.mono h2.ext,by have:=h2.next;show lo≤A'.next;omega,hF true m' A' A'.next h2.ext,h.stk.mono h2.ext fun i hi=>h2.same i (by omega),hB⟩
    |skip=>
     obtain ⟨n',w',m',h1,h2,h3⟩:=hinv;have h3:n'=.skip:=h3;subst h3;simp only [AY,Ct,CT.next.injEq] at hout;subst hout;exact ⟨lo,m',_,csW,w',.one (FF hfm hfd (by rw [h1];rfl)),h2.low (by omega),h2.rel,h.glob.mono h2.ext,by have:=h2.next;show lo≤A'.next;omega,hF true m' A' A'.next h2.ext,h.stk.mono h2.ext fun i hi=>h2.same i (by omega),hB⟩
    |enter g args=>
     obtain ⟨n',w',m',h1,h2,args',rfl,h3⟩:=hinv;simp only [AY,Ct] at hout;split at hout
     rotate_left
     ·cases hout
     rename_i fr' he;simp only [CT.next.injEq] at hout;subst hout;obtain ⟨g1,g2,g3,g4⟩:=IF (X:=X) (A:=A') hP he h3 (.inr rfl) A'.next A'.next;refine ⟨A'.next,m',_,{ f with defers:=ds' }::csW,w',.one (FF hfm hfd (by rw [h1];rfl)),h2.low (by omega),h2.rel,h.glob.mono h2.ext,Nl _,g1,?_,hB.push⟩;exact .cons lo A'.next _ _ s.cs csW (by have:=h2.next;omega) (hF false m' A' A'.next h2.ext) (h.stk.mono h2.ext fun i hi=>h2.same i (by omega))
    |round l fn tm assign body=>
     obtain ⟨n',w',m',h1,h2,l',tmps',rfl,h3,h4,h5,h6⟩:=hinv;simp only [AY,Ct,CT.next.injEq] at hout;subst hout;refine ⟨A'.next,m',_,{ f with defers:=ds' }::csW,w',.one (FF hfm hfd (by rw [h1];rfl)),h2.low (by omega),h2.rel,h.glob.mono h2.ext,Nl _,?_,?_,hB.push⟩
     ·refine ⟨⟨rfl,rfl,.inr rfl,.run,h3,.nil⟩,.plain rfl h4 (.cons ⟨rfl,h5⟩ (.cons rfl (.cons ⟨rfl,h6⟩ .nil)))⟩
     ·exact .cons lo A'.next _ _ s.cs csW (by have:=h2.next;omega) (hF false m' A' A'.next h2.ext) (h.stk.mono h2.ext fun i hi=>h2.same i (by omega))
    |defer d=>simp only [AY,Ct] at hout;cases hout
    |recover=>simp only [AY,Bool.true_or,Ct] at hout;cases hout
    |rangeNext i=>simp only [AY,Ct] at hout;cases hout
  |_=>exact htg.elim
theorem Re (h:CH P X f0 base lo m s f csW w) (hm:s.fr.mode=.returning) (hd:s.fr.defers=[]) (hf:P.funcs[s.fr.fn]? =some fn) (hr:Cu P s.w fn s.fr.tm=some v)
  (hcs:s.cs=c::rest) (hout:CP s.fr (c::rest) v s.w=.next s'):Sim P X f0 base cs0 m s.w w (lone f (csW++cs0) w) s':=by
 have hdr:=h.top.JK (by rw [hm];simp);obtain ⟨htm,htodo⟩:=h.plain hdr;obtain ⟨v',g1,g2⟩:=IM h.rel htm hr;have hfm:f.mode=.returning:=by
  have:=h.top.core.mode
  rw [hm] at this;generalize f.mode=u at this;cases this;rfl
 have hfd:f.defers=[]:=by
  have:=h.top.core.defers
  rw [hd] at this;generalize f.defers=u at this;cases this;rfl
 have hff:P.funcs[f.fn]? =some fn:=by rw [h.top.core.fn];exact hf
 rcases h.top.core.kindOk with hk | hk
 ·rw [GZ hk hout];exact h.answer hcs (.refl h.rel) g2 fun g l hl=>by
   subst hl;exact .one (UG hfm hfd hff g1 (h.top.core.kind.trans hk))
 ·obtain ⟨h1,rfl⟩:=FZ hk hout;exact h.settle hcs h1 (.refl h.rel) fun g l hl=>by
   subst hl;exact .one (Js hfm hfd hff g1 (h.top.core.kind.trans hk))
theorem Tu{chain:List PanicEntry}(h:CH P X f0 base lo m s f csW w)(hm:s.fr.mode=.panicking chain)(hd:s.fr.defers=[])(hcs:s.cs=c::rest)(hc:c.dr=false):
  Sim P X f0 base cs0 m s.w w (lone f (csW++cs0) w) ⟨c.raise chain,rest,s.w⟩:=by
 have hbase:=h.ER;have hlo:=h.below;have hmode:=h.top.core.mode;rw [hm] at hmode;generalize hfm:f.mode=u at hmode;cases hmode with
 |panicking hch=>
  rename_i chain';have hfd:f.defers=[]:=by
   have:=h.top.core.defers
   rw [hd] at this;generalize f.defers=u at this;cases this;rfl
  have hstk:=h.stk;rw [hcs] at hstk;have hb:=h.bot;rw [hcs] at hb;obtain ⟨lo1,g,l,rfl,h1,h2,h3⟩:=hstk.inv;refine ⟨lo1,m,g.raise chain',l,w,.one (UF hfm hfd h.top.GD),.refl h.rel base,h.rel,h.glob,by show lo1≤s.w.next;omega,?_,h3,?_⟩
  ·have h4:=h2.mono (A':=s.w) (hi':=s.w.next) (.refl m) (fun _ _=>rfl) hlo;exact h4.raise hc hch
  ·refine (Bot.tail hb).top ?_ ?_ ?_<;>(unfold AFr.raise;split<;>rfl)
end
section
variable {P:Program} {X:Bc} {f0:FuncId} {base lo:Nat} {m:Inj P} {A:AW} {w:World} {fr:AFr} {cs:List AFr} {f:Frame} {csW cs0:List Frame}
def Ew(es:List MapEntry)(seen:List Nat)(since:Nat):List (Option MapEntry):=
 let left:=es.filter fun e=>!seen.contains e.born;let old:=left.filter fun e=>Nat.blt e.born since;let new:=left.filter fun e=>Nat.ble since e.born
 (if old.isEmpty then [none] else [])++(old++new).map some
theorem BK.filter{m:Inj P}{p:MapEntry→Bool}(hp:∀ a b:MapEntry,a.born=b.born→p a=p b):∀ {l l':List MapEntry},BK (EU m) l l'→BK (EU m) (l.filter p) (l'.filter p)
 |_,_,.nil=>.nil
 |a::l,b::l',.cons h t=>by
  have ih:=BK.filter hp t;have he:p b=p a:=hp b a h.born;simp only [List.filter_cons,he];cases p a with
  |false=>exact ih
  |true=>exact .cons h ih
def ZV(m:Inj P):Option MapEntry→Option MapEntry→Prop
 |none,none=>True
 |some e,some e'=>EU m e e'
 |_,_=>False
theorem BK.SM{m:Inj P}:∀ {l l':List MapEntry},BK (EU m) l l'→BK (ZV m) (l.map some) (l'.map some)
 |_,_,.nil=>.nil
 |_,_,.cons h t=>.cons h (BK.SM t)
theorem TY{m:Inj P}{es es':List MapEntry}(h:BK (EU m) es es')(seen:List Nat)(since:Nat):BK (ZV m) (Ew es seen since) (Ew es' seen since):=by
 have h1:=BK.filter (p:=fun e=>!seen.contains e.born) (fun a b e=>by simp only [e]) h;have h2:=BK.filter (p:=fun e=>Nat.blt e.born since) (fun a b e=>by simp only [e]) h1;have h3:=BK.filter (p:=fun e=>Nat.ble since e.born) (fun a b e=>by simp only [e]) h1;unfold Ew;simp only;refine BK.append ?_ (BK.SM (h2.append h3));have hl:=h2.length;generalize (es.filter fun e=>!seen.contains e.born).filter (fun e=>Nat.blt e.born since)=a at hl;generalize (es'.filter fun e=>!seen.contains e.born).filter (fun e=>Nat.blt e.born since)=b at hl;cases a with
 |nil=>
  cases b with
  |nil=>exact .cons trivial .nil
  |cons=>simp at hl
 |cons x a=>
  cases b with
  |nil=>simp at hl
  |cons y b=>exact .nil
theorem QQ{m:Inj P}{p:Nat→Bool}:∀ {l l':List MapEntry},BK (EU m) l l'→(l'.all fun e=>p e.born)=(l.all fun e=>p e.born)
 |_,_,.nil=>rfl
 |_,_,.cons h t=>by simp only [List.all_cons,QQ t,h.born]
theorem Sk(p:MapEntry→Bool)(l:List MapEntry):(⟨l⟩:Array MapEntry).filter p=⟨l.filter p⟩:=by simp
theorem TZ(es:List MapEntry)(seen:List Nat)(since:Nat):
  ((if (((⟨es⟩:Array MapEntry).filter fun e=>!(⟨seen⟩:Array Nat).contains e.born).filter (·.born<since)).isEmpty then #[none] else #[])++
   ((((⟨es⟩:Array MapEntry).filter fun e=>!(⟨seen⟩:Array Nat).contains e.born).filter (·.born<since))++(((⟨es⟩:Array MapEntry).filter fun e=>!(⟨seen⟩:Array Nat).contains e.born).filter (·.born≥since))).map some:Array (Option MapEntry))=⟨Ew es seen since⟩:=by
 have e1:(fun e:MapEntry=>decide (e.born<since))=fun e=>Nat.blt e.born since:=by
  funext e
  cases h:Nat.blt e.born since with
  |true=>have:=Ax.1 h;simpa using this
  |false=>have:=EQ.1 h;simpa using this
 have e2:(fun e:MapEntry=>decide (e.born≥since))=fun e=>Nat.ble since e.born:=by
  funext e
  cases h:Nat.ble since e.born with
  |true=>have:=Bj.1 h;simpa using this
  |false=>have:=BA.1 h;simpa using this
 rw [e1,e2];unfold Ew;simp only [List.contains_toArray,Sk];generalize ((es.filter fun e=>!seen.contains e.born).filter fun e=>Nat.blt e.born since)=a;generalize ((es.filter fun e=>!seen.contains e.born).filter fun e=>Nat.ble since e.born)=b;cases a with
 |nil=>simp
 |cons x a=>simp
theorem Ny (r:Rel m A w) {i mm since last clock:Nat} {seen:List Nat} {es:List MapEntry} {ro:Bool} {x':Value} {ty:TypeId} {a:Addr} (ha:a.block=i∧a.off=0) (hx:AI m (.pointer (some a)) x')
  (hg:A.get i=some (.mit (some mm) since seen last)) (hgm:A.get mm=some (.map es clock ro)) (hcond:(!seen.isEmpty&&!es.isEmpty&&es.all (fun e=>Nat.ble last e.born))=false):
  ∃ c∈Ew es seen since,∃ v' w',(Instr.next x' false ty).run P w=.ok v' w'∧(match c with
   |some e=>Ev m A w m (A.put i (.mit (some mm) since (seen++[e.born]) clock)) w'∧AI m (.tuple #[.bool true,e.key,e.val]) v'
   |none=>Ev m A w m A w'∧AI m (.tuple #[.bool false]) v'):=by
 obtain ⟨ab,ao,aS⟩:=a;obtain ⟨rfl,rfl⟩:=ha;cases hx with
 |ptr har=>
  rename_i a';obtain ⟨h1,h2,d,h3,h4⟩:=har;simp only at h1 h3 h4;obtain ⟨c0,d0,o',g1,g2,g3⟩:=r.EE hg h3;rw [h3] at g1;simp only [Oi,Pj] at g1;obtain ⟨rfl,rfl⟩:=g1;obtain ⟨rfl,r',rfl,hmm⟩:=g3;obtain ⟨c1,d1,o1,k1,k2,k3,es',rfl,hes⟩:=r.EE hgm hmm;rw [hmm] at k1;simp only [Oi,Pj] at k1;obtain ⟨rfl,_⟩:=k1;obtain ⟨b',o',s'⟩:=a';simp only at h2 h4 g2;subst h2;simp only [Nat.add_zero] at h4;subst h4;have hcr:=TY hes seen since;have hlen:=hcr.length;have hpos:0<(Ew es' seen since).length:=by
   unfold Ew;simp only;split
   ·simp
   ·rename_i hne;simp only [List.nil_append,List.length_map,Lq]
    have:((es'.filter fun e=>!seen.contains e.born).filter fun e=>Nat.blt e.born since).length≠0:=fun h0=>hne (by simpa using List.eq_nil_of_length_eq_zero h0)
    omega
  have hch:∃ (j:Nat) (n:Nat),j<(Ew es' seen since).length∧w.drawn≤n∧(choose (Question.mapNext (Ew es' seen since).length)).run P w=.ok j { w with drawn:=n }:=by
   by_cases hf:(Ew es' seen since).length≤1
   ·exact ⟨0,w.drawn,hpos,Nl _,by simp [choose,Sem.run,Question.forced,hf]⟩
   ·exact ⟨_,w.drawn+1,Nat.mod_lt _ hpos,Nat.le_succ _,by
     simp only [choose,Sem.run,Question.forced,decide_eq_true_eq,hf,if_false,Question.cut];rfl⟩
  obtain ⟨j,n,hj,hdn,hrun⟩:=hch;obtain ⟨c,hc,hcc⟩:∃ c,(Ew es seen since)[j]? =some c∧∃ c',(Ew es' seen since)[j]? =some c'∧ZV m c c':=by
   have hj2:j<(Ew es seen since).length:=by omega
   obtain ⟨c',h1,h2⟩:=hcr.get (Ge hj2);exact ⟨_,Ge hj2,c',h1,h2⟩
  obtain ⟨c',hc',hrel⟩:=hcc;have hcond':(!(⟨seen⟩:Array Nat).isEmpty&&!(⟨es'⟩:Array MapEntry).isEmpty&&(⟨es'⟩:Array MapEntry).all (·.born≥last))=false:=by
   have e1:(fun e:MapEntry=>decide (e.born≥last))=fun e=>Nat.ble last e.born:=by
    funext e
    cases h:Nat.ble last e.born with
    |true=>have:=Bj.1 h;simpa using this
    |false=>have:=BA.1 h;simpa using this
   rw [e1,List.isEmpty_toArray,List.isEmpty_toArray,List.all_toArray,isEmpty_eq hes];rw [QQ (p:=fun b=>Nat.ble last b) hes];exact hcond
  have hd:Ev m A w m A { w with drawn:=n }:=Ev.drawn r n hdn;have hnext:∀ (res:Result Value),(match (⟨Ew es' seen since⟩:Array (Option MapEntry))[j]? with
    |some (some e)=>(do setObj b' (.mapIter (some r') since ((⟨seen⟩:Array Nat).push e.born) clock);pure (.tuple #[.bool true,e.key,e.val]):Sem Value)
    |some none=>pure (.tuple #[.bool false])
    |none=>stuck "Next: no such candidate").run P { w with drawn:=n }=res→
    (Instr.next (.pointer (some ⟨b',0,none⟩)) false ty).run P w=res:=by
   intro res hres;rw [← hres];simp only [Instr.next,Sem.run_bind,Be P w b' _ g2 (by simp),Result.andThen_ok,Be P w r' _ k2 (by simp),hcond',Bool.false_eq_true,if_false];rw [TZ];simp only [List.size_toArray,hrun,Result.andThen_ok];rfl
  have hc'':(⟨Ew es' seen since⟩:Array (Option MapEntry))[j]? =some c':=by simpa using hc'
  refine ⟨c,List.mem_of_getElem? hc,?_⟩;rw [hc''] at hnext;cases c with
  |none=>
   cases c' with
   |some e=>exact hrel.elim
   |none=>exact ⟨_,_,hnext _ rfl,hd,.tuple (.cons (.bool false) .nil)⟩
  |some e=>
   cases c' with
   |none=>exact hrel.elim
   |some e'=>
    have hrel:EU m e e':=hrel;refine ⟨_,_,hnext _ ?_,hd.trans (Ev.Ek hd.rel hg rfl rfl h3 (by exact g2) (o2:=.mit (some mm) since (seen++[e.born]) clock) (o2':=.mapIter (some r') since ((⟨seen⟩:Array Nat).push e'.born) clock) ⟨rfl,r',?_,hmm⟩ rfl rfl),.tuple (.cons (.bool true) (.cons hrel.key (.cons hrel.val .nil)))⟩
    ·simp only [Sem.run_bind,BM P _ b' _ _ (show ({ w with drawn:=n }:World).heap[b']? =_ from g2) (by simp),Result.andThen_ok,Sem.run_pure]
    ·rw [hrel.born]
     simp
end
variable {args:List Value} {i:Nat} {A':AW} {l:List ASt} {s:ASt} {rest:List Nat} {k:List Item}
section
variable {P:Program} {X:Bc} {f0:FuncId} {base lo:Nat} {m:Inj P} {A:AW} {w:World} {fr:AFr} {cs:List AFr} {f:Frame} {csW cs0:List Frame}
theorem G1{g:FuncId}:C9 P X A g args≠ .ok (.rangeNext i) A':=by
 intro h;unfold C9 at h;simp only [Bool.cond_eq_ite] at h
 repeat' split at h
 all_goals (cases h)
theorem Jk{v:Value}{name:String}:Dd P X A v name args≠ .ok (.rangeNext i) A':=by
 intro h;unfold Dd at h
 repeat' split at h
 all_goals first | (cases h;done) | exact G1 h
theorem LG{b:Builtin}{ts:List TypeId}{ty:TypeId}:Ca P A b ts ty args≠ .ok (.rangeNext i) A':=by
 intro h;unfold Ca at h;simp only [Bool.cond_eq_ite] at h
 repeat' split at h
 all_goals (cases h)
theorem H6{t:Target}:BU P X A t args≠ .ok (.rangeNext i) A':=by
 intro h;unfold BU at h;simp only [Bool.cond_eq_ite] at h
 repeat' split at h
 all_goals first | (cases h;done) | exact G1 h | exact Jk h | exact LG h
theorem FY{ρ:Operand→Value}{o:Oper}(h:AL P X ρ o A=.ok (.rangeNext i) A'):
  ∃ it a,o.op=.next it false∧ρ it=.pointer (some a)∧a.block=i∧a.off=0∧A'=A:=by
 obtain ⟨dst,op,type,pos,after,guard⟩:=o;cases op
 case next it isS=>
  unfold AL MA at h;simp only [Bool.cond_eq_ite] at h
  repeat' split at h
  all_goals first | (cases h;done) | skip
  rename_i hit _ _ _ _ _ _ _;cases h;exact ⟨it,_,rfl,hit,rfl,rfl,rfl⟩
 case call c=>
  unfold AL at h;simp only at h;split at h
  ·exact absurd h H6
  ·cases h
 all_goals
  exfalso;unfold AL at h;simp only at h
  repeat' split at h
  all_goals (cases h)
theorem M9 {fr:AFr} {f:Frame} {ρ ρ':Operand→Value} {o:Oper} (hr:Rel m A w) (hρ:∀ x∈o.op.operands.toList,AI m (ρ x) (ρ' x)) (hG:GOk m) (hlo:lo≤A.next)
  (ht:Dy P X m A false lo A.next fr f) (hs:Stk P X m A base lo cs csW) (hb:Bot f0 (fr::cs)) (he:AL P X ρ o A=.ok (.rangeNext i) A') (hout:AY P fr cs false (.ok (.rangeNext i) A')=.branch l):
  ∃ s'∈l,∃ v' w',(execOp ρ' o).run P w=.ok (.value v') w'∧EvL base m A w m s'.w w'∧CH P X f0 base lo m s' (f.finish v') csW w':=by
 have hbase:=hs.base;obtain ⟨it,a,hop,hit,hab,hao,rfl⟩:=FY he;simp only [AY,Cf] at hout;split at hout
 rotate_left
 ·cases hout
 rename_i mm since seen last hg;split at hout
 rotate_left
 ·cases hout
 rename_i es clock ro hgm;cases hcond:(!seen.isEmpty&&!es.isEmpty&&es.all (fun e=>Nat.ble last e.born)) with
 |true=>rw [hcond] at hout;cases hout
 |false=>
  rw [hcond] at hout;simp only [Cf,CT.branch.injEq] at hout;have hx:=hρ it (by rw [hop];simp [Op.operands]);rw [hit] at hx;obtain ⟨c,hc,v',w',h1,h2⟩:=Ny (ty:=o.type) hr ⟨hab,hao⟩ hx hg hgm hcond;have hrun:(execOp ρ' o).run P w=.ok (.value v') w':=by
   have:execOp ρ' o=(do pure (.value (← Instr.next (ρ' it) false o.type))):=by
    obtain ⟨dst,op,type,pos,after,guard⟩:=o;simp only at hop;subst hop;rfl
   rw [this,Sem.run_bind,h1,Result.andThen_ok,Sem.run_pure]
  have hl:l=(Ew es seen since).map fun c=>match c with
    |some e=>⟨fr.finish (.tuple #[.bool true,e.key,e.val]),cs,A'.put i (.mit (some mm) since (seen++[e.born]) clock)⟩
    |none=>⟨fr.finish (.tuple #[.bool false]),cs,A'⟩:=hout.symm
  subst hl;refine ⟨_,List.mem_map.2 ⟨c,hc,rfl⟩,v',w',hrun,?_⟩;cases c with
  |none=>
   obtain ⟨g1,g2⟩:=h2;exact ⟨g1.low (by omega),g1.rel,hG,hlo,(ht.mono (.refl m) (fun _ _=>rfl) (Nl _)).finish g2 (Nl _),hs.mono (.refl m) fun _ _=>rfl,hb.finish _⟩
  |some e=>
   obtain ⟨g1,g2⟩:=h2;exact ⟨g1.low (by omega),g1.rel,hG,hlo,(ht.mono (.refl m) (fun _ _=>rfl) g1.next).finish g2 (Nl _),hs.mono (.refl m) fun _ _=>rfl,hb.finish _⟩
theorem Tx {ops:Array Oper} (h:CH P X f0 base lo m s f csW w) (hm:s.fr.mode=.run) (hd:s.fr.dr=false) (ht:s.fr.todo=.inRegion ops (i::rest)::k)
  (hout:(match ops.toList[i]? with
   |some o=>bif AS ops s.fr.tm o then AY P s.fr s.cs false (AL P X s.fr.eval o s.w) else .next ⟨s.fr.finish undef,s.cs,s.w⟩
   |none=>.fail "no operation")=.branch l):∃ s'∈l,Sim P X f0 base cs0 m s.w w (lone f (csW++cs0) w) s':=by
 obtain ⟨htm,htodo⟩:=h.plain hd;rw [ht] at htodo;generalize htf:f.todo=y at htodo;cases htodo with
 |cons hx hk=>
  rename_i x' k';obtain ⟨rfl,hops⟩:=hx;have hfm:=h.H7 hm;have hw1:Dy P X m s.w false lo s.w.next s.fr f:=h.top.It hd;split at hout
  rotate_left
  ·cases hout
  rename_i o ho;have ho':ops[i]? =some o:=by simpa using ho
  have hwr:Region.wanted o (yielded ops f.tmps)=AS ops s.fr.tm o:=G6 fun _ _ _ _ d _ _=>htm.val d;cases hwa:AS ops s.fr.tm o with
  |false=>rw [hwa] at hout;cases hout
  |true=>
   rw [hwa] at hout hwr;simp only [Ct] at hout;have hoo:Rv P o=true:=List.all_eq_true.1 hops o (List.mem_of_getElem? ho);have hρ:∀ x∈o.op.operands.toList,AI m (s.fr.eval x) (f.eval x):=by
    intro x hx;rw [BW,CB];exact FD h.glob (List.all_eq_true.1 hoo x hx) fun t _=>htm.val t
   have hex:∃ j A',AL P X s.fr.eval o s.w=.ok (.rangeNext j) A':=by
    cases he:AL P X s.fr.eval o s.w with
    |fail y=>rw [he] at hout;cases hout
    |panic v A'=>rw [he] at hout;simp only [AY,hd,Cf] at hout;cases hout
    |ok n A'=>
     cases n with
     |rangeNext j=>exact ⟨j,A',rfl⟩
     |value v=>rw [he] at hout;cases hout
     |skip=>rw [he] at hout;cases hout
     |enter g args=>rw [he] at hout;simp only [AY] at hout;split at hout<;>cases hout
     |round l fn tm a b=>rw [he] at hout;cases hout
     |defer d=>rw [he] at hout;simp only [AY,Cf] at hout;split at hout<;>cases hout
     |recover=>
      rw [he] at hout;simp only [AY,Bool.false_or] at hout;cases hq:s.fr.roundOf with
      |some l=>rw [hq] at hout;cases hout
      |none=>rw [hq] at hout;simp only [Option.isSome_none,Cf] at hout;split at hout<;>cases hout
   obtain ⟨j,A',he⟩:=hex;rw [he] at hout;obtain ⟨s',hs',v',w',h1,h2,h3⟩:=M9 h.rel hρ h.glob h.below hw1 h.stk h.bot he hout;obtain ⟨it,_,hop,_⟩:=FY he;refine ⟨s',hs',lo,m,_,csW,w',.one (Pz hfm htf ho' hwr (.inr fun c hc=>by rw [hop] at hc;cases hc) (by rw [h1];rfl)),h2,h3⟩
theorem NK (hX:XOk P X) {ops:Array Oper} {S:Nat→Prop} {C:Nat} {x:Nat} {q:List Nat} {k':List Item} (h:CH P X f0 base lo m s f csW w) (hm:s.fr.mode=.run) (hd:s.fr.dr=true)
  (ht:s.fr.todo=.inRegion ops (x::q)::k) (htf:f.todo=.inRegion ops rest::k') (hk:BK (Fx m) k k') (D:BE P X m s.w true lo s.w.next s.fr.tm f.tmps ops S C [] (x::q) rest)
  (hout:(match ops.toList[x]? with
   |some o=>bif AS ops s.fr.tm o then AY P s.fr s.cs false (AL P X s.fr.eval o s.w) else .next ⟨s.fr.finish undef,s.cs,s.w⟩
   |none=>.fail "no operation")=.branch l):∃ s'∈l,Sim P X f0 base cs0 m s.w w (lone f (csW++cs0) w) s':=by
 have hbase:=h.ER;have hlo:=h.below;have hfm:=h.H7 hm;split at hout
 rotate_left
 ·cases hout
 rename_i o ho;have hplan:=D.plan;cases hwa:AS ops s.fr.tm o with
 |false=>rw [hwa] at hout;cases hout
 |true=>
  rw [hwa] at hout;simp only [Ct] at hout;have hex:∃ j A',AL P X s.fr.eval o s.w=.ok (.rangeNext j) A':=by
   cases he:AL P X s.fr.eval o s.w with
   |fail y=>rw [he] at hout;cases hout
   |panic v A'=>rw [he] at hout;simp only [AY,hd,Ct] at hout;cases hout
   |ok n A'=>
    cases n with
    |rangeNext j=>exact ⟨j,A',rfl⟩
    |value v=>rw [he] at hout;cases hout
    |skip=>rw [he] at hout;cases hout
    |enter g args=>rw [he] at hout;simp only [AY] at hout;split at hout<;>cases hout
    |round l fn tm a b=>rw [he] at hout;cases hout
    |defer d=>rw [he] at hout;simp only [AY,Cf] at hout;split at hout<;>cases hout
    |recover=>
     rw [he] at hout;simp only [AY,Bool.false_or] at hout;cases hq:s.fr.roundOf with
     |some l=>rw [hq] at hout;cases hout
     |none=>rw [hq] at hout;simp only [Option.isSome_none,Cf] at hout;split at hout<;>cases hout
  obtain ⟨j,A',he⟩:=hex;rw [he] at hout;obtain ⟨it,_,hop,_⟩:=FY he;have heff:(DL P ops.toList).testBit x=true:=(R5 ho).2 ⟨by rw [hop];rfl,by rw [hop];rfl⟩;cases hplan with
  |pure _ _ p g1 g2=>rw [g2] at heff;cases heff
  |alloc _ _ p g1 g2=>rw [g2] at heff;cases heff
  |effect _ _ p g1 g2 g3 g4 g5 g6=>
   obtain ⟨S',tmps',rest',m1,w1,t1,t2,t3,r,t4⟩:=BE.LN hX (cs:=csW++cs0) (k:=k') (some x) (Nl _) hlo rest h.glob h.rel D (fun i hi=>by
    rcases g5 i (by simpa using hi) with hh | rfl | hh
    ·exact .inl hh
    ·exact .inr (.inl ⟨rfl,fun hs=>by rw [D.sub i hs] at g3;cases g3⟩)
    ·exact .inr (.inr ⟨x,rfl,hh⟩)) (fun y hy=>by cases hy;exact ⟨by simpa using g1,g3⟩) hfm htf
   subst t4;obtain ⟨_,_,hanc,_⟩:=t3.lin;have hG1:=h.glob.mono t2.ext;have hops:=t3.operands hG1 hanc ho;have hwr:=t3.wanted hanc ho;rw [hwa] at hwr;have hW:Dy P X m1 s.w false lo s.w.next s.fr { f with tmps:=tmps',todo:=.inRegion ops (x::r)::k' }:=by
    refine ⟨⟨h.top.core.fn,h.top.core.kind,h.top.core.kindOk,h.top.core.mode.mono t2.ext,h.top.core.round.mono t2.ext,h.top.core.defers.mono fun _ _ x=>x.mono t2.ext⟩,?_⟩;exact .draw ops S' C [] _ (x::r) k k' hd hm ht rfl (hk.mono fun _ _ x=>x.mono t2.ext) (t3.Q3 g2 _ (Nl _))
   have hstk:=h.stk.mono (A':=s.w) t2.ext t2.same;have ho':ops[x]? =some o:=by simpa using ho
   rw [BW] at he;obtain ⟨s',hs',v',w',h1,h2,h3⟩:=M9 (ρ':=evalW tmps') t2.rel hops hG1 hlo hW hstk h.bot he hout;refine ⟨s',hs',lo,m1,_,csW,w',t1.trans (.one (Pz (by exact hfm) rfl ho' hwr (.inr fun c hc=>by rw [hop] at hc;cases hc) (by rw [CB,h1];rfl))),(t2.On hbase).trans h2,h3⟩
end
variable {s s':ASt} {g:FuncId} {args:List Value} {i:Nat} {A':AW} {rest:List Nat} {k:List Item}
section
variable {P:Program} {X:Bc} {f0:FuncId} {base lo:Nat} {m:Inj P} {A:AW} {w:World} {fr:AFr} {cs:List AFr} {f:Frame} {csW cs0:List Frame}
def Adg(P:Program)(X:Bc)(f0:FuncId)(base:Nat)(cs0:List Frame)(m:Inj P)(A:AW)(w:World)(mach:Machine)(g:FuncId)(args:List Value)(s':ASt):Prop:=
 ∃ lo' m' f' cs' w' args',Steps P mach (lone (Frame.enter P g ⟨args'⟩ .normal) (f'::(cs'++cs0)) w')∧EvL base m A w m' s'.w w'∧AJ m' args args'∧
  GOk m'∧lo'≤s'.w.next∧Dy P X m' s'.w false lo' s'.w.next s'.fr f'∧Stk P X m' s'.w base lo' s'.cs cs'∧Bot f0 (s'.fr::s'.cs)
def NT(P:Program)(X:Bc)(f0:FuncId)(base:Nat)(m:Inj P)(s:ASt)(f:Frame)(csW cs0:List Frame)(w:World):CT→Prop
 |.next s'=>Sim P X f0 base cs0 m s.w w (lone f (csW++cs0) w) s'
 |.branch l=>∃ s'∈l,Sim P X f0 base cs0 m s.w w (lone f (csW++cs0) w) s'
 |.calls g args s'=>Adg P X f0 base cs0 m s.w w (lone f (csW++cs0) w) g args s'
 |.asks v v' s'=>v=v'→Sim P X f0 base cs0 m s.w w (lone f (csW++cs0) w) s'
 |.done v A'=>A'=s.w∧csW=[]∧∃ v',AI m v v'∧f.leaving P w (.returned v')∧f.fn=f0
 |_=>True
def XN:CT→Prop
 |.next _=>True
 |.fail _=>True
 |_=>False
theorem IZ(fr:AFr)(cs:List AFr)(v:Value)(A:AW):XN (CP fr cs v A):=by
 unfold CP;simp only [Bool.cond_eq_ite]
 repeat' split
 all_goals trivial
theorem NT.Iv{o:CT}(hg:XN o)(h:∀ s',o=.next s'→Sim P X f0 base cs0 m s.w w (lone f (csW++cs0) w) s'):NT P X f0 base m s f csW cs0 w o:=by
 cases o with
 |next s'=>exact h s' rfl
 |fail y=>trivial
 |branch l=>exact hg.elim
 |calls g args s'=>exact hg.elim
 |asks v v' s'=>exact hg.elim
 |done v A'=>exact hg.elim
 |died c A'=>exact hg.elim
def OQ(fr:AFr)(cs:List AFr)(w:AW)(jump:Option Code):CT:=
 match fr.roundOf with
 |none=>(match jump with
  |none=>.next ⟨{ fr with mode:=.returning },cs,w⟩
  |some .ret=>.next ⟨{ fr with mode:=.returning },cs,w⟩
  |_=>.fail "leave")
 |some l=>(match w.get l with
  |some (.loop r)=>CP fr cs (.bool jump.isNone) (w.put l (.loop { r with state:=if jump.isNone then .ready else .done,pending:=jump }))
  |_=>.fail "endRound")
theorem MI{jump:Option Code}(h:CH P X f0 base lo m s f csW w)(hm:s.fr.mode=.run)(hd:s.fr.dr=false)(hj:Jump f.todo jump):NT P X f0 base m s f csW cs0 w (OQ s.fr s.cs s.w jump):=by
 refine .Iv ?_ fun s' hs'=>TD h hm hj (by cases jump<;>simp) hs' hd;unfold OQ;split
 ·split<;>trivial
 ·split
  ·exact IZ _ _ _ _
  ·trivial
theorem CH.Qz(h:CH P X f0 base lo m s f csW w)(ht:∀ ops l k,s.fr.todo≠ .inRegion ops l::k):s.fr.dr=false:=by
 cases h.top.body with
 |plain h1=>exact h1
 |draw ops S C rl pl rest k k' h1 h2 h3=>exact absurd h3 (ht _ _ _)
theorem Hu {fr : AFr} {cs : List AFr} {r : R AN} (hn : ∀ i A', r ≠ .ok (.rangeNext i) A') : XN (AY P fr cs false r) := by
  cases r with
  | fail y => trivial
  | panic v A' => simp only [AY, Bool.cond_eq_ite]; split <;> trivial
  | ok n A' =>
    cases n with
    | rangeNext j => exact absurd rfl (hn j A')
    | value v => trivial
    | skip => trivial
    | enter g args => simp only [AY]; split <;> trivial
    | round l fn tm a b => trivial
    | defer d => simp only [AY, Cf]; split <;> trivial
    | recover => simp only [AY, Bool.cond_eq_ite]; repeat' split
                 all_goals trivial
def AcC:CT→Prop
 |.done .. =>False
 |.died .. =>False
 |_=>True
theorem J5{fr:AFr}{cs:List AFr}{r:R AN}:AcC (AY P fr cs false r):=by
 by_cases hn:∃ i A',r=.ok (.rangeNext i) A'
 ·obtain ⟨i,A',rfl⟩:=hn;simp only [AY,Bool.cond_eq_ite]
  repeat' split
  all_goals first | trivial | (exfalso;rename_i h;cases h;done)
 ·have h:=Hu (P:=P) (fr:=fr) (cs:=cs) (r:=r) (fun i A' e=>hn ⟨i,A',e⟩)
  revert h
  generalize AY P fr cs false r=o;intro h;cases o<;>first | trivial | exact False.elim h
theorem NS{fr:AFr}{cs:List AFr}{r:R AN}:AY P fr cs false r≠ .calls g args s':=by
 by_cases hn:∃ i A',r=.ok (.rangeNext i) A'
 ·obtain ⟨i,A',rfl⟩:=hn;simp only [AY,Bool.cond_eq_ite];intro h
  repeat' split at h
  all_goals (cases h)
 ·have h:=Hu (P:=P) (fr:=fr) (cs:=cs) (r:=r) (fun i A' e=>hn ⟨i,A',e⟩);intro he;rw [he] at h;exact h
theorem Pc{fr:AFr}{cs:List AFr}{r:R AN}{v v':Value}:AY P fr cs false r≠ .asks v v' s':=by
 by_cases hn:∃ i A',r=.ok (.rangeNext i) A'
 ·obtain ⟨i,A',rfl⟩:=hn;simp only [AY,Bool.cond_eq_ite];intro h
  repeat' split at h
  all_goals (cases h)
 ·have h:=Hu (P:=P) (fr:=fr) (cs:=cs) (r:=r) (fun i A' e=>hn ⟨i,A',e⟩);intro he;rw [he] at h;exact h
theorem QN{fr:AFr}{cs:List AFr}{r:R AN}:XN (AY P fr cs true r):=by
 cases r with
 |fail y=>trivial
 |panic v A'=>simp only [AY,Bool.cond_eq_ite];split<;>trivial
 |ok n A'=>
  cases n with
  |enter g args=>simp only [AY];split<;>trivial
  |_=>trivial
theorem Qe{ops:Array Oper}(h:D5 P X s ops i=some (g,args,A')):
  ∃ o,ops.toList[i]? =some o∧AS ops s.fr.tm o=true∧AL P X s.fr.eval o s.w=.ok (.enter g args) A':=by
 unfold D5 at h;split at h
 ·cases h
 ·split at h
  ·rename_i o ho;cases hw:AS ops s.fr.tm o with
   |false=>rw [hw] at h;cases h
   |true=>
    rw [hw,Ct] at h;split at h
    ·rename_i f aS w he;cases hm:Em f X.known with
     |false=>rw [hm] at h;cases h
     |true=>rw [hm] at h;cases h;exact ⟨o,ho,hw,he⟩
    ·cases h
  ·cases h
theorem Vk{ρ:Operand→Value}{o:Oper}{A:AW}(h:AL P X ρ o A=.ok (.enter g args) A'):∀ c,o.op≠ .defer c:=by
 intro c hc;unfold AL at h;rw [hc] at h;simp only at h;split at h<;>cases h
theorem Ve (hX:XOk P X) {ops:Array Oper} (h:CH P X f0 base lo m s f csW w) (hm:s.fr.mode=.run) (ht:s.fr.todo=.inRegion ops (i::rest)::k)
  (hi:s.fr.dr=false∨i<ops.size) (hk:D5 P X s ops i=some (g,args,A')):Adg P X f0 base cs0 m s.w w (lone f (csW++cs0) w) g args ⟨s.fr,s.cs,A'⟩:=by
 have hbase:=h.ER;have hlo:=h.below;have hfm:=h.H7 hm;obtain ⟨o,ho,hwa,he⟩:=Qe hk;have ho':ops[i]? =some o:=by simpa using ho
 have hnd:=Vk he;cases h.top.body with
 |plain hd htm htodo=>
  rw [ht] at htodo;generalize htf:f.todo=y at htodo;cases htodo with
  |cons hx hkk=>
   rename_i x' k';obtain ⟨rfl,hops⟩:=hx;have hwr:Region.wanted o (yielded ops f.tmps)=AS ops s.fr.tm o:=G6 fun _ _ _ _ d _ _=>htm.val d;rw [hwa] at hwr;have hoo:Rv P o=true:=List.all_eq_true.1 hops o (List.mem_of_getElem? ho);have hrn:Bd P m s.w w (AL P X s.fr.eval o s.w) (execOp f.eval o):=by
    rw [BW,CB];exact FX hX h.rel fun x hx=>FD h.glob (List.all_eq_true.1 hoo x hx) fun t _=>htm.val t
   rw [he] at hrn;obtain ⟨n',w',m',h1,h2,args',rfl,h3⟩:=hrn;refine ⟨lo,m',f,csW,w',args',.one (Pz hfm htf ho' hwr (.inr hnd) (by rw [h1];rfl)),h2.low (by omega),h3,h.glob.mono h2.ext,by have:=h2.next;show lo≤A'.next;omega,?_,h.stk.mono h2.ext fun i hi=>h2.same i (by omega),h.bot⟩;exact (h.top.It (live':=false) (hi':=s.w.next) hd).mono h2.ext h2.same h2.next
 |draw ops' S C rl pl rest' k0 k' hd hmode ta tf hkk D=>
  rw [ht] at ta;simp only [Li,Item.inRegion.injEq] at ta;obtain ⟨⟨rfl,hl⟩,rfl⟩:=ta;have hi:i<ops.size:=by
   rcases hi with hi | hi
   ·rw [hd] at hi;cases hi
   ·exact hi
  have hrl:rl=[]:=by
   cases rl with
   |nil=>rfl
   |cons y rl=>
    simp only [List.cons_append,Li] at hl
    have:=D.rls y (by simp)
    omega
  subst hrl;rw [List.nil_append] at hl;subst hl;have heff:(DL P ops.toList).testBit i=true:=by
   refine (R5 ho).2 ⟨?_,?_⟩
   ·cases hq:Cj P o.op with
    |false=>rfl
    |true=>obtain ⟨_,v,hv⟩:=D3 hq he;cases hv
   ·cases hq:D1 o.op with
    |false=>rfl
    |true=>obtain ⟨v,_,_,hv,_⟩:=Nj hq he;cases hv
  have hplan:=D.plan;cases hplan with
  |pure _ _ p g1 g2=>rw [g2] at heff;cases heff
  |alloc _ _ p g1 g2=>rw [g2] at heff;cases heff
  |effect _ _ p g1 g2 g3 g4 g5 g6=>
   obtain ⟨S',tmps',rest2,m1,w1,t1,t2,t3,r,t4⟩:=BE.LN hX (cs:=csW++cs0) (k:=k') (some i) (Nl _) hlo rest' h.glob h.rel D (fun j hj=>by
    rcases g5 j (by simpa using hj) with hh | rfl | hh
    ·exact .inl hh
    ·exact .inr (.inl ⟨rfl,fun hs=>by rw [D.sub j hs] at g3;cases g3⟩)
    ·exact .inr (.inr ⟨i,rfl,hh⟩)) (fun y hy=>by cases hy;exact ⟨by simpa using g1,g3⟩) hfm tf
   subst t4;obtain ⟨_,_,hanc,_⟩:=t3.lin;have hG1:=h.glob.mono t2.ext;have hops:=t3.operands hG1 hanc ho;have hwr:=t3.wanted hanc ho;rw [hwa] at hwr;have hW:Dy P X m1 s.w false lo s.w.next s.fr { f with tmps:=tmps',todo:=.inRegion ops (i::r)::k' }:=by
    refine ⟨⟨h.top.core.fn,h.top.core.kind,h.top.core.kindOk,h.top.core.mode.mono t2.ext,h.top.core.round.mono t2.ext,h.top.core.defers.mono fun _ _ x=>x.mono t2.ext⟩,?_⟩;exact .draw ops S' C [] _ (i::r) k k' hd hm ht rfl (hkk.mono fun _ _ x=>x.mono t2.ext) (t3.Q3 g2 _ (Nl _))
   have hstk:=h.stk.mono (A':=s.w) t2.ext t2.same;have hrn:Bd P m1 s.w w1 (AL P X s.fr.eval o s.w) (execOp (evalW tmps') o):=by
    rw [BW];exact FX hX t2.rel hops
   rw [he] at hrn;obtain ⟨n',w',m',h1,h2,args',rfl,h3⟩:=hrn;refine ⟨lo,m',_,csW,w',args',t1.trans (.one (Pz (by exact hfm) rfl ho' hwr (.inr hnd) (by rw [CB,h1];rfl))),(t2.On hbase).trans (h2.low (by omega)),h3,hG1.mono h2.ext,by have:=h2.next;show lo≤A'.next;omega,?_,hstk.mono h2.ext fun i hi=>h2.same i (by omega),h.bot⟩;exact hW.mono h2.ext h2.same h2.next
theorem Tw (hX:XOk P X) (hP:POk P) {ops:Array Oper} (h:CH P X f0 base lo m s f csW w) (hm:s.fr.mode=.run) (ht:s.fr.todo=.inRegion ops (i::rest)::k)
  (hi:s.fr.dr=false∨i<ops.size):
  NT P X f0 base m s f csW cs0 w (match ops.toList[i]? with
   |some o=>bif AS ops s.fr.tm o then AY P s.fr s.cs false (AL P X s.fr.eval o s.w) else .next ⟨s.fr.finish undef,s.cs,s.w⟩
   |none=>.fail "no operation"):=by
 have shape:∀ v A',(match ops.toList[i]? with
   |some o=>bif AS ops s.fr.tm o then AY P s.fr s.cs false (AL P X s.fr.eval o s.w) else .next ⟨s.fr.finish undef,s.cs,s.w⟩
   |none=>.fail "no operation")≠ .done v A':=by
  intro v A' he;split at he
  ·rename_i o ho;cases hw:AS ops s.fr.tm o with
   |false=>rw [hw] at he;cases he
   |true=>
    rw [hw,Ct] at he
    have:=J5 (P:=P) (fr:=s.fr) (cs:=s.cs) (r:=AL P X s.fr.eval o s.w)
    rw [he] at this;exact this
  ·cases he
 have nocalls:∀ g args s',(match ops.toList[i]? with
   |some o=>bif AS ops s.fr.tm o then AY P s.fr s.cs false (AL P X s.fr.eval o s.w) else .next ⟨s.fr.finish undef,s.cs,s.w⟩
   |none=>.fail "no operation")≠ .calls g args s':=by
  intro g args s' he;split at he
  ·rename_i o ho;cases hw:AS ops s.fr.tm o with
   |false=>rw [hw] at he;cases he
   |true=>
    rw [hw,Ct] at he;exact NS he
  ·cases he
 have noasks:∀ v v' s',(match ops.toList[i]? with
   |some o=>bif AS ops s.fr.tm o then AY P s.fr s.cs false (AL P X s.fr.eval o s.w) else .next ⟨s.fr.finish undef,s.cs,s.w⟩
   |none=>.fail "no operation")≠ .asks v v' s':=by
  intro v v' s' he;split at he
  ·rename_i o ho;cases hw:AS ops s.fr.tm o with
   |false=>rw [hw] at he;cases he
   |true=>
    rw [hw,Ct] at he;exact Pc he
  ·cases he
 generalize hout:(match ops.toList[i]? with
   |some o=>bif AS ops s.fr.tm o then AY P s.fr s.cs false (AL P X s.fr.eval o s.w) else CT.next ⟨s.fr.finish undef,s.cs,s.w⟩
   |none=>.fail "no operation")=out at shape
 cases h.top.body with
 |plain hd tm todo=>
  cases out with
  |next s'=>exact Y8 hX hP h hm hd ht hout
  |branch l=>exact Tx h hm hd ht hout
  |calls g args s'=>exact absurd hout (nocalls g args s')
  |asks v v' s'=>exact absurd hout (noasks v v' s')
  |done v A'=>exact absurd rfl (shape v A')
  |died=>trivial
  |fail=>trivial
 |draw ops' S C rl pl rest' k0 k' hd hmode ta tf hk D=>
  rw [ht] at ta;simp only [Li,Item.inRegion.injEq] at ta;obtain ⟨⟨rfl,hl⟩,rfl⟩:=ta;have hi:i<ops.size:=by
   rcases hi with hi | hi
   ·rw [hd] at hi;cases hi
   ·exact hi
  have hrl:rl=[]:=by
   cases rl with
   |nil=>rfl
   |cons y rl=>
    simp only [List.cons_append,Li] at hl
    have:=D.rls y (by simp)
    omega
  subst hrl;rw [List.nil_append] at hl;subst hl;cases out with
  |next s'=>exact R7 hX hP h hm hd ht tf hk D hout
  |branch l=>exact NK hX h hm hd ht tf hk D hout
  |calls g args s'=>exact absurd hout (nocalls g args s')
  |asks v v' s'=>exact absurd hout (noasks v v' s')
  |done v A'=>exact absurd rfl (shape v A')
  |died=>trivial
  |fail=>trivial
end
variable {s:ASt} {k:List Item} {i:Nat} {A':AW} {v v':Value}
section
variable {P:Program} {X:Bc} {f0:FuncId} {base lo:Nat} {m:Inj P} {A:AW} {w:World} {fr:AFr} {cs:List AFr} {f:Frame} {csW cs0:List Frame}
theorem Mi (hX:XOk P X) (hP:POk P) {g:Operand} {ps:Array Tmp} {assign body:Code} (h:CH P X f0 base lo m s f csW w) (hm:s.fr.mode=.run) (hd:s.fr.dr=false)
  (ht:s.fr.todo=.code (.rangeFunc g ps assign body)::k):NT P X f0 base m s f csW cs0 w (Dm P X s):=by
 have e:Dm P X s=(match (match s.fr.roundOf with
    |some l=>(match s.w.get l with | some (.loop r)=>some (r.defers,([]:List Deferred),s.w) | _=>none)
    |none=>(match s.w.new (.deferred (some [])) with | some (r,w')=>some (r,[{ target:=.collected r,args:=#[] }],w') | none=>none)) with
   |none=>CT.fail "enterLoop"
   |some (d,mark,w)=>(match w.new (.loop { state:=.ready,pending:=none,fn:=s.fr.fn,tm:=s.fr.tm,params:=ps.toList,assign,body,defers:=d }) with
    |none=>.fail "enterLoop"
    |some (l,w)=>
     let fr':={ s.fr with todo:=.inRangeFunc l::k,defers:=mark++s.fr.defers }
     match s.fr.eval g with
     |.func fn first captured=>AY P fr' s.cs false (BU P X w (.fn fn captured) (first.toList++[Value.func (.yield l) #[] #[]]))
     |_=>.fail "rangeFunc")):=by
  (obtain ⟨⟨fn,tm,todo,defers,mode,kind,ro,dr⟩,cs,A⟩:=s;simp only at hm ht;subst hm ht;rfl)
 rw [e];refine .Iv ?_ fun s' hs'=>Nt hX hP h hm hd ht hs';split
 ·trivial
 ·split
  ·trivial
  ·simp only;split
   ·exact Hu fun i A'=>H6
   ·trivial
theorem RR{ops:Array Oper}(h:JV P X s ops i=some A'):
  ∃ o b,ops.toList[i]? =some o∧AS ops s.fr.tm o=true∧AL P X s.fr.eval o s.w=.ok (.value (.bool b)) A':=by
 unfold JV at h;split at h
 ·cases h
 ·cases hm:Em s.fr.fn X.forks with
  |false=>rw [hm] at h;cases h
  |true=>
   rw [hm] at h;simp only [Ct] at h;split at h
   ·rename_i o ho;split at h
    ·generalize hq:(_&&AS ops s.fr.tm o)=q at h;cases q with
     |false=>cases h
     |true=>
      simp only [Ct] at h;simp only [Bq] at hq;split at h
      ·rename_i b w he;cases h;exact ⟨o,b,ho,hq.2,he⟩
      ·cases h
    ·cases h
   ·cases h
theorem Ra{ops:Array Oper}(h:Jy P X s ops i=some (v,v',A')):
  ∃ o,ops.toList[i]? =some o∧AS ops s.fr.tm o=true∧AL P X s.fr.eval o s.w=.ok (.value v) A':=by
 unfold Jy at h;split at h
 ·cases h
 ·split at h
  ·rename_i o ho;split at h
   ·split at h
    ·cases hw:AS ops s.fr.tm o with
     |false=>rw [hw] at h;cases h
     |true=>
      rw [hw,Ct] at h;split at h
      ·rename_i v0 w0 he;simp only [Oi,Pj] at h;obtain ⟨rfl,rfl,rfl⟩:=h;exact ⟨o,ho,hw,he⟩
      ·cases h
    ·cases h
   ·cases h
  ·cases h
theorem Sj{ops:Array Oper}{j:Nat}(h:Ng P X s ops j=some (v,v'))(hv:v=v'):Valid P X s.w ops s.fr.tm j:=by
 unfold Ng at h;split at h
 ·cases h
 ·cases hm:Em s.fr.fn X.asks with
  |false=>rw [hm] at h;cases h
  |true=>
   rw [hm,Ct] at h;split at h
   ·rename_i o ho;split at h
    ·rename_i d hd;cases hw:AS ops s.fr.tm o&&Cj P o.op with
     |false=>rw [hw] at h;cases h
     |true=>
      rw [hw,Ct] at h;simp only [Bq] at hw;split at h
      ·rename_i v0 A0 he;simp only [Oi,Pj] at h;obtain ⟨rfl,rfl⟩:=h;intro o' d' ho' hd';rw [ho] at ho';cases ho';rw [hd] at hd';cases hd';rw [BW] at he;refine And.intro (fun h=>absurd hw.1 (by rw [h];exact Bool.false_ne_true)) (fun _=>⟨fun _=>⟨A0,by rw [← hv];exact he⟩,fun hq=>absurd hw.2 (by rw [hq];exact Bool.false_ne_true)⟩)
      ·cases h
    ·cases h
   ·cases h
theorem KT {ops:Array Oper} {rest:List Nat} (h:CH P X f0 base lo m s f csW w) (hm:s.fr.mode=.run) (ht:s.fr.todo=.inRegion ops (i::rest)::k)
  (hb:s.fr.dr=true) (hge:ops.toList.length≤i) (hrc:Valid P X s.w ops s.fr.tm (i-ops.toList.length)):Sim P X f0 base cs0 m s.w w (lone f (csW++cs0) w) { s with fr:={ s.fr with todo:=.inRegion ops rest::k } }:=by
 cases h.top.body with
 |plain hd tm todo=>rw [hb] at hd;cases hd
 |draw ops' S C rl pl rest' k0 k' hd hmode ta tf hk D=>
  rw [ht] at ta;simp only [Li,Item.inRegion.injEq] at ta;obtain ⟨⟨rfl,hl⟩,rfl⟩:=ta;cases rl with
  |nil=>
   exfalso;rw [List.nil_append] at hl;have hp:=D.plan;rw [← hl] at hp;cases hp with
   |pure _ _ _ g1=>omega
   |alloc _ _ _ g1=>omega
   |effect _ _ _ g1=>omega
  |cons y rl=>
   simp only [List.cons_append,Li] at hl;obtain ⟨rfl,rfl⟩:=hl;have hsz:ops.toList.length=ops.size:=by simp
   rw [hsz] at hrc;have D':=D.WM hrc;refine ⟨lo,m,f,csW,w,.refl P _,.refl h.rel base,h.rel,h.glob,h.below,⟨⟨h.top.core.fn,h.top.core.kind,h.top.core.kindOk,h.top.core.mode,h.top.core.round,h.top.core.defers⟩,?_⟩,h.stk,h.bot.top rfl rfl rfl⟩;exact .draw ops S C rl pl rest' k k' hd hm rfl tf hk D'
theorem U3(hX:XOk P X)(hP:POk P)(h:CH P X f0 base lo m s f csW w)(hm:s.fr.mode=.run):NT P X f0 base m s f csW cs0 w (Ba P X s):=by
 have hfm:=h.H7 hm;have plainCase:∀ {x:Item} {k:List Item},s.fr.todo=x::k→(∀ ops l,x≠ .inRegion ops l)→s.fr.dr=false∧∃ x' k',f.todo=x'::k'∧Fx m x x'∧BK (Fx m) k k':=by
  intro x k ht hx;have hd:=h.Qz (by rw [ht];intro ops l k e;cases e;exact hx _ _ rfl);obtain ⟨htm,htodo⟩:=h.plain hd;rw [ht] at htodo;generalize htf:f.todo=y at htodo;cases htodo with
  |cons hx hk=>exact ⟨hd,_,_,rfl,hx,hk⟩
 cases ht:s.fr.todo with
 |nil=>
  have hd:=h.Qz (by rw [ht];simp);obtain ⟨htm,htodo⟩:=h.plain hd;rw [ht] at htodo;have hft:f.todo=[]:=by
   generalize f.todo=y at htodo;cases htodo;rfl
  have e:Ba P X s=OQ s.fr s.cs s.w none:=by (obtain ⟨⟨fn,tm,todo,defers,mode,kind,ro,dr⟩,cs,A⟩:=s;simp only at hm ht;subst hm ht;rfl)
  rw [e];exact MI h hm hd (by rw [hft];exact .done)
 |cons x k=>
  cases x with
  |inRegion ops l=>
   cases l with
   |nil=>
    have e:Ba P X s=.next ⟨{ s.fr with todo:=k,dr:=false },s.cs,s.w⟩:=by (obtain ⟨⟨fn,tm,todo,defers,mode,kind,ro,dr⟩,cs,A⟩:=s;simp only at hm ht;subst hm ht;rfl)
    rw [e];cases h.top.body with
    |plain hd tm todo=>
     obtain ⟨htm,htodo⟩:=h.plain hd;rw [ht] at htodo;generalize htf:f.todo=y at htodo;cases htodo with
     |cons hx hk=>
      obtain ⟨rfl,_⟩:=hx
      have:=h.todo (mach:=lone f (csW++cs0) w) (cs0:=cs0) hd hk (.one (Yd hfm htf))
      have e2:({ s.fr with todo:=k,dr:=false }:AFr)={ s.fr with todo:=k }:=by
       rw [← hd]
      rw [e2];exact this
    |draw ops' S C rl pl rest' k0 k' hd hmode ta tf hk D=>
     rw [ht] at ta;simp only [Li,Item.inRegion.injEq] at ta;obtain ⟨⟨rfl,hl⟩,rfl⟩:=ta;obtain ⟨rfl,rfl⟩:=List.append_eq_nil_iff.1 hl.symm;exact Qy hX h hm tf hk D
   |cons i rest=>
    have e:Ba P X s=(bif s.fr.dr&&!Nat.blt i ops.toList.length then
      (match Ng P X s ops (i-ops.toList.length) with
      |some (v,v')=>.asks v v' { s with fr:={ s.fr with todo:=.inRegion ops rest::k } }
      |none=>bif FK P X s.fr s.w ops (i-ops.toList.length) then .next { s with fr:={ s.fr with todo:=.inRegion ops rest::k } } else .fail "recheck")
     else (match D5 P X s ops i with
      |some (f,args,w)=>.calls f args ⟨s.fr,s.cs,w⟩
      |none=>(match JV P X s ops i with
       |some w=>.branch [⟨s.fr.finish (.bool true),s.cs,w⟩,⟨s.fr.finish (.bool false),s.cs,w⟩]
       |none=>(match Jy P X s ops i with
       |some (v,v',w)=>.asks v v' ⟨s.fr.finish v',s.cs,w⟩
       |none=>(match ops.toList[i]? with
       |some o=>bif AS ops s.fr.tm o then AY P s.fr s.cs false (AL P X s.fr.eval o s.w) else .next ⟨s.fr.finish undef,s.cs,s.w⟩
       |none=>.fail "no operation"))))):=by
     (obtain ⟨⟨fn,tm,todo,defers,mode,kind,ro,dr⟩,cs,A⟩:=s;simp only at hm ht;subst hm ht;rfl)
    rw [e];cases hb:(s.fr.dr&&!Nat.blt i ops.toList.length) with
    |false=>
     simp only [Cf];have hi:s.fr.dr=false∨i<ops.size:=by
      cases hdr:s.fr.dr with
      |false=>exact .inl rfl
      |true=>
       rw [hdr] at hb;simp only [Bool.true_and,Bool.not_eq_false'] at hb;exact .inr (by simpa using Ax.1 hb)
     cases hkn:D5 P X s ops i with
     |some x=>
      obtain ⟨g,args,A'⟩:=x;exact Ve hX h hm ht hi hkn
     |none=>
      have hop:=Tw (cs0:=cs0) hX hP h hm ht hi;cases hfk:JV P X s ops i with
      |none=>
       cases hsy:Jy P X s ops i with
       |none=>exact hop
       |some x=>
        obtain ⟨v,v',A'⟩:=x;obtain ⟨o,h1,h2,h3⟩:=Ra hsy;rw [h1] at hop;simp only [h2,Ct,h3] at hop;intro hv;subst hv;exact hop
      |some A'=>
       obtain ⟨o,b,h1,h2,h3⟩:=RR hfk;rw [h1] at hop;simp only [h2,Ct,h3] at hop;cases b with
       |true=>exact ⟨_,.head _,hop⟩
       |false=>exact ⟨_,.tail _ (.head _),hop⟩
    |true=>
     simp only [Ct];simp only [Bq,Bool.not_eq_true'] at hb;have hge:=EQ.1 hb.2;have key:Valid P X s.w ops s.fr.tm (i-ops.toList.length)→Sim P X f0 base cs0 m s.w w (lone f (csW++cs0) w) { s with fr:={ s.fr with todo:=.inRegion ops rest::k } }:=fun hrc=>KT h hm ht hb.1 hge hrc;cases hak:Ng P X s ops (i-ops.toList.length) with
     |some x=>
      obtain ⟨v,v'⟩:=x;exact fun hv=>key (Sj hak hv)
     |none=>
      cases hrc:FK P X s.fr s.w ops (i-ops.toList.length) with
      |false=>trivial
      |true=>exact key (Ns hrc)
  |code c=>
   obtain ⟨hd,x',k',htf,hx,hk⟩:=plainCase ht (by intro ops l e;cases e);obtain ⟨rfl,hc⟩:=hx;have go:∀ {j j':List Item},BK (Fx m) j j'→step P (lone f (csW++cs0) w)=.next (lone { f with todo:=j' } (csW++cs0) w)→Ba P X s=.next ⟨{ s.fr with todo:=j },s.cs,s.w⟩→
     NT P X f0 base m s f csW cs0 w (Ba P X s):=by
    intro j j' hj hst e;rw [e];exact h.todo hd hj (.one hst)
   have lv:∀ {jump:Option Code},Jump f.todo jump→Ba P X s=OQ s.fr s.cs s.w jump→NT P X f0 base m s f csW cs0 w (Ba P X s):=by
    intro jump hj e;rw [e];exact MI h hm hd hj
   cases c with
   |skip=>exact go hk (YR hfm htf) (by (obtain ⟨⟨fn,tm,todo,defers,mode,kind,ro,dr⟩,cs,A⟩:=s;simp only at hm ht;subst hm ht;rfl))
   |label l=>exact go hk (WH hfm htf) (by (obtain ⟨⟨fn,tm,todo,defers,mode,kind,ro,dr⟩,cs,A⟩:=s;simp only at hm ht;subst hm ht;rfl))
   |seq a b=>
    simp only [codeOk,Bq] at hc;exact go (j:=.code a:: .code b::k) (j':=.code a:: .code b::k') (.cons ⟨rfl,hc.1⟩ (.cons ⟨rfl,hc.2⟩ hk)) (AaA hfm htf) (by (obtain ⟨⟨fn,tm,todo,defers,mode,kind,ro,dr⟩,cs,A⟩:=s;simp only at hm ht;subst hm ht;rfl))
   |cond c a b=>
    simp only [codeOk,Bq] at hc;obtain ⟨htm,_⟩:=h.plain hd;have hv:AI m (s.fr.eval c) (f.eval c):=by
     rw [BW,CB];exact FD h.glob hc.1 fun t _=>htm.val t
    cases hfk:Em s.fr.fn X.forks with
    |true=>
     cases he:s.fr.eval c with
     |bool t=>
      rw [he] at hv;have hfe:f.eval c=.bool t:=by
       generalize f.eval c=y at hv;cases hv;rfl
      have e:Ba P X s=.branch [{ s with fr:={ s.fr with todo:=.code a::k } },{ s with fr:={ s.fr with todo:=.code b::k } }]:=by (obtain ⟨⟨fn,tm,todo,defers,mode,kind,ro,dr⟩,cs,A⟩:=s;simp only at hm ht hfk;subst hm ht;unfold Ba;simp only [he,hfk,Ct])
      rw [e];cases t with
      |true=>exact ⟨_,.head _,h.todo hd (show BK (Fx m) (.code a::k) (.code a::k') from .cons ⟨rfl,hc.2.1⟩ hk) (.one (QY hfm htf hfe))⟩
      |false=>exact ⟨_,.tail _ (.head _),h.todo hd (show BK (Fx m) (.code b::k) (.code b::k') from .cons ⟨rfl,hc.2.2⟩ hk) (.one (QY hfm htf hfe))⟩
     |_=>
      have e:Ba P X s=.fail "cond":=by (obtain ⟨⟨fn,tm,todo,defers,mode,kind,ro,dr⟩,cs,A⟩:=s;simp only at hm ht hfk;subst hm ht;unfold Ba;simp only [he,hfk,Ct])
      rw [e];trivial
    |false=>
     cases he:s.fr.eval c with
     |bool t=>
      rw [he] at hv;have hfe:f.eval c=.bool t:=by
       generalize f.eval c=y at hv;cases hv;rfl
      have hcc:codeOk P (if t then a else b)=true:=by cases t;exact hc.2.2;exact hc.2.1
      refine go (j:=.code (bif t then a else b)::k) (j':=.code (if t then a else b)::k') ?_ (QY hfm htf hfe) (by (obtain ⟨⟨fn,tm,todo,defers,mode,kind,ro,dr⟩,cs,A⟩:=s;simp only at hm ht hfk;subst hm ht;unfold Ba;simp only [hfk,Cf];unfold Dm;simp only [he]))
      have:(bif t then a else b)=if t then a else b:=by cases t<;>rfl
      rw [this];exact .cons ⟨rfl,hcc⟩ hk
     |_=>
      have e:Ba P X s=.fail "cond":=by (obtain ⟨⟨fn,tm,todo,defers,mode,kind,ro,dr⟩,cs,A⟩:=s;simp only at hm ht hfk;subst hm ht;unfold Ba;simp only [hfk,Cf];unfold Dm;simp only [he])
      rw [e];trivial
   |block id b=>exact go (j:=.code b:: .inBlock id::k) (j':=.code b:: .inBlock id::k') (.cons ⟨rfl,hc⟩ (.cons rfl hk)) (WI hfm htf) (by (obtain ⟨⟨fn,tm,todo,defers,mode,kind,ro,dr⟩,cs,A⟩:=s;simp only at hm ht;subst hm ht;rfl))
   |loop b=>exact go (j:=.code b:: .inLoop b::k) (j':=.code b:: .inLoop b::k') (.cons ⟨rfl,hc⟩ (.cons ⟨rfl,hc⟩ hk)) (YS hfm htf) (by (obtain ⟨⟨fn,tm,todo,defers,mode,kind,ro,dr⟩,cs,A⟩:=s;simp only at hm ht;subst hm ht;rfl))
   |scope b=>exact go (j:=.code b:: .inScope b::k) (j':=.code b:: .inScope b::k') (.cons ⟨rfl,hc⟩ (.cons ⟨rfl,hc⟩ hk)) (WD hfm htf) (by (obtain ⟨⟨fn,tm,todo,defers,mode,kind,ro,dr⟩,cs,A⟩:=s;simp only at hm ht;subst hm ht;rfl))
   |exit id=>
    have hex:=M1 id hk;cases hq:Gr id k with
    |none=>
     rw [hq] at hex;exact lv (jump:=some (.exit id)) (by rw [htf];exact .exit id k' hex) (by (obtain ⟨⟨fn,tm,todo,defers,mode,kind,ro,dr⟩,cs,A⟩:=s;simp only at hm ht;subst hm ht;unfold Ba Dm;simp only [hq];rfl))
    |some r=>
     rw [hq] at hex;obtain ⟨r',h1,h2⟩:=hex;exact go h2 (YU hfm htf h1) (by (obtain ⟨⟨fn,tm,todo,defers,mode,kind,ro,dr⟩,cs,A⟩:=s;simp only at hm ht;subst hm ht;unfold Ba Dm;simp only [hq]))
   |goto l=>
    have hex:=MP l hk;cases hq:gotoIn l k with
    |none=>
     rw [hq] at hex;exact lv (jump:=some (.goto l)) (by rw [htf];exact .goto l k' hex) (by (obtain ⟨⟨fn,tm,todo,defers,mode,kind,ro,dr⟩,cs,A⟩:=s;simp only at hm ht;subst hm ht;unfold Ba Dm;simp only [hq];rfl))
    |some r=>
     rw [hq] at hex;obtain ⟨r',h1,h2⟩:=hex;exact go h2 (YT hfm htf h1) (by (obtain ⟨⟨fn,tm,todo,defers,mode,kind,ro,dr⟩,cs,A⟩:=s;simp only at hm ht;subst hm ht;unfold Ba Dm;simp only [hq]))
   |ret=>exact lv (jump:=some .ret) (by rw [htf];exact .ret k') (by (obtain ⟨⟨fn,tm,todo,defers,mode,kind,ro,dr⟩,cs,A⟩:=s;simp only at hm ht;subst hm ht;rfl))
   |refuse y=>
    have e:Ba P X s=.fail ("refused "++y):=by (obtain ⟨⟨fn,tm,todo,defers,mode,kind,ro,dr⟩,cs,A⟩:=s;simp only at hm ht;subst hm ht;rfl)
    rw [e];trivial
   |rangeFunc g ps assign body=>
    have e:Ba P X s=Dm P X s:=by (obtain ⟨⟨fn,tm,todo,defers,mode,kind,ro,dr⟩,cs,A⟩:=s;simp only at hm ht;subst hm ht;rfl)
    rw [e];exact Mi hX hP h hm hd ht
   |region id ops draw=>
    cases draw with
    |false=>
     refine go (j:=.inRegion ops (List.range ops.toList.length)::k) (j':=.inRegion ops (List.range ops.size)::k') ?_ (UH hfm htf) (by (obtain ⟨⟨fn,tm,todo,defers,mode,kind,ro,dr⟩,cs,A⟩:=s;simp only at hm ht;subst hm ht;rfl));exact .cons ⟨by simp,hc⟩ hk
    |true=>
     cases hin:Ie s.fr.tm.sz ops.toList with
     |false=>
      have e:Ba P X s=.fail "no slot":=by (obtain ⟨⟨fn,tm,todo,defers,mode,kind,ro,dr⟩,cs,A⟩:=s;simp only at hm ht;subst hm ht;unfold Ba;simp only at hin;simp only [hin,Cf])
      rw [e];trivial
     |true=>
      cases hp:Mt P ops.toList with
      |none=>
       have e:Ba P X s=.fail "no plan":=by (obtain ⟨⟨fn,tm,todo,defers,mode,kind,ro,dr⟩,cs,A⟩:=s;simp only at hm ht;subst hm ht;unfold Ba;simp only at hin;simp only [hin,Ct,hp])
       rw [e];trivial
      |some p=>
       have e:Ba P X s=.next { s with fr:={ s.fr with todo:=.inRegion ops p::k,dr:=true } }:=by (obtain ⟨⟨fn,tm,todo,defers,mode,kind,ro,dr⟩,cs,A⟩:=s;simp only at hm ht;subst hm ht;unfold Ba;simp only at hin;simp only [hin,Ct,hp])
       rw [e];exact NJ hP h hm hd ht hin hp
  |inBlock id=>
   obtain ⟨hd,x',k',htf,hx,hk⟩:=plainCase ht (by intro ops l e;cases e);have hx:x'=.inBlock id:=hx;subst hx;have e:Ba P X s=.next ⟨{ s.fr with todo:=k },s.cs,s.w⟩:=by (obtain ⟨⟨fn,tm,todo,defers,mode,kind,ro,dr⟩,cs,A⟩:=s;simp only at hm ht;subst hm ht;rfl)
   rw [e];exact h.todo hd hk (.one (Td hfm htf))
  |inScope b=>
   obtain ⟨hd,x',k',htf,hx,hk⟩:=plainCase ht (by intro ops l e;cases e);obtain ⟨rfl,_⟩:=hx;have e:Ba P X s=.next ⟨{ s.fr with todo:=k },s.cs,s.w⟩:=by (obtain ⟨⟨fn,tm,todo,defers,mode,kind,ro,dr⟩,cs,A⟩:=s;simp only at hm ht;subst hm ht;rfl)
   rw [e];exact h.todo hd hk (.one (Tc hfm htf))
  |inLoop b=>
   obtain ⟨hd,x',k',htf,hx,hk⟩:=plainCase ht (by intro ops l e;cases e);obtain ⟨rfl,hb⟩:=hx;have e:Ba P X s=.next ⟨{ s.fr with todo:=.code b:: .inLoop b::k },s.cs,s.w⟩:=by (obtain ⟨⟨fn,tm,todo,defers,mode,kind,ro,dr⟩,cs,A⟩:=s;simp only at hm ht;subst hm ht;rfl)
   rw [e];exact h.todo hd (.cons ⟨rfl,hb⟩ (.cons ⟨rfl,hb⟩ hk)) (.one (UI hfm htf))
  |inRangeFunc l=>
   have e:Ba P X s=.fail "todo":=by (obtain ⟨⟨fn,tm,todo,defers,mode,kind,ro,dr⟩,cs,A⟩:=s;simp only at hm ht;subst hm ht;rfl)
   rw [e];trivial
  |call d wr rs sv=>
   have e:Ba P X s=.fail "todo":=by (obtain ⟨⟨fn,tm,todo,defers,mode,kind,ro,dr⟩,cs,A⟩:=s;simp only at hm ht;subst hm ht;rfl)
   rw [e];trivial
  |extern r a=>
   have e:Ba P X s=.fail "todo":=by (obtain ⟨⟨fn,tm,todo,defers,mode,kind,ro,dr⟩,cs,A⟩:=s;simp only at hm ht;subst hm ht;rfl)
   rw [e];trivial
  |beginRound=>
   obtain ⟨hd,x',k',htf,hx,hk⟩:=plainCase ht (by intro ops l e;cases e);have e:Ba P X s=(match s.fr.roundOf with
    |some l=>(match s.w.get l with
     |some (.loop r)=>(match r.state with
      |.ready=>CT.next ⟨s.fr.finish undef,s.cs,s.w.put l (.loop { r with state:=.busy })⟩
      |_=>.fail "beginRound")
     |_=>.fail "beginRound")
    |none=>.fail "beginRound"):=by (obtain ⟨⟨fn,tm,todo,defers,mode,kind,ro,dr⟩,cs,A⟩:=s;simp only at hm ht;subst hm ht;rfl)
   rw [e];refine .Iv ?_ fun s' hs'=>Nf h hm hd ht hs'
   repeat' split
   all_goals trivial
  |endRangeFunc l=>
   obtain ⟨hd,x',k',htf,hx,hk⟩:=plainCase ht (by intro ops l e;cases e);have e:Ba P X s=(match s.w.get l with
    |some (.loop r)=>(match r.state with
     |.busy=>CT.fail "endLoop"
     |_=>.next ⟨{ s.fr with todo:=(match r.pending with | some c=>.code c::k | none=>k) },s.cs,s.w.put l (.loop { r with state:=.exhausted })⟩)
    |_=>.fail "endLoop"):=by (obtain ⟨⟨fn,tm,todo,defers,mode,kind,ro,dr⟩,cs,A⟩:=s;simp only at hm ht;subst hm ht;rfl)
   rw [e];refine .Iv ?_ fun s' hs'=>O2 h hm hd ht hs'
   repeat' split
   all_goals trivial
end
section
variable {P:Program} {X:Bc} {f0:FuncId} {base lo:Nat} {m:Inj P} {A:AW} {w:World} {fr:AFr} {cs:List AFr} {f:Frame} {csW cs0:List Frame}
theorem PB(hX:XOk P X)(hP:POk P){s:ASt}(h:CH P X f0 base lo m s f csW w)(hm:s.fr.mode≠ .run):NT P X f0 base m s f csW cs0 w (Ba P X s):=by
 have hdr:=h.top.JK hm;obtain ⟨htm,htodo⟩:=h.plain hdr;cases hd:s.fr.defers with
 |cons d ds=>
  by_cases hcol:∃ b,d.target=.collected b
  ·obtain ⟨b,hb⟩:=hcol;obtain ⟨tg,args⟩:=d;simp only at hb;subst hb;cases hg:s.w.get b with
   |some o=>
    cases o with
    |deferred calls=>
     cases calls with
     |some calls=>
      have e:Ba P X s=.next ⟨{ s.fr with defers:=calls++ds },s.cs,s.w.put b (.deferred none)⟩:=by
       (obtain ⟨⟨fn,tm,todo,defers,mode,kind,ro,dr⟩,cs,A⟩:=s;simp only at hm hd hg;subst hd;cases mode<;>first | exact absurd rfl hm | (unfold Ba Dm;simp only [hg]))
      rw [e];exact NO h hm hd hg
     |none=>
      have e:Ba P X s=.fail "takeDeferred":=by
       (obtain ⟨⟨fn,tm,todo,defers,mode,kind,ro,dr⟩,cs,A⟩:=s;simp only at hm hd hg;subst hd;cases mode<;>first | exact absurd rfl hm | (unfold Ba Dm;simp only [hg]))
      rw [e];trivial
    |_=>
     have e:Ba P X s=.fail "takeDeferred":=by
      (obtain ⟨⟨fn,tm,todo,defers,mode,kind,ro,dr⟩,cs,A⟩:=s;simp only at hm hd hg;subst hd;cases mode<;>first | exact absurd rfl hm | (unfold Ba Dm;simp only [hg]))
     rw [e];trivial
   |none=>
    have e:Ba P X s=.fail "takeDeferred":=by
     (obtain ⟨⟨fn,tm,todo,defers,mode,kind,ro,dr⟩,cs,A⟩:=s;simp only at hm hd hg;subst hd;cases mode<;>first | exact absurd rfl hm | (unfold Ba Dm;simp only [hg]))
    rw [e];trivial
  ·have hnc:∀ b,d.target≠ .collected b:=fun b hb=>hcol ⟨b,hb⟩;by_cases hnil:d.target=.nil
   ·have e:Ba P X s=.fail "nil deferred":=by
     (obtain ⟨⟨fn,tm,todo,defers,mode,kind,ro,dr⟩,cs,A⟩:=s;obtain ⟨tg,ar⟩:=d;simp only at hm hd hnil;subst hd hnil;cases mode<;>first | exact absurd rfl hm | rfl)
    rw [e];trivial
   ·have e:Ba P X s=AY P { s.fr with defers:=ds } s.cs true (BU P X s.w d.target d.args.toList):=by
     (obtain ⟨⟨fn,tm,todo,defers,mode,kind,ro,dr⟩,cs,A⟩:=s;obtain ⟨tg,ar⟩:=d;simp only at hm hd hnil hnc;subst hd;cases mode<;>first | exact absurd rfl hm | (cases tg<;>first | exact absurd rfl (hnc _) | exact absurd rfl hnil | rfl))
    rw [e];exact .Iv QN fun s' hs'=>O4 hX hP h hm hd hnc hs'
 |nil=>
  cases hmode:s.fr.mode with
  |run=>exact absurd hmode hm
  |panicking chain=>
   cases hcs:s.cs with
   |nil=>
    have e:Ba P X s=.died chain s.w:=by
     (obtain ⟨⟨fn,tm,todo,defers,mode,kind,ro,dr⟩,cs,A⟩:=s;simp only at hd hmode hcs;subst hd hmode hcs;rfl)
    rw [e];trivial
   |cons c rest=>
    cases hc:c.dr with
    |true=>
     have e:Ba P X s=.fail "raise into a drawn region":=by
      (obtain ⟨⟨fn,tm,todo,defers,mode,kind,ro,dr⟩,cs,A⟩:=s;simp only at hd hmode hcs;subst hd hmode hcs;unfold Ba Dm;simp only [hc,Ct])
     rw [e];trivial
    |false=>
     have e:Ba P X s=.next ⟨c.raise chain,rest,s.w⟩:=by
      (obtain ⟨⟨fn,tm,todo,defers,mode,kind,ro,dr⟩,cs,A⟩:=s;simp only at hd hmode hcs;subst hd hmode hcs;unfold Ba Dm;simp only [hc,Cf])
     rw [e];exact Tu h hmode hd hcs hc
  |returning=>
   cases hf:P.funcs[s.fr.fn]? with
   |none=>
    have e:Ba P X s=.fail "unwind fn":=by
     (obtain ⟨⟨fn,tm,todo,defers,mode,kind,ro,dr⟩,cs,A⟩:=s;simp only at hd hmode hf;subst hd hmode;unfold Ba Dm;simp only [hf])
    rw [e];trivial
   |some fn0=>
    cases hr:Cu P s.w fn0 s.fr.tm with
    |none=>
     have e:Ba P X s=.fail "results":=by
      (obtain ⟨⟨fn,tm,todo,defers,mode,kind,ro,dr⟩,cs,A⟩:=s;simp only at hd hmode hf hr;subst hd hmode;unfold Ba Dm;simp only [hf,hr])
     rw [e];trivial
    |some v=>
     cases hcs:s.cs with
     |cons c rest=>
      have e:Ba P X s=CP s.fr (c::rest) v s.w:=by
       (obtain ⟨⟨fn,tm,todo,defers,mode,kind,ro,dr⟩,cs,A⟩:=s;simp only at hd hmode hf hr hcs;subst hd hmode hcs;unfold Ba Dm;simp only [hf,hr])
      rw [e];exact .Iv (IZ _ _ _ _) fun s' hs'=>Re h hmode hd hf hr hcs hs'
     |nil=>
      have e:Ba P X s=.done v s.w:=by
       (obtain ⟨⟨fn,tm,todo,defers,mode,kind,ro,dr⟩,cs,A⟩:=s;simp only at hd hmode hf hr hcs;subst hd hmode hcs;unfold Ba Dm;simp only [hf,hr])
      rw [e];have hb:=h.bot;rw [hcs] at hb;have hstk:=h.stk;rw [hcs] at hstk;obtain ⟨v',g1,g2⟩:=IM h.rel htm hr;refine ⟨rfl,?_,v',g2,⟨?_,?_,h.top.core.kind.trans hb.1,fn0,by rw [h.top.core.fn];exact hf,g1⟩,h.top.core.fn.trans hb.2.1⟩
      ·generalize csW=y at hstk;cases hstk;rfl
      ·have:=h.top.core.mode
       rw [hmode] at this;generalize f.mode=u at this;cases this;rfl
      ·have:=h.top.core.defers
       rw [hd] at this;generalize f.defers=u at this;cases this;rfl
theorem FB(hX:XOk P X)(hP:POk P){s:ASt}(h:CH P X f0 base lo m s f csW w):NT P X f0 base m s f csW cs0 w (Ba P X s):=by
 by_cases hm:s.fr.mode=.run
 ·exact U3 hX hP h hm
 ·exact PB hX hP h hm
end
variable {A A':AW} {w w':World} {s s':ASt} {L:List ASt} {l l':List (Value × AW)} {v:Value} {fr c:AFr} {rest:List AFr} {x y:Value × AW} {mg:List FuncId} {g:FuncId} {args:List Value} {ids:List Nat} {kn:FuncId→List Value} {n:Nat} {ok:Value→Bool}
section
variable {P:Program} {X:Bc} {W0:World} {m0:Inj P}
structure Old (W0:World) (m0 m:Inj P) (A:AW) (w:World):Prop where
 le:m0.le m
 below:Go.RowKit.Below W0.heap.size W0 w
 own:∀ c,c<W0.heap.size→¬ Own m A c
theorem Old.next{m m':Inj P}{lo:Nat}(h:Old W0 m0 m A w)(e:EvL lo m A w m' A' w'):Old W0 m0 m' A' w':=by
 have hs:=h.below.size;refine ⟨h.le.trans e.ext,⟨e.os.trans h.below.os,e.tape.trans h.below.tape,e.output.trans h.below.output,Nat.le_trans hs e.size,fun k hk=>?_⟩,fun c hc ho=>?_⟩
 ·rw [e.keep k (by omega) (h.own k hk),h.below.block k hk]
 ·exact h.own c hc (e.own c (by omega) ho)
def Reach(P:Program)(X:Bc)(W0:World)(m0:Inj P)(s:ASt)(L:List ASt):Prop:=
 ∀ (f0:FuncId) (base lo:Nat) (cs0:List Frame) (m:Inj P) (f:Frame) (csW:List Frame) (w:World),CH P X f0 base lo m s f csW w→Old W0 m0 m s.w w→∃ s'∈L,Sim P X f0 base cs0 m s.w w (lone f (csW++cs0) w) s'
def Res(P:Program)(X:Bc)(W0:World)(m0:Inj P)(s:ASt)(l:List (Value × AW)):Prop:=
 ∀ (f0:FuncId) (base lo:Nat) (cs0:List Frame) (m:Inj P) (f:Frame) (csW:List Frame) (w:World),CH P X f0 base lo m s f csW w→Old W0 m0 m s.w w→
  ∃ x∈l,∃ v' m' w' f',Steps P (lone f (csW++cs0) w) (lone f' cs0 w')∧AI m' x.1 v'∧EvL base m s.w w m' x.2 w'∧f'.leaving P w' (.returned v')∧f'.fn=f0
theorem Reach.refl(s:ASt):Reach P X W0 m0 s [s]:=fun f0 base lo cs0 m f csW w h _=>⟨s,by simp,h.sim (.refl P _) (.refl h.rel base)⟩
theorem Sim.trans{f0:FuncId}{base:Nat}{cs0:List Frame}{m:Inj P}{mach:Machine}(h:Sim P X f0 base cs0 m A w mach s)(hr:Reach P X W0 m0 s L)(ho:Old W0 m0 m A w):∃ s'∈L,Sim P X f0 base cs0 m A w mach s':=by
 obtain ⟨lo1,m1,f1,cs1,w1,t1,t2,t3⟩:=h;obtain ⟨s',hs',lo2,m2,f2,cs2,w2,u1,u2,u3⟩:=hr f0 base lo1 cs0 m1 f1 cs1 w1 t3 (ho.next t2);exact ⟨s',hs',lo2,m2,f2,cs2,w2,t1.trans u1,t2.trans u2,u3⟩
theorem Reach.trans{L':List ASt}(h:Reach P X W0 m0 s L)(h':∀ x∈L,Reach P X W0 m0 x L'):Reach P X W0 m0 s L':=by
 intro f0 base lo cs0 m f csW w hr ho;obtain ⟨s',hs',hsim⟩:=h f0 base lo cs0 m f csW w hr ho;exact hsim.trans (h' s' hs') ho
theorem Reach.res(h:Reach P X W0 m0 s L)(h':∀ x∈L,Res P X W0 m0 x l):Res P X W0 m0 s l:=by
 intro f0 base lo cs0 m f csW w hr ho;obtain ⟨s',hs',lo1,m1,f1,cs1,w1,t1,t2,t3⟩:=h f0 base lo cs0 m f csW w hr ho;obtain ⟨x,hx,v',m',w',f',u1,u2,u3,u4,u5⟩:=h' s' hs' f0 base lo1 cs0 m1 f1 cs1 w1 t3 (ho.next t2);exact ⟨x,hx,v',m',w',f',t1.trans u1,u2,t2.trans u3,u4,u5⟩
theorem Res.mono(h:Res P X W0 m0 s l)(hl:∀ x∈l,x∈l'):Res P X W0 m0 s l':=by
 intro f0 base lo cs0 m f csW w hr ho;obtain ⟨x,hx,r⟩:=h f0 base lo cs0 m f csW w hr ho;exact ⟨x,hl x hx,r⟩
theorem FL(hX:XOk P X)(hP:POk P)(h:Ba P X s=.next s'):Reach P X W0 m0 s [s']:=by
 intro f0 base lo cs0 m f csW w hr _;have hs:=FB (cs0:=cs0) hX hP hr;rw [h] at hs;exact ⟨s',by simp,hs⟩
theorem Hc(hX:XOk P X)(hP:POk P){l:List ASt}(h:Ba P X s=.branch l):Reach P X W0 m0 s l:=by
 intro f0 base lo cs0 m f csW w hr _;have hs:=FB (cs0:=cs0) hX hP hr;rw [h] at hs;exact hs
theorem PS(hX:XOk P X)(hP:POk P)(h:Ba P X s=.done v A):Res P X W0 m0 s [(v,A)]:=by
 intro f0 base lo cs0 m f csW w hr _;have hs:=FB (cs0:=cs0) hX hP hr;rw [h] at hs;obtain ⟨rfl,rfl,v',g1,g2,g3⟩:=hs;exact ⟨(v,s.w),by simp,v',m,w,f,.refl P _,g1,.refl hr.rel base,g2,g3⟩
theorem Tt(hk:fr.kind=.normal)(hro:fr.roundOf=none)(h:Res P X W0 m0 ⟨fr,[],A⟩ l):
  Reach P X W0 m0 ⟨fr,c::rest,A⟩ (l.map fun x=>⟨c.finish x.1,rest,x.2⟩):=by
 intro f0 base lo cs0 m f csW w hr ho;obtain ⟨lo1,g,l',rfl,h1,h2,h3⟩:=hr.stk.inv;have hbase:=hr.stk.base;have hlo:=hr.below;have hs:CH P X fr.fn lo lo m ⟨fr,[],A⟩ f [] w:=⟨hr.rel,hr.glob,hr.below,hr.top,.nil lo (Nl _),⟨hk,rfl,hro⟩⟩;obtain ⟨x,hx,v',m',w',f',u1,u2,u3,u4,u5⟩:=h fr.fn lo lo (g::l'++cs0) m f [] w hs ho;refine ⟨_,List.mem_map.2 ⟨x,hx,rfl⟩,lo1,m',g.finish v',l',w',?_,u3.On hbase,u3.rel,hr.glob.mono u3.ext,?_,?_,?_,?_⟩
 ·exact u1.trans (.one (step_leave_returned u4))
 ·have:=u3.next
  show lo1≤x.2.next
  have:A.next≤x.2.next:=u3.next
  have:lo≤A.next:=hlo
  omega
 ·refine (h2.mono (A':=x.2) u3.ext (fun i hi=>u3.same i hi) (Nl lo)).finish u2 ?_
  have:A.next≤x.2.next:=u3.next
  have:lo≤A.next:=hlo
  show lo≤x.2.next;omega
 ·exact h3.mono u3.ext fun i hi=>u3.same i (by omega)
 ·have hb:Bot f0 (c::rest):=hr.bot;exact hb.finish x.1
def Ke:List MapEntry→List MapEntry→Bool
 |[],[]=>true
 |a::r,b::s=>C3 6 a.key b.key&&(C3 6 a.val b.val&&(Nat.beq a.born b.born&&Ke r s))
 |_,_=>false
def I7:List Nat→List Nat→Bool
 |[],[]=>true
 |a::r,b::s=>Nat.beq a b&&I7 r s
 |_,_=>false
def U1:Option Nat→Option Nat→Bool
 |none,none=>true
 |some a,some b=>Nat.beq a b
 |_,_=>false
def Yg(a b:Value):Bool:=C3 6 a b
def OA:AO→AO→Bool
 |.row cs e f b ro,.row cs' e' f' b' ro'=>Nat.beq e e'&&(Nat.beq f f'&&(Nat.beq b b'&&((ro==ro')&&D9 Yg cs cs')))
 |.map es c ro,.map es' c' ro'=>Nat.beq c c'&&((ro==ro')&&Ke es es')
 |.sit s p,.sit s' p'=>Nat.beq p p'&&DQ s.data.toList s'.data.toList
 |.mit m a l c,.mit m' a' l' c'=>U1 m m'&&(Nat.beq a a'&&(I7 l l'&&Nat.beq c c'))
 |_,_=>false
theorem NZ:∀ {a b:List MapEntry},Ke a b=true→a=b
 |[],[],_=>rfl
 |a::r,b::s,h=>by
  simp only [Ke,Bq] at h;obtain ⟨h1,h2,h3,h4⟩:=h;have e1:=FH _ _ _ h1;have e2:=FH _ _ _ h2;have e3:=Nb h3;cases a;cases b;simp only at e1 e2 e3;subst e1 e2 e3;rw [NZ h4]
 |[],_::_,h=>by simp [Ke] at h
 |_::_,[],h=>by simp [Ke] at h
theorem Kd:∀ {a b:List Nat},I7 a b=true→a=b
 |[],[],_=>rfl
 |a::r,b::s,h=>by
  simp only [I7,Bq] at h;rw [Nb h.1,Kd h.2]
 |[],_::_,h=>by simp [I7] at h
 |_::_,[],h=>by simp [I7] at h
theorem Tn:∀ {a b:Option Nat},U1 a b=true→a=b
 |none,none,_=>rfl
 |some a,some b,h=>by rw [Nb h]
 |none,some _,h=>by cases h
 |some _,none,h=>by cases h
theorem To{a b:AO}(h:OA a b=true):a=b:=by
 cases a<;>cases b<;>simp only [OA] at h<;>first | (cases h;done) | skip
 case row.row=>
  simp only [Bq,beq_iff_eq] at h;obtain ⟨h1,h2,h3,h4,h5⟩:=h;rw [Nb h1,Nb h2,Nb h3,h4,FI (f:=Yg) (fun a b h=>FH _ _ _ h) h5]
 case map.map=>
  simp only [Bq,beq_iff_eq] at h;rw [Nb h.1,h.2.1,NZ h.2.2]
 case sit.sit=>
  simp only [Bq] at h;rw [Nb h.1]
  congr 1
  exact ByteArray.ext (Array.toList_inj.1 (Hb h.2))
 case mit.mit=>
  simp only [Bq] at h;obtain ⟨h1,h2,h3,h4⟩:=h;rw [Tn h1,Nb h2,Kd h3,Nb h4]
def both:Option AO→Option AO→Option AO
 |some a,some b=>bif OA a b then some a else none
 |_,_=>none
def MC:Trie AO→Trie AO→Trie AO
 |.node v l r,.node v' l' r'=>.node (both v v') (MC l l') (MC r r')
 |_,_=>.nil
def E0:Trie (List Nat)→Trie (List Nat)→Bool
 |.nil,.nil=>true
 |.node v l r,.node v' l' r'=>(match v,v' with | none,none=>true | some a,some b=>I7 a b | _,_=>false)&&(E0 l l'&&E0 r r')
 |_,_=>false
theorem Ub{a b:Option AO}{o:AO}(h:both a b=some o):a=some o∧b=some o:=by
 cases a with
 |none=>cases h
 |some a=>
  cases b with
  |none=>cases h
  |some b=>
   simp only [both] at h;cases hs:OA a b with
   |false=>rw [hs] at h;cases h
   |true=>
    rw [hs] at h;cases h;rw [← To hs];exact ⟨rfl,rfl⟩
theorem Ix:∀ (t t':Trie AO) (i:Nat) (o:AO),(MC t t').get? i=some o→t.get? i=some o∧t'.get? i=some o
 |.nil,_,i,o,h=>by simp [MC,Trie.get?] at h
 |.node _ _ _,.nil,i,o,h=>by simp [MC,Trie.get?] at h
 |.node v l r,.node v' l' r',i,o,h=>by
  simp only [MC,Trie.get?] at h ⊢;cases h0:Nat.beq i 0 with
  |true=>
   rw [h0] at h;exact Ub h
  |false=>
   rw [h0] at h;simp only [Cf] at h ⊢;cases h1:Nat.beq (i%2) 1 with
   |true=>rw [h1] at h;exact Ix l l' _ _ h
   |false=>rw [h1] at h;exact Ix r r' _ _ h
theorem HQ:∀ (t t':Trie (List Nat)),E0 t t'=true→t=t'
 |.nil,.nil,_=>rfl
 |.node v l r,.node v' l' r',h=>by
  simp only [E0,Bq] at h;obtain ⟨h1,h2,h3⟩:=h;rw [HQ l l' h2,HQ r r' h3];cases v<;>cases v'<;>simp only at h1<;>first | rfl | (cases h1;done) | rw [Kd h1]
 |.nil,.node _ _ _,h=>by simp [E0] at h
 |.node _ _ _,.nil,h=>by simp [E0] at h
structure KL (A' A:AW):Prop where
 next:A'.next=A.next
 fams:A'.fams=A.fams
 get:∀ i o,A'.get i=some o→A.get i=some o
theorem KL.refl(A:AW):KL A A:=⟨rfl,rfl,fun _ _ h=>h⟩
theorem KL.trans{B C:AW}(h:KL A B)(k:KL B C):KL A C:=⟨h.next.trans k.next,h.fams.trans k.fams,fun i o x=>k.get i o (h.get i o x)⟩
theorem KL.ev{m:Inj P}(h:KL A' A)(r:Rel m A w):Ev m A w m A' w:=
 Ev.weaken r h.next h.fams fun i o hi=>⟨o,h.get i o hi,rfl,id,id,fun _ _ x=>x,fun cs _ _ _ ro he=>⟨cs,ro,he⟩⟩
theorem Res.less(h:Res P X W0 m0 s l)(hl:∀ x∈l,∃ y∈l',y.1=x.1∧KL y.2 x.2):Res P X W0 m0 s l':=by
 intro f0 base lo cs0 m f csW w hr ho;obtain ⟨x,hx,v',m',w',f',u1,u2,u3,u4,u5⟩:=h f0 base lo cs0 m f csW w hr ho;obtain ⟨y,hy,h1,h2⟩:=hl x hx;exact ⟨y,hy,v',m',w',f',u1,by rw [h1];exact u2,u3.trans ((h2.ev u3.rel).low (by have:=u3.next;have:=hr.stk.base;have:=hr.below;omega)),u4,u5⟩
def Vq(x y:Value × AW):Option (Value × AW):=
 bif C3 6 x.1 y.1&&(Nat.beq x.2.next y.2.next&&E0 x.2.fams y.2.fams) then some (x.1,{ x.2 with heap:=MC x.2.heap y.2.heap }) else none
def Hk(x:Value × AW):List (Value × AW)→Option (Value × AW)
 |[]=>some x
 |y::r=>match Vq x y with
  |some z=>Hk z r
  |none=>none
theorem RD{z:Value × AW}(h:Vq x y=some z):(z.1=x.1∧KL z.2 x.2)∧z.1=y.1∧KL z.2 y.2:=by
 unfold Vq at h;cases hc:(C3 6 x.1 y.1&&(Nat.beq x.2.next y.2.next&&E0 x.2.fams y.2.fams)) with
 |false=>rw [hc] at h;cases h
 |true=>
  rw [hc,Ct,Oi] at h;subst h;simp only [Bq] at hc;obtain ⟨h1,h2,h3⟩:=hc;have h1:=FH _ _ _ h1;have h2:=Nb h2;have h3:=HQ _ _ h3;exact ⟨⟨rfl,rfl,rfl,fun i o hi=>(Ix _ _ i o hi).1⟩,h1,h2,h3,fun i o hi=>(Ix _ _ i o hi).2⟩
theorem Hj:∀ {l:List (Value × AW)} {x z:Value × AW},Hk x l=some z→∀ y∈x::l,z.1=y.1∧KL z.2 y.2
 |[],x,z,h,y,hy=>by
  simp only [Hk,Oi] at h;subst h;simp at hy;subst hy;exact ⟨rfl,.refl _⟩
 |y0::r,x,z,h,y,hy=>by
  simp only [Hk] at h;split at h
  ·rename_i z1 hz;have ih:=Hj h;obtain ⟨g1,g2⟩:=ih z1 (by simp);obtain ⟨⟨k1,k2⟩,k3,k4⟩:=RD hz;simp only [Mk] at hy;rcases hy with rfl | rfl | hy
   ·exact ⟨g1.trans k1,g2.trans k2⟩
   ·exact ⟨g1.trans k3,g2.trans k4⟩
   ·exact ih y (by simp [hy])
  ·cases h
def AeB{α β:Type}(f:α→Option (List β)):List α→Option (List β)
 |[]=>some []
 |a::r=>match f a,AeB f r with
  |some x,some y=>some (x++y)
  |_,_=>none
def Qg:CallKind→Bool
 |.normal=>true
 |_=>false
theorem Qf{k:CallKind}(h:Qg k=true):k=.normal:=by cases k<;>first | rfl | cases h
def Jn(mg:List FuncId)(s:ASt):Bool:=Em s.fr.fn mg&&(Qg s.fr.kind&&(s.fr.roundOf.isNone&&!s.cs.isEmpty))
theorem Ll(h:Jn mg s=true):s.fr.kind=.normal∧s.fr.roundOf=none:=by
 unfold Jn at h;simp only [Bq,Option.isNone_iff_eq_none] at h;exact ⟨Qf h.2.1,h.2.2.1⟩
theorem Mg(hk:fr.kind=.normal)(hro:fr.roundOf=none)(h:Res P X W0 m0 ⟨fr,[],A⟩ (x::l))(hm:Hk x l=some y):
  Reach P X W0 m0 ⟨fr,c::rest,A⟩ [⟨c.finish y.1,rest,y.2⟩]:=by
 have h':Res P X W0 m0 ⟨fr,[],A⟩ [y]:=h.less fun z hz=>⟨y,by simp,(Hj hm z hz).1,(Hj hm z hz).2⟩;exact Tt hk hro h'
structure KC where
 fn:FuncId
 args:List Value
 vals:List Value
def DU:Nat:=4194304
structure Low (w w':World):Prop where
 below:Go.RowKit.Below w.heap.size w w'
 draws:w.drawn≤w'.drawn
def KC.Holds(P:Program)(W0:World)(m0:Inj P)(k:KC):Prop:=
 (k.fn=DU→k.args=k.vals)∧(k.fn≠DU→∀ (m:Inj P) (args':List Value) (W:World),m0.le m→Go.RowKit.Below W0.heap.size W0 W→AJ m k.args args'→Calls P k.fn ⟨args'⟩ W fun e W'=>∃ v∈k.vals,e=.returned v∧Low W W')
theorem Rel.grow{m:Inj P}(r:Rel m A w)(h:Go.RowKit.Below w.heap.size w w'):Rel m A w':=by
 refine ⟨fun i o c d hi hm=>?_,r.home,r.sep,r.mem,r.fresh,r.lim,fun i cs e f b ro c d hi hm=>?_⟩
 ·obtain ⟨o',h1,h2⟩:=r.obj i o c d hi hm;exact ⟨o',by rw [h.block c (r.Ez hi hm)];exact h1,h2⟩
 ·obtain ⟨g1,cs',e',fr,g2,g3⟩:=r.room i cs e f b ro c d hi hm;exact ⟨g1,cs',e',fr,by rw [h.block c (r.Ez hi hm)];exact g2,g3⟩
theorem EvL.grow{m:Inj P}(r:Rel m A w)(h:Low w w')(lo:Nat):EvL lo m A w m A w':=
 ⟨.refl m,r.grow h.below,h.below.size,h.below.os,h.below.tape,h.below.output,h.draws,fun c hc _=>h.below.block c hc,fun _ _ x=>x,Nl _,fun _ _=>rfl⟩
theorem HS(hX:XOk P X)(hP:POk P){vals:List Value}(h:Ba P X s=.calls g args s')(hg:g≠DU)(hk:KC.Holds P W0 m0 ⟨g,args,vals⟩)(hc:vals.all (AG 4)=true):
  Reach P X W0 m0 s (vals.map fun v=>⟨s'.fr.finish v,s'.cs,s'.w⟩):=by
 intro f0 base lo cs0 m f csW w hr ho;have hs:=FB (cs0:=cs0) hX hP hr;rw [h] at hs;obtain ⟨lo',m',f',cs',w',args',t1,t2,t3,t4,t5,t6,t7,t8⟩:=hs;have ho':=ho.next t2;obtain ⟨e,w'',fr,⟨v,hv,rfl,hb⟩,hst,_,hlv⟩:=hk.2 hg m' args' w' ho'.le ho'.below t3 (f'::(cs'++cs0));have hst:Steps P (lone (Frame.enter P g ⟨args'⟩ .normal) (f'::(cs'++cs0)) w') (lone fr (f'::(cs'++cs0)) w''):=hst;have hg:=EvL.grow t2.rel hb base;refine ⟨_,List.mem_map.2 ⟨v,hv,rfl⟩,lo',m',f'.finish v,cs',w'',t1.trans (hst.trans (.one (step_leave_returned hlv))),t2.trans hg,hg.rel,t4,t5,?_,t7,t8.finish v⟩;exact t6.finish (BP 4 v (List.all_eq_true.1 hc v hv)) (Nl _)
theorem Mh(hX:XOk P X)(hP:POk P){v':Value}(h:Ba P X s=.asks v v' s')(hk:KC.Holds P W0 m0 ⟨DU,[v],[v']⟩):Reach P X W0 m0 s [s']:=by
 intro f0 base lo cs0 m f csW w hr _;have hs:=FB (cs0:=cs0) hX hP hr;rw [h] at hs;have hv:=hk.1 rfl;simp only [Li,and_true] at hv;exact ⟨s',by simp,hs hv⟩
def Vr{α β:Type}(f:α→Option (List β × List KC)):List α→Option (List β × List KC)
 |[]=>some ([],[])
 |a::r=>match f a,Vr f r with
  |some x,some y=>some (x.1++y.1,x.2++y.2)
  |_,_=>none
theorem Ko{α β:Type}{f:α→Option (List β × List KC)}:∀ {l:List α} {r:List β × List KC},Vr f l=some r→∀ a∈l,∃ x,f a=some x∧(∀ b∈x.1,b∈r.1)∧∀ k∈x.2,k∈r.2
 |[],_,_,a,ha=>by simp at ha
 |a0::l,r,h,a,ha=>by
  simp only [Vr] at h;split at h
  ·rename_i x y hx hy;simp only [Oi] at h;subst h;simp only [Mk] at ha;rcases ha with rfl | ha
   ·exact ⟨x,hx,fun b hb=>by simp [hb],fun k hk=>by simp [hk]⟩
   ·obtain ⟨z,h1,h2,h3⟩:=Ko hy a ha;exact ⟨z,h1,fun b hb=>by simp [h2 b hb],fun k hk=>by simp [h3 k hk]⟩
  ·cases h
def JD(P:Program)(X:Bc)(mg:List FuncId)(kn:FuncId→List Value):Nat→ASt→Option (List (Value × AW) × List KC)
 |0,_=>none
 |n+1,s=>match Ba P X s with
  |.next s'=>bif Jn mg s' then
    (match s'.cs with
    |c::rest=>(match JD P X mg kn n ⟨s'.fr,[],s'.w⟩ with
     |some (x::l,ks)=>(match Hk x l with
      |some y=>(match JD P X mg kn n ⟨c.finish y.1,rest,y.2⟩ with
       |some z=>some (z.1,ks++z.2)
       |none=>none)
      |none=>none)
     |_=>none)
    |[]=>none)
   else JD P X mg kn n s'
  |.branch l=>Vr (JD P X mg kn n) l
  |.asks v v' s'=>(match JD P X mg kn n s' with
    |some z=>some (z.1,⟨DU,[v],[v']⟩::z.2)
    |none=>none)
  |.calls g args s'=>bif !Nat.beq g DU&&(kn g).all (AG 4) then
    (match Vr (fun v=>JD P X mg kn n ⟨s'.fr.finish v,s'.cs,s'.w⟩) (kn g) with
    |some z=>some (z.1,⟨g,args,kn g⟩::z.2)
    |none=>none)
   else none
  |.done v A=>some ([(v,A)],[])
  |_=>none
theorem Df(hX:XOk P X)(hP:POk P){mg:List FuncId}{kn:FuncId→List Value}:∀ (n:Nat) {s:ASt} {l:List (Value × AW) × List KC},JD P X mg kn n s=some l→(∀ k∈l.2,KC.Holds P W0 m0 k)→Res P X W0 m0 s l.1
 |0,s,l,h,_=>by cases h
 |n+1,s,l,h,hK=>by
  unfold JD at h;split at h
  ·rename_i s' hs;cases ha:Jn mg s' with
   |false=>
    rw [ha] at h;simp only [Cf] at h;exact (FL hX hP hs).res fun x hx=>by simp at hx;subst hx;exact Df hX hP n h hK
   |true=>
    rw [ha] at h;simp only [Ct] at h;obtain ⟨hk,hro⟩:=Ll ha;split at h
    ·rename_i c rest hcs;split at h
     ·rename_i x l1 ks hr;split at h
      ·rename_i y hy;split at h
       ·rename_i z hz;simp only [Oi] at h;subst h;have h1:=Df hX hP n hr (fun k hk=>hK k (by simp [hk]));have h2:Reach P X W0 m0 s' [⟨c.finish y.1,rest,y.2⟩]:=by
         obtain ⟨fr,cs,A⟩:=s';simp only at hcs hk hro h1;subst hcs;exact Mg hk hro h1 hy
        refine ((FL hX hP hs).trans (L':=[⟨c.finish y.1,rest,y.2⟩]) fun z hz=>?_).res fun z1 hz1=>?_
        ·simp at hz;subst hz;exact h2
        ·simp at hz1;subst hz1;show Res P X W0 m0 _ z.1;exact Df hX hP n hz (fun k hk=>hK k (by simp [hk]))
       ·cases h
      ·cases h
     ·cases h
    ·cases h
  ·rename_i l1 hs;refine (Hc hX hP hs).res fun x hx=>?_;obtain ⟨l2,h1,h2,h3⟩:=Ko h x hx;exact (Df hX hP n h1 fun k hk=>hK k (h3 k hk)).mono h2
  ·rename_i v v' s' hs;split at h
   ·rename_i z hz;simp only [Oi] at h;subst h;have h1:Res P X W0 m0 s' z.1:=Df hX hP n hz (fun k hk=>hK k (by simp [hk]));exact (Mh hX hP hs (hK _ (by simp))).res fun x hx=>by simp at hx;subst hx;exact h1
   ·cases h
  ·rename_i g args s' hs;cases hc:(!Nat.beq g DU&&(kn g).all (AG 4)) with
   |false=>rw [hc] at h;cases h
   |true=>
    rw [hc,Ct] at h;simp only [Bq,Bool.not_eq_true'] at hc;have hg:g≠DU:=fun e=>by rw [e,Nat.beq_refl] at hc;exact Bool.noConfusion hc.1
    have hc:=hc.2;split at h
    ·rename_i z hz;simp only [Oi] at h;subst h;refine (HS hX hP hs hg (hK _ (by simp)) hc).res fun x hx=>?_;obtain ⟨v,hv,rfl⟩:=List.mem_map.1 hx;obtain ⟨l2,h1,h2,h3⟩:=Ko hz v hv;exact Res.mono (Df hX hP n h1 fun k hk=>hK k (by simp [h3 k hk])) h2
    ·cases h
  ·rename_i v A hs;cases h;exact PS hX hP hs
  ·cases h
def OU(A:AW):List Nat→Trie AO→Trie AO
 |[],t=>t
 |i::r,t=>OU A r (t.put depth i (A.get i))
theorem KZ{A:AW}(hA:∀ i o,A.get i=some o→i<Ak):∀ (l:List Nat) (t:Trie AO),(∀ i o,t.get? i=some o→A.get i=some o)→(∀ i∈l,i<Ak)→∀ i o,(OU A l t).get? i=some o→A.get i=some o
 |[],t,ht,_=>ht
 |j::r,t,ht,hl=>by
  refine KZ hA r _ (fun i o h=>?_) (fun i hi=>hl i (by simp [hi]));rw [Trie.get?_put depth t j i (A.get j) (by have:=hl j (by simp);unfold depth Ak at *;omega)] at h;split at h
  ·rename_i e;subst e;exact h
  ·exact ht i o h
def Ij:List Nat→Bool
 |[]=>true
 |i::r=>Nat.blt i Ak&&Ij r
theorem I0:∀ {l:List Nat},Ij l=true→∀ i∈l,i<Ak
 |[],_,i,h=>by simp at h
 |j::r,h,i,hi=>by
  simp only [Ij,Bq] at h;simp only [Mk] at hi;rcases hi with rfl | hi
  ·exact Ax.1 h.1
  ·exact I0 h.2 i hi
def RN(ids:List Nat)(s:ASt):Option ASt:=
 bif s.fr.dr then none else bif Ij ids then some ⟨s.fr,s.cs,{ s.w with heap:=OU s.w ids .nil }⟩ else none
theorem Rg(hd:s.fr.dr=false){A':AW}(hl:∀ m w,Rel (P:=P) m s.w w→KL A' s.w):Reach P X W0 m0 s [⟨s.fr,s.cs,A'⟩]:=by
 intro f0 base lo cs0 m f csW w h _;have hl:=hl m w h.rel;have hev:=hl.ev h.rel;have hbase:=h.stk.base;have hlo:=h.below;refine ⟨⟨s.fr,s.cs,A'⟩,by simp,lo,m,f,csW,w,.refl P _,hev.low (by omega),hev.rel,h.glob,by show lo≤A'.next;rw [hl.next];exact hlo,?_,h.stk.mono (.refl m) fun _ _=>rfl,h.bot⟩;refine ⟨h.top.core,?_⟩;obtain ⟨htm,htodo⟩:=h.plain hd;exact .plain hd htm htodo
theorem Rh(h:RN ids s=some s'):Reach P X W0 m0 s [s']:=by
 unfold RN at h;cases hd:s.fr.dr with
 |true=>rw [hd] at h;cases h
 |false=>
  rw [hd,Cf] at h;cases ha:Ij ids with
  |false=>rw [ha] at h;cases h
  |true=>
   rw [ha,Ct,Oi] at h;subst h;refine Rg hd fun m w r=>⟨rfl,rfl,fun i o hi=>?_⟩;exact KZ (fun i o h=>r.N5 h) ids .nil (fun i o h=>by simp [Trie.get?] at h) (I0 ha) i o hi
def advance(P:Program)(X:Bc)(mg:List FuncId)(kn:FuncId→List Value)(fuel:Nat):Nat→ASt→List KC→Option (ASt × List KC)
 |0,s,ks=>some (s,ks)
 |n+1,s,ks=>match Ba P X s with
  |.next s'=>bif Jn mg s' then
    (match s'.cs with
    |c::rest=>(match JD P X mg kn fuel ⟨s'.fr,[],s'.w⟩ with
     |some (x::l,k1)=>(match Hk x l with
      |some y=>advance P X mg kn fuel n ⟨c.finish y.1,rest,y.2⟩ (ks++k1)
      |none=>none)
     |_=>none)
    |[]=>none)
   else advance P X mg kn fuel n s' ks
  |.branch [s']=>advance P X mg kn fuel n s' ks
  |.asks v v' s'=>advance P X mg kn fuel n s' (ks++[⟨DU,[v],[v']⟩])
  |.calls g args s'=>(match kn g with
   |[v]=>bif !Nat.beq g DU&&AG 4 v then advance P X mg kn fuel n ⟨s'.fr.finish v,s'.cs,s'.w⟩ (ks++[⟨g,args,[v]⟩]) else none
   |_=>none)
  |_=>none
theorem CM{mg:List FuncId}{kn:FuncId→List Value}{fuel:Nat}:∀ (n:Nat) {s:ASt} {ks:List KC} {r:ASt × List KC},advance P X mg kn fuel n s ks=some r→∀ k∈ks,k∈r.2
 |0,s,ks,r,h,k,hk=>by cases h;exact hk
 |n+1,s,ks,r,h,k,hk=>by
  unfold advance at h;split at h
  ·rename_i s' hs;cases ha:Jn mg s' with
   |false=>rw [ha] at h;exact CM n h k hk
   |true=>
    rw [ha] at h;simp only [Ct] at h
    repeat' split at h
    all_goals first | (cases h;done) | exact CM n h k (by simp [hk])
  ·exact CM n h k hk
  ·exact CM n h k (by simp [hk])
  ·rename_i g _ _ _;split at h
   ·rename_i v _;cases hc:(!Nat.beq g DU&&AG 4 v) with
    |false=>rw [hc] at h;cases h
    |true=>rw [hc] at h;exact CM n h k (by simp [hk])
   ·cases h
  ·cases h
theorem Dx(hX:XOk P X)(hP:POk P){mg:List FuncId}{kn:FuncId→List Value}{fuel:Nat}:∀ (n:Nat) {s:ASt} {ks:List KC} {r:ASt × List KC},advance P X mg kn fuel n s ks=some r→(∀ k∈r.2,KC.Holds P W0 m0 k)→Reach P X W0 m0 s [r.1]
 |0,s,ks,r,h,_=>by cases h;exact .refl s
 |n+1,s,ks,t,h,hK=>by
  unfold advance at h;split at h
  ·rename_i s' hs;cases ha:Jn mg s' with
   |false=>
    rw [ha] at h;simp only [Cf] at h;exact (FL hX hP hs).trans fun x hx=>by simp at hx;subst hx;exact Dx hX hP n h hK
   |true=>
    rw [ha] at h;simp only [Ct] at h;obtain ⟨hk,hro⟩:=Ll ha;split at h
    ·rename_i c rest hcs;split at h
     ·rename_i x l1 k1 hr;split at h
      ·rename_i y hy;have h1:=Df hX hP fuel hr (fun k hk=>hK k (CM n h k (by simp [hk])));have h2:Reach P X W0 m0 s' [⟨c.finish y.1,rest,y.2⟩]:=by
        obtain ⟨fr,cs,A⟩:=s';simp only at hcs hk hro h1;subst hcs;exact Mg hk hro h1 hy
       refine ((FL hX hP hs).trans (L':=[⟨c.finish y.1,rest,y.2⟩]) fun z hz=>?_).trans fun z hz=>?_
       ·simp at hz;subst hz;exact h2
       ·simp at hz;subst hz;exact Dx hX hP n h hK
      ·cases h
     ·cases h
    ·cases h
  ·rename_i s' hs;exact (Hc hX hP hs).trans fun x hx=>by simp at hx;subst hx;exact Dx hX hP n h hK
  ·rename_i v v' s' hs;exact (Mh hX hP hs (hK _ (CM n h _ (by simp)))).trans fun x hx=>by simp at hx;subst hx;exact Dx hX hP n h hK
  ·rename_i g args s' hs;split at h
   ·rename_i v hv;cases hc:(!Nat.beq g DU&&AG 4 v) with
    |false=>rw [hc] at h;cases h
    |true=>
     rw [hc,Ct] at h;simp only [Bq,Bool.not_eq_true'] at hc;have hg:g≠DU:=fun e=>by rw [e,Nat.beq_refl] at hc;exact Bool.noConfusion hc.1
     have hc:=hc.2;refine (HS hX hP hs hg (hK ⟨g,args,[v]⟩ (CM n h _ (by simp))) (by simp [hc])).trans fun x hx=>?_;simp at hx;subst hx;exact Dx hX hP n h hK
   ·cases h
  ·cases h
def chunk(P:Program)(X:Bc)(mg:List FuncId)(kn:FuncId→List Value)(fuel n:Nat)(ids:List Nat)(s:ASt):Option (ASt × List KC):=
 match advance P X mg kn fuel n s [] with
 |some r=>(match RN ids r.1 with
  |some s'=>some (s',r.2)
  |none=>none)
 |none=>none
theorem E3(hX:XOk P X)(hP:POk P){fuel:Nat}{ks:List KC}(h:chunk P X mg kn fuel n ids s=some (s',ks))(hK:∀ k∈ks,KC.Holds P W0 m0 k):Reach P X W0 m0 s [s']:=by
 unfold chunk at h;split at h
 ·rename_i r h1;split at h
  ·rename_i s2 h2;simp only [Oi,Pj] at h;obtain ⟨rfl,rfl⟩:=h;exact (Dx hX hP n h1 hK).trans fun x hx=>by simp at hx;subst hx;exact Rh h2
  ·cases h
 ·cases h
theorem Reach.one(h:Reach P X W0 m0 s [s'])(h':Res P X W0 m0 s' l):Res P X W0 m0 s l:=h.res fun x hx=>by simp at hx;subst hx;exact h'
def oks(ok:Value→Bool):List (Value × AW)→Bool
 |[]=>true
 |x::r=>ok x.1&&oks ok r
theorem P4{ok:Value→Bool}:∀ {l:List (Value × AW)},oks ok l=true→∀ x∈l,ok x.1=true
 |[],_,x,h=>by simp at h
 |y::r,h,x,hx=>by
  simp only [oks,Bq] at h;simp only [Mk] at hx;rcases hx with rfl | hx
  ·exact h.1
  ·exact P4 h.2 x hx
def U4(P:Program)(X:Bc)(mg:List FuncId)(kn:FuncId→List Value)(ok:Value→Bool)(n:Nat)(s:ASt):Option (Bool × List KC):=
 match JD P X mg kn n s with
 |some l=>some (oks ok l.1,l.2)
 |none=>none
def IJ(P:Program)(X:Bc)(W0:World)(m0:Inj P)(ok:Value→Bool)(s:ASt):Prop:=∃ l,Res P X W0 m0 s l∧∀ x∈l,ok x.1=true
theorem Ni(hX:XOk P X)(hP:POk P){ks:List KC}(h:U4 P X mg kn ok n s=some (true,ks))(hK:∀ k∈ks,KC.Holds P W0 m0 k):
  IJ P X W0 m0 ok s:=by
 unfold U4 at h;split at h
 ·rename_i l hl;simp only [Oi,Pj] at h;obtain ⟨h1,rfl⟩:=h;exact ⟨l.1,Df hX hP n hl hK,P4 h1⟩
 ·cases h
theorem IJ.back(h:IJ P X W0 m0 ok s')(hr:Reach P X W0 m0 s [s']):IJ P X W0 m0 ok s:=by
 obtain ⟨l,h1,h2⟩:=h;exact ⟨l,hr.one h1,h2⟩
theorem KG (hP:POk P) {m:Inj P} {args':List Value} (he:AD P g args .normal=some fr) (h:IJ P X w m ok ⟨fr,[],A⟩) (r:Rel m A w) (hG:GOk m)
  (hno:∀ c,¬ Own m A c) (ha:AJ m args args'):Calls P g ⟨args'⟩ w fun e w'=>∃ v v' m' A',ok v=true∧e=.returned v'∧AI m' v v'∧EvL A.next m A w m' A' w':=by
 intro cs0;obtain ⟨g1,g2,g3,g4⟩:=IF (X:=X) (A:=A) hP he ha (.inl rfl) A.next A.next;have hs:CH P X g A.next A.next m ⟨fr,[],A⟩ (Frame.enter P g ⟨args'⟩ .normal) [] w:=⟨r,hG,Nl _,g1,.nil _ (Nl _),⟨g2,g3,g4⟩⟩;obtain ⟨l,h1,h2⟩:=h;obtain ⟨x,hx,v',m',w',f',k1,k2,k3,k4,k5⟩:=h1 g A.next A.next cs0 m _ [] w hs ⟨.refl m,.refl _ _,fun c _=>hno c⟩;exact ⟨.returned v',w',f',⟨x.1,v',m',x.2,h2 x hx,rfl,k2,k3⟩,k1,k5,k4⟩
end
end Go.Abs
namespace Go.Abs
open Go.ChangeShapes Go.WideShapes Go.ChangeAt Go.RowKit
variable {i lo:Nat} {W w w':World} {l:List (Nat × List Value × TypeId)} {A A':AW} {g:FuncId} {apart fresh handsOn again:Bool}
def Vb(P:Program):Bool:=P.funcs.toList.all fun fn=>match fn.body with | some c=>codeOk P c | none=>true
theorem Vc{P:Program}(h:Vb P=true)(hm:P.follows .mixedOrders=true):POk P:=by
 refine ⟨fun f fn c hf hb=>?_,hm⟩;unfold Vb at h
 have:=List.all_eq_true.1 h fn (by simpa using Array.mem_of_getElem? hf)
 rw [hb] at this;exact this
theorem FO{n:Nat}:∀ {l:List Nat},Em n l=true→n∈l
 |[],h=>by cases h
 |x::r,h=>by
  simp only [Em] at h;cases hb:Nat.beq x n with
  |true=>rw [beq_true.1 hb];simp
  |false=>rw [hb] at h;exact List.mem_cons_of_mem _ (FO h)
def isT:Value→Bool
 |.bool b=>b
 |_=>false
def Ly(P:Program)(f:FuncId)(args:List Value):AFr:=(AD P f args .normal).getD ⟨0,⟨0,.nil⟩,[],[],.run,.normal,none,false⟩
def KR:List (Nat × List Value × TypeId)→Trie AO
 |[]=>.nil
 |x::r=>(KR r).put depth x.1 (some (.row x.2.1 x.2.2 x.1 0 true))
def wG(n:Nat)(l:List (Nat × List Value × TypeId)):AW:=⟨KR l,n,.nil⟩
theorem Ir:∀ (l:List (Nat × List Value × TypeId)),(∀ x∈l,x.1<Ak)→∀ i o,(KR l).get? i=some o→∃ x∈l,x.1=i∧o=.row x.2.1 x.2.2 i 0 true
 |[],_,i,o,h=>by simp [KR,Trie.get?] at h
 |x::r,hl,i,o,h=>by
  simp only [KR] at h;rw [Trie.get?_put depth _ x.1 i _ (by have:=hl x (by simp);unfold depth Ak at *;omega)] at h;split at h
  ·rename_i e;subst e;cases h;exact ⟨x,by simp,rfl,rfl⟩
  ·obtain ⟨y,hy,h1,h2⟩:=Ir r (fun y hy=>hl y (by simp [hy])) i o h;exact ⟨y,by simp [hy],h1,h2⟩
def mG(P:Program):Inj P:=⟨fun i=>if i<P.globals.size then some (i,0) else none,fun _=>0,fun _=>0,fun _=>0,fun _ h=>absurd rfl h⟩
theorem Vs{P:Program}{c d:Nat}(h:mG P i=some (c,d)):i<P.globals.size∧c=i∧d=0:=by
 have h:(if i<P.globals.size then some (i,0) else none)=some (c,d):=h;split at h
 ·cases h;exact ⟨‹_›,rfl,rfl⟩
 ·cases h
theorem gG{P:Program}:GOk (mG P):=fun i hi=>by
 show (if i<P.globals.size then some (i,0) else none)=some (i,0);rw [if_pos hi]
def Holds(W:World)(l:List (Nat × List Value × TypeId)):Prop:=∀ x∈l,∃ fr,W.heap[x.1]? =some (.cells ⟨x.2.1⟩ x.2.2 fr)
def okG(n:Nat)(l:List (Nat × List Value × TypeId)):Bool:=Nat.ble n Ak&&l.all fun x=>Nat.blt x.1 n&&x.2.1.all (AG 4)
theorem Aet{P:Program}(hok:okG P.globals.size l=true)(hW:Holds W l):Rel (mG P) (wG P.globals.size l) W:=by
 unfold okG at hok;simp only [Bq,List.all_eq_true] at hok;obtain ⟨hn,hl⟩:=hok;have hn:=Bj.1 hn;have hget:∀ i o,(wG P.globals.size l).get i=some o→∃ x∈l,x.1=i∧o=.row x.2.1 x.2.2 i 0 true:=Ir l fun x hx=>Nat.lt_of_lt_of_le (Ax.1 (hl x hx).1) hn;refine ⟨?_,?_,?_,?_,?_,hn,?_⟩
 ·intro i o c d hi hm;obtain ⟨x,hx,rfl,rfl⟩:=hget i o hi;obtain ⟨_,rfl,rfl⟩:=Vs hm;obtain ⟨fr,hc⟩:=hW x hx;refine ⟨_,hc,_,fr,rfl,fun i v hv=>⟨v,by simpa using hv,fun _=>BP 4 v ((hl x hx).2 v (List.mem_of_getElem? hv)),fun h=>by cases h⟩⟩
 ·intro i cs e b ro hi c d hm;exact (Vs hm).2.2
 ·intro i j oi oj c di dj hij hi hj hmi hmj;obtain ⟨x,hx,rfl,rfl⟩:=hget i oi hi;obtain ⟨y,hy,rfl,rfl⟩:=hget j oj hj;exact .inl ⟨rfl,rfl⟩
 ·intro i o f b hi hf;obtain ⟨x,hx,rfl,rfl⟩:=hget i o hi;simp only [AO.fam,Oi,Pj] at hf;obtain ⟨rfl,rfl⟩:=hf;refine ⟨?_,Ax.1 (hl x hx).1⟩;show x.1∈(match (Trie.nil:Trie (List Nat)).get? x.1 with | some l=>l | none=>[x.1]);simp [Trie.get?]
 ·intro i hi;have hi:P.globals.size≤i:=hi;refine ⟨?_,?_,rfl⟩
  ·cases hq:(wG P.globals.size l).get i with
   |none=>rfl
   |some o=>
    obtain ⟨x,hx,rfl,_⟩:=hget i o hq
    have:=Ax.1 (hl x hx).1
    omega
  ·show (if i<P.globals.size then some (i,0) else none)=none;rw [Ff (by omega)]
 ·intro i cs e f b ro c d hi hm;obtain ⟨x,hx,rfl,he⟩:=hget i _ hi;cases he;obtain ⟨_,rfl,rfl⟩:=Vs hm;obtain ⟨fr,hc⟩:=hW x hx;exact ⟨fun h=>absurd rfl h,_,_,fr,hc,by show 0+0≤_;omega,fun h=>by cases h⟩
theorem AaY{P:Program}(hok:okG P.globals.size l=true)(c:Nat):¬ Own (mG P) (wG P.globals.size l) c:=by
 rintro ⟨i,o,d,hi,hro,_⟩;unfold okG at hok;simp only [Bq,List.all_eq_true] at hok;obtain ⟨x,hx,rfl,rfl⟩:=Ir l (fun x hx=>Nat.lt_of_lt_of_le (Ax.1 (hok.2 x hx).1) (Bj.1 hok.1)) i o hi;cases hro
theorem Zd{P:Program}{m m':Inj P}(h:EvL lo m A w m' A' w')(hno:∀ c,¬ Own m A c):Low w w':=
 ⟨⟨h.os,h.tape,h.output,h.size,fun k hk=>h.keep k hk (hno k)⟩,h.draws⟩
theorem Wk{P:Program}{m m':Inj P}(h:EvL lo m A w m' A' w')(hno:∀ c,¬ Own m A c):Below w.heap.size w w':=
 ⟨h.os,h.tape,h.output,h.size,fun k hk=>h.keep k hk (hno k)⟩
theorem Sc {P:Program} {X:Bc} (hP:POk P) (hok:okG P.globals.size l=true) {args:List Value} (hcl:args.all (AG 4)=true) (he:(AD P g args .normal).isSome=true)
  (W:World) (hW:Holds W l)
  (h:IJ P X W (mG P) isT ⟨Ly P g args,[],wG P.globals.size l⟩):Calls P g ⟨args⟩ W fun e W'=>e=.returned (.bool true)∧Low W W':=by
 obtain ⟨fr,hfr⟩:=Option.isSome_iff_exists.1 he;have hfo:Ly P g args=fr:=by unfold Ly;rw [hfr];rfl
 rw [hfo] at h;refine (KG (w:=W) hP hfr h (Aet hok hW) gG (AaY hok) (AJ.De fun v hv=>BP 4 v (List.all_eq_true.1 hcl v hv))).mono ?_;rintro e w' ⟨v,v',m',A',h1,rfl,h2,h3⟩;refine ⟨?_,Zd h3 (AaY hok)⟩;cases v with
 |bool b=>
  have h1:b=true:=h1;subst h1;cases h2;rfl
 |_=>cases h1
def mA(P:Program)(l:List (Nat × Nat)):Inj P:=⟨fun i=>if i<P.globals.size then some (i,0) else l[i-P.globals.size]?,fun _=>0,fun _=>0,fun _=>0,fun _ h=>absurd rfl h⟩
theorem OM{P:Program}{l:List (Nat × Nat)}(h:i<P.globals.size):mA P l i=some (i,0):=by
 show (if i<P.globals.size then some (i,0) else l[i-P.globals.size]?)=some (i,0);rw [if_pos h]
theorem RG{P:Program}{l:List (Nat × Nat)}(i:Nat):mA P l (P.globals.size+i)=l[i]? :=by
 show (if P.globals.size+i<P.globals.size then some (P.globals.size+i,0) else l[P.globals.size+i-P.globals.size]?)=l[i]?;rw [Ff (by omega),Nat.add_sub_cancel_left]
theorem W2{P:Program}{rows:List (Nat × List Value × TypeId)}(hg:g≠DU)(h:∀ W,Holds W rows→Calls P g #[] W fun e W'=>e=.returned (.bool true)∧Low W W'){W0:World}(hW:Holds W0 rows)(m0:Inj P):
  KC.Holds P W0 m0 ⟨g,[],[.bool true]⟩:=by
 refine ⟨fun e=>absurd e hg,fun _=>?_⟩;intro m args' W _ hb ha;cases ha;refine (h W fun x hx=>?_).mono ?_
 ·obtain ⟨fr,hc⟩:=hW x hx;exact ⟨fr,by rw [hb.block x.1 (Array.getElem?_eq_some_iff.1 hc).1];exact hc⟩
 ·rintro e W' ⟨rfl,hb'⟩;exact ⟨_,by simp,rfl,hb'⟩
section
variable {H:Type} {enc:TypeId × Value→H}
theorem FJ {a:Assume} {C:Checked} {os:Os} {f:FuncId} {fn:Func} {s:ChangeSpec} {conds:List PathCond} {X:World→Array Value→Prop}
  (hX:∀ (w w':World) (args:Array Value),w.heap=w'.heap→X w args→X w' args)
  (own:ownKnob C.prog.godebug=none) (started:os.Started) (noInit:C.prog.inits.idxOf? f=none) (hfn:C.prog.funcs[f]? =some fn)
  (witness:∃ (w:World) (tape:Tape) (i:Input),w.os=os∧(w.forCall tape i).Shaped C.prog∧i.vars=[]∧Input.okWide C.prog (w.forCall tape i) .any w.heap.size f i∧
   ((s.pre enc C.prog fn conds apart (w.forCall tape i).memory i.args∧X (w.forCall tape i).memory i.args)∧sizedMet enc C.prog fn (OpenSpec.ofChange s) apart (w.forCall tape i).memory i.args)∧a.holds C.prog (lone (Frame.enter C.prog f i.args .normal) [] (w.forCall tape i)))
  (contract:∀ (W:World) (base:Nat) (args:Array Value) (ds gs:List (DataW H)) (before:List MemPlace),
   (∀ (j:Nat) t v,fn.params[j]? =some t→args[j]? =some v→Value.okWide C.prog W .any base t v)→
   DataW.Whole enc C.prog fn.params.toList s.vars apart W args.toList ds gs before→
   conds.all (PathCond.test C.prog ⟨fn.params.toList,ds,s.plain.varTypes C.prog,gs⟩)=true→
   (DataW.weightsEach C.prog (fn.params.toList++s.plain.varTypes C.prog) (ds++gs)).all (·≤reachBytes)=true→X W args→W.ShapedOpen C.prog→
   Calls C.prog f args W fun e W'=>∃ v,e=.returned v∧s.post enc C.prog fn apart fresh handsOn again W args v W'):
  ReturnsInHanded a C os f .any (fun w args=>(s.pre enc C.prog fn conds apart w args∧X w args)∧sizedMet enc C.prog fn (OpenSpec.ofChange s) apart w args) (s.post enc C.prog fn apart fresh handsOn again):=by
 refine returnsInHanded_of_calls own started noInit witness ?_;intro w tape i _ hsh _ hok hpre hholds;obtain ⟨_,_,_,fn',hfn',_,_,_,_,hval⟩:=hok;have e:fn'=fn:=Option.some.inj (hfn'.symm.trans hfn);subst e;obtain ⟨⟨⟨ds,gs,before,hw,hc⟩,hx⟩,hz⟩:=hpre;have hw':=DataW.Whole.of_heap (w':=w.forCall tape i) (by rfl) hw;refine (contract (w.forCall tape i) w.heap.size i.args ds gs before hval hw' hc (hz.weights hw) (hX _ _ _ (by rfl) hx) hsh).mono fun e W' ⟨v,he,hp⟩=>?_;subst he;exact ChangeSpec.post_blind hp
variable {P:Program}
theorem Nu {f:Func} {s:ChangeSpec} {W':World} {args:Array Value} {v:Value} {ds gs:List (DataW H)} {before pa pv:List MemPlace}
  (hW:DataW.Whole enc P f.params.toList s.vars apart W args.toList ds gs before)
  (hres:∀ (b:Nat) (sp:Nat→Bool) (hd:Bool),DataW.TrodAll enc P W' b sp hd f.resultTypes.toList (v.resultList f.resultTypes.size) (s.fn H (ds++gs)).results [])
  (hargs:∀ sp:Nat→Bool,(∀ p∈before,sp p.block=true)→DataW.TrodAll enc P W' 0 sp true f.params.toList args.toList (s.fn H (ds++gs)).args pa)
  (hvars:∀ sp:Nat→Bool,(∀ p∈before,sp p.block=true)→DataW.TrodVars enc P W' sp s.vars (s.fn H (ds++gs)).vars pv)
  (hps:before=pa++pv) (hb:Below W.heap.size W W')
  (hok:∀ (j:Nat) (t:TypeId) (r:Value),f.resultTypes[j]? =some t→(v.resultList f.resultTypes.size)[j]? =some r→Value.okWide P W' .any 0 t r):
  s.post enc P f apart fresh handsOn again W args v W':=by
 have hlt:∀ p∈before,p.block<W.heap.size:=fun p hp=>hW.lt p hp;have hold:∀ p∈before,(fun b=>decide (b<W.heap.size)) p.block=true:=fun p hp=>by simpa using hlt p hp
 refine ⟨ds,gs,before,[],pa,pv,hW,hres _ _ _,hargs _ hold,hvars _ hold,World.keptBut_mono (fun p hp=>⟨hp,?_⟩) (hb.frame (·∈before)),fun _=>?_⟩
 ·rw [hps,Mz] at hp;exact Or.inr hp
 ·obtain ⟨_,_,_,_,_,hz,hn⟩:=hW;refine ⟨hok,_,_,([]++pa)++pv,⟨[]++pa,pv,trodAll_append (hargs _ (fun _ _=>rfl)) (hres _ _ _),hvars _ (fun _ _=>rfl),rfl,?_,?_⟩,?_⟩
  ·intro b off hp;have hin:MemPlace.cell b off∈before:=by rw [hps];simpa using hp
   rw [hb.frozen (hlt _ hin)];exact hz b off hin
  ·intro ha
   have:=hn ha
   rw [hps] at this
   simpa using this
  ·intro p hp _;rw [hps]
   simpa using hp
end
theorem Kt {P:Program} (hsh:W.ShapedOpen P) {name:String} {g t:Nat} {cs:List Value} (hg:P.globalNamed name=some g) (hlt:g<P.globals.size) (hz:((((begin P (fun _ _=>0) default).world.heap[g]?).bind Obj.row?).map (·.2))=some t)
  (hv:W.var? P name=some ⟨cs⟩):∃ fr,W.heap[g]? =some (.cells ⟨cs⟩ t fr):=by
 cases hq:((begin P (fun _ _=>0) default).world.heap[g]?).bind Obj.row? with
 |none=>rw [hq] at hz;cases hz
 |some x=>
  obtain ⟨zero,t'⟩:=x;rw [hq] at hz;simp only [Option.map_some,Oi] at hz;subst hz;obtain ⟨cs',h1,_⟩:=hsh.1 g zero t' hlt hq;unfold World.var? at hv;rw [hg] at hv;simp only [Option.bind_some,h1,Oi] at hv;subst hv;exact ⟨_,h1⟩
end Go.Abs
namespace Go.Abs
variable {s s':ASt} {Q K:Value→AW→Prop} {A:AW} {g:FuncId} {args:List Value}
section
variable {P:Program} {X:Bc} {W0:World} {m0:Inj P}
def WP(P:Program)(X:Bc)(W0:World)(m0:Inj P)(s:ASt)(Q:Value→AW→Prop):Prop:=
 ∀ (f0:FuncId) (base lo:Nat) (cs0:List Frame) (m:Inj P) (f:Frame) (csW:List Frame) (w:World),CH P X f0 base lo m s f csW w→Old W0 m0 m s.w w→
  ∃ v A',Q v A'∧∃ v' m' w' f',Steps P (lone f (csW++cs0) w) (lone f' cs0 w')∧AI m' v v'∧EvL base m s.w w m' A' w'∧f'.leaving P w' (.returned v')∧f'.fn=f0
theorem Reach.wp{L:List ASt}(h:Reach P X W0 m0 s L)(h':∀ x∈L,WP P X W0 m0 x Q):WP P X W0 m0 s Q:=by
 intro f0 base lo cs0 m f csW w hr ho;obtain ⟨s',hs',lo1,m1,f1,cs1,w1,t1,t2,t3⟩:=h f0 base lo cs0 m f csW w hr ho;obtain ⟨v,A',hq,v',m',w',f',u1,u2,u3,u4,u5⟩:=h' s' hs' f0 base lo1 cs0 m1 f1 cs1 w1 t3 (ho.next t2);exact ⟨v,A',hq,v',m',w',f',t1.trans u1,u2,t2.trans u3,u4,u5⟩
theorem Reach.wp1(h:Reach P X W0 m0 s [s'])(h':WP P X W0 m0 s' Q):WP P X W0 m0 s Q:=h.wp fun x hx=>by simp at hx;subst hx;exact h'
theorem Res.wp{l:List (Value × AW)}(h:Res P X W0 m0 s l)(hq:∀ x∈l,Q x.1 x.2):WP P X W0 m0 s Q:=by
 intro f0 base lo cs0 m f csW w hr ho;obtain ⟨x,hx,r⟩:=h f0 base lo cs0 m f csW w hr ho;exact ⟨x.1,x.2,hq x hx,r⟩
theorem Uq{fr c:AFr}{rest:List AFr}(hk:fr.kind=.normal)(hro:fr.roundOf=none)(h:WP P X W0 m0 ⟨fr,[],A⟩ K)(h':∀ v A',K v A'→WP P X W0 m0 ⟨c.finish v,rest,A'⟩ Q):
  WP P X W0 m0 ⟨fr,c::rest,A⟩ Q:=by
 intro f0 base lo cs0 m f csW w hr ho;obtain ⟨lo1,g,l',rfl,h1,h2,h3⟩:=hr.stk.inv;have hbase:=hr.stk.base;have hlo:=hr.below;have hs:CH P X fr.fn lo lo m ⟨fr,[],A⟩ f [] w:=⟨hr.rel,hr.glob,hr.below,hr.top,.nil lo (Nl _),⟨hk,rfl,hro⟩⟩;obtain ⟨v,A',hK,v',m',w',f',u1,u2,u3,u4,u5⟩:=h fr.fn lo lo (g::l'++cs0) m f [] w hs ho;have hnext:A.next≤A'.next:=u3.next;have hsim:Sim P X f0 base cs0 m A w (lone f (g::l'++cs0) w) ⟨c.finish v,rest,A'⟩:=by
  refine ⟨lo1,m',g.finish v',l',w',?_,u3.On hbase,u3.rel,hr.glob.mono u3.ext,?_,?_,?_,?_⟩
  ·exact u1.trans (.one (step_leave_returned u4))
  ·show lo1≤A'.next
   have:lo≤A.next:=hlo
   omega
  ·refine (h2.mono (A':=A') u3.ext (fun i hi=>u3.same i hi) (Nl lo)).finish u2 ?_
   have:lo≤A.next:=hlo
   show lo≤A'.next;omega
  ·exact h3.mono u3.ext fun i hi=>u3.same i (by omega)
  ·have hb:Bot f0 (c::rest):=hr.bot;exact hb.finish v
 obtain ⟨lo2,m2,f2,cs2,w2,t1,t2,t3⟩:=hsim;obtain ⟨v2,A2,hq,v3,m3,w3,f3,s1,s2,s3,s4,s5⟩:=h' v A' hK f0 base lo2 cs0 m2 f2 cs2 w2 t3 (ho.next t2);exact ⟨v2,A2,hq,v3,m3,w3,f3,t1.trans s1,s2,t2.trans s3,s4,s5⟩
def Wc(P:Program)(X:Bc)(W0:World)(m0:Inj P)(g:FuncId)(args:List Value)(A:AW)(K:Value→AW→Prop):Prop:=
 (AD P g args .normal).isSome=true∧WP P X W0 m0 ⟨Ly P g args,[],A⟩ K
theorem QF (hP:POk P) {m:Inj P} {w:World} {args':List Value} (h:Wc P X w m g args A Q) (r:Rel m A w) (hG:GOk m)
  (hno:∀ c,¬ Own m A c) (ha:AJ m args args'):Calls P g ⟨args'⟩ w fun e w'=>∃ v v' m' A',Q v A'∧e=.returned v'∧AI m' v v'∧EvL A.next m A w m' A' w':=by
 intro cs0;obtain ⟨fr,he⟩:=Option.isSome_iff_exists.1 h.1;have h2:=h.2;unfold Ly at h2;rw [he] at h2;obtain ⟨g1,g2,g3,g4⟩:=IF (X:=X) (A:=A) hP he ha (.inl rfl) A.next A.next;have hs:CH P X g A.next A.next m ⟨fr,[],A⟩ (Frame.enter P g ⟨args'⟩ .normal) [] w:=⟨r,hG,Nl _,g1,.nil _ (Nl _),⟨g2,g3,g4⟩⟩;obtain ⟨v,A',hq,v',m',w',f',k1,k2,k3,k4,k5⟩:=h2 g A.next A.next cs0 m _ [] w hs ⟨.refl m,.refl _ _,fun c _=>hno c⟩;exact ⟨.returned v',w',f',⟨v,v',m',A',hq,rfl,k2,k3⟩,k1,k5,k4⟩
theorem YD (hX:XOk P X) (hP:POk P) (h:Ba P X s=.calls g args s')
  (hk:∀ (m:Inj P) (w:World) (args':List Value),Rel m s'.w w→m0.le m→Go.RowKit.Below W0.heap.size W0 w→AJ m args args'→
   Calls P g ⟨args'⟩ w fun e w'=>∃ v v' m' A',K v A'∧e=.returned v'∧AI m' v v'∧EvL s'.w.next m s'.w w m' A' w')
  (h':∀ v A',K v A'→WP P X W0 m0 ⟨s'.fr.finish v,s'.cs,A'⟩ Q):WP P X W0 m0 s Q:=by
 intro f0 base lo cs0 m f csW w hr ho;have hs:=FB (cs0:=cs0) hX hP hr;rw [h] at hs;obtain ⟨lo',m',f',cs',w',args',t1,t2,t3,t4,t5,t6,t7,t8⟩:=hs;have ho':=ho.next t2;obtain ⟨e,w'',fr,⟨v,v',m2,A2,hK,rfl,hv,hev⟩,hst,_,hlv⟩:=hk m' w' args' t2.rel ho'.le ho'.below t3 (f'::(cs'++cs0));have hst:Steps P (lone (Frame.enter P g ⟨args'⟩ .normal) (f'::(cs'++cs0)) w') (lone fr (f'::(cs'++cs0)) w''):=hst;have hbase:=t7.base;have hnext:s'.w.next≤A2.next:=hev.next;have hev0:EvL base m' s'.w w' m2 A2 w'':=hev.On (by omega);have hsim:Sim P X f0 base cs0 m s.w w (lone f (csW++cs0) w) ⟨s'.fr.finish v,s'.cs,A2⟩:=
  ⟨lo',m2,f'.finish v',cs',w'',t1.trans (hst.trans (.one (step_leave_returned hlv))),t2.trans hev0,hev.rel,t4.mono hev.ext,(by show lo'≤A2.next;omega),
   (t6.mono hev.ext hev.same hnext).finish hv (Nl _),t7.mono hev.ext fun i hi=>hev.same i (by omega),t8.finish v⟩
 obtain ⟨lo2,m3,f3,cs3,w3,u1,u2,u3⟩:=hsim;obtain ⟨v2,A3,hq,v3,m4,w4,f4,s1,s2,s3,s4,s5⟩:=h' v A2 hK f0 base lo2 cs0 m3 f3 cs3 w3 u3 (ho.next u2);exact ⟨v2,A3,hq,v3,m4,w4,f4,u1.trans s1,s2,u2.trans s3,s4,s5⟩
def Aa(r:Option Value)(K:Value→Prop):Prop:=∃ v,r=some v∧K v
def AQ(r:Option AW)(K:AW→Prop):Prop:=∃ A,r=some A∧K A
def Al(r:R Value)(K:Value→AW→Prop):Prop:=∃ v A,r=.ok v A∧K v A
def Afz(P:Program)(W0:World)(m0:Inj P)(g:FuncId)(args:List Value)(A:AW)(K:Value→AW→Prop):Prop:=
 ∀ (m:Inj P) (w:World) (args':List Value),Rel m A w→m0.le m→Go.RowKit.Below W0.heap.size W0 w→AJ m args args'→
  Calls P g ⟨args'⟩ w fun e w'=>∃ v v' m' A',K v A'∧e=.returned v'∧AI m' v v'∧EvL A.next m A w m' A' w'
def knW(P:Program)(W0:World)(m0:Inj P)(g:FuncId)(args:List Value)(A:AW)(K:Value→AW→Prop):Prop:=
 (∃ vals,g≠DU∧KC.Holds P W0 m0 ⟨g,args,vals⟩∧vals.all (AG 4)=true∧∀ v∈vals,K v A)∨Afz P W0 m0 g args A K
def toW(P:Program)(X:Bc)(W0:World)(m0:Inj P)(g:FuncId)(args:List Value)(A:AW)(K:Value→AW→Prop):Prop:=
 bif Em g X.known then knW P W0 m0 g args A K else Wc P X W0 m0 g args A K
abbrev WL(fn:FuncId)(tm:Tm)(assign body:Code)(l:Nat):AFr:=⟨fn,tm,[.code assign,.beginRound,.code body],[],.run,.normal,some l,false⟩
def Pp(P:Program)(X:Bc)(W0:World)(m0:Inj P)(l:Nat)(fn:FuncId)(tm:Tm)(assign body:Code)(A:AW)(K:Value→AW→Prop):Prop:=
 ∀ (c:AFr) (rest:List AFr) (Q:Value→AW→Prop),(∀ v A',K v A'→WP P X W0 m0 ⟨c.finish v,rest,A'⟩ Q)→WP P X W0 m0 ⟨WL fn tm assign body l,c::rest,A⟩ Q
def O7(es:List MapEntry)(since:Nat)(seen:List Nat):List (Option MapEntry):=
 (if ((es.filter fun e=>!seen.contains e.born).filter fun e=>Nat.blt e.born since).isEmpty then [none] else [])++
  (((es.filter fun e=>!seen.contains e.born).filter fun e=>Nat.blt e.born since)++((es.filter fun e=>!seen.contains e.born).filter fun e=>Nat.ble since e.born)).map some
def Yq(A:AW)(r:Nat)(K:Value→AW→Prop):Prop:=
 ∃ m since seen last es clock ro,A.get r=some (.mit (some m) since seen last)∧A.get m=some (.map es clock ro)∧(!seen.isEmpty&&!es.isEmpty&&es.all (fun e=>Nat.ble last e.born))=false∧
  ∀ c∈O7 es since seen,(match c with
   |some e=>K (.tuple #[.bool true,e.key,e.val]) (A.put r (.mit (some m) since (seen++[e.born]) clock))
   |none=>K (.tuple #[.bool false]) A)
def anW(P:Program)(X:Bc)(W0:World)(m0:Inj P)(r:R AN)(K:Value→AW→Prop):Prop:=
 (∃ v A,r=.ok (.value v) A∧K v A)∨(∃ g args A,r=.ok (.enter g args) A∧toW P X W0 m0 g args A K)∨
  (∃ l fn tm assign body A,r=.ok (.round l fn tm assign body) A∧Pp P X W0 m0 l fn tm assign body A K)∨(∃ it A,r=.ok (.rangeNext it) A∧Yq A it K)
def AaU(c a b:Value)(K:Value→Prop):Prop:=∃ t,c=.bool t∧K (bif t then a else b)
def Ad(P:Program)(A:AW)(t:TypeId)(a:Value):Option Value:=match a with | .pointer (some a)=>CC P A t a | _=>none
def Am(P:Program)(A:AW)(t:TypeId)(a x:Value):Option AW:=match a with | .pointer (some a)=>Iq P A t a x | _=>none
def Cq(A:AW)(cs:List Value)(e:TypeId):R Value:=match A.newRow cs e with | some (a,A')=>.ok (.pointer (some a)) A' | none=>.fail ""
def Cd(P:Program)(A:AW)(e:TypeId):R Value:=match C2 P e with | some z=>Cq A z.cells.toList e | none=>.fail ""
def SL(A:AW):R Value:=match A.new (.map [] 0 false) with | some (b,A')=>.ok (.map (some b)) A' | none=>.fail ""
def Eo(P:Program)(t:TypeId)(x:Value):Option Value:=match P.underlying t with | some (.interface _)=>none | some _=>some (.iface t x) | none=>none
def Ar(t:Value)(i:Nat):Option Value:=match t with | .tuple vs=>vs.toList[i]? | _=>none
def N4(P:Program)(A:AW)(t:TypeId)(m k:Value):R Value:=match Iy P A t m k with | some (v,A')=>.ok v A' | none=>.fail ""
def BQ(x:Value):Option Value:=match x with | .pointer none=>none | .nilIface=>none | .nilFunc=>none | .func (.method _) _ _=>none | x=>some x
def EL(P:Program)(X:Bc)(A:AW)(f:Value)(args:List Value):R AN:=match f with | .func fn first captured=>BU P X A (.fn fn captured) (first.toList++args) | _=>.fail ""
def P6(x:Value)(r:List Value):Option Value:=match x with | .int k a=>(match P7 a r with | some n=>some (.int k n) | none=>none) | _=>none
def Aa5(x:Value)(r:List Value):Option Value:=match x with | .int k a=>(match RE a r with | some n=>some (.int k n) | none=>none) | _=>none
def We(P:Program)(X:Bc)(W0:World)(m0:Inj P)(ρ:Operand→Value)(c:Call)(type:TypeId)(A:AW)(K:Value→AW→Prop):Prop:=
 match c.callee,c.argTypes.toList,c.args.toList with
 |.builtin .len,[t],[x]=>Aa (Br P A t (ρ x)) fun v=>K v A
 |.builtin .append,[t,t2],[s,x]=>Al (AT P A t t2 (ρ s) (ρ x)) K
 |.builtin .copy,[t,_],[d,x]=>Al (G0 P A t (ρ d) (ρ x)) K
 |.builtin .delete,[t,_],[m,k]=>AQ (Fw P A t (ρ m) (ρ k)) fun A=>K (.tuple #[]) A
 |.builtin .clear,[t],[x]=>AQ (O6 P A t (ρ x)) fun A=>K (.tuple #[]) A
 |.builtin .min,_,x::r=>Aa (P6 (ρ x) (r.map ρ)) fun v=>K v A
 |.builtin .max,_,x::r=>Aa (Aa5 (ρ x) (r.map ρ)) fun v=>K v A
 |.value (.func f),_,args=>bif IA P f then toW P X W0 m0 f (args.map ρ) A K else anW P X W0 m0 (C9 P X A f (args.map ρ)) K
 |.value f,_,args=>anW P X W0 m0 (EL P X A (ρ f) (args.map ρ)) K
 |.invoke recv name,_,args=>anW P X W0 m0 (Dd P X A (ρ recv) name (args.map ρ)) K
 |.builtin b,ts,args=>anW P X W0 m0 (Ca P A b ts type (args.map ρ)) K
def opW(P:Program)(X:Bc)(W0:World)(m0:Inj P)(ρ:Operand→Value)(o:Oper)(A:AW)(K:Value→AW→Prop):Prop:=
 match o.op with
 |.move x=>K (ρ x) A
 |.assign x=>K (ρ x) A
 |.pick c a b=>AaU (ρ c) (ρ a) (ρ b) fun v=>K v A
 |.alloc e=>Al (Cd P A e) K
 |.box e x=>Al (Cq A (ρ x).cells.toList e) K
 |.build t parts=>Aa (Aw P t (EK parts.toList ρ)) fun v=>K v A
 |.buildSlice t len parts=>Al (Aq P A t len (EK parts.toList ρ)) K
 |.load t a=>Aa (Ad P A t (ρ a)) fun v=>K v A
 |.store t a x=>AQ (Am P A t (ρ a) (ρ x)) fun A=>K undef A
 |.nilCheck x=>Aa (BQ (ρ x)) fun v=>K v A
 |.binOp op t x y _=>Aa (Ah P op t x y (ρ x) (ρ y)) fun v=>K v A
 |.unOp op _ x=>Aa (unA P op (ρ x)) fun v=>K v A
 |.convert s d x=>Al (AK P A s d (ρ x)) K
 |.makeInterface t x=>Aa (Eo P t (ρ x)) fun v=>K v A
 |.makeFunc fn first captured=>(match fn with | .yield _=>False | _=>K (.func fn ⟨first.toList.map ρ⟩ ⟨captured.toList.map ρ⟩) A)
 |.makeMap _ none=>Al (SL A) K
 |.makeSlice t l c=>Al (Cs P A t (ρ l) (ρ c)) K
 |.slice t x lo hi mx=>Aa (Cc P A t (ρ x) (lo.map ρ) (hi.map ρ) (mx.map ρ)) fun v=>K v A
 |.fieldAddr s x f=>Aa (Ac P s (ρ x) f) fun v=>K v A
 |.field s x f=>Aa (OX P s (ρ x) f) fun v=>K v A
 |.indexAddr t x ix=>Aa (Aj P t (ρ x) (ρ ix)) fun v=>K v A
 |.index t x ix=>Aa (OV P t (ρ x) (ρ ix)) fun v=>K v A
 |.lookup t x k ok=>Aa (C5 P A t (ρ x) (ρ k) ok) fun v=>K v A
 |.mapUpdate t m k x=>AQ (BV P A t (ρ m) (ρ k) (ρ x)) fun A=>K undef A
 |.insert t m k x=>AQ (BV P A t (ρ m) (ρ k) (ρ x)) fun A=>K undef A
 |.mapEntry t m k=>Al (N4 P A t (ρ m) (ρ k)) K
 |.entryStore _ m s x=>AQ (Gt A (ρ m) (ρ s) (ρ x)) fun A=>K undef A
 |.typeAssert x xt at_ ok=>Aa (Gj P (ρ x) xt at_ ok) fun v=>K v A
 |.extract t ix=>Aa (Ar (ρ t) ix) fun v=>K v A
 |.call c=>We P X W0 m0 ρ c o.type A K
 |_=>anW P X W0 m0 (AL P X ρ o A) K
def Pr(P:Program)(X:Bc)(W0:World)(m0:Inj P)(r:R AN)(K:Value→AW→Prop):Prop:=
 (∃ v A,r=.ok (.value v) A∧K v A)∨(∃ A,r=.ok .skip A∧K undef A)∨(∃ g args A,r=.ok (.enter g args) A∧toW P X W0 m0 g args A K)∨
  (∃ l fn tm assign body A,r=.ok (.round l fn tm assign body) A∧Pp P X W0 m0 l fn tm assign body A K)∨(∃ it A,r=.ok (.rangeNext it) A∧Yq A it K)
theorem anW.QA{r:R AN}(h:anW P X W0 m0 r K):Pr P X W0 m0 r K:=by
 rcases h with h | h | h
 ·exact .inl h
 ·exact .inr (.inr (.inl h))
 ·exact .inr (.inr (.inr h))
end
variable {r:Option AW} {A:AW} {K:Value→AW→Prop} {why:String}
section
variable {P:Program} {X:Bc} {W0:World} {m0:Inj P}
theorem C8{r:Option Value}(h:Aa r fun v=>K v A){why:String}:Pr P X W0 m0 (match (generalizing:=false) r with | some v=>.ok (.value v) A | none=>.fail why) K:=by
 obtain ⟨v,rfl,hk⟩:=h;exact .inl ⟨v,A,rfl,hk⟩
theorem M8(h:AQ r fun A=>K undef A){why:String}:Pr P X W0 m0 (match (generalizing:=false) r with | some A=>.ok .skip A | none=>.fail why) K:=by
 obtain ⟨v,rfl,hk⟩:=h;exact .inr (.inl ⟨v,rfl,hk⟩)
theorem Od(h:AQ r fun A=>K (.tuple #[]) A){why:String}:Pr P X W0 m0 (match (generalizing:=false) r with | some A=>.ok (.value (.tuple #[])) A | none=>.fail why) K:=by
 obtain ⟨v,rfl,hk⟩:=h;exact .inl ⟨_,v,rfl,hk⟩
theorem GY{r:R Value}(h:Al r K):Pr P X W0 m0 (match (generalizing:=false) r with | .ok v A=>.ok (.value v) A | .panic v A=>.panic v A | .fail y=>.fail y) K:=by
 obtain ⟨v,A,rfl,hk⟩:=h;exact .inl ⟨v,A,rfl,hk⟩
theorem Cn{v:Value}(h:K v A):Pr P X W0 m0 (.ok (.value v) A) K:=.inl ⟨v,A,rfl,h⟩
theorem Sd{ρ:Operand→Value}(hρ:∀ f,ρ (.func f)=.func (.func f) #[] #[]){c:Call}{type:TypeId}(h:We P X W0 m0 ρ c type A K):
  Pr P X W0 m0 (match (generalizing:=false) C7 ρ c type with | some d=>BU P X A d.target d.args.toList | none=>.fail "call no function") K:=by
 obtain ⟨callee,args,ts⟩:=c;unfold We at h;simp only at h;unfold C7;split at h
 ·rename_i h1 h2;simp only [h1,h2,BU,Ca,Mc,Mn];exact C8 h
 ·rename_i h1 h2;simp only [h1,h2,BU,Ca,Mc,Mn];exact GY h
 ·rename_i h1 h2;simp only [h1,h2,BU,Ca,Mc,Mn];exact GY h
 ·rename_i h1 h2;simp only [h1,h2,BU,Ca,Mc,Mn];exact Od h
 ·rename_i h1 h2;simp only [h1,h2,BU,Ca,Mc,Mn];exact Od h
 ·rename_i x r h2;simp only [h2,BU,Mc];obtain ⟨v,hv,hk⟩:=h;unfold P6 at hv;split at hv
  ·rename_i k a he;split at hv
   ·rename_i n hn;cases hv;simp only [he,Ca,hn];exact Cn hk
   ·cases hv
  ·cases hv
 ·rename_i x r h2;simp only [h2,BU,Mc];obtain ⟨v,hv,hk⟩:=h;unfold Aa5 at hv;split at hv
  ·rename_i k a he;split at hv
   ·rename_i n hn;cases hv;simp only [he,Ca,hn];exact Cn hk
   ·cases hv
  ·cases hv
 ·rename_i f;simp only [hρ,BU,List.nil_append,List.append_nil];cases hb:IA P f with
  |true=>
   rw [hb,Ct] at h;unfold C9;rw [hb,Ct];exact .inr (.inr (.inl ⟨f,_,A,rfl,h⟩))
  |false=>
   rw [hb,Cf] at h;exact h.QA
 ·simp only;have h:=h.QA;unfold EL at h;split at h
  ·rename_i he;simp only [he];exact h
  ·rcases h with ⟨v,A',h,_⟩ | ⟨A',h,_⟩ | ⟨g,aS,A',h,_⟩ | ⟨l,fn,tm,a,b,A',h,_⟩ | ⟨it,A',h,_⟩<;>cases h
 ·simp only [BU];exact h.QA
 ·simp only [BU];exact h.QA
theorem P3{ρ:Operand→Value}(hρ:∀ f,ρ (.func f)=.func (.func f) #[] #[]){o:Oper}(h:opW P X W0 m0 ρ o A K):Pr P X W0 m0 (AL P X ρ o A) K:=by
 obtain ⟨dst,op,type,pos,after,guard⟩:=o;unfold opW at h;unfold AL;cases op with
 |move x=>exact Cn h
 |assign x=>exact Cn h
 |pick c a b=>
  obtain ⟨t,h1,h2⟩:=h;simp only [h1];cases t<;>exact Cn h2
 |alloc e=>
  obtain ⟨v,A',h1,h2⟩:=h;unfold Cd Cq at h1;split at h1
  ·rename_i z hz;simp only [hz];split at h1
   ·rename_i a A2 ha;cases h1;simp only [ha];exact Cn h2
   ·cases h1
  ·cases h1
 |box e x=>
  obtain ⟨v,A',h1,h2⟩:=h;unfold Cq at h1;split at h1
  ·rename_i a A2 ha;cases h1;simp only [ha];exact Cn h2
  ·cases h1
 |build t parts=>exact C8 h
 |buildSlice t len parts=>exact GY h
 |load t a=>
  obtain ⟨v,h1,h2⟩:=h;unfold Ad at h1;split at h1
  ·rename_i ad he;simp only [he];rw [h1];exact Cn h2
  ·cases h1
 |store t a x=>
  obtain ⟨v,h1,h2⟩:=h;unfold Am at h1;split at h1
  ·rename_i ad he;simp only [he];rw [h1];exact .inr (.inl ⟨_,rfl,h2⟩)
  ·cases h1
 |nilCheck x=>
  obtain ⟨v,h1,h2⟩:=h;unfold BQ at h1;split at h1
  ·cases h1
  ·cases h1
  ·cases h1
  ·cases h1
  ·cases h1;simp only;exact Cn h2
 |binOp op t x y yt=>exact C8 h
 |unOp op t x=>exact C8 h
 |convert s d x=>exact GY h
 |makeInterface t x=>
  obtain ⟨v,h1,h2⟩:=h;unfold Eo at h1;simp only;cases hu:P.underlying t with
  |none=>rw [hu] at h1;cases h1
  |some d=>
   rw [hu] at h1;cases d<;>first | (cases h1;done) | (cases h1;exact Cn h2)
 |makeFunc fn first captured=>
  simp only at h ⊢;split at h
  ·exact h.elim
  ·split
   ·simp_all
   ·exact Cn h
 |makeMap t r=>
  cases r with
  |none=>
   obtain ⟨v,A',h1,h2⟩:=h;unfold SL at h1;simp only;split at h1
   ·rename_i b A2 hb;cases h1;simp only [hb];exact Cn h2
   ·cases h1
  |some r=>exact h.QA
 |makeSlice t l c=>exact GY h
 |slice t x lo hi mx=>exact C8 h
 |fieldAddr s x f=>exact C8 h
 |field s x f=>exact C8 h
 |indexAddr t x ix=>exact C8 h
 |index t x ix=>exact C8 h
 |lookup t x k ok=>exact C8 h
 |mapUpdate t m k x=>exact M8 h
 |insert t m k x=>exact M8 h
 |mapEntry t m k=>
  obtain ⟨v,A',h1,h2⟩:=h;unfold N4 at h1;simp only;split at h1
  ·rename_i b A2 hb;cases h1;simp only [hb];exact Cn h2
  ·cases h1
 |entryStore t m s x=>exact M8 h
 |typeAssert x xt at_ ok=>exact C8 h
 |extract t ix=>
  obtain ⟨v,h1,h2⟩:=h;unfold Ar at h1;simp only;split at h1
  ·rename_i vs he;simp only [he];rw [h1];exact Cn h2
  ·cases h1
 |call c=>exact Sd hρ h
 |_=>exact h.QA
end
def Ae(v:Value)(p q:Prop):Prop:=(∃ b,v=.bool b)∧(v=.bool true→p)∧(v=.bool false→q)
def BX(a b:List Item)(p:Prop):Prop:=a=b∧p
def eqW(a b:Value)(p:Prop):Prop:=a=b∧p
def Cm(c:Option QR)(A:AW)(v:Value)(p:Prop):Prop:=(∃ f,c=some f∧Cb A v f=true)∧p
def IL(kt kf:Nat):Operand→Option Bool
 |.const (.bool b)=>some b
 |.tmp t=>bif kt.testBit t then some true else bif kf.testBit t then some false else none
 |_=>none
def TG(kt kf:Nat):Op→Option Bool
 |.move x=>IL kt kf x
 |.assign x=>IL kt kf x
 |.pick c a b=>(match IL kt kf c with | some true=>IL kt kf a | some false=>IL kt kf b | none=>none)
 |_=>none
def Jb(kt kf:Nat):Op→Option Operand
 |.pick c a b=>(match IL kt kf c with | some true=>some a | some false=>some b | none=>none)
 |_=>none
def clr(k d:Nat):Nat:=bif k.testBit d then k ^^^ (1 <<< d) else k
def Lr(k d:Nat):Nat:=bif k.testBit d then k else k ^^^ (1 <<< d)
def knT(kt d:Nat):Option Bool→Nat
 |some true=>Lr kt d
 |_=>clr kt d
def knF(kf d:Nat):Option Bool→Nat
 |some false=>Lr kf d
 |_=>clr kf d
def AaZ(kt:Nat):Operand→Nat
 |.tmp t=>Lr kt t
 |_=>kt
def Oe:List Item→Nat
 |.inBlock id::_=>id
 |_=>0
def oneOf:List Value→Value
 |[v]=>v
 |l=>.tuple ⟨l⟩
def I6(ops:Array Oper)(j:Nat):Option Tmp:=match ops.toList[j]? with | some o=>o.dst | none=>none
def knU(ku d:Nat)(skipped:Bool):Nat:=bif skipped then Lr ku d else clr ku d
def UE(kt kf ku:Nat)(ops:Array Oper)(o:Oper):Option Bool:=
 match o.guard with
 |none=>some true
 |some (j,want)=>(match I6 ops j with
  |none=>none
  |some d=>bif ku.testBit d then some false else (match IL kt kf (.tmp d) with | some b=>some (b==want) | none=>none))
section
variable (P:Program) (X:Bc) (W0:World) (m0:Inj P)
def PT(A:AW)(tm:Tm)(Q:Value→AW→Prop):List ResultVar→List Value→Prop
 |[],acc=>Q (oneOf acc.reverse) A
 |.tmp t::r,acc=>PT A tm Q r (tm.get t::acc)
 |.cell a t::r,acc=>Aa (Ad P A t (tm.get a)) fun v=>PT A tm Q r (v::acc)
def OC(fn:FuncId)(A:AW)(tm:Tm)(Q:Value→AW→Prop):Prop:=
 match P.funcs[fn]? with
 |some f=>PT P A tm Q f.results.toList []
 |none=>False
def G8:List Nat→AW→(AW→Prop)→Prop
 |[],A,K=>K A
 |D::r,A,K=>A.get D=some (.deferred (some []))∧G8 r (A.put D (.deferred none)) K
def RJ(A:AW)(l:Nat)(j:Option Code)(K:Value→AW→Prop):Prop:=
 ∃ r,A.get l=some (.loop r)∧K (.bool j.isNone) (A.put l (.loop { r with state:=if j.isNone then .ready else .done,pending:=j }))
def H0(fn:FuncId)(ro:Option Nat)(ds:List Nat)(A:AW)(tm:Tm)(Q:Value→AW→Prop)(j:Option Code):Prop:=
 match ro with
 |none=>(match j with | none=>G8 ds A fun A=>OC P fn A tm Q | some .ret=>G8 ds A fun A=>OC P fn A tm Q | _=>False)
 |some l=>(match ds with | []=>RJ A l j Q | _=>False)
def Sh(A:AW)(l:Nat)(K:AW→Prop):Prop:=∃ r,A.get l=some (.loop r)∧r.state=.ready∧K (A.put l (.loop { r with state:=.busy }))
def Vv(A:AW)(fn:FuncId)(tm:Tm)(ps:List Tmp)(assign body:Code)(K:Nat→Nat→AW→Prop):Prop:=
 ∃ D A1 l A2,A.new (.deferred (some []))=some (D,A1)∧A1.new (.loop { state:=.ready,pending:=none,fn:=fn,tm:=tm,params:=ps,assign:=assign,body:=body,defers:=D })=some (l,A2)∧K D l A2
def SB(tm:Tm)(l:List (Nat × Value)):Tm:=l.foldl (fun tm p=>tm.set p.1 p.2) tm
def M7(A:AW)(l:Nat)(p q:AW→Prop):Prop:=
 ∃ r,A.get l=some (.loop r)∧r.state≠ .busy∧((r.pending=none∧p (A.put l (.loop { r with state:=.exhausted })))∨(r.pending=some .ret∧q (A.put l (.loop { r with state:=.exhausted }))))
def AbE(A:AW)(f:Value)(args:List Value)(K:Value→AW→Prop):Prop:=∃ g aS A',EL P X A f args=.ok (.enter g aS) A'∧Wc P X W0 m0 g aS A' K
def Aa2(ds:List Nat)(p:Prop):Prop:=match ds with | []=>p | _=>False
def AM(fn:FuncId)(T:Nat→List Item)(L:Nat→List Tmp)(S:Nat→List Value→AW→Prop)(Q:Value→AW→Prop)(ro:Option Nat):Nat→Tm→List Item→Bool→Nat→Nat→Nat→List Nat→AW→Prop
 |0,_,_,_,_,_,_,_,_=>False
 |n+1,tm,todo,dr,kt,kf,ku,ds,A=>
  match todo with
  |[]=>bif dr then False else H0 P fn ro ds A tm Q none
  |.code .ret::_=>bif dr then False else H0 P fn ro ds A tm Q (some .ret)
  |.beginRound::k=>bif dr then False else (match ro with | some l=>Sh A l fun A'=>AM fn T L S Q ro n tm k dr kt kf ku ds A' | none=>False)
  |.code (.rangeFunc f ps assign body)::k=>bif dr then False else (match ro with
   |some _=>False
   |none=>Vv A fn tm ps.toList assign body fun D l A1=>AbE P X W0 m0 A1 (BJ tm f) [.func (.yield l) #[] #[]] fun _ A'=>
     M7 A' l (fun A''=>AM fn T L S Q ro n tm k dr kt kf ku (D::ds) A'') (fun A''=>G8 (D::ds) A'' fun A3=>OC P fn A3 tm Q))
  |.code .skip::k=>AM fn T L S Q ro n tm k dr kt kf ku ds A
  |.code (.label _)::k=>AM fn T L S Q ro n tm k dr kt kf ku ds A
  |.inBlock _::k=>AM fn T L S Q ro n tm k dr kt kf ku ds A
  |.inScope _::k=>AM fn T L S Q ro n tm k dr kt kf ku ds A
  |.code (.seq a b)::k=>AM fn T L S Q ro n tm (.code a:: .code b::k) dr kt kf ku ds A
  |.code (.cond c a b)::k=>(match IL kt kf c with
   |some true=>AM fn T L S Q ro n tm (.code a::k) dr kt kf ku ds A
   |some false=>AM fn T L S Q ro n tm (.code b::k) dr kt kf ku ds A
   |none=>Ae (BJ tm c) (AM fn T L S Q ro n tm (.code a::k) dr (AaZ kt c) kf ku ds A) (AM fn T L S Q ro n tm (.code b::k) dr kt (AaZ kf c) ku ds A))
  |.code (.block id b)::k=>AM fn T L S Q ro n tm (.code b:: .inBlock id::k) dr kt kf ku ds A
  |.code (.scope b)::k=>AM fn T L S Q ro n tm (.code b:: .inScope b::k) dr kt kf ku ds A
  |.code (.loop b)::k=>bif dr then False else Aa2 ds (BX (.code b:: .inLoop b::k) (T (Oe k)) (S (Oe k) ((L (Oe k)).map tm.get) A))
  |.inLoop b::k=>bif dr then False else Aa2 ds (BX (.code b:: .inLoop b::k) (T (Oe k)) (S (Oe k) ((L (Oe k)).map tm.get) A))
  |.code (.exit id)::k=>(match Gr id k with | some k'=>AM fn T L S Q ro n tm k' dr kt kf ku ds A | none=>bif dr then False else H0 P fn ro ds A tm Q (some (.exit id)))
  |.code (.region _ ops false)::k=>AM fn T L S Q ro n tm (.inRegion ops (List.range ops.toList.length)::k) dr kt kf ku ds A
  |.code (.region _ ops true)::k=>bif Ie tm.sz ops.toList then (match Mt P ops.toList with
   |some p=>AM fn T L S Q ro n tm (.inRegion ops p::k) true kt kf ku ds A
   |none=>False) else False
  |.inRegion _ []::k=>AM fn T L S Q ro n tm k false kt kf ku ds A
  |.inRegion ops (i::rest)::k=>
   bif dr&&!Nat.blt i ops.toList.length then
    (match ops.toList[i-ops.toList.length]? with
    |none=>False
    |some o=>(match o.dst,UE kt kf ku ops o with
     |some d,some false=>eqW undef (tm.get d) (AM fn T L S Q ro n tm (.inRegion ops rest::k) dr kt kf ku ds A)
     |some d,some true=>bif Cj P o.op then
       (match Jb kt kf o.op with
       |some x=>eqW (BJ tm x) (tm.get d) (AM fn T L S Q ro n tm (.inRegion ops rest::k) dr kt kf ku ds A)
       |none=>opW P X W0 m0 (BJ tm) o A fun v _=>eqW v (tm.get d) (AM fn T L S Q ro n tm (.inRegion ops rest::k) dr kt kf ku ds A))
      else Cm (Bi P (BJ tm) o.op) A (tm.get d) (AM fn T L S Q ro n tm (.inRegion ops rest::k) dr kt kf ku ds A)
     |_,_=>False))
   else (match ops.toList[i]? with
    |none=>False
    |some o=>
     let fin (kt kf:Nat) (r:Option Bool) (sk:Bool) (v:Value) (A':AW):Prop:=(match o.dst with
      |some d=>bif Nat.blt d tm.sz then AM fn T L S Q ro n (tm.set d v) (.inRegion ops rest::k) dr (knT kt d r) (knF kf d r) (knU ku d sk) ds A' else False
      |none=>AM fn T L S Q ro n tm (.inRegion ops rest::k) dr kt kf ku ds A')
     let go (kt kf:Nat):Prop:=(match Jb kt kf o.op with
      |some x=>fin kt kf (IL kt kf x) false (BJ tm x) A
      |none=>opW P X W0 m0 (BJ tm) o A (fin kt kf (TG kt kf o.op) false))
     match o.guard with
     |none=>go kt kf
     |some (j,want)=>(match I6 ops j with
      |none=>False
      |some d=>bif ku.testBit d then fin kt kf none true undef A else (match IL kt kf (.tmp d) with
       |some b=>bif b==want then go kt kf else fin kt kf none true undef A
       |none=>Ae (tm.get d) (bif want then go (Lr kt d) kf else fin (Lr kt d) kf none true undef A) (bif want then fin kt (Lr kf d) none true undef A else go kt (Lr kf d)))))
  |_=>False
end
variable {kt kf ku d i:Nat} {Q K:Value→AW→Prop} {fn:FuncId} {rest ds:List Nat} {k todo:List Item} {dr:Bool} {ro:Option Nat} {cs:List AFr} {A:AW} {f:Func} {j:Option Code}
section
variable {P:Program} {X:Bc} {W0:World} {m0:Inj P}
structure Plain (X:Bc):Prop where
 forks:X.forks=[]
 asks:X.asks=[]
 says:X.says=[]
abbrev frC(fn:FuncId)(tm:Tm)(todo:List Item)(dr:Bool)(ro:Option Nat)(ds:List Nat):AFr:=⟨fn,tm,todo,ds.map fun D=>{ target:=.collected D,args:=#[] },.run,.normal,ro,dr⟩
abbrev frM(fn:FuncId)(tm:Tm)(todo:List Item)(dr:Bool):AFr:=⟨fn,tm,todo,[],.run,.normal,none,dr⟩
def Kn(kt kf ku:Nat)(tm:Tm):Prop:=∀ t,(kt.testBit t=true→tm.get t=.bool true)∧(kf.testBit t=true→tm.get t=.bool false)∧(ku.testBit t=true→tm.get t=undef)
theorem Ed{tm:Tm}(h:Kn kt kf ku tm){x:Operand}{b:Bool}(hx:IL kt kf x=some b):BJ tm x=.bool b:=by
 cases x with
 |const v=>
  cases v<;>simp only [IL] at hx<;>first | (cases hx;done) | (cases hx;rfl)
 |tmp t=>
  simp only [IL] at hx;cases h1:kt.testBit t with
  |true=>
   rw [h1,Ct,Oi] at hx;subst hx;exact (h t).1 h1
  |false=>
   rw [h1,Cf] at hx;cases h2:kf.testBit t with
   |true=>
    rw [h2,Ct,Oi] at hx;subst hx;exact (h t).2.1 h2
   |false=>rw [h2] at hx;cases hx
 |_=>cases hx
theorem CV(k d t:Nat):(Lr k d).testBit t=(k.testBit t || d==t):=by
 unfold Lr;cases h:k.testBit d with
 |true=>
  simp only [Ct];by_cases e:d=t
  ·subst e;simp [h]
  ·simp [e]
 |false=>
  simp only [Cf,Nat.testBit_xor,Nat.one_shiftLeft,Nat.testBit_two_pow];by_cases e:d=t
  ·subst e;simp [h]
  ·simp [e]
theorem CK(k d t:Nat):(clr k d).testBit t=(k.testBit t&&!(d==t)):=by
 unfold clr;cases h:k.testBit d with
 |false=>
  simp only [Cf];by_cases e:d=t
  ·subst e;simp [h]
  ·simp [e]
 |true=>
  simp only [Ct,Nat.testBit_xor,Nat.one_shiftLeft,Nat.testBit_two_pow];by_cases e:d=t
  ·subst e;simp [h]
  ·simp [e]
theorem Kn.set{tm:Tm}(h:Kn kt kf ku tm)(hs:tm.sz<Ak)(hd:d<tm.sz){v:Value}{r:Option Bool}{sk:Bool}(hr:∀ b,r=some b→v=.bool b)(hu:sk=true→v=undef):Kn (knT kt d r) (knF kf d r) (knU ku d sk) (tm.set d v):=by
 intro t;rw [Tm.Ep tm hs d t v];by_cases e:t=d
 ·subst e;rw [if_pos ⟨rfl,hd⟩];refine ⟨?_,?_,?_⟩
  ·cases r with
   |none=>simp [knT,CK]
   |some b=>cases b<;>simp [knT,CK,CV,hr]
  ·cases r with
   |none=>simp [knF,CK]
   |some b=>cases b<;>simp [knF,CK,CV,hr]
  ·cases sk with
   |false=>simp [knU,CK]
   |true=>simp [knU,CV,hu]
 ·rw [Ff (by simp [e])];have hne:(d==t)=false:=by simp [Ne.symm e]
  refine ⟨?_,?_,?_⟩
  ·cases r with
   |none=>simpa [knT,CK,hne] using (h t).1
   |some b=>cases b<;>simpa [knT,CK,CV,hne] using (h t).1
  ·cases r with
   |none=>simpa [knF,CK,hne] using (h t).2.1
   |some b=>cases b<;>simpa [knF,CK,CV,hne] using (h t).2.1
  ·cases sk<;>simpa [knU,CK,CV,hne] using (h t).2.2
theorem Kn.true{tm:Tm}(h:Kn kt kf ku tm)(hv:tm.get d=.bool true):Kn (Lr kt d) kf ku tm:=by
 intro t;rw [CV];refine ⟨fun ht=>?_,(h t).2⟩;simp only [Bool.or_eq_true,beq_iff_eq] at ht;rcases ht with ht | rfl
 ·exact (h t).1 ht
 ·exact hv
theorem Kn.false{tm:Tm}(h:Kn kt kf ku tm)(hv:tm.get d=.bool false):Kn kt (Lr kf d) ku tm:=by
 intro t;rw [CV];refine ⟨(h t).1,fun ht=>?_,(h t).2.2⟩;simp only [Bool.or_eq_true,beq_iff_eq] at ht;rcases ht with ht | rfl
 ·exact (h t).2.1 ht
 ·exact hv
theorem BS(hX:XOk P X)(hP:POk P){s s':ASt}(h:Ba P X s=.next s')(h':WP P X W0 m0 s' Q):WP P X W0 m0 s Q:=(FL hX hP h).wp1 h'
theorem finish_at{tm:Tm}{ops:Array Oper}{o:Oper}(ho:ops.toList[i]? =some o)(v:Value):
  (frC fn tm (.inRegion ops (i::rest)::k) dr ro ds).finish v=frC fn (match o.dst with | some d=>tm.set d v | none=>tm) (.inRegion ops rest::k) dr ro ds:=by
 unfold AFr.finish;simp only [ho];rfl
theorem NW(hp:Plain X){tm:Tm}{ops:Array Oper}{o:Oper}(ho:ops.toList[i]? =some o)(hi:(dr&&!Nat.blt i ops.toList.length)=false)(h1:D5 P X ⟨frC fn tm (.inRegion ops (i::rest)::k) dr ro ds,cs,A⟩ ops i=none):
  Ba P X ⟨frC fn tm (.inRegion ops (i::rest)::k) dr ro ds,cs,A⟩=
   (bif AS ops tm o then AY P (frC fn tm (.inRegion ops (i::rest)::k) dr ro ds) cs false (AL P X (BJ tm) o A) else .next ⟨(frC fn tm (.inRegion ops (i::rest)::k) dr ro ds).finish undef,cs,A⟩):=by
 have e:Ba P X ⟨frC fn tm (.inRegion ops (i::rest)::k) dr ro ds,cs,A⟩=(bif dr&&!Nat.blt i ops.toList.length then
   (match Ng P X ⟨frC fn tm (.inRegion ops (i::rest)::k) dr ro ds,cs,A⟩ ops (i-ops.toList.length) with
   |some (v,v')=>.asks v v' ⟨frC fn tm (.inRegion ops rest::k) dr ro ds,cs,A⟩
   |none=>bif FK P X (frC fn tm (.inRegion ops (i::rest)::k) dr ro ds) A ops (i-ops.toList.length) then .next ⟨frC fn tm (.inRegion ops rest::k) dr ro ds,cs,A⟩ else .fail "recheck")
  else (match D5 P X ⟨frC fn tm (.inRegion ops (i::rest)::k) dr ro ds,cs,A⟩ ops i with
   |some (f,args,w)=>.calls f args ⟨frC fn tm (.inRegion ops (i::rest)::k) dr ro ds,cs,w⟩
   |none=>(match JV P X ⟨frC fn tm (.inRegion ops (i::rest)::k) dr ro ds,cs,A⟩ ops i with
    |some w=>.branch [⟨(frC fn tm (.inRegion ops (i::rest)::k) dr ro ds).finish (.bool true),cs,w⟩,⟨(frC fn tm (.inRegion ops (i::rest)::k) dr ro ds).finish (.bool false),cs,w⟩]
    |none=>(match Jy P X ⟨frC fn tm (.inRegion ops (i::rest)::k) dr ro ds,cs,A⟩ ops i with
     |some (v,v',w)=>.asks v v' ⟨(frC fn tm (.inRegion ops (i::rest)::k) dr ro ds).finish v',cs,w⟩
     |none=>(match ops.toList[i]? with
      |some o=>bif AS ops tm o then AY P (frC fn tm (.inRegion ops (i::rest)::k) dr ro ds) cs false (AL P X (frC fn tm (.inRegion ops (i::rest)::k) dr ro ds).eval o A) else .next ⟨(frC fn tm (.inRegion ops (i::rest)::k) dr ro ds).finish undef,cs,A⟩
      |none=>.fail "no operation"))))):=rfl
 rw [e,hi,Cf];have h2:JV P X ⟨frC fn tm (.inRegion ops (i::rest)::k) dr ro ds,cs,A⟩ ops i=none:=by unfold JV;rw [hp.forks]
 have h3:Jy P X ⟨frC fn tm (.inRegion ops (i::rest)::k) dr ro ds,cs,A⟩ ops i=none:=by unfold Jy;rw [hp.says]
 rw [h1,h2,h3];simp only [ho];rw [BW]
theorem Hr{g:FuncId}{args:List Value}{kd:CallKind}{fr:AFr}(h:AD P g args kd=some fr):fr.kind=kd∧fr.roundOf=none:=by
 unfold AD at h;split at h
 ·split at h
  ·simp only at h;generalize (bif Nat.ble _ _ then _ else _)=n at h;cases hn:Nat.blt n Ak with
   |false=>rw [hn] at h;cases h
   |true=>
    rw [hn,Ct,Oi] at h;subst h;exact ⟨rfl,rfl⟩
  ·cases h
 ·cases h
theorem Om (hX:XOk P X) (hP:POk P) (hp:Plain X) {tm:Tm} {ops:Array Oper} {o:Oper} (ho:ops.toList[i]? =some o)
  (hi:(dr&&!Nat.blt i ops.toList.length)=false) (hw:AS ops tm o=true) (h:Pr P X W0 m0 (AL P X (BJ tm) o A) K)
  (h':∀ v A',K v A'→WP P X W0 m0 ⟨frC fn (match o.dst with | some d=>tm.set d v | none=>tm) (.inRegion ops rest::k) dr ro ds,cs,A'⟩ Q):WP P X W0 m0 ⟨frC fn tm (.inRegion ops (i::rest)::k) dr ro ds,cs,A⟩ Q:=by
 have e:=fun h=>NW (P:=P) (fn:=fn) (tm:=tm) (rest:=rest) (k:=k) (ro:=ro) (ds:=ds) (cs:=cs) (A:=A) hp ho hi h;rw [hw,Ct] at e;have notk:∀ {r:R AN},AL P X (BJ tm) o A=r→(∀ g args A',r=.ok (.enter g args) A'→Em g X.known=false)→D5 P X ⟨frC fn tm (.inRegion ops (i::rest)::k) dr ro ds,cs,A⟩ ops i=none:=by
  intro r hr hn;unfold D5;split
  ·rfl
  ·simp only [ho,hw,Ct];rw [BW];show (match AL P X (BJ tm) o A with | .ok (.enter f args) w=>bif Em f X.known then some (f,args,w) else none | _=>none)=none;rw [hr];split
   ·rename_i g args A' he;rw [hn _ _ _ rfl,Cf]
   ·rfl
 rcases h with ⟨v,A',hx,hk⟩ | ⟨A',hx,hk⟩ | ⟨g,args,A',hx,hk⟩ | ⟨l,fn',tm',assign,body,A',hx,hk⟩ | ⟨it,A',hx,m,since,seen,last,es,clock,ro',hg1,hg2,hg3,hk⟩
 ·rw [hx] at e;refine BS hX hP (e (notk hx (fun _ _ _ h=>by cases h))) ?_;rw [finish_at ho];exact h' v A' hk
 ·rw [hx] at e;refine BS hX hP (e (notk hx (fun _ _ _ h=>by cases h))) ?_;rw [finish_at ho];exact h' undef A' hk
 ·unfold toW at hk;cases hkn:Em g X.known with
  |true=>
   rw [hkn,Ct] at hk;have e3:Ba P X ⟨frC fn tm (.inRegion ops (i::rest)::k) dr ro ds,cs,A⟩=.calls g args ⟨frC fn tm (.inRegion ops (i::rest)::k) dr ro ds,cs,A'⟩:=by
    have h1:D5 P X ⟨frC fn tm (.inRegion ops (i::rest)::k) dr ro ds,cs,A⟩ ops i=some (g,args,A'):=by
     unfold D5;split
     ·rename_i hnil;rw [hnil] at hkn;cases hkn
     ·simp only [ho,hw,Ct];rw [BW];show (match AL P X (BJ tm) o A with | .ok (.enter f args) w=>bif Em f X.known then some (f,args,w) else none | _=>none)=_;rw [hx];simp only [hkn,Ct]
    have e4:Ba P X ⟨frC fn tm (.inRegion ops (i::rest)::k) dr ro ds,cs,A⟩=(bif dr&&!Nat.blt i ops.toList.length then
      (match Ng P X ⟨frC fn tm (.inRegion ops (i::rest)::k) dr ro ds,cs,A⟩ ops (i-ops.toList.length) with
      |some (v,v')=>.asks v v' ⟨frC fn tm (.inRegion ops rest::k) dr ro ds,cs,A⟩
      |none=>bif FK P X (frC fn tm (.inRegion ops (i::rest)::k) dr ro ds) A ops (i-ops.toList.length) then .next ⟨frC fn tm (.inRegion ops rest::k) dr ro ds,cs,A⟩ else .fail "recheck")
     else (match D5 P X ⟨frC fn tm (.inRegion ops (i::rest)::k) dr ro ds,cs,A⟩ ops i with
      |some (f,args,w)=>.calls f args ⟨frC fn tm (.inRegion ops (i::rest)::k) dr ro ds,cs,w⟩
      |none=>(match JV P X ⟨frC fn tm (.inRegion ops (i::rest)::k) dr ro ds,cs,A⟩ ops i with
       |some w=>.branch [⟨(frC fn tm (.inRegion ops (i::rest)::k) dr ro ds).finish (.bool true),cs,w⟩,⟨(frC fn tm (.inRegion ops (i::rest)::k) dr ro ds).finish (.bool false),cs,w⟩]
       |none=>(match Jy P X ⟨frC fn tm (.inRegion ops (i::rest)::k) dr ro ds,cs,A⟩ ops i with
        |some (v,v',w)=>.asks v v' ⟨(frC fn tm (.inRegion ops (i::rest)::k) dr ro ds).finish v',cs,w⟩
        |none=>Dm P X ⟨frC fn tm (.inRegion ops (i::rest)::k) dr ro ds,cs,A⟩)))):=rfl
    rw [e4,hi,Cf,h1]
   rcases hk with ⟨vals,hg,hK,hc,hq⟩ | hl
   ·refine (HS hX hP e3 hg hK hc).wp fun x hx=>?_;obtain ⟨v,hv,rfl⟩:=List.mem_map.1 hx;show WP P X W0 m0 ⟨(frC fn tm (.inRegion ops (i::rest)::k) dr ro ds).finish v,cs,A'⟩ Q;rw [finish_at ho];exact h' v A' (hq v hv)
   ·refine YD hX hP e3 hl fun v A2 hq=>?_;show WP P X W0 m0 ⟨(frC fn tm (.inRegion ops (i::rest)::k) dr ro ds).finish v,cs,A2⟩ Q;rw [finish_at ho];exact h' v A2 hq
  |false=>
  rw [hkn,Cf] at hk;rw [hx] at e;have e:=e (notk hx (fun _ _ _ h=>by cases h;exact hkn));obtain ⟨fr',he⟩:=Option.isSome_iff_exists.1 hk.1;have h2:=hk.2;unfold Ly at h2;rw [he] at h2;simp only [AY,Cf,he] at e;refine BS hX hP e (Uq ?_ ?_ h2 fun v A2 hk2=>?_)
  ·exact (Hr he).1
  ·exact (Hr he).2
  ·rw [finish_at ho];exact h' v A2 hk2
 ·rw [hx] at e;refine BS hX hP (e (notk hx (fun _ _ _ h=>by cases h))) (hk _ _ _ fun v A2 hk2=>?_);rw [finish_at ho];exact h' v A2 hk2
 ·rw [hx] at e;have e:=e (notk hx (fun _ _ _ h=>by cases h));have e2:AY P (frC fn tm (.inRegion ops (i::rest)::k) dr ro ds) cs false (.ok (.rangeNext it) A')=.branch ((O7 es since seen).map fun c=>match c with
     |some e=>⟨(frC fn tm (.inRegion ops (i::rest)::k) dr ro ds).finish (.tuple #[.bool true,e.key,e.val]),cs,A'.put it (.mit (some m) since (seen++[e.born]) clock)⟩
     |none=>⟨(frC fn tm (.inRegion ops (i::rest)::k) dr ro ds).finish (.tuple #[.bool false]),cs,A'⟩):=by
   unfold AY;simp only [hg1,hg2,hg3,Cf];rfl
  rw [e2] at e;refine (Hc hX hP e).wp fun x hx=>?_;obtain ⟨c,hc,rfl⟩:=List.mem_map.1 hx;have hk:=hk c hc;cases c with
  |none=>
   simp only at hk ⊢;rw [finish_at ho];exact h' _ _ hk
  |some e=>
   simp only at hk ⊢;rw [finish_at ho];exact h' _ _ hk
theorem wp_skip (hX:XOk P X) (hP:POk P) (hp:Plain X) {tm:Tm} {ops:Array Oper} {o:Oper} (ho:ops.toList[i]? =some o)
  (hi:(dr&&!Nat.blt i ops.toList.length)=false) (hw:AS ops tm o=false)
  (h':WP P X W0 m0 ⟨frC fn (match o.dst with | some d=>tm.set d undef | none=>tm) (.inRegion ops rest::k) dr ro ds,cs,A⟩ Q):WP P X W0 m0 ⟨frC fn tm (.inRegion ops (i::rest)::k) dr ro ds,cs,A⟩ Q:=by
 have hkn:D5 P X ⟨frC fn tm (.inRegion ops (i::rest)::k) dr ro ds,cs,A⟩ ops i=none:=by
  unfold D5;split
  ·rfl
  ·simp only [ho,hw,Cf]
 have e:=NW (P:=P) (fn:=fn) (tm:=tm) (rest:=rest) (k:=k) (ro:=ro) (ds:=ds) (cs:=cs) (A:=A) hp ho hi hkn;rw [hw,Cf] at e;refine BS hX hP e ?_;rw [finish_at ho];exact h'
theorem G5 {tm:Tm} {ops:Array Oper} (hi:ops.toList.length≤i) (hv:Valid P X A ops tm (i-ops.toList.length))
  (h':WP P X W0 m0 ⟨frC fn tm (.inRegion ops rest::k) true ro ds,cs,A⟩ Q):WP P X W0 m0 ⟨frC fn tm (.inRegion ops (i::rest)::k) true ro ds,cs,A⟩ Q:=by
 have hr:Reach P X W0 m0 ⟨frC fn tm (.inRegion ops (i::rest)::k) true ro ds,cs,A⟩ [⟨frC fn tm (.inRegion ops rest::k) true ro ds,cs,A⟩]:=by
  intro f0 base lo cs0 m f csW w h _;exact ⟨_,by simp,KT h rfl rfl rfl hi hv⟩
 exact hr.wp1 h'
def WS(P:Program)(A:AW)(tm:Tm)(r:ResultVar):Option Value:=match r with | .tmp t=>some (tm.get t) | .cell a t=>Ad P A t (tm.get a)
theorem OD{tm:Tm}:Cu P A f tm=(match Cu.go (WS P A tm) f.results.toList with | some [v]=>some v | some l=>some (.tuple ⟨l⟩) | none=>none):=rfl
theorem Ja{A:AW}{tm:Tm}{Q:Value→AW→Prop}:∀ (l:List ResultVar) (acc:List Value),PT P A tm Q l acc→∃ vs,Cu.go (WS P A tm) l=some vs∧Q (oneOf (acc.reverse++vs)) A
 |[],acc,h=>⟨[],rfl,by simpa [PT] using h⟩
 |.tmp t::l,acc,h=>by
  obtain ⟨vs,h1,h2⟩:=Ja l _ h;refine ⟨tm.get t::vs,?_,by simpa using h2⟩;simp only [Cu.go,h1,WS]
 |.cell a t::l,acc,h=>by
  obtain ⟨v,h0,hv⟩:=h;obtain ⟨vs,h1,h2⟩:=Ja l _ hv;refine ⟨v::vs,?_,by simpa using h2⟩;simp only [Cu.go,h1,WS,h0]
theorem Ts(hf:P.funcs[fn]? =some f){tm:Tm}(h:OC P fn A tm Q):∃ v,Cu P A f tm=some v∧Q v A:=by
 unfold OC at h;rw [hf] at h;obtain ⟨vs,h1,h2⟩:=Ja _ _ h;rw [OD,h1]
 match vs,h2 with
 |[],h2=>exact ⟨_,rfl,h2⟩
 |[v],h2=>exact ⟨_,rfl,h2⟩
 |a::b::r,h2=>exact ⟨_,rfl,h2⟩
theorem Jr(hX:XOk P X)(hP:POk P){fn:FuncId}{tm:Tm}{todo:List Item}{Q:Value→AW→Prop}:∀ (ds:List Nat) (A:AW),G8 ds A (fun A=>OC P fn A tm Q)→WP P X W0 m0 ⟨{ (frC fn tm todo false none ds) with mode:=.returning },[],A⟩ Q
 |[],A,h=>by
  have h:OC P fn A tm Q:=h;cases hf:P.funcs[fn]? with
  |none=>unfold OC at h;rw [hf] at h;exact h.elim
  |some f=>
   obtain ⟨v,h1,h2⟩:=Ts hf h;have e2:Ba P X ⟨{ (frC fn tm todo false none []) with mode:=.returning },[],A⟩=.done v A:=by
    have:Ba P X ⟨{ (frC fn tm todo false none []) with mode:=.returning },[],A⟩=(match P.funcs[fn]? with
     |none=>.fail "unwind fn"
     |some fn=>(match Cu P A fn tm with
      |some v=>.done v A
      |none=>.fail "results")):=by
     rfl
    rw [this,hf];simp only;rw [h1]
   exact (PS hX hP e2).wp fun x hx=>by simp at hx;subst hx;exact h2
 |D::ds,A,h=>by
  obtain ⟨h1,h2⟩:=h;have e:Ba P X ⟨{ (frC fn tm todo false none (D::ds)) with mode:=.returning },[],A⟩=.next ⟨{ (frC fn tm todo false none ds) with mode:=.returning },[],A.put D (.deferred none)⟩:=by
   have:Ba P X ⟨{ (frC fn tm todo false none (D::ds)) with mode:=.returning },[],A⟩=(match A.get D with
    |some (.deferred (some calls))=>.next ⟨{ (frC fn tm todo false none ds) with mode:=.returning,defers:=calls++ds.map fun D=>{ target:=.collected D,args:=#[] } },[],A.put D (.deferred none)⟩
    |_=>.fail "takeDeferred"):=by
    rfl
   rw [this,h1];rfl
  exact BS hX hP e (Jr hX hP ds _ h2)
theorem Pv(hX:XOk P X)(hP:POk P){tm:Tm}(ht:todo=[]∨∃ k,todo=.code .ret::k)(h:G8 ds A fun A=>OC P fn A tm Q):WP P X W0 m0 ⟨frC fn tm todo false none ds,[],A⟩ Q:=by
 have e:Ba P X ⟨frC fn tm todo false none ds,[],A⟩=.next ⟨{ (frC fn tm todo false none ds) with mode:=.returning },[],A⟩:=by
  rcases ht with rfl | ⟨k,rfl⟩<;>rfl
 exact BS hX hP e (Jr hX hP ds A h)
inductive Leaves:List Item→Option Code→Prop
 |off:Leaves [] none
 |ret (k:List Item):Leaves (.code .ret::k) (some .ret)
 |exit (id:Nat) (k:List Item) (h:Gr id k=none):Leaves (.code (.exit id)::k) (some (.exit id))
theorem NU(hX:XOk P X)(hP:POk P){tm:Tm}(hj:Leaves todo j)(h:H0 P fn none ds A tm Q j):WP P X W0 m0 ⟨frC fn tm todo false none ds,[],A⟩ Q:=by
 cases hj with
 |off=>exact Pv hX hP (.inl rfl) h
 |ret k=>exact Pv hX hP (.inr ⟨k,rfl⟩) h
 |exit id k hx=>exact h.elim
theorem OB (hX:XOk P X) (hP:POk P) {tm:Tm} {l:Nat} (hj:Leaves todo j) (h:H0 P fn (some l) ds A tm K j) {c:AFr} {rest:List AFr}
  (hK:∀ v A',K v A'→WP P X W0 m0 ⟨c.finish v,rest,A'⟩ Q):WP P X W0 m0 ⟨frC fn tm todo false (some l) ds,c::rest,A⟩ Q:=by
 unfold H0 at h;cases ds with
 |cons D ds=>exact h.elim
 |nil=>
  obtain ⟨r,h1,h2⟩:=h;have e:Ba P X ⟨frC fn tm todo false (some l) [],c::rest,A⟩=.next ⟨c.finish (.bool j.isNone),rest,A.put l (.loop { r with state:=if j.isNone then .ready else .done,pending:=j })⟩:=by
   have key:∀ jump:Option Code,(match A.get l with
     |some (.loop r)=>CP (frC fn tm todo false (some l) []) (c::rest) (.bool jump.isNone) (A.put l (.loop { r with state:=if jump.isNone then .ready else .done,pending:=jump }))
     |_=>.fail "endRound")=.next ⟨c.finish (.bool jump.isNone),rest,A.put l (.loop { r with state:=if jump.isNone then .ready else .done,pending:=jump })⟩:=by
    intro jump;rw [h1];rfl
   rw [← key j];cases hj with
   |off=>rfl
   |ret k=>rfl
   |exit id k hx=>
    unfold Ba Dm;simp only [hx];rfl
  exact BS hX hP e (hK _ _ h2)
end
end Go.Abs
