/-
  The steps of an abstract machine are shown to be those of the model, and what a program asks of its calls gives what they answer. Conditions: those that each theorem states.
-/
import Derived.Test.YtnennggfoegcmaaGreatDoorPa
import Derived.Below
import Derived.Carry
import Derived.ChangeSame
import Derived.Deep.Strs
import Derived.HandedShaped
import Derived.Laws.StructEq
import Derived.ProofKit
import Derived.Stop.Joined
set_option linter.all false
set_option maxRecDepth 100000
set_option maxHeartbeats 1000000
namespace Go.Abs
variable {i lo hi C:Nat} {A:AW} {live:Bool} {tmps:Array Value} {S:Nat->Prop} {rl pl rest:List Nat} {f:Frame} {k:List Item} {cs:List Frame}
section
variable {P:Program} {X:Bt}
def Valid(P:Program)(X:Bt)(A:AW)(ops:Array Oper)(tm:Tm)(i:Nat):Prop:=
 ∀ o d,ops.toList[i]? =some o->o.dst=some d->
  (Bv ops tm o=false->tm.get d=undef)/\
  (Bv ops tm o=true->(Cj P o.op=true->∃ A',Ba P (BZ tm) o A=.ok (.value (tm.get d)) A')/\
   (Cj P o.op=false->∃ c,Bn P (BZ tm) o.op=some c/\B4 A (tm.get d) c=true))
structure BP (P:Program) (X:Bt) (m:Inj P) (A:AW) (live:Bool) (lo hi:Nat) (tm:Tm) (tmps:Array Value) (ops:Array Oper) (S:Nat->Prop) (C:Nat) (rl pl:List Nat) (rest:List Nat):Prop where
 plan:FD ops.toList (De P ops.toList) (OP P ops.toList) C pl
 slotsOk:Ng ops.toList (De P ops.toList)
 opsOk:ops.toList.all (Aam P)=true
 rls:∀ x∈rl,ops.size<=x
 lin:Lin ops.toList S rest
 sub:∀ i,S i->C.testBit i=true
 bits:∀ i,C.testBit i=true->i<ops.size
 closed:∀ i,C.testBit i=true->∀ k,anc ops.toList k i->C.testBit k=true
 inb:∀ (i:Nat) (o:Oper) (d:Tmp),ops.toList[i]? =some o->o.dst=some d->d<tm.sz
 effs:∀ i,C.testBit i=true->(De P ops.toList).testBit i=true->S i
 size:tmps.size=tm.sz
 small:tm.sz<Aj
 oob:∀ t,tm.sz<=t->tm.get t=undef
 slots:∀ t,(∀ (i:Nat) (o:Oper),C.testBit i=true->¬ S i->ops.toList[i]? =some o->o.dst≠some t)->AM m (tm.get t) (tmps.getD t undef)
 Gd:∀ (i:Nat) (o:Oper) (d:Tmp),C.testBit i=true->¬ S i->ops.toList[i]? =some o->o.dst=some d->Cj P o.op=false->Bv ops tm o=true->∃ b,MZ (tm.get d)=some b/\m b=none/\lo<=b/\b<hi
 apart:∀ (i j:Nat) (o p:Oper) (d e:Tmp),C.testBit i=true->¬ S i->ops.toList[i]? =some o->o.dst=some d->Cj P o.op=false->Bv ops tm o=true->
  C.testBit j=true->¬ S j->ops.toList[j]? =some p->p.dst=some e->Cj P p.op=false->Bv ops tm p=true->MZ (tm.get d)=MZ (tm.get e)->i=j
 valid:live=true->∀ i,C.testBit i=true->¬ S i->(ops.size+i)∈rl\/Valid P X A ops tm i
 wait:live=false->rl=[]/\∃ x p' r,pl=x::p'/\rest=x::r/\(De P ops.toList).testBit x=true
theorem UB{ops:List Oper}{o:Oper}(ho:ops[i]? =some o):(De P ops).testBit i=true↔(Cj P o.op=false/\Dg P (OB P ops) o.op=false):=by
 unfold De;rw [E8];constructor
 ·rintro ⟨o',_,h2,h3⟩;rw [Nat.sub_zero,ho] at h2;cases h2
  simpa using h3
 ·rintro ⟨h1,h2⟩;exact ⟨o,Nat.zero_le _,by simpa using ho,by simp [h1,h2]⟩
theorem Zu{ops:List Oper}{o:Oper}(ho:ops[i]? =some o):(OP P ops).testBit i=true↔Dg P (OB P ops) o.op=true:=by
 unfold OP;rw [E8];constructor
 ·rintro ⟨o',_,h2,h3⟩;rw [Nat.sub_zero,ho] at h2;cases h2;exact h3
 ·intro h;exact ⟨o,Nat.zero_le _,by simpa using ho,h⟩
theorem R8{c:Bool}{op:Op}(h:Dg P c op=true):Cj P op=false:=by
 cases op<;>first | rfl | (cases h;done) | skip
 case convert s d x=>
  simp only [Dg,Bq] at h;obtain ⟨_,h⟩:=h;unfold Cj;cases hd:P.underlying d with
  |none=>rw [hd] at h;split at h<;>simp_all
  |some u=>cases u<;>simp_all
theorem BP.looked {m:Inj P} {tm:Tm} {ops:Array Oper}
  (D:BP P X m A live lo hi tm tmps ops S C rl pl rest) (hanc:∀ k,anc ops.toList k i->S k) {o:Oper} (ho:ops.toList[i]? =some o) {t:Tmp} (hl:C8 ops.toList o t=true):
  AM m (tm.get t) (tmps.getD t undef):=by
 refine D.slots t λj o' hc hs ho' hd=>?_;rcases D.slotsOk.looks j o' t ho' hd i o ho hl with h | ⟨h,_⟩
 ·exact hs (hanc j h)
 ·exact hs (D.effs j hc h)
theorem BP.operands {m:Inj P} (hG:GOk m) {tm:Tm} {ops:Array Oper}
  (D:BP P X m A live lo hi tm tmps ops S C rl pl rest) (hanc:∀ k,anc ops.toList k i->S k) {o:Oper} (ho:ops.toList[i]? =some o):
  ∀ x∈o.op.operands.toList,AM m (BZ tm x) (evalW tmps x):=by
 intro x hx;refine JM hG ?_ λt ht=>?_
 ·have:=List.all_eq_true.1 D.opsOk o (List.mem_of_getElem? ho)
  exact List.all_eq_true.1 this x hx
 ·subst ht;exact D.looked hanc ho (JZ hx)
theorem BP.wanted {m:Inj P} {tm:Tm} {ops:Array Oper}
  (D:BP P X m A live lo hi tm tmps ops S C rl pl rest) (hanc:∀ k,anc ops.toList k i->S k) {o:Oper} (ho:ops.toList[i]? =some o):
  Region.wanted o (yielded ops tmps)=Bv ops tm o:=
 Nk λ_ _ hg _ _ hj hd=>D.looked hanc ho (MG hg hj hd)
theorem J7{ops:Array Oper}{o:Oper}(ht:f.todo=.inRegion ops (i::rest)::k)(ho:ops.toList[i]? =some o)(v:Value):
  f.finish v={ f with tmps:=(match o.dst with | some d=>f.tmps.setIfInBounds d v | none=>f.tmps),todo:=.inRegion ops rest::k }:=by
 have ho':ops[i]? =some o:=by simpa using ho
 simp only [Frame.finish,ht,ho',Option.bind_some];cases o.dst<;>rfl
theorem I9{fr:AFr}{ops:Array Oper}{o:Oper}(ht:fr.todo=.inRegion ops (i::rest)::k)(ho:ops.toList[i]? =some o)(v:Value):
  fr.finish v={ fr with tm:=(match o.dst with | some d=>fr.tm.set d v | none=>fr.tm),todo:=.inRegion ops rest::k }:=by
 simp only [AFr.finish,ht,ho];cases o.dst<;>rfl
theorem BP.Ado {m:Inj P} (hG:GOk m) {w:World} (r:Rel m A w) {tm:Tm} {ops:Array Oper}
  (D:BP P X m A true lo hi tm f.tmps ops S C [] pl (i::rest)) (hiC:C.testBit i=true) (hhi:hi<=A.next) (hlo:lo<=A.next) (hmode:f.mode=.run) (htodo:f.todo=.inRegion ops (i::rest)::k):
  ∃ tmps' m' w',step P (lone f cs w)=.next (lone { f with tmps:=tmps',todo:=.inRegion ops rest::k } cs w')/\EvL lo m A w m' A w'/\
   BP P X m' A true lo hi tm tmps' ops (λj=>S j\/j=i) C [] pl rest:=by
 obtain ⟨hlt,hnS,hanc,hlin⟩:=D.lin;obtain ⟨o,ho⟩:∃ o,ops.toList[i]? =some o:=⟨_,Ge hlt⟩;have heff:(De P ops.toList).testBit i=false:=by
  cases h:(De P ops.toList).testBit i with
  |false=>rfl
  |true=>exact absurd (D.effs i hiC h) hnS
 obtain ⟨d,hd⟩:∃ d,o.dst=some d:=by
  cases h:o.dst with
  |some d=>exact ⟨d,rfl⟩
  |none=>rw [D.slotsOk.dst i o ho h] at heff;cases heff
 have hval:Valid P X A ops tm i:=by
  rcases D.valid rfl i hiC hnS with h | h
  ·cases h
  ·exact h
 have hw:=D.wanted hanc ho;have hops:=D.operands hG hanc ho;have hfin:=λv=>J7 htodo ho v;simp only [hd] at hfin;have ho':ops[i]? =some o:=by simpa using ho
 have key:∀ (m':Inj P) (w':World) (v':Value),EvL lo m A w m' A w'->AM m' (tm.get d) v'->(∀ j o d b,j≠i->C.testBit j=true->¬ S j->ops.toList[j]? =some o->o.dst=some d->Cj P o.op=false->Bv ops tm o=true->MZ (tm.get d)=some b->m' b=m b)->
   BP P X m' A true lo hi tm (f.tmps.setIfInBounds d v') ops (λj=>S j\/j=i) C [] pl rest:=by
  intro m' w' v' hev hv hgh;refine ⟨D.plan,D.slotsOk,D.opsOk,λx hx=>by (cases hx),hlin,?_,D.bits,D.closed,D.inb,λj hj he=>.inl (D.effs j hj he),by simpa using D.size,D.small,D.oob,?_,?_,?_,?_,λh=>Bool.noConfusion h⟩
  ·rintro j (hj | rfl)
   ·exact D.sub j hj
   ·exact hiC
  ·intro t ht;rw [Ob,D.size];split
   ·rename_i h;rw [h.1];exact hv
   ·rename_i hne;by_cases e:t=d
    ·subst e;have hsz:tm.sz<=t:=by omega
     rw [D.oob t hsz,Array.getD_eq_getD_getElem?,Array.getElem?_eq_none (by rw [D.size];exact hsz)];exact Fm m'
    ·refine (D.slots t λj o' hc hs ho2 hd2=>?_).mono hev.ext;by_cases e2:j=i
     ·subst e2;rw [ho] at ho2;cases ho2;rw [hd] at hd2;cases hd2;exact e rfl
     ·exact ht j o' hc (λh=>h.elim hs e2) ho2 hd2
  ·intro j o' d' hc hs ho2 hd2 hq hwa;have hs':¬ S j:=λh=>hs (.inl h);have hne:j≠i:=λh=>hs (.inr h);obtain ⟨b,h1,h2,h3,h4⟩:=D.Gd j o' d' hc hs' ho2 hd2 hq hwa;exact ⟨b,h1,by rw [hgh j o' d' b hne hc hs' ho2 hd2 hq hwa h1];exact h2,h3,h4⟩
  ·intro j1 j2 o1 o2 d1 d2 a1 a2 a3 a4 a5 a6 b1 b2 b3 b4 b5 b6;exact D.apart j1 j2 o1 o2 d1 d2 a1 (λh=>a2 (.inl h)) a3 a4 a5 a6 b1 (λh=>b2 (.inl h)) b3 b4 b5 b6
  ·intro _ j hc hs;exact D.valid rfl j hc λh=>hs (.inl h)
 obtain ⟨v1,v2⟩:=hval o d ho hd;cases hwa:Bv ops tm o with
 |false=>
  rw [hwa] at hw;have hstep:=Np (P:=P) (cs:=cs) (w:=w) hmode htodo ho' hw;rw [hfin undef] at hstep;exact ⟨_,m,w,hstep,.refl r lo,key m w undef (.refl r lo) (by rw [v1 hwa];exact Fm m) λ_ _ _ _ _ _ _ _ _ _ _ _=>rfl⟩
 |true=>
  rw [hwa] at hw;cases hq:Cj P o.op with
  |true=>
   obtain ⟨A',he⟩:=(v2 hwa).1 hq;obtain ⟨rfl,_⟩:=Ex hq he;have hs:=KE r hops;rw [he] at hs;obtain ⟨n',w',m',h1,h2,v',rfl,h3⟩:=hs;have hans:answer P f cs ((execOp f.eval o).run P w)=some (f.finish v',cs,w'):=by
    rw [D1,h1];rfl
   have hstep:=Xx (P:=P) hmode htodo ho' hw (λc hc=>by rw [hc] at hq;cases hq) hans;rw [hfin v'] at hstep;exact ⟨_,m',w',hstep,h2.low hlo,key m' w' v' (h2.low hlo) h3 λj o2 d2 b hne hc hs2 ho2 hd2 hq2 hwa2 hid=>by
    obtain ⟨b',g1,g2,g3,g4⟩:=D.Gd j o2 d2 hc hs2 ho2 hd2 hq2 hwa2;rw [g1,Oi] at hid;subst hid;exact h2.same _ (by omega)⟩
  |false=>
   obtain ⟨c,hf,hst⟩:=(v2 hwa).2 hq;obtain ⟨b,g1,g2,g3,g4⟩:=D.Gd i o d hiC hnS ho hd hq hwa;obtain ⟨v',w',m',h1,h2,h3,h4⟩:=Ug r hops hf hst g1 g2 g3;have hans:answer P f cs ((execOp f.eval o).run P w)=some (f.finish v',cs,w'):=by
    rw [D1,h1];rfl
   have hnd:∀ c,o.op≠ .defer c:=by
    intro c hc;rw [hc] at hf;cases hf
   have hstep:=Xx (P:=P) hmode htodo ho' hw hnd hans;rw [hfin v'] at hstep;exact ⟨_,m',w',hstep,h2,key m' w' v' h2 h3 λj o2 d2 b2 hne hc hs2 ho2 hd2 hq2 hwa2 hid=>by
    refine h4 b2 λe=>hne ?_;subst e;exact D.apart j i o2 o d2 d hc hs2 ho2 hd2 hq2 hwa2 hiC hnS ho hd hq hwa (by rw [hid,g1])⟩
def Adx:Option Nat->List Nat->Prop
 |none,l=>l=[]
 |some x,l=>∃ r,l=x::r
theorem BP.VD{tm:Tm}{ops:Array Oper}(stop:Option Nat)(hhi:hi<=A.next)(hlo:lo<=A.next):
  ∀ (rest:List Nat) {m:Inj P} (_:GOk m) {w:World} (_:Rel m A w) {S:Nat->Prop} {f:Frame}
   (_:BP P X m A true lo hi tm f.tmps ops S C [] pl rest) (_:∀ i,i<ops.size->C.testBit i=true\/(some i=stop/\¬ S i)\/∃ x,stop=some x/\anc ops.toList x i)
   (_:∀ x,stop=some x->x<ops.size/\C.testBit x=false) (_:f.mode=.run) (_:f.todo=.inRegion ops rest::k),
   ∃ S' tmps' rest' m' w',Steps P (lone f cs w) (lone { f with tmps:=tmps',todo:=.inRegion ops rest'::k } cs w')/\EvL lo m A w m' A w'/\
    BP P X m' A true lo hi tm tmps' ops S' C [] pl rest'/\Adx stop rest':=by
 intro rest
 induction rest with
 |nil=>
  intro m hG w r S f D hall hstop hmode htodo;cases stop with
  |none=>
   refine ⟨S,f.tmps,[],m,w,?_,.refl r lo,D,rfl⟩;rw [show ({ f with tmps:=f.tmps,todo:=.inRegion ops []::k }:Frame)=f by rw [<- htodo]];exact .refl P _
  |some x=>
   obtain ⟨h1,h2⟩:=hstop x rfl
   have:=D.sub x (D.lin x (by simpa using h1))
   rw [h2] at this;cases this
 |cons i rest ih=>
  intro m hG w r S f D hall hstop hmode htodo;obtain ⟨hlt,hnS,hanc,hlin⟩:=D.lin;have hlt':i<ops.size:=by simpa using hlt
  by_cases hst:stop=some i
  ·subst hst;refine ⟨S,f.tmps,i::rest,m,w,?_,.refl r lo,D,rest,rfl⟩;rw [show ({ f with tmps:=f.tmps,todo:=.inRegion ops (i::rest)::k }:Frame)=f by rw [<- htodo]];exact .refl P _
  ·have hiC:C.testBit i=true:=by
    rcases hall i hlt' with h | ⟨h,_⟩ | ⟨x,h1,h2⟩
    ·exact h
    ·exact absurd h.symm hst
    ·have h3:=D.sub x (hanc x h2);rw [(hstop x h1).2] at h3;cases h3
   obtain ⟨tmps',m',w',s1,s2,s3⟩:=D.Ado hG r hiC hhi hlo hmode htodo (cs:=cs) (w:=w);obtain ⟨S'',tmps'',rest'',m'',w'',t1,t2,t3,t4⟩:=ih (hG.mono s2.ext) s2.rel (f:={ f with tmps:=tmps',todo:=.inRegion ops rest::k }) s3 (λj hj=>by
    rcases hall j hj with h | ⟨h,h'⟩ | h
    ·exact .inl h
    ·refine .inr (.inl ⟨h,λhh=>?_⟩);rcases hh with hh | rfl
     ·exact h' hh
     ·exact hst h.symm
    ·exact .inr (.inr h)) hstop hmode rfl
   exact ⟨S'',tmps'',rest'',m'',w'',.head s1 t1,s2.trans t2,t3,t4⟩
end
variable {x hi':Nat} {q p' r:List Nat} {d:Tmp}
section
variable {P:Program} {X:Bt}
theorem CQ{ops:Array Oper}{o:Oper}{tm tm':Tm}(h:∀ t,C8 ops.toList o t=true->tm'.get t=tm.get t):Bv ops tm' o=Bv ops tm o:=by
 unfold Bv;cases hg:o.guard with
 |none=>rfl
 |some x=>
  obtain ⟨j,want⟩:=x;simp only;unfold EP;cases hj:ops.toList[j]? with
  |none=>rfl
  |some g=>
   simp only;cases hd:g.dst with
   |none=>rfl
   |some d=>simp only;rw [h d (MG hg hj hd)]
theorem Ji{ops:List Oper}{o:Oper}{tm tm':Tm}(h:∀ t,C8 ops o t=true->tm'.get t=tm.get t):∀ x∈o.op.operands.toList,BZ tm' x=BZ tm x:=by
 intro x hx;cases x with
 |tmp t=>exact h t (JZ hx)
 |_=>rfl
theorem Valid.congr{A:AW}{ops:Array Oper}{tm tm':Tm}{i:Nat}(hv:Valid P X A ops tm i)(hl:∀ o,ops.toList[i]? =some o->(∀ t,C8 ops.toList o t=true->tm'.get t=tm.get t)/\∀ d,o.dst=some d->tm'.get d=tm.get d):
  Valid P X A ops tm' i:=by
 intro o d ho hd;obtain ⟨h1,h2⟩:=hl o ho;obtain ⟨v1,v2⟩:=hv o d ho hd;rw [CQ h1,h2 d hd,MM (Ji h1),Pb (Ji h1)];exact ⟨v1,v2⟩
variable {m:Inj P} {A A':AW} {live:Bool} {lo hi:Nat} {tm:Tm} {tmps:Array Value} {ops:Array Oper} {S:Nat->Prop} {C:Nat} {rl pl rest:List Nat}
theorem BP.Aaf(D:BP P X m A true lo hi tm tmps ops S C (x::rl) pl rest)(hv:Valid P X A ops tm (x-ops.size)):BP P X m A true lo hi tm tmps ops S C rl pl rest:=by
 refine { D with rls:=λy hy=>D.rls y (List.mem_cons_of_mem _ hy),valid:=λ_ j hc hs=>?_,wait:=λh=>Bool.noConfusion h };rcases D.valid rfl j hc hs with h | h
 ·cases h with
  |head=>exact .inr (by rw [show ops.size+j-ops.size=j by omega] at hv;exact hv)
  |tail _ h=>exact .inl h
 ·exact .inr h
theorem BP.advance {rl':List Nat} {o:Oper} {v:Value} (D:BP P X m A true lo hi tm tmps ops S C [] q rest) (hx:x<ops.size) (hc:C.testBit x=false)
  (he:(De P ops.toList).testBit x=false) (hm:∀ k,anc ops.toList k x->C.testBit k=true) (ho:ops.toList[x]? =some o) (hd:o.dst=some d) (hhi:hi<=hi') (hlo:lo<=hi)
  (hg:Cj P o.op=false->Bv ops tm o=true->∃ b,MZ v=some b/\m b=none/\hi<=b/\b<hi') (hp:FD ops.toList (De P ops.toList) (OP P ops.toList) (C ||| (1 <<< x)) p') (hrl:∀ y∈rl',ops.size<=y)
  (hv:∀ j,(C ||| (1 <<< x)).testBit j=true->¬ S j->(ops.size+j)∈rl'\/Valid P X A' ops (tm.set d v) j):
  BP P X m A' true lo hi' (tm.set d v) tmps ops S (C ||| (1 <<< x)) rl' p' rest:=by
 have hsz:=D.inb x o d ho hd;have get:∀ t,t≠d->(tm.set d v).get t=tm.get t:=λt ht=>by rw [Tm.E3 tm D.small,Ff (λh=>ht h.1)]
 have getd:(tm.set d v).get d=v:=by rw [Tm.E3 tm D.small,if_pos ⟨rfl,hsz⟩]
 have bit:∀ j,(C ||| (1 <<< x)).testBit j=true↔(C.testBit j=true\/j=x):=λj=>by rw [NP];simp
 have look:∀ i o',(C.testBit i=true\/i=x)->ops.toList[i]? =some o'->∀ t,C8 ops.toList o' t=true->(tm.set d v).get t=tm.get t:=by
  intro i o' hi ho' t hl;refine get t λe=>?_;subst e;rcases D.slotsOk.looks x o t ho hd i o' ho' hl with h | ⟨h,_⟩
  ·rcases hi with hi | rfl
   ·rw [D.closed i hi x h] at hc;cases hc
   ·have:=Zt D.slotsOk.back i i (by simpa using hx) h
    omega
  ·rw [he] at h;cases h
 have dst:∀ i o' d',C.testBit i=true->ops.toList[i]? =some o'->o'.dst=some d'->(tm.set d v).get d'=tm.get d':=by
  intro i o' d' hi ho' hd';refine get d' λe=>?_;subst e
  have:=D.slotsOk.once x o d' ho hd i o' ho' hd'
  subst this;rw [hi] at hc;cases hc
 have hS:¬ S x:=λh=>by rw [D.sub x h] at hc;cases hc
 refine ⟨hp,D.slotsOk,D.opsOk,hrl,D.lin,λi hi=>(bit i).2 (.inl (D.sub i hi)),?_,?_,by intro i o d h1 h2;rw [Tm.IP];exact D.inb i o d h1 h2,?_,by rw [Tm.IP];exact D.size,by rw [Tm.IP];exact D.small,?_,?_,?_,?_,λ_=>hv,λh=>Bool.noConfusion h⟩
 ·intro i hi;rcases (bit i).1 hi with h | rfl
  ·exact D.bits i h
  ·exact hx
 ·intro i hi k hk;rcases (bit i).1 hi with h | rfl
  ·exact (bit k).2 (.inl (D.closed i h k hk))
  ·exact (bit k).2 (.inl (hm k hk))
 ·intro i hi hei;rcases (bit i).1 hi with h | rfl
  ·exact D.effs i h hei
  ·rw [he] at hei;cases hei
 ·intro t ht;rw [Tm.IP] at ht;rw [get t (λe=>absurd hsz (by subst e;exact Nat.not_lt.2 ht))];exact D.oob t ht
 ·intro t ht;have hne:t≠d:=λe=>by
   subst e;exact ht x o ((bit x).2 (.inr rfl)) hS ho hd
  rw [get t hne];exact D.slots t λi o' hi hs ho'=>ht i o' ((bit i).2 (.inl hi)) hs ho'
 ·intro i o' d' hi hs ho' hd' hq hw;rw [CQ (look i o' ((bit i).1 hi) ho')] at hw;rcases (bit i).1 hi with h | rfl
  ·rw [dst i o' d' h ho' hd'];obtain ⟨b,g1,g2,g3,g4⟩:=D.Gd i o' d' h hs ho' hd' hq hw;exact ⟨b,g1,g2,g3,by omega⟩
  ·rw [ho] at ho';cases ho';rw [hd] at hd';cases hd';rw [getd];obtain ⟨b,g1,g2,g3,g4⟩:=hg hq hw;exact ⟨b,g1,g2,by omega,g4⟩
 ·intro i j oi oj di dj i1 i2 i3 i4 i5 i6 j1 j2 j3 j4 j5 j6 hid;rw [CQ (look i oi ((bit i).1 i1) i3)] at i6;rw [CQ (look j oj ((bit j).1 j1) j3)] at j6;rcases (bit i).1 i1 with hi | rfl<;>rcases (bit j).1 j1 with hj | rfl
  ·rw [dst i oi di hi i3 i4,dst j oj dj hj j3 j4] at hid;exact D.apart i j oi oj di dj hi i2 i3 i4 i5 i6 hj j2 j3 j4 j5 j6 hid
  ·exfalso;rw [ho] at j3;cases j3;rw [hd] at j4;cases j4;rw [dst i oi di hi i3 i4,getd] at hid;obtain ⟨b,g1,g2,g3,g4⟩:=D.Gd i oi di hi i2 i3 i4 i5 i6;obtain ⟨b',k1,k2,k3,k4⟩:=hg j5 j6;rw [g1,k1] at hid;cases hid;omega
  ·exfalso;rw [ho] at i3;cases i3;rw [hd] at i4;cases i4;rw [dst j oj dj hj j3 j4,getd] at hid;obtain ⟨b,g1,g2,g3,g4⟩:=D.Gd j oj dj hj j2 j3 j4 j5 j6;obtain ⟨b',k1,k2,k3,k4⟩:=hg i5 i6;rw [g1,k1] at hid;cases hid;omega
  ·rfl
theorem BP.Ww {o:Oper} (D:BP P X m A true lo hi tm tmps ops S C [] q rest) (v:Value) (hc:C.testBit x=false) (he:(De P ops.toList).testBit x=false)
  (ho:ops.toList[x]? =some o) (hd:o.dst=some d) {j:Nat} (hj:C.testBit j=true) (hs:¬ S j):Valid P X A ops (tm.set d v) j:=by
 rcases D.valid rfl j hj hs with h | h
 ·cases h
 ·refine h.congr λo' ho'=>⟨λt hl=>?_,λd' hd'=>?_⟩
  ·rw [Tm.E3 tm D.small,Ff];rintro ⟨rfl,_⟩;rcases D.slotsOk.looks x o t ho hd j o' ho' hl with h | ⟨h,_⟩
   ·rw [D.closed j hj x h] at hc;cases hc
   ·rw [he] at h;cases h
  ·rw [Tm.E3 tm D.small,Ff];rintro ⟨rfl,_⟩
   have:=D.slotsOk.once x o d' ho hd j o' ho' hd'
   subst this;rw [hj] at hc;cases hc
theorem BP.effect {o:Oper} {tm':Tm} {tmps':Array Value} (D:BP P X m A live lo hi tm tmps ops S C [] (x::(again ops.toList.length (De P ops.toList) C (nth (Dv ops.toList []) x) ops.toList.length++p')) (x::r))
  (he:(De P ops.toList).testBit x=true) (hx:x<ops.size) (hc:C.testBit x=false) (hm:∀ k,anc ops.toList k x->C.testBit k=true) (hp:FD ops.toList (De P ops.toList) (OP P ops.toList) (C ||| (1 <<< x)) p')
  (ho:ops.toList[x]? =some o) (hhi:hi<=hi') (hsz:tm'.sz=tm.sz) (hsz':tmps'.size=tmps.size) (hother:∀ t,o.dst≠some t->tm'.get t=tm.get t/\tmps'.getD t undef=tmps.getD t undef)
  (hoob:∀ t,tm'.sz<=t->tm'.get t=undef) (hself:∀ t,o.dst=some t->AM m (tm'.get t) (tmps'.getD t undef)):
  BP P X m A' true lo hi' tm' tmps' ops (λj=>S j\/j=x) (C ||| (1 <<< x)) (again ops.toList.length (De P ops.toList) C (nth (Dv ops.toList []) x) ops.toList.length) p' r:=by
 obtain ⟨_,hnS,hanc,hlin⟩:=D.lin;have bit:∀ j,(C ||| (1 <<< x)).testBit j=true↔(C.testBit j=true\/j=x):=λj=>by rw [NP];simp
 have pend:∀ j,(C ||| (1 <<< x)).testBit j=true->¬ (S j\/j=x)->C.testBit j=true/\¬ S j/\j≠x:=λj hj hs=>
  ⟨((bit j).1 hj).resolve_right λh=>hs (.inr h),λh=>hs (.inl h),λh=>hs (.inr h)⟩
 have look:∀ i o',C.testBit i=true->¬ S i->ops.toList[i]? =some o'->∀ t,C8 ops.toList o' t=true->tm'.get t=tm.get t:=by
  intro i o' hi hs ho' t hl;refine (hother t λe=>?_).1;rcases D.slotsOk.looks x o t ho e i o' ho' hl with h | ⟨_,h | h⟩
  ·rw [D.closed i hi x h] at hc;cases hc
  ·subst h;rw [hi] at hc;cases hc
  ·exact hs (hanc i h)
 have dst:∀ i o' d',C.testBit i=true->ops.toList[i]? =some o'->o'.dst=some d'->tm'.get d'=tm.get d':=by
  intro i o' d' hi ho' hd';refine (hother d' λe=>?_).1
  have:=D.slotsOk.once x o d' ho e i o' ho' hd'
  subst this;rw [hi] at hc;cases hc
 refine ⟨hp,D.slotsOk,D.opsOk,?_,hlin,?_,?_,?_,by rw [hsz];exact D.inb,?_,by rw [hsz,hsz'];exact D.size,by rw [hsz];exact D.small,hoob,?_,?_,?_,?_,λh=>Bool.noConfusion h⟩
 ·intro y hy;obtain ⟨k,_,rfl,_⟩:=(HS _ _ _ _ _ y).1 hy
  simp
 ·rintro i (hi | rfl)
  ·exact (bit i).2 (.inl (D.sub i hi))
  ·exact (bit i).2 (.inr rfl)
 ·intro i hi;rcases (bit i).1 hi with h | rfl
  ·exact D.bits i h
  ·exact hx
 ·intro i hi k hk;rcases (bit i).1 hi with h | rfl
  ·exact (bit k).2 (.inl (D.closed i h k hk))
  ·exact (bit k).2 (.inl (hm k hk))
 ·intro i hi hei;rcases (bit i).1 hi with h | rfl
  ·exact .inl (D.effs i h hei)
  ·exact .inr rfl
 ·intro t ht;by_cases e:o.dst=some t
  ·exact hself t e
  ·obtain ⟨h1,h2⟩:=hother t e;rw [h1,h2];exact D.slots t λi o' hi hs ho' hd'=>ht i o' ((bit i).2 (.inl hi)) (λh=>h.elim hs λh=>by subst h;rw [hi] at hc;cases hc) ho' hd'
 ·intro i o' d' hi hs ho' hd' hq hw;obtain ⟨p1,p2,p3⟩:=pend i hi hs;rw [CQ (look i o' p1 p2 ho')] at hw;rw [dst i o' d' p1 ho' hd'];obtain ⟨b,g1,g2,g3,g4⟩:=D.Gd i o' d' p1 p2 ho' hd' hq hw;exact ⟨b,g1,g2,g3,by omega⟩
 ·intro i j oi oj di dj i1 i2 i3 i4 i5 i6 j1 j2 j3 j4 j5 j6 hid;obtain ⟨p1,p2,p3⟩:=pend i i1 i2;obtain ⟨q1,q2,q3⟩:=pend j j1 j2;rw [CQ (look i oi p1 p2 i3)] at i6;rw [CQ (look j oj q1 q2 j3)] at j6;rw [dst i oi di p1 i3 i4,dst j oj dj q1 j3 j4] at hid;exact D.apart i j oi oj di dj p1 p2 i3 i4 i5 i6 q1 q2 j3 j4 j5 j6 hid
 ·intro _ j hj hs;obtain ⟨p1,p2,p3⟩:=pend j hj hs;refine .inl ((HS _ _ _ _ _ _).2 ⟨j,by simpa using D.bits j p1,by simp,p1,?_,?_⟩)
  ·cases h:(De P ops.toList).testBit j with
   |false=>rfl
   |true=>exact absurd (D.effs j p1 h) p2
  ·cases h:(nth (Dv ops.toList []) x).testBit j with
   |false=>rfl
   |true=>exact absurd (hanc j h) p2
theorem BP.Acm(D:BP P X m A true lo hi tm tmps ops S C [] (x::p') (x::r))(he:(De P ops.toList).testBit x=true)(hi':Nat)(hhi:hi<=hi'):BP P X m A' false lo hi' tm tmps ops S C [] (x::p') (x::r):=
 { D with
  Gd:=λi o d h1 h2 h3 h4 h5 h6=>by
   obtain ⟨b,g1,g2,g3,g4⟩:=D.Gd i o d h1 h2 h3 h4 h5 h6;exact ⟨b,g1,g2,g3,by omega⟩
  valid:=λh=>Bool.noConfusion h
  wait:=λ_=>⟨rfl,x,p',r,rfl,rfl,he⟩ }
theorem BP.mono{m':Inj P}(D:BP P X m A false lo hi tm tmps ops S C rl pl rest)(h:m.le m')(hs:∀ i,i<hi->m' i=m i)(hhi:hi<=hi'):BP P X m' A' false lo hi' tm tmps ops S C rl pl rest:=
 { D with
  slots:=λt ht=>(D.slots t ht).mono h
  Gd:=λi o d h1 h2 h3 h4 h5 h6=>by
   obtain ⟨b,g1,g2,g3,g4⟩:=D.Gd i o d h1 h2 h3 h4 h5 h6;exact ⟨b,g1,by rw [hs b g4];exact g2,g3,by omega⟩
  valid:=λh=>Bool.noConfusion h }
theorem BP.done(D:BP P X m A true lo hi tm tmps ops S C [] [] []):Dp m tm tmps:=by
 refine ⟨D.size,D.small,λt=>D.slots t λi o hc hs ho _=>?_⟩;exact hs (D.lin i (by simpa using D.bits i hc))
theorem BP.start {p:List Nat} {hi:Nat} (hT:Dp m tm tmps) (hp:NO P ops.toList=some p) (ho:ops.toList.all (Aam P)=true) (hin:∀ (i:Nat) (o:Oper) (d:Tmp),ops.toList[i]? =some o->o.dst=some d->d<tm.sz)
  (hl:Lin ops.toList (λ_=>False) rest):BP P X m A true lo hi tm tmps ops (λ_=>False) 0 [] p rest:=by
 obtain ⟨h1,h2⟩:=NN hp;refine ⟨h2,h1,ho,λx hx=>by (cases hx),hl,λi h=>h.elim,λi h=>?_,λi h=>?_,hin,λi h=>?_,hT.size,hT.small,hT.oob,λt _=>hT.val t,λi o d h=>?_,λi j o q d e h=>?_,λ_ i h=>?_,λh=>Bool.noConfusion h⟩
 all_goals (rw [Nat.zero_testBit] at h;cases h)
theorem MN{n:Nat}:∀ {l:List Oper},Jj n l=true->∀ (i:Nat) (o:Oper) (d:Tmp),l[i]? =some o->o.dst=some d->d<n
 |[],_,i,o,d,h,_=>by simp at h
 |x::r,h,i,o,d,ho,hd=>by
  simp only [Jj,Bq] at h;cases i with
  |zero=>
   simp at ho;subst ho
   have:=h.1
   rw [hd] at this;exact AA.1 this
  |succ i=>exact MN h.2 i o d (by simpa using ho) hd
end
variable {a x y:AFr} {f:Frame} {A A':AW} {lo hi hi':Nat} {f0:FuncId} {r:List AFr} {v v':Value}
section
variable {P:Program} {X:Bt}
inductive Iw (m:Inj P):FrameMode->FrameMode->Prop
 |run:Iw m .run .run
 |returning:Iw m .returning .returning
theorem Iw.mono{m m':Inj P}(h:m.le m'){a b:FrameMode}(r:Iw m a b):Iw m' a b:=by
 cases r with
 |run=>exact .run
 |returning=>exact .returning
def Ju(m:Inj P):Option Nat->Option Nat->Prop
 |none,none=>True
 |some l,some l'=>m l=some (l',0)
 |_,_=>False
theorem Ju.mono{m m':Inj P}(h:m.le m'){a b:Option Nat}(r:Ju m a b):Ju m' a b:=by
 cases a<;>cases b<;>first | exact r | exact h.map _ _ r
def Ht(m:Inj P):Item->Item->Prop
 |.code c,x=>x=.code c/\codeOk P c=true
 |.inBlock id,x=>x=.inBlock id
 |.inLoop b,x=>x=.inLoop b/\codeOk P b=true
 |.inScope b,x=>x=.inScope b/\codeOk P b=true
 |.inRegion ops l,x=>x=.inRegion ops l/\ops.toList.all (Aam P)=true
 |.inRangeFunc l,x=>∃ l',x=.inRangeFunc l'/\m l=some (l',0)
 |.endRangeFunc l,x=>∃ l',x=.endRangeFunc l'/\m l=some (l',0)
 |.beginRound,x=>x=.beginRound
 |_,_=>False
theorem Ht.mono{m m':Inj P}(h:m.le m'){a b:Item}(r:Ht m a b):Ht m' a b:=by
 cases a<;>first
  |exact r
  |(obtain ⟨l',e,hm⟩:=r;exact ⟨l',e,h.map _ _ hm⟩)
structure OT (m:Inj P) (a:AFr) (f:Frame):Prop where
 fn:f.fn=a.fn
 kind:f.kind=a.kind
 kindOk:a.kind=.normal
 mode:Iw m a.mode f.mode
 round:Ju m a.roundOf f.roundOf
 defers:B5 (ZM m) a.defers f.defers
theorem OT.mono{m m':Inj P}(h:m.le m')(r:OT m a f):OT m' a f:=
 ⟨r.fn,r.kind,r.kindOk,r.mode.mono h,r.round.mono h,r.defers.mono λ_ _ x=>x.mono h⟩
inductive Agb (P:Program) (X:Bt) (m:Inj P) (A:AW) (live:Bool) (lo hi:Nat) (a:AFr) (f:Frame):Prop
 |plain (h:a.dr=false) (tm:Dp m a.tm f.tmps) (todo:B5 (Ht m) a.todo f.todo)
 |draw (ops:Array Oper) (S:Nat->Prop) (C:Nat) (rl pl rest:List Nat) (k k':List Item) (h:a.dr=true) (mode:a.mode=.run) (ta:a.todo=.inRegion ops (rl++pl)::k) (tf:f.todo=.inRegion ops rest::k')
   (hk:B5 (Ht m) k k') (D:BP P X m A live lo hi a.tm f.tmps ops S C rl pl rest)
structure FE (P:Program) (X:Bt) (m:Inj P) (A:AW) (live:Bool) (lo hi:Nat) (a:AFr) (f:Frame):Prop where
 core:OT m a f
 body:Agb P X m A live lo hi a f
theorem FE.mono{m m':Inj P}(r:FE P X m A false lo hi a f)(h:m.le m')(hs:∀ i,i<hi->m' i=m i)(hhi:hi<=hi'):FE P X m' A' false lo hi' a f:=by
 refine ⟨r.core.mono h,?_⟩;cases r.body with
 |plain g tm todo=>exact .plain g (tm.mono h) (todo.mono λ_ _ x=>x.mono h)
 |draw ops S C rl pl rest k k' g1 g2 g3 g4 g5 D=>exact .draw ops S C rl pl rest k k' g1 g2 g3 g4 (g5.mono λ_ _ x=>x.mono h) (D.mono h hs hhi)
inductive Stk (P:Program) (X:Bt) (m:Inj P) (A:AW) (base:Nat):Nat->List AFr->List Frame->Prop
 |nil (hi:Nat) (h:base<=hi):Stk P X m A base hi [] []
 |cons (lo hi:Nat) (a:AFr) (f:Frame) (l:List AFr) (l':List Frame) (h:lo<=hi) (r:FE P X m A false lo hi a f) (t:Stk P X m A base lo l l'):Stk P X m A base hi (a::l) (f::l')
theorem Stk.base{m:Inj P}{A:AW}{base hi:Nat}{l:List AFr}{l':List Frame}(s:Stk P X m A base hi l l'):base<=hi:=by
 induction s with
 |nil hi h=>exact h
 |cons lo hi a f l l' h r t ih=>omega
theorem Stk.mono{m m':Inj P}{base:Nat}{l:List AFr}{l':List Frame}(s:Stk P X m A base hi l l')(h:m.le m'):(∀ i,i<hi->m' i=m i)->Stk P X m' A' base hi l l':=by
 induction s with
 |nil hi h=>intro _;exact .nil hi h
 |cons lo hi a f l l' hl r t ih=>intro hs;exact .cons lo hi a f l l' hl (r.mono h hs (Nl _)) (ih λi hi=>hs i (by omega))
def Bot(f0:FuncId):List AFr->Prop
 |[]=>False
 |[x]=>x.kind=.normal/\x.fn=f0/\x.roundOf=none
 |_::r=>Bot f0 r
theorem Bot.tail(h:Bot f0 (x::y::r)):Bot f0 (y::r):=h
theorem Bot.push(h:Bot f0 r):Bot f0 (x::r):=by
 cases r with
 |nil=>exact h.elim
 |cons y r=>exact h
theorem Bot.top(h:Bot f0 (x::r))(h1:y.kind=x.kind)(h2:y.fn=x.fn)(h3:y.roundOf=x.roundOf):Bot f0 (y::r):=by
 cases r with
 |nil=>exact ⟨h1.trans h.1,h2.trans h.2.1,h3.trans h.2.2⟩
 |cons z r=>exact h
structure Ds (P:Program) (X:Bt) (f0:FuncId) (base lo:Nat) (m:Inj P) (s:ASt) (f:Frame) (cs:List Frame) (w:World):Prop where
 rel:Rel m s.w w
 glob:GOk m
 below:lo<=s.w.next
 top:FE P X m s.w true lo s.w.next s.fr f
 stk:Stk P X m s.w base lo s.cs cs
 bot:Bot f0 (s.fr::s.cs)
def Sim(P:Program)(X:Bt)(f0:FuncId)(base:Nat)(cs0:List Frame)(m:Inj P)(A:AW)(w:World)(mach:Machine)(s':ASt):Prop:=
 ∃ lo' m' f' cs' w',Steps P mach (lone f' (cs'++cs0) w')/\EvL base m A w m' s'.w w'/\Ds P X f0 base lo' m' s' f' cs' w'
theorem WD{m:Inj P}(htm:Dp m a.tm f.tmps)(htodo:B5 (Ht m) a.todo f.todo)(hv:AM m v v'):Dp m (a.finish v).tm (f.finish v').tmps/\B5 (Ht m) (a.finish v).todo (f.finish v').todo:=by
 cases hta:a.todo with
 |nil=>
  rw [hta] at htodo;generalize htf:f.todo=y at htodo;cases htodo;simp only [AFr.finish,hta,Frame.finish,htf];exact ⟨htm,by exact .nil⟩
 |cons x k=>
  rw [hta] at htodo;generalize htf:f.todo=y at htodo;cases htodo with
  |cons hx hk=>
   rename_i x' k';cases x with
   |code c=>
    obtain ⟨rfl,hc⟩:=hx;simp only [AFr.finish,hta,Frame.finish,htf];exact ⟨htm,.cons ⟨rfl,hc⟩ hk⟩
   |inBlock id=>
    have hx:x'=.inBlock id:=hx;subst hx;simp only [AFr.finish,hta,Frame.finish,htf];exact ⟨htm,.cons rfl hk⟩
   |inLoop b=>
    obtain ⟨rfl,hc⟩:=hx;simp only [AFr.finish,hta,Frame.finish,htf];exact ⟨htm,.cons ⟨rfl,hc⟩ hk⟩
   |inScope b=>
    obtain ⟨rfl,hc⟩:=hx;simp only [AFr.finish,hta,Frame.finish,htf];exact ⟨htm,.cons ⟨rfl,hc⟩ hk⟩
   |inRegion ops l=>
    obtain ⟨rfl,hc⟩:=hx;cases l with
    |nil=>
     simp only [AFr.finish,hta,Frame.finish,htf];exact ⟨htm,.cons ⟨rfl,hc⟩ hk⟩
    |cons i l=>
     simp only [AFr.finish,hta,Frame.finish,htf];refine ⟨?_,.cons ⟨rfl,hc⟩ hk⟩;cases ho:ops[i]? with
     |none=>
      have:ops.toList[i]? =none:=by simpa using ho
      rw [this];exact htm
     |some o=>
      have:ops.toList[i]? =some o:=by simpa using ho
      rw [this];simp only [Option.bind_some];cases o.dst with
      |none=>exact htm
      |some d=>exact htm.set hv
   |inRangeFunc l=>
    obtain ⟨l',rfl,hl⟩:=hx;simp only [AFr.finish,hta,Frame.finish,htf];exact ⟨htm,.cons ⟨l',rfl,hl⟩ hk⟩
   |endRangeFunc l=>
    obtain ⟨l',rfl,hl⟩:=hx;simp only [AFr.finish,hta,Frame.finish,htf];exact ⟨htm,.cons ⟨l',rfl,hl⟩ hk⟩
   |beginRound=>
    have hx:x'=.beginRound:=hx;subst hx;simp only [AFr.finish,hta,Frame.finish,htf];exact ⟨htm,hk⟩
   |call=>exact hx.elim
   |extern=>exact hx.elim
theorem Gp(a:AFr)(v:Value):(a.finish v).fn=a.fn/\(a.finish v).kind=a.kind/\(a.finish v).mode=a.mode/\(a.finish v).roundOf=a.roundOf/\(a.finish v).defers=a.defers/\(a.finish v).dr=a.dr:=by
 unfold AFr.finish;split<;>exact ⟨rfl,rfl,rfl,rfl,rfl,rfl⟩
theorem SJ(f:Frame)(v:Value):(f.finish v).fn=f.fn/\(f.finish v).kind=f.kind/\(f.finish v).mode=f.mode/\(f.finish v).roundOf=f.roundOf/\(f.finish v).defers=f.defers:=by
 unfold Frame.finish;split<;>exact ⟨rfl,rfl,rfl,rfl,rfl⟩
theorem Ht.IY{m:Inj P}:∀ {k k':List Item},B5 (Ht m) k k'->IY k'
 |_,_,.nil=>trivial
 |x::_,_,.cons h _=>by
  cases x<;>first
   |(obtain ⟨rfl,_⟩:=h;trivial)
   |(obtain ⟨_,rfl,_⟩:=h;trivial)
   |(have h:_=_:=h;subst h;trivial)
   |exact h.elim
theorem FE.IY{m:Inj P}{A:AW}{live:Bool}{lo hi:Nat}{a:AFr}{f:Frame}(r:FE P X m A live lo hi a f):IY f.todo:=by
 cases r.body with
 |plain h tm todo=>exact Ht.IY todo
 |draw ops S C rl pl rest k k' h1 h2 h3 h4 h5 D=>rw [h4];trivial
theorem OT.finish{m:Inj P}(h:OT m a f)(_hn:Abs.IY f.todo)(v v':Value):OT m (a.finish v) (f.finish v'):=by
 obtain ⟨a1,a2,a3,a4,a5,a6⟩:=Gp a v;obtain ⟨b1,b2,b3,b4,b5⟩:=SJ f v';exact ⟨by rw [a1,b1];exact h.fn,by rw [a2,b2];exact h.kind,by rw [a2];exact h.kindOk,by rw [a3,b3];exact h.mode,by rw [a4,b4];exact h.round,by rw [a5,b5];exact h.defers⟩
theorem FE.finish{m:Inj P}(r:FE P X m A false lo hi a f)(hv:AM m v v')(hhi:hi<=hi'):FE P X m A true lo hi' (a.finish v) (f.finish v'):=by
 refine ⟨r.core.finish r.IY v v',?_⟩;cases r.body with
 |plain h tm todo=>
  obtain ⟨h1,h2⟩:=WD tm todo hv;exact .plain ((Gp a v).2.2.2.2.2.trans h) h1 h2
 |draw ops S C rl pl rest k k' h1 h2 h3 h4 h5 D=>
  obtain ⟨rfl,x,p',r',rfl,rfl,he⟩:=D.wait rfl;have hplan:=D.plan;cases hplan with
  |pure _ _ _ g1 g2=>rw [g2] at he;cases he
  |alloc _ _ _ g1 g2=>rw [g2] at he;cases he
  |effect _ _ p g1 g2 g3 g4 g5 g6=>
   obtain ⟨o,ho⟩:∃ o,ops.toList[x]? =some o:=⟨_,Ge g1⟩;rw [I9 h3 ho v,J7 h4 ho v'];refine .draw ops (λj=>S j\/j=x) (C ||| (1 <<< x)) (again ops.toList.length (De P ops.toList) C (nth (Dv ops.toList []) x) ops.toList.length) p r' k k' h1 h2 rfl rfl h5 ?_;cases hd:o.dst with
   |none=>
    refine D.effect g2 (by simpa using g1) g3 g4 g6 ho hhi rfl rfl (λt _=>⟨rfl,rfl⟩) D.oob λt ht=>?_;rw [hd] at ht;cases ht
   |some d=>
    have hin:=D.inb x o d ho hd;refine D.effect g2 (by simpa using g1) g3 g4 g6 ho hhi (Tm.IP _ _ _) (by simp) (λt ht=>?_) (λt ht=>?_) λt ht=>?_
    ·have hne:t≠d:=λe=>ht (by rw [hd,e]);rw [Tm.E3 _ D.small,Ff (λh=>hne h.1),Ob,Ff (λh=>hne h.1)];exact ⟨rfl,rfl⟩
    ·rw [Tm.IP] at ht;rw [Tm.E3 _ D.small,Ff (by omega)];exact D.oob t ht
    ·rw [hd] at ht;cases ht;rw [Tm.E3 _ D.small,if_pos ⟨rfl,hin⟩,Ob,if_pos ⟨rfl,by rw [D.size];exact hin⟩];exact hv
end
variable {args args':List Value} {A:AW} {f:Frame} {fr a:AFr} {base hi lo:Nat} {live live':Bool} {f0:FuncId} {cs:List AFr}
section
variable {P:Program} {X:Bt}
structure POk (P:Program):Prop where
 code:∀ (f:FuncId) (fn:Func) (c:Code),P.funcs[f]? =some fn->fn.body=some c->codeOk P c=true
 mixed:P.follows .mixedOrders=true
theorem Lx:∀ (l:List Value) (tm:Tm) (i t:Nat),tm.sz<Aj->(Tm.fill tm i l).sz=tm.sz/\(Tm.fill tm i l).get t=if i<=t/\t<tm.sz then (match l[t-i]? with | some v=>v | none=>tm.get t) else tm.get t
 |[],tm,i,t,_=>by simp [Tm.fill]
 |v::r,tm,i,t,hs=>by
  have ih:=Lx r (tm.set i v) (i+1) t (by rw [Tm.IP];exact hs);rw [Tm.IP] at ih;refine ⟨ih.1,?_⟩;show (Tm.fill (tm.set i v) (i+1) r).get t=_;rw [ih.2,Tm.E3 tm hs];by_cases e:t=i
  ·subst e;rw [Ff (by omega)];by_cases h:t<tm.sz
   ·simp [h]
   ·simp [h]
  ·have g:(if t=i/\i<tm.sz then v else tm.get t)=tm.get t:=Ff (λh=>e h.1);rw [g];by_cases h:i+1<=t/\t<tm.sz
   ·rw [if_pos h,if_pos (by omega),show t-i=(t-(i+1))+1 by omega];rfl
   ·rw [Ff h,Ff (by omega)]
theorem YZ{m:Inj P}(ha:AJ m args args'){n k:Nat}(hn:n<Aj)(hle:args.length<=n)(hk:k=n-args.length):
  Dp m (Tm.fill ⟨n,.nil⟩ 0 args) (⟨args'⟩++Array.replicate k undef):=by
 have hl:=ha.length;refine ⟨?_,?_,λt=>?_⟩
 ·rw [(Lx args ⟨n,.nil⟩ 0 0 hn).1]
  simp
  omega
 ·rw [(Lx args ⟨n,.nil⟩ 0 0 hn).1];exact hn
 ·rw [(Lx args ⟨n,.nil⟩ 0 t hn).2];have hnil:(⟨n,.nil⟩:Tm).get t=undef:=rfl;rw [hnil,Array.getD_eq_getD_getElem?,Array.getElem?_append];simp only [Nat.zero_le,true_and,Nat.sub_zero,List.size_toArray];by_cases h:t<args.length
  ·rw [if_pos (show t<n by omega),if_pos (show t<args'.length by omega)];obtain ⟨v',h1,h2⟩:=ha.get (Ge h);rw [Ge h];simp only [List.getElem?_toArray,h1,Option.getD_some];exact h2
  ·rw [Ff (show ¬ t<args'.length by omega),List.getElem?_eq_none (by omega)]
   have:((Array.replicate k undef)[t-args'.length]?).getD undef=undef:=by
    simp only [Array.getElem?_replicate];split<;>rfl
   rw [this];simp only [ite_self];exact Fm m
theorem P8(hP:POk P){m:Inj P}{f:FuncId}(h:CD P f args .normal=some fr)(ha:AJ m args args')(lo hi:Nat):
  FE P X m A true lo hi fr (Frame.enter P f ⟨args'⟩ .normal)/\fr.kind=.normal/\fr.fn=f/\fr.roundOf=none:=by
 unfold CD at h;split at h
 rotate_left
 ·cases h
 rename_i fn hf;split at h
 rotate_left
 ·cases h
 rename_i c hb;simp only at h;have hl:=ha.length;have hmax:(bif Nat.ble fn.ntmps args.length then args.length else fn.ntmps)=max fn.ntmps args.length:=by
  cases hc:Nat.ble fn.ntmps args.length with
  |true=>have:=Bb.1 hc;simp only [Ct];omega
  |false=>have:=BL.1 hc;simp only [Cf];omega
 rw [hmax] at h;cases hlt:Nat.blt (max fn.ntmps args.length) Aj with
 |false=>rw [hlt] at h;cases h
 |true=>
  rw [hlt,Ct,Oi] at h;subst h;have hlt:=AA.1 hlt;refine ⟨⟨⟨rfl,rfl,rfl,.run,trivial,.nil⟩,.plain rfl ?_ ?_⟩,rfl,rfl,rfl⟩
  ·simp only [Frame.enter,hf,Option.map_some,Option.getD_some];exact YZ ha hlt (by omega) (by simp;omega)
  ·simp only [Frame.enter,hf,hb,Option.bind_some,Option.getD_some];exact .cons ⟨rfl,hP.code f fn c hf hb⟩ .nil
theorem Stk.inv{m:Inj P}{c:AFr}{rest:List AFr}{l':List Frame}(s:Stk P X m A base hi (c::rest) l'):
  ∃ lo f r',l'=f::r'/\lo<=hi/\FE P X m A false lo hi c f/\Stk P X m A base lo rest r':=by
 cases s with
 |cons lo _ _ f _ r' h r t=>exact ⟨lo,f,r',rfl,h,r,t⟩
theorem FE.Aaa{m:Inj P}(r:FE P X m A live lo hi a f)(hd:a.dr=false){u u':FrameMode}(hu:Iw m u u'):
  FE P X m A live' lo hi { a with mode:=u } { f with mode:=u' }:=by
 refine ⟨⟨r.core.fn,r.core.kind,r.core.kindOk,hu,r.core.round,r.core.defers⟩,?_⟩;cases r.body with
 |plain h tm todo=>exact .plain h tm todo
 |draw ops S C rl pl rest k k' h1=>rw [hd] at h1;cases h1
theorem FE.QI{m:Inj P}(r:FE P X m A live lo hi a f)(hm:a.mode≠ .run):a.dr=false:=by
 cases r.body with
 |plain h tm todo=>exact h
 |draw ops S C rl pl rest k k' h1 h2=>exact absurd h2 hm
theorem FE.PK{m:Inj P}{hi':Nat}(r:FE P X m A live lo hi a f)(hd:a.dr=false):FE P X m A live' lo hi' a f:=by
 refine ⟨r.core,?_⟩;cases r.body with
 |plain h tm todo=>exact .plain h tm todo
 |draw ops S C rl pl rest k k' h1=>rw [hd] at h1;cases h1
theorem Bot.finish{x:AFr}(h:Bot f0 (x::cs))(v:Value):Bot f0 (x.finish v::cs):=by
 obtain ⟨a1,a2,a3,a4,a5,a6⟩:=Gp x v;exact h.top a2 a1 a4
theorem Qg (hP:POk P) {m:Inj P} {w:World} {csW cs0:List Frame} {res:R AN} {s:Sem Next} {s':ASt}
  (hr:BC P m A w res s) (hG:GOk m) (hlo:lo<=A.next) (ht:FE P X m A false lo A.next fr f) (hs:Stk P X m A base lo cs csW) (hb:Bot f0 (fr::cs))
  (hn:∀ i A',res≠ .ok (.rangeNext i) A') (hout:Cq P fr cs res=.next s'):
  ∃ f' csW' w',answer P f (csW++cs0) (s.run P w)=some (f',csW'++cs0,w')/\∃ lo' m',EvL base m A w m' s'.w w'/\Ds P X f0 base lo' m' s' f' csW' w':=by
 have hbase:=hs.base;cases res with
 |fail y=>cases hout
 |ok n A'=>
  have fin:∀ (v v':Value) (w':World) (m':Inj P) (fr2:AFr) (f2:Frame),Ev m A w m' A' w'->AM m' v v'->FE P X m' A' false lo A'.next fr2 f2->Bot f0 (fr2::cs)->
    EvL base m A w m' A' w'/\Ds P X f0 base lo m' ⟨fr2.finish v,cs,A'⟩ (f2.finish v') csW w':=by
   intro v v' w' m' fr2 f2 h2 h3 h4 h5;refine ⟨h2.low (by omega),h2.rel,hG.mono h2.ext,by have:=h2.next;show lo<=A'.next;omega,h4.finish h3 (Nl _),hs.mono h2.ext λi hi=>h2.same i (by omega),h5.finish v⟩
  cases n with
  |value v=>
   obtain ⟨n',w',m',h1,h2,v',rfl,h3⟩:=hr;simp only [Cq,Cf,Em.next.injEq] at hout;subst hout;obtain ⟨g1,g2⟩:=fin v v' w' m' fr f h2 h3 (ht.mono h2.ext h2.same h2.next) hb;exact ⟨_,csW,w',by rw [h1];rfl,lo,m',g1,g2⟩
  |skip=>
   obtain ⟨n',w',m',h1,h2,h3⟩:=hr;have h3:n'=.skip:=h3;subst h3;simp only [Cq,Cf,Em.next.injEq] at hout;subst hout;obtain ⟨g1,g2⟩:=fin undef undef w' m' fr f h2 (Fm m') (ht.mono h2.ext h2.same h2.next) hb;exact ⟨_,csW,w',by rw [h1];rfl,lo,m',g1,g2⟩
  |enter g args=>
   obtain ⟨n',w',m',h1,h2,args',rfl,h3⟩:=hr;simp only [Cq,Cf] at hout;split at hout
   rotate_left
   ·cases hout
   rename_i fr' he;simp only [Em.next.injEq] at hout;subst hout;obtain ⟨g1,g2,g3,g4⟩:=P8 (X:=X) (A:=A') hP he h3 A'.next A'.next;refine ⟨_,f::csW,w',by rw [h1];rfl,A'.next,m',h2.low (by omega),h2.rel,hG.mono h2.ext,Nl _,g1,?_,hb.push⟩;exact .cons lo A'.next fr f cs csW (by have:=h2.next;omega) (ht.mono h2.ext h2.same h2.next) (hs.mono h2.ext λi hi=>h2.same i (by omega))
  |round l fn tm assign body=>
   obtain ⟨n',w',m',h1,h2,l',tmps',rfl,h3,h4,h5,h6⟩:=hr;simp only [Cq,Cf,Em.next.injEq] at hout;subst hout;refine ⟨_,f::csW,w',by rw [h1];rfl,A'.next,m',h2.low (by omega),h2.rel,hG.mono h2.ext,Nl _,?_,?_,hb.push⟩
   ·refine ⟨⟨rfl,rfl,rfl,.run,h3,.nil⟩,.plain rfl h4 (.cons ⟨rfl,h5⟩ (.cons rfl (.cons ⟨rfl,h6⟩ .nil)))⟩
   ·exact .cons lo A'.next fr f cs csW (by have:=h2.next;omega) (ht.mono h2.ext h2.same h2.next) (hs.mono h2.ext λi hi=>h2.same i (by omega))
  |rangeNext i=>exact absurd rfl (hn i A')
end
variable {s s':ASt} {c:AFr} {rest:List AFr} {A':AW} {v:Value} {l l':Nat}
section
variable {P:Program} {X:Bt} {f0:FuncId} {base lo:Nat} {m:Inj P} {A:AW} {w:World} {fr:AFr} {cs:List AFr} {f:Frame} {csW cs0:List Frame}
theorem Ds.Hq(h:Ds P X f0 base lo m s f csW w):base<=lo:=h.stk.base
theorem Ds.todo{s:ASt}{mach:Machine}{k k':List Item}(h:Ds P X f0 base lo m s f csW w)(hd:s.fr.dr=false)(hk:B5 (Ht m) k k')(hs:Steps P mach (lone { f with todo:=k' } (csW++cs0) w)):
  Sim P X f0 base cs0 m s.w w mach ⟨{ s.fr with todo:=k },s.cs,s.w⟩:=by
 refine ⟨lo,m,_,csW,w,hs,.refl h.rel base,h.rel,h.glob,h.below,⟨⟨h.top.core.fn,h.top.core.kind,h.top.core.kindOk,h.top.core.mode,h.top.core.round,h.top.core.defers⟩,?_⟩,h.stk,h.bot.top rfl rfl rfl⟩;cases h.top.body with
 |plain h1 tm todo=>exact .plain h1 tm hk
 |draw ops S C rl pl rest j j' h1=>rw [hd] at h1;cases h1
theorem Ds.answer {mach:Machine} (h:Ds P X f0 base lo m s f csW w) (hcs:s.cs=c::rest) {m':Inj P} {w':World} (hev:Ev m s.w w m' A' w') {v':Value} (hv:AM m' v v')
  (hs:∀ g l,csW=g::l->Steps P mach (lone (g.finish v') (l++cs0) w')):Sim P X f0 base cs0 m s.w w mach ⟨c.finish v,rest,A'⟩:=by
 have hstk:=h.stk;rw [hcs] at hstk;have hb:=h.bot;rw [hcs] at hb;obtain ⟨lo1,g,l,rfl,h1,h2,h3⟩:=hstk.inv;have hlo:=h.below;have hbase:=h.Hq;refine ⟨lo1,m',g.finish v',l,w',hs g l rfl,hev.low (by omega),hev.rel,h.glob.mono hev.ext,by have:=hev.next;show lo1<=A'.next;omega,?_,h3.mono hev.ext λi hi=>hev.same i (by omega),(Bot.tail hb).finish v⟩;exact (h2.mono (A':=A') hev.ext (λi hi=>hev.same i (by omega)) (Nl lo)).finish hv (by have:=hev.next;show lo<=A'.next;omega)
theorem HO(hk:fr.kind=.normal)(h:Dl fr (c::rest) v A'=.next s'):s'=⟨c.finish v,rest,A'⟩:=by
 unfold Dl at h;rw [hk] at h;simp only [Em.next.injEq] at h;exact h.symm
theorem Rel.NZ(r:Rel m A w){lp:GV}(hg:A.get l=some (.loop lp))(hm:m l=some (l',0)):∃ lp',w.heap[l']? =some (.loop lp')/\ZA m lp lp':=by
 obtain ⟨c0,d0,o',g1,g2,g3⟩:=r.GK hg hm;rw [hm] at g1;simp only [Oi,Pj] at g1;obtain ⟨rfl,rfl⟩:=g1;obtain ⟨_,lp',rfl,h⟩:=g3;exact ⟨lp',g2,h⟩
theorem G2{lp':Loop}(h:w.heap[l']? =some (.loop lp')):(Instr.getLoop l').run P w=.ok lp' w:=by
 simp only [Instr.getLoop,Sem.run_bind,BI P w l' _ h (by simp),Result.andThen_ok];rfl
theorem V5(r:Rel m A w){lp:GV}(hg:A.get l=some (.loop lp))(hm:m l=some (l',0))(jump:Option Code)(hj:∀ c,jump=some c->codeOk P c=true):
  ∃ w',(Instr.endRound l' jump).run P w=.ok (.bool jump.isNone) w'/\Ev m A w m (A.put l (.loop { lp with state:=if jump.isNone then .ready else .done,pending:=jump })) w':=by
 obtain ⟨lp',h1,h2⟩:=r.NZ hg hm;refine ⟨_,?_,Ev.Ie r hg rfl rfl hm h1 (o2:=.loop { lp with state:=if jump.isNone then .ready else .done,pending:=jump }) (o2':=.loop { lp' with state:=if jump.isNone then .ready else .done,pending:=jump })
  ⟨rfl,_,rfl,rfl,rfl,h2.fn,h2.tm,h2.params,h2.assign,h2.body,h2.defers,h2.ok.1,h2.ok.2.1,hj⟩ rfl rfl⟩
 simp only [Instr.endRound,Sem.run_bind,G2 h1,Result.andThen_ok,Cy P w l' _ _ h1 (by simp),Sem.run_pure]
theorem RS(r:Rel m A w){lp:GV}(hg:A.get l=some (.loop lp))(hm:m l=some (l',0))(hs:lp.state=.ready):
  ∃ w',(Instr.beginRound l').run P w=.ok () w'/\Ev m A w m (A.put l (.loop { lp with state:=.busy })) w':=by
 obtain ⟨lp',h1,h2⟩:=r.NZ hg hm;refine ⟨_,?_,Ev.Ie r hg rfl rfl hm h1 (o2:=.loop { lp with state:=.busy }) (o2':=.loop { lp' with state:=.busy })
  ⟨rfl,_,rfl,rfl,h2.pending,h2.fn,h2.tm,h2.params,h2.assign,h2.body,h2.defers,h2.ok⟩ rfl rfl⟩
 have hs':lp'.state=.ready:=by rw [h2.state,hs]
 simp only [Instr.beginRound,Sem.run_bind,G2 h1,Result.andThen_ok,Cy P w l' _ _ h1 (by simp),hs',Sem.run_pure]
theorem YB(r:Rel m A w){lp:GV}(hg:A.get l=some (.loop lp))(hm:m l=some (l',0))(hs:lp.state≠ .busy):
  ∃ w',(Instr.endLoop l').run P w=.ok lp.pending w'/\Ev m A w m (A.put l (.loop { lp with state:=.exhausted })) w':=by
 obtain ⟨lp',h1,h2⟩:=r.NZ hg hm;refine ⟨_,?_,Ev.Ie r hg rfl rfl hm h1 (o2:=.loop { lp with state:=.exhausted }) (o2':=.loop { lp' with state:=.exhausted })
  ⟨rfl,_,rfl,rfl,h2.pending,h2.fn,h2.tm,h2.params,h2.assign,h2.body,h2.defers,h2.ok⟩ rfl rfl⟩
 have hs':(lp'.state== .busy)=false:=by rw [h2.state];cases hq:lp.state<;>first | rfl | exact absurd hq hs
 simp only [Instr.endLoop,Sem.run_bind,G2 h1,Result.andThen_ok,hs',Bool.false_eq_true,if_false,Sem.run_pure,Cy P w l' _ _ h1 (by simp),h2.pending]
theorem Wr {s':ASt} {jump:Option Code} (h:Ds P X f0 base lo m s f csW w) (hmode:s.fr.mode=.run) (hjump:Jump f.todo jump) (hjA:jump=none\/∃ c,jump=some c)
  (hout:(match s.fr.roundOf with
   |none=>(match jump with
    |none=>Em.next ⟨{ s.fr with mode:=.returning },s.cs,s.w⟩
    |some .ret=>.next ⟨{ s.fr with mode:=.returning },s.cs,s.w⟩
    |_=>.fail "leave")
   |some l=>(match s.w.get l with
    |some (.loop r)=>Dl s.fr s.cs (.bool jump.isNone) (s.w.put l (.loop { r with state:=if jump.isNone then .ready else .done,pending:=jump }))
    |_=>.fail "endRound"))=.next s') (hd:s.fr.dr=false):Sim P X f0 base cs0 m s.w w (lone f (csW++cs0) w) s':=by
 have hfm:f.mode=.run:=by
  have:=h.top.core.mode
  rw [hmode] at this;generalize f.mode=u at this;cases this;rfl
 cases hro:s.fr.roundOf with
 |none=>
  rw [hro] at hout;simp only at hout;have hfro:f.roundOf=none:=by
   have:=h.top.core.round
   rw [hro] at this;cases hq:f.roundOf with
   |none=>rfl
   |some l=>rw [hq] at this;exact this.elim
  have key:s'=⟨{ s.fr with mode:=.returning },s.cs,s.w⟩/\(f.todo=[]\/∃ k,f.todo=.code .ret::k):=by
   generalize htf:f.todo=t at hjump;cases hjump with
   |done=>simp only [Em.next.injEq] at hout;exact ⟨hout.symm,.inl rfl⟩
   |ret k=>simp only [Em.next.injEq] at hout;exact ⟨hout.symm,.inr ⟨k,rfl⟩⟩
   |exit id k hh=>cases hout
   |goto l k hh=>cases hout
  obtain ⟨rfl,htf⟩:=key;refine ⟨lo,m,_,csW,w,.one (Z0 hfm hfro htf),.refl h.rel base,h.rel,h.glob,h.below,h.top.Aaa hd .returning,h.stk,h.bot.top rfl rfl rfl⟩
 |some l=>
  rw [hro] at hout;simp only at hout;have hr:=h.top.core.round;rw [hro] at hr;cases hfr:f.roundOf with
  |none=>rw [hfr] at hr;exact hr.elim
  |some l'=>
   rw [hfr] at hr;have hr:m l=some (l',0):=hr;split at hout
   rotate_left
   ·cases hout
   rename_i lp hg;have hj:∀ c,jump=some c->codeOk P c=true:=by
    intro c hc;subst hc;generalize f.todo=t at hjump;cases hjump<;>rfl
   obtain ⟨w',g1,g2⟩:=V5 h.rel hg hr jump hj;cases hcs:s.cs with
   |nil=>rw [hcs] at hout;cases hout
   |cons c rest=>
    rw [hcs] at hout;have hk:=h.top.core.kindOk;rw [HO hk hout];exact h.answer hcs g2 (.bool _) λg l2 hl=>by
     subst hl;exact .one (ZZ hfm hfr hjump g1 (h.top.core.kind.trans hk))
end
variable {s:ASt} {args:List Value} {i:Nat} {A':AW}
section
variable {P:Program} {X:Bt} {f0:FuncId} {base lo:Nat} {m:Inj P} {A:AW} {w:World} {fr:AFr} {cs:List AFr} {f:Frame} {csW cs0:List Frame}
theorem Oo{m:Inj P}(id:Nat):∀ {k k':List Item},B5 (Ht m) k k'->(match Hc id k with | none=>exitTo id k'=none | some r=>∃ r',exitTo id k'=some r'/\B5 (Ht m) r r')
 |_,_,.nil=>rfl
 |x::_,_,.cons h t=>by
  have ih:=Oo id t;cases x with
  |inBlock id'=>
   have h:_=_:=h;subst h;simp only [Hc,exitTo];cases hb:Nat.beq id' id with
   |true=>
    have:=beq_true.1 hb
    subst this;simp only [Ct,beq_self_eq_true,if_true];exact ⟨_,rfl,t⟩
   |false=>
    have:=beq_false.1 hb
    simp only [Cf,beq_iff_eq,Ff this];exact ih
  |code c=>obtain ⟨rfl,_⟩:=h;exact ih
  |inLoop c=>obtain ⟨rfl,_⟩:=h;exact ih
  |inScope c=>obtain ⟨rfl,_⟩:=h;exact ih
  |inRegion ops l=>obtain ⟨rfl,_⟩:=h;exact ih
  |inRangeFunc l=>obtain ⟨l',rfl,_⟩:=h;exact ih
  |endRangeFunc l=>obtain ⟨l',rfl,_⟩:=h;exact ih
  |beginRound=>have h:_=_:=h;subst h;exact ih
  |call=>exact h.elim
  |extern=>exact h.elim
theorem QU:∀ (c:Code) (l:Nat) (r:Code),codeOk P c=true->findLabel c l=some r->codeOk P r=true:=by
 intro c
 induction c with
 |seq a b iha ihb=>
  intro l r hc h;simp only [codeOk,Bq] at hc;simp only [findLabel] at h;split at h
  ·rename_i rest hr;cases h;simp only [codeOk,Bq];exact ⟨iha l rest hc.1 hr,hc.2⟩
  ·exact ihb l r hc.2 h
 |label l'=>
  intro l r hc h;simp only [findLabel] at h;split at h
  ·cases h;rfl
  ·cases h
 |_=>intro l r hc h;simp [findLabel] at h
theorem N9{m:Inj P}(l:Nat):∀ {k k':List Item},B5 (Ht m) k k'->(match gotoIn l k with | none=>gotoIn l k'=none | some r=>∃ r',gotoIn l k'=some r'/\B5 (Ht m) r r')
 |_,_,.nil=>rfl
 |x::_,_,.cons h t=>by
  have ih:=N9 l t;cases x with
  |inScope body=>
   obtain ⟨rfl,hb⟩:=h;simp only [gotoIn];cases hf:findLabel body l with
   |none=>exact ih
   |some rest=>exact ⟨_,rfl,.cons ⟨rfl,QU body l rest hb hf⟩ (.cons ⟨rfl,hb⟩ t)⟩
  |code c=>obtain ⟨rfl,_⟩:=h;exact ih
  |inLoop c=>obtain ⟨rfl,_⟩:=h;exact ih
  |inBlock c=>have h:_=_:=h;subst h;exact ih
  |inRegion ops l=>obtain ⟨rfl,_⟩:=h;exact ih
  |inRangeFunc l=>obtain ⟨l',rfl,_⟩:=h;exact ih
  |endRangeFunc l=>obtain ⟨l',rfl,_⟩:=h;exact ih
  |beginRound=>have h:_=_:=h;subst h;exact ih
  |call=>exact h.elim
  |extern=>exact h.elim
theorem Ds.MK(h:Ds P X f0 base lo m s f csW w)(hm:s.fr.mode=.run):f.mode=.run:=by
 have:=h.top.core.mode
 rw [hm] at this;generalize f.mode=u at this;cases this;rfl
theorem Ds.plain{s:ASt}(h:Ds P X f0 base lo m s f csW w)(hd:s.fr.dr=false):Dp m s.fr.tm f.tmps/\B5 (Ht m) s.fr.todo f.todo:=by
 cases h.top.body with
 |plain h1 tm todo=>exact ⟨tm,todo⟩
 |draw ops S C rl pl rest j j' h1=>rw [hd] at h1;cases h1
theorem Mm{g:FuncId}:Gy P A g args≠ .ok (.rangeNext i) A':=by
 intro h;unfold Gy at h;simp only [Bool.cond_eq_ite] at h
 repeat' split at h
 all_goals (cases h)
theorem M5{b:Builtin}{ts:List TypeId}{ty:TypeId}:Dm P A b ts ty args≠ .ok (.rangeNext i) A':=by
 intro h;unfold Dm at h;simp only [Bool.cond_eq_ite] at h
 repeat' split at h
 all_goals (cases h)
theorem GM{t:Target}:Cz P A t args≠ .ok (.rangeNext i) A':=by
 intro h;unfold Cz at h;simp only [Bool.cond_eq_ite] at h
 repeat' split at h
 all_goals first | (cases h;done) | exact Mm h | exact M5 h
theorem GP{ρ:Operand->Value}{o:Oper}(h:Ba P ρ o A=.ok (.rangeNext i) A'):
  ∃ it a,o.op=.next it false/\ρ it=.pointer (some a)/\a.block=i/\a.off=0/\A'=A:=by
 obtain ⟨dst,op,type,pos,after,guard⟩:=o;cases op
 case next it isS=>
  unfold Ba Lk at h;simp only [Bool.cond_eq_ite] at h
  repeat' split at h
  all_goals first | (cases h;done) | skip
  rename_i hit _ _ _ _ _ _ _;cases h;exact ⟨it,_,rfl,hit,rfl,rfl,rfl⟩
 case call c=>
  unfold Ba at h;simp only at h;split at h
  ·exact absurd h GM
  ·cases h
 all_goals
  exfalso;unfold Ba at h;simp only at h
  repeat' split at h
  all_goals (cases h)
theorem Si{ρ:Operand->Value}{o:Oper}{A:AW}(h:∀ y,Ba P ρ o A≠ .fail y):∀ c,o.op≠ .defer c:=by
 intro c hc;unfold Ba at h;rw [hc] at h;exact h _ rfl
theorem Se {ops:Array Oper} {rest:List Nat} {k:List Item} {o:Oper} (h:Ds P X f0 base lo m s f csW w) (hm:s.fr.mode=.run) (ht:s.fr.todo=.inRegion ops (i::rest)::k) (ho:ops.toList[i]? =some o)
  (he:s.fr.dr=false\/(De P ops.toList).testBit i=true):∃ m1 f1 w1 r k',Steps P (lone f (csW++cs0) w) (lone f1 (csW++cs0) w1)/\EvL base m s.w w m1 s.w w1/\Rel m1 s.w w1/\GOk m1/\f1.mode=.run/\f1.todo=.inRegion ops (i::r)::k'/\
   Region.wanted o (yielded ops f1.tmps)=Bv ops s.fr.tm o/\(∀ x∈o.op.operands.toList,AM m1 (s.fr.eval x) (f1.eval x))/\FE P X m1 s.w false lo s.w.next s.fr f1/\Stk P X m1 s.w base lo s.cs csW:=by
 have hfm:=h.MK hm;have hi:i<ops.size:=by simpa using (Gs.1 ho).1
 cases h.top.body with
 |plain hd htm htodo=>
  rw [ht] at htodo;generalize htf:f.todo=y at htodo;cases htodo with
  |cons hx hk=>
   rename_i x' k';obtain ⟨rfl,hops⟩:=hx;refine ⟨m,f,w,rest,k',.refl P _,.refl h.rel base,h.rel,h.glob,hfm,htf,Nk λ_ _ _ _ d _ _=>htm.val d,λx hx=>?_,h.top.PK hd,h.stk⟩;rw [CY,D1];exact JM h.glob (List.all_eq_true.1 (List.all_eq_true.1 hops o (List.mem_of_getElem? ho)) x hx) λt _=>htm.val t
 |draw ops' S C rl pl rest' k0 k' hd hmode ta tf hk D=>
  rw [ht] at ta;simp only [Li,Item.inRegion.injEq] at ta;obtain ⟨⟨rfl,hl⟩,rfl⟩:=ta;have heff:(De P ops.toList).testBit i=true:=by
   rcases he with he | he
   ·rw [hd] at he;cases he
   ·exact he
  have hrl:rl=[]:=by
   cases rl with
   |nil=>rfl
   |cons y rl=>
    simp only [List.cons_append,Li] at hl
    have:=D.rls y (by simp)
    omega
  subst hrl;rw [List.nil_append] at hl;subst hl;have hplan:=D.plan;cases hplan with
  |pure _ _ p g1 g2=>rw [g2] at heff;cases heff
  |alloc _ _ p g1 g2=>rw [g2] at heff;cases heff
  |effect _ _ p g1 g2 g3 g4 g5 g6=>
   obtain ⟨S',tmps',rest2,m1,w1,t1,t2,t3,r,t4⟩:=BP.VD (cs:=csW++cs0) (k:=k') (some i) (Nl _) h.below rest' h.glob h.rel D (λj hj=>by
    rcases g5 j (by simpa using hj) with hh | rfl | hh
    ·exact .inl hh
    ·exact .inr (.inl ⟨rfl,λhs=>by rw [D.sub j hs] at g3;cases g3⟩)
    ·exact .inr (.inr ⟨i,rfl,hh⟩)) (λy hy=>by cases hy;exact ⟨by simpa using g1,g3⟩) hfm tf
   subst t4;obtain ⟨_,_,hanc,_⟩:=t3.lin;have hG1:=h.glob.mono t2.ext;refine ⟨m1,{ f with tmps:=tmps',todo:=.inRegion ops (i::r)::k' },w1,r,k',t1,t2.Xo h.Hq,t2.rel,hG1,hfm,rfl,t3.wanted hanc ho,λx hx=>?_,?_,h.stk.mono (A':=s.w) t2.ext t2.same⟩
   ·rw [CY,D1];exact t3.operands hG1 hanc ho x hx
   ·refine ⟨⟨h.top.core.fn,h.top.core.kind,h.top.core.kindOk,h.top.core.mode.mono t2.ext,h.top.core.round.mono t2.ext,h.top.core.defers.mono λ_ _ x=>x.mono t2.ext⟩,?_⟩;exact .draw ops S' C [] _ (i::r) k k' hd hm ht rfl (hk.mono λ_ _ x=>x.mono t2.ext) (t3.Acm g2 _ (Nl _))
end
variable {ps:Array Tmp} {assign body:Code} {l:Nat} {s s':ASt} {k:List Item}
section
variable {P:Program} {X:Bt} {f0:FuncId} {base lo:Nat} {m:Inj P} {A:AW} {w:World} {fr:AFr} {cs:List AFr} {f:Frame} {csW cs0:List Frame}
theorem M3 {m:Inj P} {A:AW} {w:World} (r:Rel m A w) {ro ro':Option Nat} (hro:Ju m ro ro') {fn:FuncId} {tm:Tm} {tmps:Array Value} (htm:Dp m tm tmps) {ps:Array Tmp}
  (hc1:codeOk P assign=true) (hc2:codeOk P body=true) {d:Nat} {mark:List Deferred} {A1 A2:AW} {l:Nat}
  (h1:(match (generalizing:=false) ro with
    |some l=>(match A.get l with | some (.loop r)=>some (r.defers,([]:List Deferred),A) | _=>none)
    |none=>(match A.new (.deferred true) with | some (r,w')=>some (r,[{ target:=.collected r,args:=#[] }],w') | none=>none))=some (d,mark,A1))
  (h2:A1.new (.loop { state:=.ready,pending:=none,fn,tm,params:=ps.toList,assign,body,defers:=d })=some (l,A2)):
  ∃ l' mark' w' m',(Instr.enterLoop fn tmps ps assign body ro').run P w=.ok (l',mark') w'/\Ev m A w m' A2 w'/\m' l=some (l',0)/\B5 (ZM m') mark mark':=by
 have part2:∀ (m1:Inj P) (w1:World) (d':Nat),Ev m A w m1 A1 w1->m1 d=some (d',0)->∃ m',Ev m A w m' A2 { w1 with heap:=w1.heap.push (.loop { state:=.ready,pending:=none,fn,tmps,params:=ps,assign,body,defers:=d' }) }/\m1.le m'/\m' l=some (w1.heap.size,0):=by
  intro m1 w1 d' hev hd;obtain ⟨m',g1,g2⟩:=Ea (o':=.loop { state:=.ready,pending:=none,fn,tmps,params:=ps,assign,body,defers:=d' }) hev.rel h2
   ⟨rfl,_,rfl,rfl,rfl,rfl,htm.mono hev.ext,rfl,rfl,rfl,hd,hc1,hc2,λc hc=>by cases hc⟩ rfl
  exact ⟨m',hev.trans g1,g1.ext,g2⟩
 cases ro with
 |some lr=>
  cases ro' with
  |none=>exact hro.elim
  |some lr'=>
   have hro:m lr=some (lr',0):=hro;simp only at h1;split at h1
   rotate_left
   ·cases h1
   rename_i lp hg;simp only [Oi,Pj] at h1;obtain ⟨rfl,rfl,rfl⟩:=h1;obtain ⟨lp',g1,g2⟩:=r.NZ hg hro;obtain ⟨m',k1,k2,k3⟩:=part2 m w lp'.defers (.refl r) g2.defers;refine ⟨w.heap.size,[],_,m',?_,k1,k3,.nil⟩;simp only [Instr.enterLoop,Sem.run_bind,G2 g1,Result.andThen_ok,Sem.run_pure];rfl
 |none=>
  cases ro' with
  |some l=>exact hro.elim
  |none=>
   simp only at h1;split at h1
   rotate_left
   ·cases h1
   rename_i b A' hn;simp only [Oi,Pj] at h1;obtain ⟨rfl,rfl,rfl⟩:=h1;obtain ⟨m1,g1,g2⟩:=Ea (o':=.deferred (some [])) r hn ⟨rfl,rfl⟩ rfl;obtain ⟨m',k1,k2,k3⟩:=part2 m1 _ _ g1 g2;refine ⟨_,[{ target:=.collected w.heap.size,args:=#[] }],_,m',?_,k1,k3,.cons ⟨_,_,rfl,rfl,k2.map _ _ g2⟩ .nil⟩;simp only [Instr.enterLoop,Sem.run_bind,Result.andThen_ok,Sem.run_pure];rfl
theorem OZ (hP:POk P) {s':ASt} {g:Operand} (h:Ds P X f0 base lo m s f csW w) (hm:s.fr.mode=.run) (hd:s.fr.dr=false)
  (ht:s.fr.todo=.code (.rangeFunc g ps assign body)::k)
  (hout:(match (match s.fr.roundOf with
    |some l=>(match s.w.get l with | some (.loop r)=>some (r.defers,([]:List Deferred),s.w) | _=>none)
    |none=>(match s.w.new (.deferred true) with | some (r,w')=>some (r,[{ target:=.collected r,args:=#[] }],w') | none=>none)) with
   |none=>Em.fail "enterLoop"
   |some (d,mark,w)=>(match w.new (.loop { state:=.ready,pending:=none,fn:=s.fr.fn,tm:=s.fr.tm,params:=ps.toList,assign,body,defers:=d }) with
    |none=>.fail "enterLoop"
    |some (l,w)=>
     let fr':={ s.fr with todo:=.inRangeFunc l::k,defers:=mark++s.fr.defers }
     match s.fr.eval g with
     |.func fn first captured=>Cq P fr' s.cs (Cz P w (.fn fn captured) (first.toList++[Value.func (.yield l) #[] #[]]))
     |_=>.fail "rangeFunc"))=.next s'):Sim P X f0 base cs0 m s.w w (lone f (csW++cs0) w) s':=by
 obtain ⟨htm,htodo⟩:=h.plain hd;have hbase:=h.Hq;have hlo:=h.below;rw [ht] at htodo;generalize htf:f.todo=y at htodo;cases htodo with
 |cons hx hk=>
  rename_i x' k';obtain ⟨rfl,hcode⟩:=hx;simp only [codeOk,Bq] at hcode;have hfm:=h.MK hm;split at hout
  ·cases hout
  rename_i d mark A1 h1;split at hout
  ·cases hout
  rename_i l A2 h2;simp only at hout;split at hout
  rotate_left
  ·cases hout
  rename_i fn first captured he
  obtain ⟨l',mark',w1,m1,g1,g2,g3,g4⟩:=M3 h.rel h.top.core.round htm hcode.2.1 hcode.2.2 h1 h2;have hg:AM m1 (s.fr.eval g) (f.eval g):=by
   rw [CY,D1];exact (JM h.glob hcode.1 λt _=>htm.val t).mono g2.ext
  rw [he] at hg;generalize hfe:f.eval g=y at hg;cases hg with
  |func hf ha hc=>
   rename_i f' a a' c c';have hwait:FE P X m1 A2 false lo A2.next { s.fr with todo:=.inRangeFunc l::k,defers:=mark++s.fr.defers } { f with todo:=.inRangeFunc l'::k',defers:=mark'++f.defers }:=by
    refine ⟨⟨h.top.core.fn,h.top.core.kind,h.top.core.kindOk,h.top.core.mode.mono g2.ext,h.top.core.round.mono g2.ext,g4.append (h.top.core.defers.mono λ_ _ x=>x.mono g2.ext)⟩,?_⟩;exact .plain hd (htm.mono g2.ext) (.cons ⟨l',rfl,g3⟩ (hk.mono λ_ _ x=>x.mono g2.ext))
   have hyield:AM m1 (.func (.yield l) #[] #[]) (.func (.yield l') #[] #[]):=.func (.inr ⟨l,l',rfl,rfl,g3⟩) .nil .nil;have hinv:=I7 g2.rel (c:=⟨c⟩) hf hc (ha.append (.cons hyield .nil));have hn:∀ i A',Cz P A2 (.fn fn ⟨c⟩) (a++[Value.func (.yield l) #[] #[]])≠ .ok (.rangeNext i) A':=λi A'=>GM;have hstk:=h.stk.mono (A':=A2) g2.ext λi hi=>g2.same i (by omega);obtain ⟨f2,csW',w',k1,lo',m',k2,k3⟩:=Qg (cs0:=cs0) hP hinv (h.glob.mono g2.ext) (by have:=g2.next;omega) hwait hstk (h.bot.top rfl rfl rfl) hn hout;refine ⟨lo',m',f2,csW',w',.one (RC (l:=l') (mark:=mark') (w1:=w1) hfm htf (by rw [h.top.core.fn];exact g1) rfl ?_),(g2.low (by omega)).trans k2,k3⟩;have hev:({ f with todo:=.inRangeFunc l'::k',defers:=mark'++f.defers }:Frame).eval=f.eval:=by rw [D1,D1]
   rw [hev];rw [<- k1]
   have:(do let d <- resolve f.eval { callee:=.value g,args:=#[.const (.func (.yield l') #[] #[])],argTypes:=#[] } 0;invoke d.target d.args:Sem Next).run P w1=(invoke (.fn f' ⟨c'⟩) ⟨a'++[Value.func (.yield l') #[] #[]]⟩).run P w1:=by
    simp only [Sem.run_bind,resolve,hfe,Deferred.ofValue,Sem.run_pure,Result.andThen_ok];simp [Frame.eval]
   rw [this]
theorem OK {s':ASt} (h:Ds P X f0 base lo m s f csW w) (hm:s.fr.mode=.run) (hd:s.fr.dr=false) (ht:s.fr.todo=.beginRound::k)
  (hout:(match s.fr.roundOf with
   |some l=>(match s.w.get l with
    |some (.loop r)=>(match r.state with
     |.ready=>Em.next ⟨s.fr.finish undef,s.cs,s.w.put l (.loop { r with state:=.busy })⟩
     |_=>.fail "beginRound")
    |_=>.fail "beginRound")
   |none=>.fail "beginRound")=.next s'):Sim P X f0 base cs0 m s.w w (lone f (csW++cs0) w) s':=by
 obtain ⟨htm,htodo⟩:=h.plain hd;have hbase:=h.Hq;have hlo:=h.below;rw [ht] at htodo;generalize htf:f.todo=y at htodo;cases htodo with
 |cons hx hk=>
  rename_i x' k';have hx:x'=.beginRound:=hx;subst hx;have hfm:=h.MK hm;have hr:=h.top.core.round;split at hout
  rotate_left
  ·cases hout
  rename_i l hro;rw [hro] at hr;cases hfr:f.roundOf with
  |none=>rw [hfr] at hr;exact hr.elim
  |some l'=>
   rw [hfr] at hr;have hr:m l=some (l',0):=hr;split at hout
   rotate_left
   ·cases hout
   rename_i lp hg;split at hout
   rotate_left
   ·cases hout
   rename_i hst;simp only [Em.next.injEq] at hout;subst hout;obtain ⟨w',g1,g2⟩:=RS h.rel hg hr hst;have hw1:FE P X m (s.w.put l (.loop { lp with state:=.busy })) false lo s.w.next s.fr f:=((h.top.PK (live':=false) (hi':=s.w.next) hd).mono g2.ext (λ_ _=>rfl) (Nl _));refine ⟨lo,m,_,csW,w',.one (Qm hfm hfr htf g1),g2.low (by omega),g2.rel,h.glob,hlo,hw1.finish (Fm m) (Nl _),h.stk.mono g2.ext λ_ _=>rfl,h.bot.finish undef⟩
theorem Q6 {s':ASt} (h:Ds P X f0 base lo m s f csW w) (hm:s.fr.mode=.run) (hd:s.fr.dr=false) (ht:s.fr.todo=.endRangeFunc l::k)
  (hout:(match s.w.get l with
   |some (.loop r)=>(match r.state with
    |.busy=>Em.fail "endLoop"
    |_=>.next ⟨{ s.fr with todo:=(match r.pending with | some c=>.code c::k | none=>k) },s.cs,s.w.put l (.loop { r with state:=.exhausted })⟩)
   |_=>.fail "endLoop")=.next s'):Sim P X f0 base cs0 m s.w w (lone f (csW++cs0) w) s':=by
 obtain ⟨htm,htodo⟩:=h.plain hd;have hbase:=h.Hq;have hlo:=h.below;rw [ht] at htodo;generalize htf:f.todo=y at htodo;cases htodo with
 |cons hx hk=>
  rename_i x' k';obtain ⟨l',rfl,hl⟩:=hx;have hfm:=h.MK hm;split at hout
  rotate_left
  ·cases hout
  rename_i lp hg;have hne:lp.state≠ .busy:=by
   intro e;rw [e] at hout;cases hout
  have hout:Em.next ⟨{ s.fr with todo:=(match lp.pending with | some c=>.code c::k | none=>k) },s.cs,s.w.put l (.loop { lp with state:=.exhausted })⟩=.next s':=by
   cases hq:lp.state with
   |busy=>exact absurd hq hne
   |ready=>rw [hq] at hout;exact hout
   |done=>rw [hq] at hout;exact hout
   |exhausted=>rw [hq] at hout;exact hout
  simp only [Em.next.injEq] at hout;subst hout;obtain ⟨w',g1,g2⟩:=YB h.rel hg hl hne;obtain ⟨lp',q1,q2⟩:=h.rel.NZ hg hl;refine ⟨lo,m,_,csW,w',.one (TL hfm htf g1),g2.low (by omega),g2.rel,h.glob,hlo,⟨⟨h.top.core.fn,h.top.core.kind,h.top.core.kindOk,h.top.core.mode,h.top.core.round,h.top.core.defers⟩,.plain hd htm ?_⟩,
   h.stk.mono g2.ext λ_ _=>rfl,h.bot.top rfl rfl rfl⟩
  cases hp:lp.pending with
  |none=>simpa [hp] using hk
  |some c=>exact .cons ⟨rfl,q2.ok.2.2 c hp⟩ hk
end
variable {s:ASt} {k k':List Item} {S:Nat->Prop} {C:Nat} {rest:List Nat}
section
variable {P:Program} {X:Bt} {f0:FuncId} {base lo:Nat} {m:Inj P} {A:AW} {w:World} {fr:AFr} {cs:List AFr} {f:Frame} {csW cs0:List Frame}
theorem Pf (hP:POk P) {id:Nat} {ops:Array Oper} {p:List Nat} (h:Ds P X f0 base lo m s f csW w) (hm:s.fr.mode=.run) (hd:s.fr.dr=false) (ht:s.fr.todo=.code (.region id ops true)::k)
  (hin:Jj s.fr.tm.sz ops.toList=true) (hp:NO P ops.toList=some p):
  Sim P X f0 base cs0 m s.w w (lone f (csW++cs0) w) { s with fr:={ s.fr with todo:=.inRegion ops p::k,dr:=true } }:=by
 obtain ⟨htm,htodo⟩:=h.plain hd;have hbase:=h.Hq;have hlo:=h.below;rw [ht] at htodo;generalize htf:f.todo=y at htodo;cases htodo with
 |cons hx hk=>
  rename_i x' k';obtain ⟨rfl,hcode⟩:=hx;have hfm:=h.MK hm;obtain ⟨t,hstep⟩:=Ace (P:=P) (cs:=csW++cs0) (w:=w) hfm htf;have hsched:Region.schedule (P.follows .mixedOrders) ops t=Region.linearise .any ops t:=by simp [Region.schedule,hP.mixed]
  rw [hsched] at hstep;have hev:=Ev.drawn h.rel (w.drawn+1) (Nat.le_succ _);have hso:=(NN hp).1;refine ⟨lo,m,_,csW,_,.one hstep,hev.low (by omega),hev.rel,h.glob,hlo,⟨⟨h.top.core.fn,h.top.core.kind,h.top.core.kindOk,h.top.core.mode,h.top.core.round,h.top.core.defers⟩,?_⟩,h.stk.mono (.refl m) λ_ _=>rfl,h.bot.top rfl rfl rfl⟩;exact .draw ops (λ_=>False) 0 [] p _ k k' rfl hm rfl rfl hk (BP.start htm hp hcode (MN hin) (AcR hso.back t))
theorem SY {ops:Array Oper} (h:Ds P X f0 base lo m s f csW w) (hm:s.fr.mode=.run)
  (htf:f.todo=.inRegion ops rest::k') (hk:B5 (Ht m) k k') (D:BP P X m s.w true lo s.w.next s.fr.tm f.tmps ops S C [] [] rest):
  Sim P X f0 base cs0 m s.w w (lone f (csW++cs0) w) ⟨{ s.fr with todo:=k,dr:=false },s.cs,s.w⟩:=by
 have hbase:=h.Hq;have hlo:=h.below;have hfm:=h.MK hm;have hall:∀ i,i<ops.size->C.testBit i=true:=by
  intro i hi
  have:=D.plan
  cases this with
  |stop _ hh=>exact hh i (by simpa using hi)
 obtain ⟨S',tmps',rest',m',w',t1,t2,t3,t4⟩:=BP.VD (cs:=csW++cs0) (k:=k') none (Nl _) hlo rest h.glob h.rel D (λi hi=>.inl (hall i hi)) (λx hx=>by cases hx) hfm htf;have t4:rest'=[]:=t4;subst t4;refine ⟨lo,m',_,csW,w',t1.trans (.one (Abo (k:=k') (by exact hfm) rfl)),t2.Xo hbase,t2.rel,h.glob.mono t2.ext,hlo,⟨⟨h.top.core.fn,h.top.core.kind,h.top.core.kindOk,h.top.core.mode.mono t2.ext,h.top.core.round.mono t2.ext,h.top.core.defers.mono λ_ _ x=>x.mono t2.ext⟩,?_⟩,
  h.stk.mono t2.ext t2.same,h.bot.top rfl rfl rfl⟩
 exact .plain rfl t3.done (hk.mono λ_ _ x=>x.mono t2.ext)
theorem UD {s':ASt} {ops:Array Oper} {x:Nat} {q:List Nat} (h:Ds P X f0 base lo m s f csW w) (hm:s.fr.mode=.run) (hd:s.fr.dr=true)
  (ht:s.fr.todo=.inRegion ops (x::q)::k) (htf:f.todo=.inRegion ops rest::k') (hk:B5 (Ht m) k k') (D:BP P X m s.w true lo s.w.next s.fr.tm f.tmps ops S C [] (x::q) rest)
  {o:Oper} (ho:ops.toList[x]? =some o) (heff:(De P ops.toList).testBit x=false) (hout:(bif Bv ops s.fr.tm o then Cq P s.fr s.cs (Ba P s.fr.eval o s.w) else .next ⟨s.fr.finish undef,s.cs,s.w⟩)=.next s'):
  Sim P X f0 base cs0 m s.w w (lone f (csW++cs0) w) s':=by
 have hbase:=h.Hq;have hlo:=h.below;have hfm:=h.MK hm;have hfinA:=λv=>I9 ht ho v;have hplan:=D.plan;have ahead:∀ (d:Tmp) (v:Value) (A':AW) (p' rl':List Nat),o.dst=some d->q=rl'++p'->EvL lo m s.w w m A' w->BP P X m A' true lo A'.next (s.fr.tm.set d v) f.tmps ops S (C ||| (1 <<< x)) rl' p' rest->
   Sim P X f0 base cs0 m s.w w (lone f (csW++cs0) w) ⟨s.fr.finish v,s.cs,A'⟩:=by
  intro d v A' p' rl' hod hq hev D';refine ⟨lo,m,f,csW,w,.refl P _,hev.Xo hbase,hev.rel,h.glob,by have:=hev.next;show lo<=A'.next;omega,?_,h.stk.mono (.refl m) λ_ _=>rfl,h.bot.finish v⟩;refine ⟨by
   obtain ⟨a1,a2,a3,a4,a5,a6⟩:=Gp s.fr v;exact ⟨by rw [a1];exact h.top.core.fn,by rw [a2];exact h.top.core.kind,by rw [a2];exact h.top.core.kindOk,by rw [a3];exact h.top.core.mode,by rw [a4];exact h.top.core.round,by rw [a5];exact h.top.core.defers⟩,?_⟩
  rw [hfinA v,hod];exact .draw ops S (C ||| (1 <<< x)) rl' p' rest k k' hd hm (by rw [hq]) htf hk D'
 cases hplan with
 |pure _ _ p g1 g2 g3 g4 g5 g6=>
  have hq:Cj P o.op=true:=by
   cases hq:Cj P o.op with
   |true=>rfl
   |false=>
    cases ha:Dg P (OB P ops.toList) o.op with
    |true=>rw [(Zu ho).2 ha] at g3;cases g3
    |false=>rw [(UB ho).2 ⟨hq,ha⟩] at g2;cases g2
  obtain ⟨d,hod⟩:∃ d,o.dst=some d:=by
   cases hh:o.dst with
   |some d=>exact ⟨d,rfl⟩
   |none=>rw [D.slotsOk.dst x o ho hh] at g2;cases g2
  have hsz:=D.inb x o d ho hod;have hself:∀ (v:Value) (t:Tmp),C8 ops.toList o t=true->(s.fr.tm.set d v).get t=s.fr.tm.get t:=by
   intro v t hl;rw [Tm.E3 _ D.small,Ff];rintro ⟨rfl,_⟩;rcases D.slotsOk.looks x o t ho hod x o ho hl with h | ⟨h,_⟩
   ·have:=Zt D.slotsOk.back x x g1 h
    omega
   ·rw [g2] at h;cases h
  have adv:∀ v,((Bv ops s.fr.tm o=false/\v=undef)\/(Bv ops s.fr.tm o=true/\∃ A',Ba P (BZ s.fr.tm) o s.w=.ok (.value v) A'))->Sim P X f0 base cs0 m s.w w (lone f (csW++cs0) w) ⟨s.fr.finish v,s.cs,s.w⟩:=by
   intro v hv;refine ahead d v s.w q [] hod rfl (.refl h.rel lo) ?_;refine D.advance (by simpa using g1) g4 g2 g5 ho hod (Nl _) hlo (λhh=>by rw [hq] at hh;cases hh) g6 (λy hy=>by cases hy) λj hj hs=>.inr ?_;rw [NP] at hj;by_cases e:j=x
   ·subst e;intro o' d' ho' hd';rw [ho] at ho';cases ho';rw [hod] at hd';cases hd';rw [CQ (hself v),MM (Ji (hself v)),Tm.E3 _ D.small,if_pos ⟨rfl,hsz⟩];rcases hv with ⟨h1,rfl⟩ | ⟨h1,h2⟩
    ·exact ⟨λ_=>rfl,λhh=>by rw [h1] at hh;cases hh⟩
    ·exact ⟨λhh=>by (rw [h1] at hh;cases hh),λ_=>⟨λ_=>h2,λhh=>by rw [hq] at hh;cases hh⟩⟩
   ·exact D.Ww v g4 g2 ho hod (by simpa [e] using hj) hs
  cases hwa:Bv ops s.fr.tm o with
  |false=>
   rw [hwa] at hout;simp only [Cf,Em.next.injEq] at hout;subst hout;exact adv undef (.inl ⟨hwa,rfl⟩)
  |true=>
   rw [hwa] at hout;simp only [Ct] at hout;rw [CY] at hout;cases he:Ba P (BZ s.fr.tm) o s.w with
   |fail y=>rw [he] at hout;cases hout
   |ok n A'=>
    obtain ⟨rfl,v,rfl⟩:=Ex hq he;rw [he] at hout;simp only [Cq,Em.next.injEq] at hout;subst hout;exact adv v (.inr ⟨hwa,_,he⟩)
 |alloc _ _ p g1 g2 g3 g4 g5 g6=>
  have hal:=(Zu ho).1 g3;have hq:Cj P o.op=false:=R8 hal;obtain ⟨d,hod⟩:∃ d,o.dst=some d:=by
   cases hh:o.dst with
   |some d=>exact ⟨d,rfl⟩
   |none=>rw [D.slotsOk.dst x o ho hh] at g2;cases g2
  have adv:∀ v A',EvL lo m s.w w m A' w->s.w.next<=A'.next->(Bv ops s.fr.tm o=true->∃ b,MZ v=some b/\m b=none/\s.w.next<=b/\b<A'.next)->Sim P X f0 base cs0 m s.w w (lone f (csW++cs0) w) ⟨s.fr.finish v,s.cs,A'⟩:=by
   intro v A' hev hnx hg;refine ahead d v A' p _ hod rfl hev ?_;refine D.advance (by simpa using g1) g4 g2 g5 ho hod hnx hlo (λ_=>hg) g6 (λy hy=>?_) λj hj hs=>.inl ?_
   ·obtain ⟨i,_,rfl,_⟩:=(HS _ _ _ _ _ y).1 hy
    simp
   ·refine (HS _ _ _ _ _ _).2 ⟨j,?_,by simp,hj,?_,by simp⟩
    ·rw [NP] at hj;by_cases e:j=x
     ·subst e;exact g1
     ·simpa using D.bits j (by simpa [e] using hj)
    ·cases hh:(De P ops.toList).testBit j with
     |false=>rfl
     |true=>
      rw [NP] at hj;by_cases e:j=x
      ·subst e;rw [g2] at hh;cases hh
      ·exact absurd (D.effs j (by simpa [e] using hj) hh) hs
  cases hwa:Bv ops s.fr.tm o with
  |false=>
   rw [hwa] at hout;simp only [Cf,Em.next.injEq] at hout;subst hout;exact adv undef s.w (.refl h.rel lo) (Nl _) λhh=>by rw [hwa] at hh;cases hh
  |true=>
   rw [hwa] at hout;simp only [Ct] at hout;rw [CY] at hout;cases he:Ba P (BZ s.fr.tm) o s.w with
   |fail y=>rw [he] at hout;cases hout
   |ok n A'=>
    obtain ⟨v,ob,b,rfl,h1,h2,h3⟩:=OO hal he;rw [he] at hout;simp only [Cq,Em.next.injEq] at hout;subst hout;obtain ⟨q1,q2,q3,q4,q5⟩:=h.rel.Gd h1 h2;exact adv v A' (EvL.Gd h.rel h1 h2 lo) (by omega) λ_=>⟨b,h3,q4,by omega,by omega⟩
 |effect _ _ p g1 g2=>rw [heff] at g2;cases g2
end
variable {tmps:Array Value} {v:Value} {fn:Func} {s:ASt}
section
variable {P:Program} {X:Bt} {f0:FuncId} {base lo:Nat} {m:Inj P} {A:AW} {w:World} {fr:AFr} {cs:List AFr} {f:Frame} {csW cs0:List Frame}
def Yq(tmps:Array Value):ResultVar->Sem Value
 |.tmp t=>pure (tmps.getD t undef)
 |.cell a t=>do loadVar t (<- asAddr (tmps.getD a undef))
def Wi(P:Program)(A:AW)(tm:Tm):ResultVar->Option Value
 |.tmp t=>some (tm.get t)
 |.cell a t=>(match tm.get a with | .pointer (some a)=>Ef P A t a | _=>none)
theorem TX(fn:Func)(tmps:Array Value):results fn tmps=(do let vs <- fn.results.mapM (Yq tmps);pure (if h:vs.size=1 then vs[0] else .tuple vs)):=by
 unfold results
 congr 1
theorem RU(fn:Func)(tm:Tm):CB P A fn tm=(match CB.go (Wi P A tm) fn.results.toList with | some [v]=>some v | some l=>some (.tuple ⟨l⟩) | none=>none):=by
 unfold CB;simp only
 have:(λx=>match x with | .tmp t=>some (tm.get t) | .cell a t=>(match tm.get a with | .pointer (some a)=>Ef P A t a | _=>none):ResultVar->Option Value)=Wi P A tm:=by
  funext x
  cases x<;>rfl
 rw [<- this];rfl
theorem T7(r:Rel m A w){tm:Tm}(ht:Dp m tm tmps){x:ResultVar}(h:Wi P A tm x=some v):∃ v',(Yq tmps x).run P w=.ok v' w/\AM m v v':=by
 cases x with
 |tmp t=>
  simp only [Wi,Oi] at h;subst h;exact ⟨_,rfl,ht.val t⟩
 |cell a t=>
  simp only [Wi] at h;have hv:=ht.val a;generalize tm.get a=y at h hv;split at h
  ·generalize hq:tmps.getD a undef=z at hv;cases hv with
   |ptr ha=>
    obtain ⟨v',h1,h2⟩:=J0 r h ha;refine ⟨v',?_,h2⟩;simp only [Yq,hq,Sem.run_bind,asAddr,Sem.run_pure,Result.andThen_ok];exact h1
  ·cases h
theorem KD(r:Rel m A w){tm:Tm}{tmps:Array Value}(ht:Dp m tm tmps):∀ {l:List ResultVar} {vs:List Value},CB.go (Wi P A tm) l=some vs->
  ∃ vs',(l.mapM (Yq tmps)).run P w=.ok vs' w/\AJ m vs vs'
 |[],vs,h=>by
  simp only [CB.go,Oi] at h;subst h;exact ⟨[],by simp,.nil⟩
 |x::l,vs,h=>by
  simp only [CB.go] at h;split at h
  ·rename_i v vs1 h1 h2;simp only [Oi] at h;subst h;obtain ⟨v',g1,g2⟩:=T7 r ht h1;obtain ⟨vs',g3,g4⟩:=KD r ht h2;refine ⟨v'::vs',?_,.cons g2 g4⟩;simp only [List.mapM_cons,Sem.run_bind,g1,Result.andThen_ok,g3,Sem.run_pure]
  ·cases h
theorem JV(r:Rel m A w){tm:Tm}(ht:Dp m tm tmps)(h:CB P A fn tm=some v):∃ v',(results fn tmps).run P w=.ok v' w/\AM m v v':=by
 rw [RU] at h;have key:∀ vs',(fn.results.toList.mapM (Yq tmps)).run P w=.ok vs' w->(results fn tmps).run P w=.ok (if h:vs'.length=1 then vs'[0] else .tuple ⟨vs'⟩) w:=by
  intro vs' hv;rw [TX,Array.mapM_eq_mapM_toList];simp only [Sem.run_bind,map_eq_pure_bind,hv,Result.andThen_ok,Sem.run_pure]
  simp
 split at h
 ·rename_i u hg;simp only [Oi] at h;subst h;obtain ⟨vs',g1,g2⟩:=KD r ht hg;cases g2 with
  |cons hv hn=>
   cases hn;exact ⟨_,key _ g1,hv⟩
 ·rename_i l hne hg;simp only [Oi] at h;subst h;obtain ⟨vs',g1,g2⟩:=KD r ht hg;have hl:=g2.length;refine ⟨_,key _ g1,?_⟩;rw [dif_neg]
  ·exact .tuple g2
  ·intro h1;rw [hl] at h1;obtain ⟨u,rfl⟩:=List.length_eq_one_iff.1 h1;exact hne u rfl
 ·cases h
theorem Pk {b:Nat} {args:Array Value} {ds:List Deferred} (h:Ds P X f0 base lo m s f csW w) (hm:s.fr.mode=.returning) (hd:s.fr.defers={ target:=.collected b,args }::ds)
  (hg:s.w.get b=some (.deferred true)):Sim P X f0 base cs0 m s.w w (lone f (csW++cs0) w) ⟨{ s.fr with defers:=ds },s.cs,s.w.put b (.deferred false)⟩:=by
 have hbase:=h.Hq;have hlo:=h.below;have hdr:=h.top.QI (by rw [hm];simp);obtain ⟨htm,htodo⟩:=h.plain hdr;have hdf:=h.top.core.defers;rw [hd] at hdf;generalize hfd:f.defers=y at hdf;cases hdf with
 |cons hx ht=>
  rename_i d' ds';obtain ⟨tg,ar⟩:=d';obtain ⟨_,b',hb,hb',hmb⟩:=hx;simp only [Target.collected.injEq] at hb hb';subst hb hb';obtain ⟨c0,d0,o',g1,g2,_,g3⟩:=h.rel.GK hg hmb;rw [hmb] at g1;simp only [Oi,Pj] at g1;obtain ⟨rfl,rfl⟩:=g1;subst g3;have hev:=Ev.Ie h.rel hg rfl rfl hmb g2 (o2:=.deferred false) (o2':=.deferred none) ⟨rfl,rfl⟩ rfl rfl;have hfm:f.mode=.returning:=by
   have:=h.top.core.mode
   rw [hm] at this;generalize f.mode=u at this;cases this;rfl
  exact ⟨lo,m,_,csW,_,.one (RD (calls:=[]) hfm hfd (by
    simp only [Instr.takeDeferred,Sem.run_bind,BI P w b' _ g2 (by simp),Result.andThen_ok,Cy P w b' _ _ g2 (by simp),Sem.run_pure,Ct])),hev.low (by omega),hev.rel,h.glob,hlo,
   ⟨⟨h.top.core.fn,h.top.core.kind,h.top.core.kindOk,h.top.core.mode,h.top.core.round,ht⟩,.plain hdr htm htodo⟩,h.stk.mono hev.ext λ_ _=>rfl,h.bot.top rfl rfl rfl⟩
theorem TW {s':ASt} (h:Ds P X f0 base lo m s f csW w) (hm:s.fr.mode=.returning) (hd:s.fr.defers=[]) (hf:P.funcs[s.fr.fn]? =some fn) (hr:CB P s.w fn s.fr.tm=some v)
  {c:AFr} {rest:List AFr} (hcs:s.cs=c::rest) (hout:Dl s.fr (c::rest) v s.w=.next s'):Sim P X f0 base cs0 m s.w w (lone f (csW++cs0) w) s':=by
 have hdr:=h.top.QI (by rw [hm];simp);obtain ⟨htm,htodo⟩:=h.plain hdr;obtain ⟨v',g1,g2⟩:=JV h.rel htm hr;have hfm:f.mode=.returning:=by
  have:=h.top.core.mode
  rw [hm] at this;generalize f.mode=u at this;cases this;rfl
 have hfd:f.defers=[]:=by
  have:=h.top.core.defers
  rw [hd] at this;generalize f.defers=u at this;cases this;rfl
 have hff:P.funcs[f.fn]? =some fn:=by rw [h.top.core.fn];exact hf
 have hk:=h.top.core.kindOk;rw [HO hk hout];exact h.answer hcs (.refl h.rel) g2 λg l hl=>by
  subst hl;exact .one (Xv hfm hfd hff g1 (h.top.core.kind.trans hk))
end
section
variable {P:Program} {X:Bt} {f0:FuncId} {base lo:Nat} {m:Inj P} {A:AW} {w:World} {fr:AFr} {cs:List AFr} {f:Frame} {csW cs0:List Frame}
def E9(es:List MapEntry)(seen:List Nat)(since:Nat):List (Option MapEntry):=
 let left:=es.filter λe=>!seen.contains e.born;let old:=left.filter λe=>Nat.blt e.born since;let new:=left.filter λe=>Nat.ble since e.born
 (if old.isEmpty then [none] else [])++(old++new).map some
theorem B5.filter{m:Inj P}{p:MapEntry->Bool}(hp:∀ a b:MapEntry,a.born=b.born->p a=p b):∀ {l l':List MapEntry},B5 (Gb m) l l'->B5 (Gb m) (l.filter p) (l'.filter p)
 |_,_,.nil=>.nil
 |a::l,b::l',.cons h t=>by
  have ih:=B5.filter hp t;have he:p b=p a:=hp b a h.born;simp only [List.filter_cons,he];cases p a with
  |false=>exact ih
  |true=>exact .cons h ih
def Adz(m:Inj P):Option MapEntry->Option MapEntry->Prop
 |none,none=>True
 |some e,some e'=>Gb m e e'
 |_,_=>False
theorem B5.Vd{m:Inj P}:∀ {l l':List MapEntry},B5 (Gb m) l l'->B5 (Adz m) (l.map some) (l'.map some)
 |_,_,.nil=>.nil
 |_,_,.cons h t=>.cons h (B5.Vd t)
theorem WZ{m:Inj P}{es es':List MapEntry}(h:B5 (Gb m) es es')(seen:List Nat)(since:Nat):B5 (Adz m) (E9 es seen since) (E9 es' seen since):=by
 have h1:=B5.filter (p:=λe=>!seen.contains e.born) (λa b e=>by simp only [e]) h;have h2:=B5.filter (p:=λe=>Nat.blt e.born since) (λa b e=>by simp only [e]) h1;have h3:=B5.filter (p:=λe=>Nat.ble since e.born) (λa b e=>by simp only [e]) h1;unfold E9;simp only;refine B5.append ?_ (B5.Vd (h2.append h3));have hl:=h2.length;generalize (es.filter λe=>!seen.contains e.born).filter (λe=>Nat.blt e.born since)=a at hl;generalize (es'.filter λe=>!seen.contains e.born).filter (λe=>Nat.blt e.born since)=b at hl;cases a with
 |nil=>
  cases b with
  |nil=>exact .cons trivial .nil
  |cons=>simp at hl
 |cons x a=>
  cases b with
  |nil=>simp at hl
  |cons y b=>exact .nil
theorem Tl{m:Inj P}{p:Nat->Bool}:∀ {l l':List MapEntry},B5 (Gb m) l l'->(l'.all λe=>p e.born)=(l.all λe=>p e.born)
 |_,_,.nil=>rfl
 |_,_,.cons h t=>by simp only [List.all_cons,Tl t,h.born]
theorem UN(p:MapEntry->Bool)(l:List MapEntry):(⟨l⟩:Array MapEntry).filter p=⟨l.filter p⟩:=by simp
theorem W1(es:List MapEntry)(seen:List Nat)(since:Nat):
  ((if (((⟨es⟩:Array MapEntry).filter λe=>!(⟨seen⟩:Array Nat).contains e.born).filter (·.born<since)).isEmpty then #[none] else #[])++
   ((((⟨es⟩:Array MapEntry).filter λe=>!(⟨seen⟩:Array Nat).contains e.born).filter (·.born<since))++(((⟨es⟩:Array MapEntry).filter λe=>!(⟨seen⟩:Array Nat).contains e.born).filter (·.born≥since))).map some:Array (Option MapEntry))=⟨E9 es seen since⟩:=by
 have e1:(λe:MapEntry=>decide (e.born<since))=λe=>Nat.blt e.born since:=by
  funext e
  cases h:Nat.blt e.born since with
  |true=>have:=AA.1 h;simpa using this
  |false=>have:=JQ.1 h;simpa using this
 have e2:(λe:MapEntry=>decide (e.born≥since))=λe=>Nat.ble since e.born:=by
  funext e
  cases h:Nat.ble since e.born with
  |true=>have:=Bb.1 h;simpa using this
  |false=>have:=BL.1 h;simpa using this
 rw [e1,e2];unfold E9;simp only [List.contains_toArray,UN];generalize ((es.filter λe=>!seen.contains e.born).filter λe=>Nat.blt e.born since)=a;generalize ((es.filter λe=>!seen.contains e.born).filter λe=>Nat.ble since e.born)=b;cases a with
 |nil=>simp
 |cons x a=>simp
theorem O4 (r:Rel m A w) {i mm since last clock:Nat} {seen:List Nat} {es:List MapEntry} {ro:Bool} {x':Value} {ty:TypeId} {a:Addr} (ha:a.block=i/\a.off=0) (hx:AM m (.pointer (some a)) x')
  (hg:A.get i=some (.mit (some mm) since seen last)) (hgm:A.get mm=some (.map es clock ro)) (hcond:(!seen.isEmpty&&!es.isEmpty&&es.all (λe=>Nat.ble last e.born))=false):
  ∃ c∈E9 es seen since,∃ v' w',(Instr.next x' false ty).run P w=.ok v' w'/\(match c with
   |some e=>Ev m A w m (A.put i (.mit (some mm) since (seen++[e.born]) clock)) w'/\AM m (.tuple #[.bool true,e.key,e.val]) v'
   |none=>Ev m A w m A w'/\AM m (.tuple #[.bool false]) v'):=by
 obtain ⟨ab,ao,aS⟩:=a;obtain ⟨rfl,rfl⟩:=ha;cases hx with
 |ptr har=>
  rename_i a';obtain ⟨h1,h2,d,h3,h4⟩:=har;simp only at h1 h3 h4;obtain ⟨c0,d0,o',g1,g2,g3⟩:=r.GK hg h3;rw [h3] at g1;simp only [Oi,Pj] at g1;obtain ⟨rfl,rfl⟩:=g1;obtain ⟨rfl,r',rfl,hmm⟩:=g3;obtain ⟨c1,d1,o1,k1,k2,k3,es',rfl,hes⟩:=r.GK hgm hmm;rw [hmm] at k1;simp only [Oi,Pj] at k1;obtain ⟨rfl,_⟩:=k1;obtain ⟨b',o',s'⟩:=a';simp only at h2 h4 g2;subst h2;simp only [Nat.add_zero] at h4;subst h4;have hcr:=WZ hes seen since;have hlen:=hcr.length;have hpos:0<(E9 es' seen since).length:=by
   unfold E9;simp only;split
   ·simp
   ·rename_i hne;simp only [List.nil_append,List.length_map,Lq]
    have:((es'.filter λe=>!seen.contains e.born).filter λe=>Nat.blt e.born since).length≠0:=λh0=>hne (by simpa using List.eq_nil_of_length_eq_zero h0)
    omega
  have hch:∃ (j:Nat) (n:Nat),j<(E9 es' seen since).length/\w.drawn<=n/\(choose (Question.mapNext (E9 es' seen since).length)).run P w=.ok j { w with drawn:=n }:=by
   by_cases hf:(E9 es' seen since).length<=1
   ·exact ⟨0,w.drawn,hpos,Nl _,by simp [choose,Sem.run,Question.forced,hf]⟩
   ·exact ⟨_,w.drawn+1,Nat.mod_lt _ hpos,Nat.le_succ _,by
     simp only [choose,Sem.run,Question.forced,decide_eq_true_eq,hf,if_false,Question.cut];rfl⟩
  obtain ⟨j,n,hj,hdn,hrun⟩:=hch;obtain ⟨c,hc,hcc⟩:∃ c,(E9 es seen since)[j]? =some c/\∃ c',(E9 es' seen since)[j]? =some c'/\Adz m c c':=by
   have hj2:j<(E9 es seen since).length:=by omega
   obtain ⟨c',h1,h2⟩:=hcr.get (Ge hj2);exact ⟨_,Ge hj2,c',h1,h2⟩
  obtain ⟨c',hc',hrel⟩:=hcc;have hcond':(!(⟨seen⟩:Array Nat).isEmpty&&!(⟨es'⟩:Array MapEntry).isEmpty&&(⟨es'⟩:Array MapEntry).all (·.born≥last))=false:=by
   have e1:(λe:MapEntry=>decide (e.born≥last))=λe=>Nat.ble last e.born:=by
    funext e
    cases h:Nat.ble last e.born with
    |true=>have:=Bb.1 h;simpa using this
    |false=>have:=BL.1 h;simpa using this
   rw [e1,List.isEmpty_toArray,List.isEmpty_toArray,List.all_toArray,isEmpty_eq hes];rw [Tl (p:=λb=>Nat.ble last b) hes];exact hcond
  have hd:Ev m A w m A { w with drawn:=n }:=Ev.drawn r n hdn;have hnext:∀ (res:Result Value),(match (⟨E9 es' seen since⟩:Array (Option MapEntry))[j]? with
    |some (some e)=>(do setObj b' (.mapIter (some r') since ((⟨seen⟩:Array Nat).push e.born) clock);pure (.tuple #[.bool true,e.key,e.val]):Sem Value)
    |some none=>pure (.tuple #[.bool false])
    |none=>stuck "Next: no such candidate").run P { w with drawn:=n }=res->
    (Instr.next (.pointer (some ⟨b',0,none⟩)) false ty).run P w=res:=by
   intro res hres;rw [<- hres];simp only [Instr.next,Sem.run_bind,BI P w b' _ g2 (by simp),Result.andThen_ok,BI P w r' _ k2 (by simp),hcond',Bool.false_eq_true,if_false];rw [W1];simp only [List.size_toArray,hrun,Result.andThen_ok];rfl
  have hc'':(⟨E9 es' seen since⟩:Array (Option MapEntry))[j]? =some c':=by simpa using hc'
  refine ⟨c,List.mem_of_getElem? hc,?_⟩;rw [hc''] at hnext;cases c with
  |none=>
   cases c' with
   |some e=>exact hrel.elim
   |none=>exact ⟨_,_,hnext _ rfl,hd,.tuple (.cons (.bool false) .nil)⟩
  |some e=>
   cases c' with
   |none=>exact hrel.elim
   |some e'=>
    have hrel:Gb m e e':=hrel;refine ⟨_,_,hnext _ ?_,hd.trans (Ev.Ie hd.rel hg rfl rfl h3 (by exact g2) (o2:=.mit (some mm) since (seen++[e.born]) clock) (o2':=.mapIter (some r') since ((⟨seen⟩:Array Nat).push e'.born) clock) ⟨rfl,r',?_,hmm⟩ rfl rfl),.tuple (.cons (.bool true) (.cons hrel.key (.cons hrel.val .nil)))⟩
    ·simp only [Sem.run_bind,Cy P _ b' _ _ (show ({ w with drawn:=n }:World).heap[b']? =_ from g2) (by simp),Result.andThen_ok,Sem.run_pure]
    ·rw [hrel.born]
     simp
end
section
variable {P:Program} {X:Bt} {f0:FuncId} {base lo:Nat} {m:Inj P} {A:AW} {w:World} {fr:AFr} {cs:List AFr} {f:Frame} {csW cs0:List Frame}
theorem UL {fr:AFr} {f:Frame} {ρ ρ':Operand->Value} {o:Oper} {i:Nat} {A':AW} {l:List ASt} (hr:Rel m A w) (hρ:∀ x∈o.op.operands.toList,AM m (ρ x) (ρ' x)) (hG:GOk m) (hlo:lo<=A.next)
  (ht:FE P X m A false lo A.next fr f) (hs:Stk P X m A base lo cs csW) (hb:Bot f0 (fr::cs)) (he:Ba P ρ o A=.ok (.rangeNext i) A') (hout:Cq P fr cs (.ok (.rangeNext i) A')=.branch l):
  ∃ s'∈l,∃ v' w',(execOp ρ' o).run P w=.ok (.value v') w'/\EvL base m A w m s'.w w'/\Ds P X f0 base lo m s' (f.finish v') csW w':=by
 have hbase:=hs.base;obtain ⟨it,a,hop,hit,hab,hao,rfl⟩:=GP he;simp only [Cq] at hout;split at hout
 rotate_left
 ·cases hout
 rename_i mm since seen last hg;split at hout
 rotate_left
 ·cases hout
 rename_i es clock ro hgm;cases hcond:(!seen.isEmpty&&!es.isEmpty&&es.all (λe=>Nat.ble last e.born)) with
 |true=>rw [hcond] at hout;cases hout
 |false=>
  rw [hcond] at hout;simp only [Cf,Em.branch.injEq] at hout;have hx:=hρ it (by rw [hop];simp [Op.operands]);rw [hit] at hx;obtain ⟨c,hc,v',w',h1,h2⟩:=O4 (ty:=o.type) hr ⟨hab,hao⟩ hx hg hgm hcond;have hrun:(execOp ρ' o).run P w=.ok (.value v') w':=by
   have:execOp ρ' o=(do pure (.value (<- Instr.next (ρ' it) false o.type))):=by
    obtain ⟨dst,op,type,pos,after,guard⟩:=o;simp only at hop;subst hop;rfl
   rw [this,Sem.run_bind,h1,Result.andThen_ok,Sem.run_pure]
  have hl:l=(E9 es seen since).map λc=>match c with
    |some e=>⟨fr.finish (.tuple #[.bool true,e.key,e.val]),cs,A'.put i (.mit (some mm) since (seen++[e.born]) clock)⟩
    |none=>⟨fr.finish (.tuple #[.bool false]),cs,A'⟩:=hout.symm
  subst hl;refine ⟨_,List.mem_map.2 ⟨c,hc,rfl⟩,v',w',hrun,?_⟩;cases c with
  |none=>
   obtain ⟨g1,g2⟩:=h2;exact ⟨g1.low (by omega),g1.rel,hG,hlo,(ht.mono (.refl m) (λ_ _=>rfl) (Nl _)).finish g2 (Nl _),hs.mono (.refl m) λ_ _=>rfl,hb.finish _⟩
  |some e=>
   obtain ⟨g1,g2⟩:=h2;exact ⟨g1.low (by omega),g1.rel,hG,hlo,(ht.mono (.refl m) (λ_ _=>rfl) g1.next).finish g2 (Nl _),hs.mono (.refl m) λ_ _=>rfl,hb.finish _⟩
end
variable {s:ASt} {i:Nat} {g:FuncId} {args:List Value} {A':AW} {rest:List Nat} {k:List Item}
section
variable {P:Program} {X:Bt} {f0:FuncId} {base lo:Nat} {m:Inj P} {A:AW} {w:World} {fr:AFr} {cs:List AFr} {f:Frame} {csW cs0:List Frame}
def Agc(P:Program)(X:Bt)(f0:FuncId)(base:Nat)(cs0:List Frame)(m:Inj P)(A:AW)(w:World)(mach:Machine)(g:FuncId)(args:List Value)(s':ASt):Prop:=
 ∃ lo' m' f' cs' w' args',Steps P mach (lone (Frame.enter P g ⟨args'⟩ .normal) (f'::(cs'++cs0)) w')/\EvL base m A w m' s'.w w'/\AJ m' args args'/\
  GOk m'/\lo'<=s'.w.next/\FE P X m' s'.w false lo' s'.w.next s'.fr f'/\Stk P X m' s'.w base lo' s'.cs cs'/\Bot f0 (s'.fr::s'.cs)
def OQ(P:Program)(X:Bt)(f0:FuncId)(base:Nat)(m:Inj P)(s:ASt)(f:Frame)(csW cs0:List Frame)(w:World):Em->Prop
 |.next s'=>Sim P X f0 base cs0 m s.w w (lone f (csW++cs0) w) s'
 |.branch l=>∃ s'∈l,Sim P X f0 base cs0 m s.w w (lone f (csW++cs0) w) s'
 |.calls g args s'=>Agc P X f0 base cs0 m s.w w (lone f (csW++cs0) w) g args s'
 |.done v A'=>A'=s.w/\csW=[]/\∃ v',AM m v v'/\f.leaving P w (.returned v')/\f.fn=f0
 |_=>True
def Ady:Em->Prop
 |.next _=>True
 |.fail _=>True
 |_=>False
theorem Ke(fr:AFr)(cs:List AFr)(v:Value)(A:AW):Ady (Dl fr cs v A):=by
 unfold Dl
 repeat' split
 all_goals trivial
theorem OQ.Ij{o:Em}(hg:Ady o)(h:∀ s',o=.next s'->Sim P X f0 base cs0 m s.w w (lone f (csW++cs0) w) s'):OQ P X f0 base m s f csW cs0 w o:=by
 cases o with
 |next s'=>exact h s' rfl
 |fail y=>trivial
 |branch l=>exact hg.elim
 |calls g args s'=>exact hg.elim
 |done v A'=>exact hg.elim
def QO(fr:AFr)(cs:List AFr)(w:AW)(jump:Option Code):Em:=
 match fr.roundOf with
 |none=>(match jump with
  |none=>.next ⟨{ fr with mode:=.returning },cs,w⟩
  |some .ret=>.next ⟨{ fr with mode:=.returning },cs,w⟩
  |_=>.fail "leave")
 |some l=>(match w.get l with
  |some (.loop r)=>Dl fr cs (.bool jump.isNone) (w.put l (.loop { r with state:=if jump.isNone then .ready else .done,pending:=jump }))
  |_=>.fail "endRound")
theorem N3{jump:Option Code}(h:Ds P X f0 base lo m s f csW w)(hm:s.fr.mode=.run)(hd:s.fr.dr=false)(hj:Jump f.todo jump):OQ P X f0 base m s f csW cs0 w (QO s.fr s.cs s.w jump):=by
 refine .Ij ?_ λs' hs'=>Wr h hm hj (by cases jump<;>simp) hs' hd;unfold QO;split
 ·split<;>trivial
 ·split
  ·exact Ke _ _ _ _
  ·trivial
theorem Ds.SZ(h:Ds P X f0 base lo m s f csW w)(ht:∀ ops l k,s.fr.todo≠ .inRegion ops l::k):s.fr.dr=false:=by
 cases h.top.body with
 |plain h1=>exact h1
 |draw ops S C rl pl rest k k' h1 h2 h3=>exact absurd h3 (ht _ _ _)
theorem KO{fr:AFr}{cs:List AFr}{r:R AN}(hn:∀ i A',r≠ .ok (.rangeNext i) A'):Ady (Cq P fr cs r):=by
 cases r with
 |fail y=>trivial
 |ok n A'=>
  cases n with
  |rangeNext j=>exact absurd rfl (hn j A')
  |value v=>trivial
  |skip=>trivial
  |enter g args=>simp only [Cq];split<;>trivial
  |round l fn tm a b=>trivial
theorem Sw{ops:Array Oper}(h:Ey P X s ops i=some (g,args,A')):
  ∃ o,ops.toList[i]? =some o/\Bv ops s.fr.tm o=true/\Ba P s.fr.eval o s.w=.ok (.enter g args) A':=by
 unfold Ey at h;split at h
 ·cases h
 ·split at h
  ·rename_i o ho;cases hw:Bv ops s.fr.tm o with
   |false=>rw [hw] at h;cases h
   |true=>
    rw [hw,Ct] at h;split at h
    ·rename_i f aS w he;cases hm:NW f X.known with
     |false=>rw [hm] at h;cases h
     |true=>rw [hm] at h;cases h;exact ⟨o,ho,hw,he⟩
    ·cases h
  ·cases h
theorem U8 (hP:POk P) {ops:Array Oper} {o:Oper} (h:Ds P X f0 base lo m s f csW w) (hm:s.fr.mode=.run) (ht:s.fr.todo=.inRegion ops (i::rest)::k) (ho:ops.toList[i]? =some o)
  (he:s.fr.dr=false\/(De P ops.toList).testBit i=true):OQ P X f0 base m s f csW cs0 w (bif Bv ops s.fr.tm o then Cq P s.fr s.cs (Ba P s.fr.eval o s.w) else .next ⟨s.fr.finish undef,s.cs,s.w⟩):=by
 obtain ⟨m1,f1,w1,r,k',t1,t2,t3,hG1,hfm,htf,hwr,hops,hW,hstk⟩:=Se (cs0:=cs0) h hm ht ho he;have hlo:=h.below;have ho':ops[i]? =some o:=by simpa using ho
 cases hwa:Bv ops s.fr.tm o with
 |false=>
  rw [hwa] at hwr;exact ⟨lo,m1,_,csW,w1,t1.trans (.one (Np hfm htf ho' hwr)),t2,t3,hG1,hlo,hW.finish (Fm m1) (Nl _),hstk,h.bot.finish undef⟩
 |true=>
  rw [hwa] at hwr;rw [Ct];by_cases hq:∃ j A',Ba P s.fr.eval o s.w=.ok (.rangeNext j) A'
  ·obtain ⟨j,A',hj⟩:=hq;obtain ⟨it,_,hop,_⟩:=GP hj;rw [hj];generalize hout:Cq P s.fr s.cs (.ok (.rangeNext j) A')=out;cases out with
   |branch l=>
    obtain ⟨s',hs',v',w',h1,h2,h3⟩:=UL t3 hops hG1 hlo hW hstk h.bot hj hout;exact ⟨s',hs',lo,m1,_,csW,w',t1.trans (.one (Xx hfm htf ho' hwr (λc hc=>by rw [hop] at hc;cases hc) (by rw [h1];rfl))),t2.trans h2,h3⟩
   |fail=>trivial
   |_=>
    exfalso;simp only [Cq,Bool.cond_eq_ite] at hout
    repeat' split at hout
    all_goals cases hout
  ·have hn:∀ j A',Ba P s.fr.eval o s.w≠ .ok (.rangeNext j) A':=λj A' e=>hq ⟨j,A',e⟩;refine .Ij (KO hn) λs' hs'=>?_;obtain ⟨f',csW',w',h1,lo',m',h2,h3⟩:=Qg (cs0:=cs0) hP (KE t3 hops) hG1 hlo hW hstk h.bot hn hs';exact ⟨lo',m',f',csW',w',t1.trans (.one (Xx hfm htf ho' hwr (Si λy e=>by rw [e] at hs';cases hs') h1)),t2.trans h2,h3⟩
theorem Yn {ops:Array Oper} (h:Ds P X f0 base lo m s f csW w) (hm:s.fr.mode=.run) (ht:s.fr.todo=.inRegion ops (i::rest)::k)
  (hk:Ey P X s ops i=some (g,args,A')):Agc P X f0 base cs0 m s.w w (lone f (csW++cs0) w) g args ⟨s.fr,s.cs,A'⟩:=by
 have hlo:=h.below;have hbase:=h.Hq;obtain ⟨o,ho,hwa,he⟩:=Sw hk;have heff:(De P ops.toList).testBit i=true:=by
  refine (UB ho).2 ⟨?_,?_⟩
  ·cases hq:Cj P o.op with
   |false=>rfl
   |true=>obtain ⟨_,v,hv⟩:=Ex hq he;cases hv
  ·cases hq:Dg P (OB P ops.toList) o.op with
   |false=>rfl
   |true=>obtain ⟨v,_,_,hv,_⟩:=OO hq he;cases hv
 obtain ⟨m1,f1,w1,r,k',t1,t2,t3,hG1,hfm,htf,hwr,hops,hW,hstk⟩:=Se (cs0:=cs0) h hm ht ho (.inr heff);have ho':ops[i]? =some o:=by simpa using ho
 rw [hwa] at hwr;have hrn:=KE t3 hops;rw [he] at hrn;obtain ⟨n',w',m',h1,h2,args',rfl,h3⟩:=hrn;exact ⟨lo,m',f1,csW,w',args',t1.trans (.one (Xx hfm htf ho' hwr (Si λy e=>by rw [he] at e;cases e) (by rw [h1];rfl))),t2.trans (h2.low (by omega)),h3,hG1.mono h2.ext,by have:=h2.next;show lo<=A'.next;omega,
  hW.mono h2.ext h2.same h2.next,hstk.mono h2.ext λi hi=>h2.same i (by omega),h.bot⟩
theorem We (hP:POk P) {ops:Array Oper} (h:Ds P X f0 base lo m s f csW w) (hm:s.fr.mode=.run) (ht:s.fr.todo=.inRegion ops (i::rest)::k)
  (hi:s.fr.dr=false\/i<ops.size):
  OQ P X f0 base m s f csW cs0 w (match ops.toList[i]? with
   |some o=>bif Bv ops s.fr.tm o then Cq P s.fr s.cs (Ba P s.fr.eval o s.w) else .next ⟨s.fr.finish undef,s.cs,s.w⟩
   |none=>.fail "no operation"):=by
 cases ho:ops.toList[i]? with
 |none=>trivial
 |some o=>
  simp only;cases h.top.body with
  |plain hd tm todo=>exact U8 hP h hm ht ho (.inl hd)
  |draw ops' S C rl pl rest' k0 k' hd hmode ta tf hk D=>
   cases heff:(De P ops.toList).testBit i with
   |true=>exact U8 hP h hm ht ho (.inr heff)
   |false=>
    rw [ht] at ta;simp only [Li,Item.inRegion.injEq] at ta;obtain ⟨⟨rfl,hl⟩,rfl⟩:=ta;have hi:i<ops.size:=by simpa using (Gs.1 ho).1
    have hrl:rl=[]:=by
     cases rl with
     |nil=>rfl
     |cons y rl=>
      simp only [List.cons_append,Li] at hl
      have:=D.rls y (by simp)
      omega
    subst hrl;rw [List.nil_append] at hl;subst hl;have hn:∀ j A',Ba P s.fr.eval o s.w≠ .ok (.rangeNext j) A':=λj A' e=>by
     obtain ⟨it,_,hop,_⟩:=GP e;rw [(UB ho).2 ⟨by rw [hop];rfl,by rw [hop];rfl⟩] at heff;cases heff
    refine .Ij ?_ λs' hs'=>UD h hm hd ht tf hk D ho heff hs';cases Bv ops s.fr.tm o
    ·trivial
    ·exact KO hn
end
variable {s:ASt} {k:List Item}
section
variable {P:Program} {X:Bt} {f0:FuncId} {base lo:Nat} {m:Inj P} {A:AW} {w:World} {fr:AFr} {cs:List AFr} {f:Frame} {csW cs0:List Frame}
theorem NL (hP:POk P) {g:Operand} {ps:Array Tmp} {assign body:Code} (h:Ds P X f0 base lo m s f csW w) (hm:s.fr.mode=.run) (hd:s.fr.dr=false)
  (ht:s.fr.todo=.code (.rangeFunc g ps assign body)::k):OQ P X f0 base m s f csW cs0 w (EE P s):=by
 have e:EE P s=(match (match s.fr.roundOf with
    |some l=>(match s.w.get l with | some (.loop r)=>some (r.defers,([]:List Deferred),s.w) | _=>none)
    |none=>(match s.w.new (.deferred true) with | some (r,w')=>some (r,[{ target:=.collected r,args:=#[] }],w') | none=>none)) with
   |none=>Em.fail "enterLoop"
   |some (d,mark,w)=>(match w.new (.loop { state:=.ready,pending:=none,fn:=s.fr.fn,tm:=s.fr.tm,params:=ps.toList,assign,body,defers:=d }) with
    |none=>.fail "enterLoop"
    |some (l,w)=>
     let fr':={ s.fr with todo:=.inRangeFunc l::k,defers:=mark++s.fr.defers }
     match s.fr.eval g with
     |.func fn first captured=>Cq P fr' s.cs (Cz P w (.fn fn captured) (first.toList++[Value.func (.yield l) #[] #[]]))
     |_=>.fail "rangeFunc")):=by
  (obtain ⟨⟨fn,tm,todo,defers,mode,kind,ro,dr⟩,cs,A⟩:=s;simp only at hm ht;subst hm ht;rfl)
 rw [e];refine .Ij ?_ λs' hs'=>OZ hP h hm hd ht hs';split
 ·trivial
 ·split
  ·trivial
  ·simp only;split
   ·exact KO λi A'=>GM
   ·trivial
theorem RY {ops:Array Oper} {i:Nat} {rest:List Nat} (h:Ds P X f0 base lo m s f csW w) (hm:s.fr.mode=.run) (ht:s.fr.todo=.inRegion ops (i::rest)::k)
  (hb:s.fr.dr=true) (hge:ops.toList.length<=i) (hrc:Valid P X s.w ops s.fr.tm (i-ops.toList.length)):Sim P X f0 base cs0 m s.w w (lone f (csW++cs0) w) { s with fr:={ s.fr with todo:=.inRegion ops rest::k } }:=by
 cases h.top.body with
 |plain hd tm todo=>rw [hb] at hd;cases hd
 |draw ops' S C rl pl rest' k0 k' hd hmode ta tf hk D=>
  rw [ht] at ta;simp only [Li,Item.inRegion.injEq] at ta;obtain ⟨⟨rfl,hl⟩,rfl⟩:=ta;cases rl with
  |nil=>
   exfalso;rw [List.nil_append] at hl;have hp:=D.plan;rw [<- hl] at hp;cases hp with
   |pure _ _ _ g1=>omega
   |alloc _ _ _ g1=>omega
   |effect _ _ _ g1=>omega
  |cons y rl=>
   simp only [List.cons_append,Li] at hl;obtain ⟨rfl,rfl⟩:=hl;have hsz:ops.toList.length=ops.size:=by simp
   rw [hsz] at hrc;have D':=D.Aaf hrc;refine ⟨lo,m,f,csW,w,.refl P _,.refl h.rel base,h.rel,h.glob,h.below,⟨⟨h.top.core.fn,h.top.core.kind,h.top.core.kindOk,h.top.core.mode,h.top.core.round,h.top.core.defers⟩,?_⟩,h.stk,h.bot.top rfl rfl rfl⟩;exact .draw ops S C rl pl rest' k k' hd hm rfl tf hk D'
theorem XY(hP:POk P)(h:Ds P X f0 base lo m s f csW w)(hm:s.fr.mode=.run):OQ P X f0 base m s f csW cs0 w (Bs P X s):=by
 have hfm:=h.MK hm;have plainCase:∀ {x:Item} {k:List Item},s.fr.todo=x::k->(∀ ops l,x≠ .inRegion ops l)->s.fr.dr=false/\∃ x' k',f.todo=x'::k'/\Ht m x x'/\B5 (Ht m) k k':=by
  intro x k ht hx;have hd:=h.SZ (by rw [ht];intro ops l k e;cases e;exact hx _ _ rfl);obtain ⟨htm,htodo⟩:=h.plain hd;rw [ht] at htodo;generalize htf:f.todo=y at htodo;cases htodo with
  |cons hx hk=>exact ⟨hd,_,_,rfl,hx,hk⟩
 cases ht:s.fr.todo with
 |nil=>
  have hd:=h.SZ (by rw [ht];simp);obtain ⟨htm,htodo⟩:=h.plain hd;rw [ht] at htodo;have hft:f.todo=[]:=by
   generalize f.todo=y at htodo;cases htodo;rfl
  have e:Bs P X s=QO s.fr s.cs s.w none:=by (obtain ⟨⟨fn,tm,todo,defers,mode,kind,ro,dr⟩,cs,A⟩:=s;simp only at hm ht;subst hm ht;rfl)
  rw [e];exact N3 h hm hd (by rw [hft];exact .done)
 |cons x k=>
  cases x with
  |inRegion ops l=>
   cases l with
   |nil=>
    have e:Bs P X s=.next ⟨{ s.fr with todo:=k,dr:=false },s.cs,s.w⟩:=by (obtain ⟨⟨fn,tm,todo,defers,mode,kind,ro,dr⟩,cs,A⟩:=s;simp only at hm ht;subst hm ht;rfl)
    rw [e];cases h.top.body with
    |plain hd tm todo=>
     obtain ⟨htm,htodo⟩:=h.plain hd;rw [ht] at htodo;generalize htf:f.todo=y at htodo;cases htodo with
     |cons hx hk=>
      obtain ⟨rfl,_⟩:=hx
      have:=h.todo (mach:=lone f (csW++cs0) w) (cs0:=cs0) hd hk (.one (Abo hfm htf))
      have e2:({ s.fr with todo:=k,dr:=false }:AFr)={ s.fr with todo:=k }:=by
       rw [<- hd]
      rw [e2];exact this
    |draw ops' S C rl pl rest' k0 k' hd hmode ta tf hk D=>
     rw [ht] at ta;simp only [Li,Item.inRegion.injEq] at ta;obtain ⟨⟨rfl,hl⟩,rfl⟩:=ta;obtain ⟨rfl,rfl⟩:=List.append_eq_nil_iff.1 hl.symm;exact SY h hm tf hk D
   |cons i rest=>
    have e:Bs P X s=(bif s.fr.dr&&!Nat.blt i ops.toList.length then .fail "recheck"
     else (match Ey P X s ops i with
      |some (f,args,w)=>.calls f args ⟨s.fr,s.cs,w⟩
      |none=>(match ops.toList[i]? with
       |some o=>bif Bv ops s.fr.tm o then Cq P s.fr s.cs (Ba P s.fr.eval o s.w) else .next ⟨s.fr.finish undef,s.cs,s.w⟩
       |none=>.fail "no operation"))):=by
     (obtain ⟨⟨fn,tm,todo,defers,mode,kind,ro,dr⟩,cs,A⟩:=s;simp only at hm ht;subst hm ht;rfl)
    rw [e];cases hb:(s.fr.dr&&!Nat.blt i ops.toList.length) with
    |false=>
     simp only [Cf];have hi:s.fr.dr=false\/i<ops.size:=by
      cases hdr:s.fr.dr with
      |false=>exact .inl rfl
      |true=>
       rw [hdr] at hb;simp only [Bool.true_and,Bool.not_eq_false'] at hb;exact .inr (by simpa using AA.1 hb)
     cases hkn:Ey P X s ops i with
     |some x=>
      obtain ⟨g,args,A'⟩:=x;exact Yn h hm ht hkn
     |none=>exact We (cs0:=cs0) hP h hm ht hi
    |true=>trivial
  |code c=>
   obtain ⟨hd,x',k',htf,hx,hk⟩:=plainCase ht (by intro ops l e;cases e);obtain ⟨rfl,hc⟩:=hx;have go:∀ {j j':List Item},B5 (Ht m) j j'->step P (lone f (csW++cs0) w)=.next (lone { f with todo:=j' } (csW++cs0) w)->Bs P X s=.next ⟨{ s.fr with todo:=j },s.cs,s.w⟩->
     OQ P X f0 base m s f csW cs0 w (Bs P X s):=by
    intro j j' hj hst e;rw [e];exact h.todo hd hj (.one hst)
   have lv:∀ {jump:Option Code},Jump f.todo jump->Bs P X s=QO s.fr s.cs s.w jump->OQ P X f0 base m s f csW cs0 w (Bs P X s):=by
    intro jump hj e;rw [e];exact N3 h hm hd hj
   cases c with
   |skip=>exact go hk (Ab9 hfm htf) (by (obtain ⟨⟨fn,tm,todo,defers,mode,kind,ro,dr⟩,cs,A⟩:=s;simp only at hm ht;subst hm ht;rfl))
   |label l=>exact go hk (Z1 hfm htf) (by (obtain ⟨⟨fn,tm,todo,defers,mode,kind,ro,dr⟩,cs,A⟩:=s;simp only at hm ht;subst hm ht;rfl))
   |seq a b=>
    simp only [codeOk,Bq] at hc;exact go (j:=.code a:: .code b::k) (j':=.code a:: .code b::k') (.cons ⟨rfl,hc.1⟩ (.cons ⟨rfl,hc.2⟩ hk)) (Aek hfm htf) (by (obtain ⟨⟨fn,tm,todo,defers,mode,kind,ro,dr⟩,cs,A⟩:=s;simp only at hm ht;subst hm ht;rfl))
   |cond c a b=>
    simp only [codeOk,Bq] at hc;obtain ⟨htm,_⟩:=h.plain hd;have hv:AM m (s.fr.eval c) (f.eval c):=by
     rw [CY,D1];exact JM h.glob hc.1 λt _=>htm.val t
    cases he:s.fr.eval c with
    |bool t=>
     rw [he] at hv;have hfe:f.eval c=.bool t:=by
      generalize f.eval c=y at hv;cases hv;rfl
     have hcc:codeOk P (if t then a else b)=true:=by cases t;exact hc.2.2;exact hc.2.1
     refine go (j:=.code (bif t then a else b)::k) (j':=.code (if t then a else b)::k') ?_ (Acf hfm htf hfe) (by (obtain ⟨⟨fn,tm,todo,defers,mode,kind,ro,dr⟩,cs,A⟩:=s;simp only at hm ht;subst hm ht;unfold Bs EE;simp only [he]))
     have:(bif t then a else b)=if t then a else b:=by cases t<;>rfl
     rw [this];exact .cons ⟨rfl,hcc⟩ hk
    |_=>
     have e:Bs P X s=.fail "cond":=by (obtain ⟨⟨fn,tm,todo,defers,mode,kind,ro,dr⟩,cs,A⟩:=s;simp only at hm ht;subst hm ht;unfold Bs EE;simp only [he])
     rw [e];trivial
   |block id b=>exact go (j:=.code b:: .inBlock id::k) (j':=.code b:: .inBlock id::k') (.cons ⟨rfl,hc⟩ (.cons rfl hk)) (Z2 hfm htf) (by (obtain ⟨⟨fn,tm,todo,defers,mode,kind,ro,dr⟩,cs,A⟩:=s;simp only at hm ht;subst hm ht;rfl))
   |loop b=>exact go (j:=.code b:: .inLoop b::k) (j':=.code b:: .inLoop b::k') (.cons ⟨rfl,hc⟩ (.cons ⟨rfl,hc⟩ hk)) (Aca hfm htf) (by (obtain ⟨⟨fn,tm,todo,defers,mode,kind,ro,dr⟩,cs,A⟩:=s;simp only at hm ht;subst hm ht;rfl))
   |scope b=>exact go (j:=.code b:: .inScope b::k) (j':=.code b:: .inScope b::k') (.cons ⟨rfl,hc⟩ (.cons ⟨rfl,hc⟩ hk)) (ZY hfm htf) (by (obtain ⟨⟨fn,tm,todo,defers,mode,kind,ro,dr⟩,cs,A⟩:=s;simp only at hm ht;subst hm ht;rfl))
   |exit id=>
    have hex:=Oo id hk;cases hq:Hc id k with
    |none=>
     rw [hq] at hex;exact lv (jump:=some (.exit id)) (by rw [htf];exact .exit id k' hex) (by (obtain ⟨⟨fn,tm,todo,defers,mode,kind,ro,dr⟩,cs,A⟩:=s;simp only at hm ht;subst hm ht;unfold Bs EE;simp only [hq];rfl))
    |some r=>
     rw [hq] at hex;obtain ⟨r',h1,h2⟩:=hex;exact go h2 (Acd hfm htf h1) (by (obtain ⟨⟨fn,tm,todo,defers,mode,kind,ro,dr⟩,cs,A⟩:=s;simp only at hm ht;subst hm ht;unfold Bs EE;simp only [hq]))
   |goto l=>
    have hex:=N9 l hk;cases hq:gotoIn l k with
    |none=>
     rw [hq] at hex;exact lv (jump:=some (.goto l)) (by rw [htf];exact .goto l k' hex) (by (obtain ⟨⟨fn,tm,todo,defers,mode,kind,ro,dr⟩,cs,A⟩:=s;simp only at hm ht;subst hm ht;unfold Bs EE;simp only [hq];rfl))
    |some r=>
     rw [hq] at hex;obtain ⟨r',h1,h2⟩:=hex;exact go h2 (Acb hfm htf h1) (by (obtain ⟨⟨fn,tm,todo,defers,mode,kind,ro,dr⟩,cs,A⟩:=s;simp only at hm ht;subst hm ht;unfold Bs EE;simp only [hq]))
   |ret=>exact lv (jump:=some .ret) (by rw [htf];exact .ret k') (by (obtain ⟨⟨fn,tm,todo,defers,mode,kind,ro,dr⟩,cs,A⟩:=s;simp only at hm ht;subst hm ht;rfl))
   |refuse y=>
    have e:Bs P X s=.fail ("refused "++y):=by (obtain ⟨⟨fn,tm,todo,defers,mode,kind,ro,dr⟩,cs,A⟩:=s;simp only at hm ht;subst hm ht;rfl)
    rw [e];trivial
   |rangeFunc g ps assign body=>
    have e:Bs P X s=EE P s:=by (obtain ⟨⟨fn,tm,todo,defers,mode,kind,ro,dr⟩,cs,A⟩:=s;simp only at hm ht;subst hm ht;rfl)
    rw [e];exact NL hP h hm hd ht
   |region id ops draw=>
    cases draw with
    |false=>
     refine go (j:=.inRegion ops (List.range ops.toList.length)::k) (j':=.inRegion ops (List.range ops.size)::k') ?_ (Xw hfm htf) (by (obtain ⟨⟨fn,tm,todo,defers,mode,kind,ro,dr⟩,cs,A⟩:=s;simp only at hm ht;subst hm ht;rfl));exact .cons ⟨by simp,hc⟩ hk
    |true=>
     cases hin:Jj s.fr.tm.sz ops.toList with
     |false=>
      have e:Bs P X s=.fail "no slot":=by (obtain ⟨⟨fn,tm,todo,defers,mode,kind,ro,dr⟩,cs,A⟩:=s;simp only at hm ht;subst hm ht;unfold Bs;simp only at hin;simp only [hin,Cf])
      rw [e];trivial
     |true=>
      cases hp:NO P ops.toList with
      |none=>
       have e:Bs P X s=.fail "no plan":=by (obtain ⟨⟨fn,tm,todo,defers,mode,kind,ro,dr⟩,cs,A⟩:=s;simp only at hm ht;subst hm ht;unfold Bs;simp only at hin;simp only [hin,Ct,hp])
       rw [e];trivial
      |some p=>
       have e:Bs P X s=.next { s with fr:={ s.fr with todo:=.inRegion ops p::k,dr:=true } }:=by (obtain ⟨⟨fn,tm,todo,defers,mode,kind,ro,dr⟩,cs,A⟩:=s;simp only at hm ht;subst hm ht;unfold Bs;simp only at hin;simp only [hin,Ct,hp])
       rw [e];exact Pf hP h hm hd ht hin hp
  |inBlock id=>
   obtain ⟨hd,x',k',htf,hx,hk⟩:=plainCase ht (by intro ops l e;cases e);have hx:x'=.inBlock id:=hx;subst hx;have e:Bs P X s=.next ⟨{ s.fr with todo:=k },s.cs,s.w⟩:=by (obtain ⟨⟨fn,tm,todo,defers,mode,kind,ro,dr⟩,cs,A⟩:=s;simp only at hm ht;subst hm ht;rfl)
   rw [e];exact h.todo hd hk (.one (VP hfm htf))
  |inScope b=>
   obtain ⟨hd,x',k',htf,hx,hk⟩:=plainCase ht (by intro ops l e;cases e);obtain ⟨rfl,_⟩:=hx;have e:Bs P X s=.next ⟨{ s.fr with todo:=k },s.cs,s.w⟩:=by (obtain ⟨⟨fn,tm,todo,defers,mode,kind,ro,dr⟩,cs,A⟩:=s;simp only at hm ht;subst hm ht;rfl)
   rw [e];exact h.todo hd hk (.one (VO hfm htf))
  |inLoop b=>
   obtain ⟨hd,x',k',htf,hx,hk⟩:=plainCase ht (by intro ops l e;cases e);obtain ⟨rfl,hb⟩:=hx;have e:Bs P X s=.next ⟨{ s.fr with todo:=.code b:: .inLoop b::k },s.cs,s.w⟩:=by (obtain ⟨⟨fn,tm,todo,defers,mode,kind,ro,dr⟩,cs,A⟩:=s;simp only at hm ht;subst hm ht;rfl)
   rw [e];exact h.todo hd (.cons ⟨rfl,hb⟩ (.cons ⟨rfl,hb⟩ hk)) (.one (Xy hfm htf))
  |inRangeFunc l=>
   have e:Bs P X s=.fail "todo":=by (obtain ⟨⟨fn,tm,todo,defers,mode,kind,ro,dr⟩,cs,A⟩:=s;simp only at hm ht;subst hm ht;rfl)
   rw [e];trivial
  |call d wr rs sv=>
   have e:Bs P X s=.fail "todo":=by (obtain ⟨⟨fn,tm,todo,defers,mode,kind,ro,dr⟩,cs,A⟩:=s;simp only at hm ht;subst hm ht;rfl)
   rw [e];trivial
  |extern r a=>
   have e:Bs P X s=.fail "todo":=by (obtain ⟨⟨fn,tm,todo,defers,mode,kind,ro,dr⟩,cs,A⟩:=s;simp only at hm ht;subst hm ht;rfl)
   rw [e];trivial
  |beginRound=>
   obtain ⟨hd,x',k',htf,hx,hk⟩:=plainCase ht (by intro ops l e;cases e);have e:Bs P X s=(match s.fr.roundOf with
    |some l=>(match s.w.get l with
     |some (.loop r)=>(match r.state with
      |.ready=>Em.next ⟨s.fr.finish undef,s.cs,s.w.put l (.loop { r with state:=.busy })⟩
      |_=>.fail "beginRound")
     |_=>.fail "beginRound")
    |none=>.fail "beginRound"):=by (obtain ⟨⟨fn,tm,todo,defers,mode,kind,ro,dr⟩,cs,A⟩:=s;simp only at hm ht;subst hm ht;rfl)
   rw [e];refine .Ij ?_ λs' hs'=>OK h hm hd ht hs'
   repeat' split
   all_goals trivial
  |endRangeFunc l=>
   obtain ⟨hd,x',k',htf,hx,hk⟩:=plainCase ht (by intro ops l e;cases e);have e:Bs P X s=(match s.w.get l with
    |some (.loop r)=>(match r.state with
     |.busy=>Em.fail "endLoop"
     |_=>.next ⟨{ s.fr with todo:=(match r.pending with | some c=>.code c::k | none=>k) },s.cs,s.w.put l (.loop { r with state:=.exhausted })⟩)
    |_=>.fail "endLoop"):=by (obtain ⟨⟨fn,tm,todo,defers,mode,kind,ro,dr⟩,cs,A⟩:=s;simp only at hm ht;subst hm ht;rfl)
   rw [e];refine .Ij ?_ λs' hs'=>Q6 h hm hd ht hs'
   repeat' split
   all_goals trivial
end
section
variable {P:Program} {X:Bt} {f0:FuncId} {base lo:Nat} {m:Inj P} {A:AW} {w:World} {fr:AFr} {cs:List AFr} {f:Frame} {csW cs0:List Frame}
theorem RE{s:ASt}(h:Ds P X f0 base lo m s f csW w)(hm:s.fr.mode=.returning):OQ P X f0 base m s f csW cs0 w (Bs P X s):=by
 have hdr:=h.top.QI (by rw [hm];simp);obtain ⟨htm,htodo⟩:=h.plain hdr;cases hd:s.fr.defers with
 |cons d ds=>
  have hdf:=h.top.core.defers;rw [hd] at hdf;generalize f.defers=y at hdf;cases hdf with
  |cons hx _=>
   obtain ⟨b,_,hb,_⟩:=hx;obtain ⟨tg,args⟩:=d;simp only at hb;subst hb;by_cases hg:s.w.get b=some (.deferred true)
   ·have e:Bs P X s=.next ⟨{ s.fr with defers:=ds },s.cs,s.w.put b (.deferred false)⟩:=by
     (obtain ⟨⟨fn,tm,todo,defers,mode,kind,ro,dr⟩,cs,A⟩:=s;simp only at hm hd hg;subst hm hd;unfold Bs EE;simp only [hg])
    rw [e];exact Pk h hm hd hg
   ·have e:Bs P X s=.fail "takeDeferred":=by
     obtain ⟨⟨fn,tm,todo,defers,mode,kind,ro,dr⟩,cs,A⟩:=s;simp only at hm hd hg;subst hm hd;unfold Bs EE;simp only
    rw [e];trivial
 |nil=>
  cases hf:P.funcs[s.fr.fn]? with
  |none=>
   have e:Bs P X s=.fail "unwind fn":=by
    (obtain ⟨⟨fn,tm,todo,defers,mode,kind,ro,dr⟩,cs,A⟩:=s;simp only at hd hm hf;subst hd hm;unfold Bs EE;simp only [hf])
   rw [e];trivial
  |some fn0=>
   cases hr:CB P s.w fn0 s.fr.tm with
   |none=>
    have e:Bs P X s=.fail "results":=by
     (obtain ⟨⟨fn,tm,todo,defers,mode,kind,ro,dr⟩,cs,A⟩:=s;simp only at hd hm hf hr;subst hd hm;unfold Bs EE;simp only [hf,hr])
    rw [e];trivial
   |some v=>
    cases hcs:s.cs with
    |cons c rest=>
     have e:Bs P X s=Dl s.fr (c::rest) v s.w:=by
      (obtain ⟨⟨fn,tm,todo,defers,mode,kind,ro,dr⟩,cs,A⟩:=s;simp only at hd hm hf hr hcs;subst hd hm hcs;unfold Bs EE;simp only [hf,hr])
     rw [e];exact .Ij (Ke _ _ _ _) λs' hs'=>TW h hm hd hf hr hcs hs'
    |nil=>
     have e:Bs P X s=.done v s.w:=by
      (obtain ⟨⟨fn,tm,todo,defers,mode,kind,ro,dr⟩,cs,A⟩:=s;simp only at hd hm hf hr hcs;subst hd hm hcs;unfold Bs EE;simp only [hf,hr])
     rw [e];have hb:=h.bot;rw [hcs] at hb;have hstk:=h.stk;rw [hcs] at hstk;obtain ⟨v',g1,g2⟩:=JV h.rel htm hr;refine ⟨rfl,?_,v',g2,⟨?_,?_,h.top.core.kind.trans hb.1,fn0,by rw [h.top.core.fn];exact hf,g1⟩,h.top.core.fn.trans hb.2.1⟩
     ·generalize csW=y at hstk;cases hstk;rfl
     ·have:=h.top.core.mode
      rw [hm] at this;generalize f.mode=u at this;cases this;rfl
     ·have:=h.top.core.defers
      rw [hd] at this;generalize f.defers=u at this;cases this;rfl
theorem Hv(hP:POk P){s:ASt}(h:Ds P X f0 base lo m s f csW w):OQ P X f0 base m s f csW cs0 w (Bs P X s):=by
 cases hm:s.fr.mode with
 |run=>exact XY hP h hm
 |returning=>exact RE h hm
 |panicking c=>
  have:=h.top.core.mode
  rw [hm] at this;generalize f.mode=u at this;cases this
end
variable {A:AW} {w w':World} {s s':ASt}
section
variable {P:Program} {X:Bt} {W0:World} {m0:Inj P}
structure Old (W0:World) (m0 m:Inj P) (A:AW) (w:World):Prop where
 le:m0.le m
 below:Go.RowKit.Below W0.heap.size W0 w
 own:∀ c,c<W0.heap.size->¬ Own m A c
theorem Old.next{m m':Inj P}{A':AW}{lo:Nat}(h:Old W0 m0 m A w)(e:EvL lo m A w m' A' w'):Old W0 m0 m' A' w':=by
 have hs:=h.below.size;refine ⟨h.le.trans e.ext,⟨e.os.trans h.below.os,e.tape.trans h.below.tape,e.output.trans h.below.output,Nat.le_trans hs e.size,λk hk=>?_⟩,λc hc ho=>?_⟩
 ·rw [e.keep k (by omega) (h.own k hk),h.below.block k hk]
 ·exact h.own c hc (e.own c (by omega) ho)
def Reach(P:Program)(X:Bt)(W0:World)(m0:Inj P)(s:ASt)(L:List ASt):Prop:=
 ∀ (f0:FuncId) (base lo:Nat) (cs0:List Frame) (m:Inj P) (f:Frame) (csW:List Frame) (w:World),Ds P X f0 base lo m s f csW w->Old W0 m0 m s.w w->∃ s'∈L,Sim P X f0 base cs0 m s.w w (lone f (csW++cs0) w) s'
def Res(P:Program)(X:Bt)(W0:World)(m0:Inj P)(s:ASt)(l:List (Value × AW)):Prop:=
 ∀ (f0:FuncId) (base lo:Nat) (cs0:List Frame) (m:Inj P) (f:Frame) (csW:List Frame) (w:World),Ds P X f0 base lo m s f csW w->Old W0 m0 m s.w w->
  ∃ x∈l,∃ v' m' w' f',Steps P (lone f (csW++cs0) w) (lone f' cs0 w')/\AM m' x.1 v'/\EvL base m s.w w m' x.2 w'/\f'.leaving P w' (.returned v')/\f'.fn=f0
theorem TZ(hP:POk P)(h:Bs P X s=.next s'):Reach P X W0 m0 s [s']:=by
 intro f0 base lo cs0 m f csW w hr _;have hs:=Hv (cs0:=cs0) hP hr;rw [h] at hs;exact ⟨s',by simp,hs⟩
theorem QC(hP:POk P){l:List ASt}(h:Bs P X s=.branch l):Reach P X W0 m0 s l:=by
 intro f0 base lo cs0 m f csW w hr _;have hs:=Hv (cs0:=cs0) hP hr;rw [h] at hs;exact hs
theorem X2(hP:POk P){v:Value}(h:Bs P X s=.done v A):Res P X W0 m0 s [(v,A)]:=by
 intro f0 base lo cs0 m f csW w hr _;have hs:=Hv (cs0:=cs0) hP hr;rw [h] at hs;obtain ⟨rfl,rfl,v',g1,g2,g3⟩:=hs;exact ⟨(v,s.w),by simp,v',m,w,f,.refl P _,g1,.refl hr.rel base,g2,g3⟩
structure KC where
 fn:FuncId
 args:List Value
 vals:List Value
def Et:Nat:=4194304
structure Low (q:Prop) (w w':World):Prop where
 below:Go.RowKit.Below w.heap.size w w'
 draws:q->w.drawn<=w'.drawn
def KC.Holds(P:Program)(W0:World)(m0:Inj P)(k:KC):Prop:=
 (k.fn=Et->k.args=k.vals)/\(k.fn≠Et->∀ (m:Inj P) (args':List Value) (W:World),m0.le m->Go.RowKit.Below W0.heap.size W0 W->AJ m k.args args'->Calls P k.fn ⟨args'⟩ W λe W'=>∃ v∈k.vals,e=.returned v/\Low (Fl m) W W')
theorem Rel.grow{m:Inj P}(r:Rel m A w)(h:Go.RowKit.Below w.heap.size w w'):Rel m A w':=by
 refine ⟨λi o c d hi hm=>?_,r.home,r.sep,r.mem,r.fresh,r.lim,λi cs e f b ro c d hi hm=>?_⟩
 ·obtain ⟨o',h1,h2⟩:=r.obj i o c d hi hm;exact ⟨o',by rw [h.block c (r.DD hi hm)];exact h1,h2⟩
 ·obtain ⟨g1,cs',e',fr,g2,g3⟩:=r.room i cs e f b ro c d hi hm;exact ⟨g1,cs',e',fr,by rw [h.block c (r.DD hi hm)];exact g2,g3⟩
theorem EvL.grow{m:Inj P}(r:Rel m A w)(h:Low (Fl m) w w')(lo:Nat):EvL lo m A w m A w':=
 ⟨.refl m,r.grow h.below,h.below.size,h.below.os,h.below.tape,h.below.output,h.draws,λc hc _=>h.below.block c hc,λ_ _ x=>x,Nl _,λ_ _=>rfl⟩
theorem R0(hP:POk P){g:FuncId}{args vals:List Value}(h:Bs P X s=.calls g args s')(hg:g≠Et)(hk:KC.Holds P W0 m0 ⟨g,args,vals⟩)(hc:vals.all (Ax 4)=true):
  Reach P X W0 m0 s (vals.map λv=>⟨s'.fr.finish v,s'.cs,s'.w⟩):=by
 intro f0 base lo cs0 m f csW w hr ho;have hs:=Hv (cs0:=cs0) hP hr;rw [h] at hs;obtain ⟨lo',m',f',cs',w',args',t1,t2,t3,t4,t5,t6,t7,t8⟩:=hs;have ho':=ho.next t2;obtain ⟨e,w'',fr,⟨v,hv,rfl,hb⟩,hst,_,hlv⟩:=hk.2 hg m' args' w' ho'.le ho'.below t3 (f'::(cs'++cs0));have hst:Steps P (lone (Frame.enter P g ⟨args'⟩ .normal) (f'::(cs'++cs0)) w') (lone fr (f'::(cs'++cs0)) w''):=hst;have hg:=EvL.grow t2.rel hb base;refine ⟨_,List.mem_map.2 ⟨v,hv,rfl⟩,lo',m',f'.finish v,cs',w'',t1.trans (hst.trans (.one (step_leave_returned hlv))),t2.trans hg,hg.rel,t4,t5,?_,t7,t8.finish v⟩;exact t6.finish (Cb 4 v (List.all_eq_true.1 hc v hv)) (Nl _)
end
end Go.Abs
namespace Go.Abs
open Go.ChangeShapes Go.WideShapes Go.ChangeAt Go.RowKit
variable {A A':AW} {w w' W:World} {lo i:Nat} {l:List (Nat × Nat)} {apart fresh handsOn again:Bool} {cs:List Value}
def Yg(P:Program):Bool:=P.funcs.toList.all λfn=>match fn.body with | some c=>codeOk P c | none=>true
theorem AcF{P:Program}(h:Yg P=true)(hm:P.follows .mixedOrders=true):POk P:=by
 refine ⟨λf fn c hf hb=>?_,hm⟩;unfold Yg at h
 have:=List.all_eq_true.1 h fn (by simpa using Array.mem_of_getElem? hf)
 rw [hb] at this;exact this
def YV(P:Program)(f:FuncId)(args:List Value):AFr:=(CD P f args .normal).getD ⟨0,⟨0,.nil⟩,[],[],.run,.normal,none,false⟩
def Lb:List (Nat × List Value × TypeId)->Trie AO
 |[]=>.nil
 |x::r=>(Lb r).put depth x.1 (some (.row x.2.1 x.2.2 x.1 0 true))
theorem LX:∀ (l:List (Nat × List Value × TypeId)),(∀ x∈l,x.1<Aj)->∀ i o,(Lb l).get? i=some o->∃ x∈l,x.1=i/\o=.row x.2.1 x.2.2 i 0 true
 |[],_,i,o,h=>by simp [Lb,Trie.get?] at h
 |x::r,hl,i,o,h=>by
  simp only [Lb] at h;rw [Trie.get?_put depth _ x.1 i _ (by have:=hl x (by simp);unfold depth Aj at *;omega)] at h;split at h
  ·rename_i e;subst e;cases h;exact ⟨x,by simp,rfl,rfl⟩
  ·obtain ⟨y,hy,h1,h2⟩:=LX r (λy hy=>hl y (by simp [hy])) i o h;exact ⟨y,by simp [hy],h1,h2⟩
def mG(P:Program):Inj P:=⟨λi=>if i<P.globals.size then some (i,0) else none,λ_=>0,λ_=>0,λ_=>0,λ_ h=>absurd rfl h⟩
def Holds(W:World)(l:List (Nat × List Value × TypeId)):Prop:=∀ x∈l,∃ fr,W.heap[x.1]? =some (.cells ⟨x.2.1⟩ x.2.2 fr)
def okG(n:Nat)(l:List (Nat × List Value × TypeId)):Bool:=Nat.ble n Aj&&l.all λx=>Nat.blt x.1 n&&x.2.1.all (Ax 4)
theorem Ui{P:Program}{m m':Inj P}(h:EvL lo m A w m' A' w')(hno:∀ c,¬ Own m A c):Low (Fl m) w w':=
 ⟨⟨h.os,h.tape,h.output,h.size,λk hk=>h.keep k hk (hno k)⟩,h.draws⟩
theorem Zr{P:Program}{m m':Inj P}(h:EvL lo m A w m' A' w')(hno:∀ c,¬ Own m A c):Below w.heap.size w w':=
 ⟨h.os,h.tape,h.output,h.size,λk hk=>h.keep k hk (hno k)⟩
def mA(P:Program)(l:List (Nat × Nat)):Inj P:=⟨λi=>if i<P.globals.size then some (i,0) else l[i-P.globals.size]?,λ_=>0,λ_=>0,λ_=>0,λ_ h=>absurd rfl h⟩
theorem Hh{P:Program}(h:i<P.globals.size):mA P l i=some (i,0):=by
 show (if i<P.globals.size then some (i,0) else l[i-P.globals.size]?)=some (i,0);rw [if_pos h]
theorem Kv{P:Program}(i:Nat):mA P l (P.globals.size+i)=l[i]? :=by
 show (if P.globals.size+i<P.globals.size then some (P.globals.size+i,0) else l[P.globals.size+i-P.globals.size]?)=l[i]?;rw [Ff (by omega),Nat.add_sub_cancel_left]
theorem VY{P:Program}{n c:Nat}{a:Addr}(hl:l[i]? =some (a.block,a.off))(hn:n<=c)(hc:c<Bo)(hs:0<c->a.spot=none):
  AM (mA P l) (.slice (some ⟨P.globals.size+i,0,none⟩) n c) (.slice (some a) n c):=
 .slice (.inl ⟨hc,rfl⟩) hn λhp=>⟨rfl,hs hp,a.off,by rw [Kv];exact hl,rfl⟩
def Nh(s:Value):Prop:=s=.slice none 0 0\/∃ (a:Addr) (n c:Nat),s=.slice (some a) n c/\n<=c/\c<Bo/\(0<c->a.spot=none)
def placeOf:Value->Nat × Nat
 |.slice (some a) _ _=>(a.block,a.off)
 |_=>(0,0)
theorem Nh.rel{P:Program}{s:Value}(h:Nh s)(i:Nat)(hl:l[i]? =some (placeOf s)):∃ o n c,AM (mA P l) (.slice o n c) s:=by
 rcases h with rfl | ⟨a,n,c,rfl,hn,hc,hs⟩
 ·exact ⟨none,0,0,Cb 4 _ (by rfl)⟩
 ·exact ⟨_,_,_,VY (i:=i) hl hn hc hs⟩
section
variable {H:Type} {enc:TypeId × Value->H}
theorem GG {a:Assume} {C:Checked} {os:Os} {f:FuncId} {fn:Func} {s:ChangeSpec} {conds:List PathCond} {X:World->Array Value->Prop}
  (hX:∀ (w w':World) (args:Array Value),w.heap=w'.heap->X w args->X w' args)
  (own:ownKnob C.prog.godebug=none) (started:os.Started) (noInit:C.prog.inits.idxOf? f=none) (hfn:C.prog.funcs[f]? =some fn)
  (witness:∃ (w:World) (tape:Tape) (i:Input),w.os=os/\(w.forCall tape i).Shaped C.prog/\i.vars=[]/\Input.okWide C.prog (w.forCall tape i) .any w.heap.size f i/\
   ((s.pre enc C.prog fn conds apart (w.forCall tape i).memory i.args/\X (w.forCall tape i).memory i.args)/\sizedMet enc C.prog fn (OpenSpec.ofChange s) apart (w.forCall tape i).memory i.args)/\a.holds C.prog (lone (Frame.enter C.prog f i.args .normal) [] (w.forCall tape i)))
  (contract:∀ (W:World) (base:Nat) (args:Array Value) (ds gs:List (DataW H)) (before:List MemPlace),
   (∀ (j:Nat) t v,fn.params[j]? =some t->args[j]? =some v->Value.okWide C.prog W .any base t v)->
   DataW.Whole enc C.prog fn.params.toList s.vars apart W args.toList ds gs before->
   conds.all (PathCond.test C.prog ⟨fn.params.toList,ds,s.plain.varTypes C.prog,gs⟩)=true->
   (DataW.weightsEach C.prog (fn.params.toList++s.plain.varTypes C.prog) (ds++gs)).all (·<=reachBytes)=true->X W args->W.ShapedOpen C.prog->
   Calls C.prog f args W λe W'=>∃ v,e=.returned v/\s.post enc C.prog fn apart fresh handsOn again W args v W'):
  ReturnsInHanded a C os f .any (λw args=>(s.pre enc C.prog fn conds apart w args/\X w args)/\sizedMet enc C.prog fn (OpenSpec.ofChange s) apart w args) (s.post enc C.prog fn apart fresh handsOn again):=by
 refine returnsInHanded_of_calls own started noInit witness ?_;intro w tape i _ hsh _ hok hpre hholds;obtain ⟨_,_,_,fn',hfn',_,_,_,_,hval⟩:=hok;have e:fn'=fn:=Option.some.inj (hfn'.symm.trans hfn);subst e;obtain ⟨⟨⟨ds,gs,before,hw,hc⟩,hx⟩,hz⟩:=hpre;have hw':=DataW.Whole.of_heap (w':=w.forCall tape i) (by rfl) hw;refine (contract (w.forCall tape i) w.heap.size i.args ds gs before hval hw' hc (hz.weights hw) (hX _ _ _ (by rfl) hx) hsh).mono λe W' ⟨v,he,hp⟩=>?_;subst he;exact ChangeSpec.post_blind hp
theorem TY{P:Program}{t e:TypeId}{fuel:Nat}{x:DataW H × List MemPlace}(hu:P.underlying t=some (.slice e))(hz:0<P.cellsOf e)(h:DataW.trod enc P w 0 (λ_=>true) true fuel t cs=some x):∃ s,cs=[s]/\Nh s:=by
 rcases Go.Deep.open_slice hu h with ⟨h1,_⟩ | ⟨a,n,c,m,_,D,Pl,h1,_,hn,hm,rfl,_,hx⟩
 ·exact ⟨_,h1,.inl rfl⟩
 ·refine ⟨_,h1,.inr ⟨a,n,m,rfl,hn,Nat.lt_of_le_of_lt hm (by decide),λhp=>?_⟩⟩;obtain ⟨cs',h2,_⟩:=hx 0 hp;obtain ⟨_,hl,h3⟩:=World.cells?_some h2;have h4:=h3 0 hz;have h5:cs'[0]? =some (cs'[0]'(by rw [hl];exact hz)):=Ge _;rw [h5] at h4;unfold World.cell? at h4;split at h4
  ·split at h4
   ·cases h4
   ·rename_i hsp;cases hq:a.spot with
    |none=>rfl
    |some z=>exact absurd (by simp [Addr.add,hq]) hsp
  ·cases h4
variable {P:Program}
theorem O0 {f:Func} {s:ChangeSpec} {W':World} {args:Array Value} {v:Value} {ds gs:List (DataW H)} {before pa pv:List MemPlace}
  (hW:DataW.Whole enc P f.params.toList s.vars apart W args.toList ds gs before)
  (hres:∀ (b:Nat) (sp:Nat->Bool) (hd:Bool),DataW.TrodAll enc P W' b sp hd f.resultTypes.toList (v.resultList f.resultTypes.size) (s.fn H (ds++gs)).results [])
  (hargs:∀ sp:Nat->Bool,(∀ p∈before,sp p.block=true)->DataW.TrodAll enc P W' 0 sp true f.params.toList args.toList (s.fn H (ds++gs)).args pa)
  (hvars:∀ sp:Nat->Bool,(∀ p∈before,sp p.block=true)->DataW.TrodVars enc P W' sp s.vars (s.fn H (ds++gs)).vars pv)
  (hps:before=pa++pv) (hb:Below W.heap.size W W')
  (hok:∀ (j:Nat) (t:TypeId) (r:Value),f.resultTypes[j]? =some t->(v.resultList f.resultTypes.size)[j]? =some r->Value.okWide P W' .any 0 t r):
  s.post enc P f apart fresh handsOn again W args v W':=by
 have hlt:∀ p∈before,p.block<W.heap.size:=λp hp=>hW.lt p hp;have hold:∀ p∈before,(λb=>decide (b<W.heap.size)) p.block=true:=λp hp=>by simpa using hlt p hp
 refine ⟨ds,gs,before,[],pa,pv,hW,hres _ _ _,hargs _ hold,hvars _ hold,World.keptBut_mono (λp hp=>⟨hp,?_⟩) (hb.frame (·∈before)),λ_=>?_⟩
 ·rw [hps,Mz] at hp;exact Or.inr hp
 ·obtain ⟨_,_,_,_,_,hz,hn⟩:=hW;refine ⟨hok,_,_,([]++pa)++pv,⟨[]++pa,pv,trodAll_append (hargs _ (λ_ _=>rfl)) (hres _ _ _),hvars _ (λ_ _=>rfl),rfl,?_,?_⟩,?_⟩
  ·intro b off hp;have hin:MemPlace.cell b off∈before:=by rw [hps];simpa using hp
   rw [hb.frozen (hlt _ hin)];exact hz b off hin
  ·intro ha
   have:=hn ha
   rw [hps] at this
   simpa using this
  ·intro p hp _;rw [hps]
   simpa using hp
end
theorem Mb {P:Program} (hsh:W.ShapedOpen P) {name:String} {g t:Nat} (hg:P.globalNamed name=some g) (hlt:g<P.globals.size) (hz:((((begin P (λ_ _=>0) default).world.heap[g]?).bind Obj.row?).map (·.2))=some t)
  (hv:W.var? P name=some ⟨cs⟩):∃ fr,W.heap[g]? =some (.cells ⟨cs⟩ t fr):=by
 cases hq:((begin P (λ_ _=>0) default).world.heap[g]?).bind Obj.row? with
 |none=>rw [hq] at hz;cases hz
 |some x=>
  obtain ⟨zero,t'⟩:=x;rw [hq] at hz;simp only [Option.map_some,Oi] at hz;subst hz;obtain ⟨cs',h1,_⟩:=hsh.1 g zero t' hlt hq;unfold World.var? at hv;rw [hg] at hv;simp only [Option.bind_some,h1,Oi] at hv;subst hv;exact ⟨_,h1⟩
end Go.Abs
namespace Go.Abs
variable {s s':ASt} {Q K:Value->AW->Prop} {A:AW} {g:FuncId} {args:List Value}
section
variable {P:Program} {X:Bt} {W0:World} {m0:Inj P}
def WP(P:Program)(X:Bt)(W0:World)(m0:Inj P)(s:ASt)(Q:Value->AW->Prop):Prop:=
 ∀ (f0:FuncId) (base lo:Nat) (cs0:List Frame) (m:Inj P) (f:Frame) (csW:List Frame) (w:World),Ds P X f0 base lo m s f csW w->Old W0 m0 m s.w w->
  ∃ v A',Q v A'/\∃ v' m' w' f',Steps P (lone f (csW++cs0) w) (lone f' cs0 w')/\AM m' v v'/\EvL base m s.w w m' A' w'/\f'.leaving P w' (.returned v')/\f'.fn=f0
theorem Reach.wp{L:List ASt}(h:Reach P X W0 m0 s L)(h':∀ x∈L,WP P X W0 m0 x Q):WP P X W0 m0 s Q:=by
 intro f0 base lo cs0 m f csW w hr ho;obtain ⟨s',hs',lo1,m1,f1,cs1,w1,t1,t2,t3⟩:=h f0 base lo cs0 m f csW w hr ho;obtain ⟨v,A',hq,v',m',w',f',u1,u2,u3,u4,u5⟩:=h' s' hs' f0 base lo1 cs0 m1 f1 cs1 w1 t3 (ho.next t2);exact ⟨v,A',hq,v',m',w',f',t1.trans u1,u2,t2.trans u3,u4,u5⟩
theorem Reach.wp1(h:Reach P X W0 m0 s [s'])(h':WP P X W0 m0 s' Q):WP P X W0 m0 s Q:=h.wp λx hx=>by simp at hx;subst hx;exact h'
theorem Res.wp{l:List (Value × AW)}(h:Res P X W0 m0 s l)(hq:∀ x∈l,Q x.1 x.2):WP P X W0 m0 s Q:=by
 intro f0 base lo cs0 m f csW w hr ho;obtain ⟨x,hx,r⟩:=h f0 base lo cs0 m f csW w hr ho;exact ⟨x.1,x.2,hq x hx,r⟩
theorem Xn{fr c:AFr}{rest:List AFr}(hk:fr.kind=.normal)(hro:fr.roundOf=none)(h:WP P X W0 m0 ⟨fr,[],A⟩ K)(h':∀ v A',K v A'->WP P X W0 m0 ⟨c.finish v,rest,A'⟩ Q):
  WP P X W0 m0 ⟨fr,c::rest,A⟩ Q:=by
 intro f0 base lo cs0 m f csW w hr ho;obtain ⟨lo1,g,l',rfl,h1,h2,h3⟩:=hr.stk.inv;have hbase:=hr.stk.base;have hlo:=hr.below;have hs:Ds P X fr.fn lo lo m ⟨fr,[],A⟩ f [] w:=⟨hr.rel,hr.glob,hr.below,hr.top,.nil lo (Nl _),⟨hk,rfl,hro⟩⟩;obtain ⟨v,A',hK,v',m',w',f',u1,u2,u3,u4,u5⟩:=h fr.fn lo lo (g::l'++cs0) m f [] w hs ho;have hnext:A.next<=A'.next:=u3.next;have hsim:Sim P X f0 base cs0 m A w (lone f (g::l'++cs0) w) ⟨c.finish v,rest,A'⟩:=by
  refine ⟨lo1,m',g.finish v',l',w',?_,u3.Xo hbase,u3.rel,hr.glob.mono u3.ext,?_,?_,?_,?_⟩
  ·exact u1.trans (.one (step_leave_returned u4))
  ·show lo1<=A'.next
   have:lo<=A.next:=hlo
   omega
  ·refine (h2.mono (A':=A') u3.ext (λi hi=>u3.same i hi) (Nl lo)).finish u2 ?_
   have:lo<=A.next:=hlo
   show lo<=A'.next;omega
  ·exact h3.mono u3.ext λi hi=>u3.same i (by omega)
  ·have hb:Bot f0 (c::rest):=hr.bot;exact hb.finish v
 obtain ⟨lo2,m2,f2,cs2,w2,t1,t2,t3⟩:=hsim;obtain ⟨v2,A2,hq,v3,m3,w3,f3,s1,s2,s3,s4,s5⟩:=h' v A' hK f0 base lo2 cs0 m2 f2 cs2 w2 t3 (ho.next t2);exact ⟨v2,A2,hq,v3,m3,w3,f3,t1.trans s1,s2,t2.trans s3,s4,s5⟩
def Wc(P:Program)(X:Bt)(W0:World)(m0:Inj P)(g:FuncId)(args:List Value)(A:AW)(K:Value->AW->Prop):Prop:=
 (CD P g args .normal).isSome=true/\WP P X W0 m0 ⟨YV P g args,[],A⟩ K
theorem Hd (hP:POk P) {m:Inj P} {w:World} {args':List Value} (h:Wc P X w m g args A Q) (r:Rel m A w) (hG:GOk m)
  (hno:∀ c,¬ Own m A c) (ha:AJ m args args'):Calls P g ⟨args'⟩ w λe w'=>∃ v v' m' A',Q v A'/\e=.returned v'/\AM m' v v'/\EvL A.next m A w m' A' w':=by
 intro cs0;obtain ⟨fr,he⟩:=Option.isSome_iff_exists.1 h.1;have h2:=h.2;unfold YV at h2;rw [he] at h2;obtain ⟨g1,g2,g3,g4⟩:=P8 (X:=X) (A:=A) hP he ha A.next A.next;have hs:Ds P X g A.next A.next m ⟨fr,[],A⟩ (Frame.enter P g ⟨args'⟩ .normal) [] w:=⟨r,hG,Nl _,g1,.nil _ (Nl _),⟨g2,g3,g4⟩⟩;obtain ⟨v,A',hq,v',m',w',f',k1,k2,k3,k4,k5⟩:=h2 g A.next A.next cs0 m _ [] w hs ⟨.refl m,.refl _ _,λc _=>hno c⟩;exact ⟨.returned v',w',f',⟨v,v',m',A',hq,rfl,k2,k3⟩,k1,k5,k4⟩
theorem AbY (hP:POk P) (h:Bs P X s=.calls g args s')
  (hk:∀ (m:Inj P) (w:World) (args':List Value),Rel m s'.w w->m0.le m->Go.RowKit.Below W0.heap.size W0 w->AJ m args args'->
   Calls P g ⟨args'⟩ w λe w'=>∃ v v' m' A',K v A'/\e=.returned v'/\AM m' v v'/\EvL s'.w.next m s'.w w m' A' w')
  (h':∀ v A',K v A'->WP P X W0 m0 ⟨s'.fr.finish v,s'.cs,A'⟩ Q):WP P X W0 m0 s Q:=by
 intro f0 base lo cs0 m f csW w hr ho;have hs:=Hv (cs0:=cs0) hP hr;rw [h] at hs;obtain ⟨lo',m',f',cs',w',args',t1,t2,t3,t4,t5,t6,t7,t8⟩:=hs;have ho':=ho.next t2;obtain ⟨e,w'',fr,⟨v,v',m2,A2,hK,rfl,hv,hev⟩,hst,_,hlv⟩:=hk m' w' args' t2.rel ho'.le ho'.below t3 (f'::(cs'++cs0));have hst:Steps P (lone (Frame.enter P g ⟨args'⟩ .normal) (f'::(cs'++cs0)) w') (lone fr (f'::(cs'++cs0)) w''):=hst;have hbase:=t7.base;have hnext:s'.w.next<=A2.next:=hev.next;have hev0:EvL base m' s'.w w' m2 A2 w'':=hev.Xo (by omega);have hsim:Sim P X f0 base cs0 m s.w w (lone f (csW++cs0) w) ⟨s'.fr.finish v,s'.cs,A2⟩:=
  ⟨lo',m2,f'.finish v',cs',w'',t1.trans (hst.trans (.one (step_leave_returned hlv))),t2.trans hev0,hev.rel,t4.mono hev.ext,(by show lo'<=A2.next;omega),
   (t6.mono hev.ext hev.same hnext).finish hv (Nl _),t7.mono hev.ext λi hi=>hev.same i (by omega),t8.finish v⟩
 obtain ⟨lo2,m3,f3,cs3,w3,u1,u2,u3⟩:=hsim;obtain ⟨v2,A3,hq,v3,m4,w4,f4,s1,s2,s3,s4,s5⟩:=h' v A2 hK f0 base lo2 cs0 m3 f3 cs3 w3 u3 (ho.next u2);exact ⟨v2,A3,hq,v3,m4,w4,f4,u1.trans s1,s2,u2.trans s3,s4,s5⟩
def Aa(r:Option Value)(K:Value->Prop):Prop:=∃ v,r=some v/\K v
def Be(r:Option AW)(K:AW->Prop):Prop:=∃ A,r=some A/\K A
def Ao(r:R Value)(K:Value->AW->Prop):Prop:=∃ v A,r=.ok v A/\K v A
def Aa8(P:Program)(W0:World)(m0:Inj P)(g:FuncId)(args:List Value)(A:AW)(K:Value->AW->Prop):Prop:=
 ∀ (m:Inj P) (w:World) (args':List Value),Rel m A w->m0.le m->Go.RowKit.Below W0.heap.size W0 w->AJ m args args'->
  Calls P g ⟨args'⟩ w λe w'=>∃ v v' m' A',K v A'/\e=.returned v'/\AM m' v v'/\EvL A.next m A w m' A' w'
def knW(P:Program)(W0:World)(m0:Inj P)(g:FuncId)(args:List Value)(A:AW)(K:Value->AW->Prop):Prop:=
 (∃ vals,g≠Et/\KC.Holds P W0 m0 ⟨g,args,vals⟩/\vals.all (Ax 4)=true/\∀ v∈vals,K v A)\/Aa8 P W0 m0 g args A K
def toW(P:Program)(X:Bt)(W0:World)(m0:Inj P)(g:FuncId)(args:List Value)(A:AW)(K:Value->AW->Prop):Prop:=
 bif NW g X.known then knW P W0 m0 g args A K else Wc P X W0 m0 g args A K
abbrev Aae(fn:FuncId)(tm:Tm)(assign body:Code)(l:Nat):AFr:=⟨fn,tm,[.code assign,.beginRound,.code body],[],.run,.normal,some l,false⟩
def Rs(P:Program)(X:Bt)(W0:World)(m0:Inj P)(l:Nat)(fn:FuncId)(tm:Tm)(assign body:Code)(A:AW)(K:Value->AW->Prop):Prop:=
 ∀ (c:AFr) (rest:List AFr) (Q:Value->AW->Prop),(∀ v A',K v A'->WP P X W0 m0 ⟨c.finish v,rest,A'⟩ Q)->WP P X W0 m0 ⟨Aae fn tm assign body l,c::rest,A⟩ Q
def Rf(es:List MapEntry)(since:Nat)(seen:List Nat):List (Option MapEntry):=
 (if ((es.filter λe=>!seen.contains e.born).filter λe=>Nat.blt e.born since).isEmpty then [none] else [])++
  (((es.filter λe=>!seen.contains e.born).filter λe=>Nat.blt e.born since)++((es.filter λe=>!seen.contains e.born).filter λe=>Nat.ble since e.born)).map some
def Aby(A:AW)(r:Nat)(K:Value->AW->Prop):Prop:=
 ∃ m since seen last es clock ro,A.get r=some (.mit (some m) since seen last)/\A.get m=some (.map es clock ro)/\(!seen.isEmpty&&!es.isEmpty&&es.all (λe=>Nat.ble last e.born))=false/\
  ∀ c∈Rf es since seen,(match c with
   |some e=>K (.tuple #[.bool true,e.key,e.val]) (A.put r (.mit (some m) since (seen++[e.born]) clock))
   |none=>K (.tuple #[.bool false]) A)
def anW(P:Program)(X:Bt)(W0:World)(m0:Inj P)(r:R AN)(K:Value->AW->Prop):Prop:=
 (∃ v A,r=.ok (.value v) A/\K v A)\/(∃ g args A,r=.ok (.enter g args) A/\toW P X W0 m0 g args A K)\/
  (∃ l fn tm assign body A,r=.ok (.round l fn tm assign body) A/\Rs P X W0 m0 l fn tm assign body A K)\/(∃ it A,r=.ok (.rangeNext it) A/\Aby A it K)
def AeH(c a b:Value)(K:Value->Prop):Prop:=∃ t,c=.bool t/\K (bif t then a else b)
def Ae(P:Program)(A:AW)(t:TypeId)(a:Value):Option Value:=match a with | .pointer (some a)=>Ef P A t a | _=>none
def Av(P:Program)(A:AW)(t:TypeId)(a x:Value):Option AW:=match a with | .pointer (some a)=>Jy P A t a x | _=>none
def CO(A:AW)(cs:List Value)(e:TypeId):R Value:=match A.newRow cs e with | some (a,A')=>.ok (.pointer (some a)) A' | none=>.fail ""
def BB(P:Program)(A:AW)(e:TypeId):R Value:=match Dt P e with | some z=>CO A z.cells.toList e | none=>.fail ""
def G4(A:AW):R Value:=match A.new (.map [] 0 false) with | some (b,A')=>.ok (.map (some b)) A' | none=>.fail ""
def Ga(P:Program)(t:TypeId)(x:Value):Option Value:=match P.underlying t with | some (.interface _)=>none | some _=>some (.iface t x) | none=>none
def Ap(t:Value)(i:Nat):Option Value:=match t with | .tuple vs=>vs.toList[i]? | _=>none
def AY(x:Value):Option Value:=match x with | .pointer none=>none | .nilIface=>none | .nilFunc=>none | .func (.method _) _ _=>none | x=>some x
def D2(P:Program)(A:AW)(f:Value)(args:List Value):R AN:=match f with | .func fn first captured=>Cz P A (.fn fn captured) (first.toList++args) | _=>.fail ""
def Wn(x:Value)(r:List Value):Option Value:=match x with | .int k a=>(match Sm a r with | some n=>some (.int k n) | none=>none) | _=>none
def Uf(x:Value)(r:List Value):Option Value:=match x with | .int k a=>(match Sn a r with | some n=>some (.int k n) | none=>none) | _=>none
def Zn(P:Program)(X:Bt)(W0:World)(m0:Inj P)(ρ:Operand->Value)(c:Call)(type:TypeId)(A:AW)(K:Value->AW->Prop):Prop:=
 match c.callee,c.argTypes.toList,c.args.toList with
 |.builtin .len,[t],[x]=>Aa (Bi P A t (ρ x)) λv=>K v A
 |.builtin .append,[t,t2],[s,x]=>Ao (AU P A t t2 (ρ s) (ρ x)) K
 |.builtin .copy,[t,_],[d,x]=>Ao (LG P A t (ρ d) (ρ x)) K
 |.builtin .delete,[t,_],[m,k]=>Be (FJ P A t (ρ m) (ρ k)) λA=>K (.tuple #[]) A
 |.builtin .min,_,x::r=>Aa (Wn (ρ x) (r.map ρ)) λv=>K v A
 |.builtin .max,_,x::r=>Aa (Uf (ρ x) (r.map ρ)) λv=>K v A
 |.value (.func f),_,args=>bif JI P f then toW P X W0 m0 f (args.map ρ) A K else False
 |.value f,_,args=>anW P X W0 m0 (D2 P A (ρ f) (args.map ρ)) K
 |_,_,_=>False
def opW(P:Program)(X:Bt)(W0:World)(m0:Inj P)(ρ:Operand->Value)(o:Oper)(A:AW)(K:Value->AW->Prop):Prop:=
 match o.op with
 |.move x=>K (ρ x) A
 |.assign x=>K (ρ x) A
 |.pick c a b=>AeH (ρ c) (ρ a) (ρ b) λv=>K v A
 |.alloc e=>Ao (BB P A e) K
 |.box e x=>Ao (CO A (ρ x).cells.toList e) K
 |.build t parts=>Aa (Bd P t (Fq parts.toList ρ)) λv=>K v A
 |.buildSlice t len parts=>Ao (Aq P A t len (Fq parts.toList ρ)) K
 |.load t a=>Aa (Ae P A t (ρ a)) λv=>K v A
 |.store t a x=>Be (Av P A t (ρ a) (ρ x)) λA=>K undef A
 |.nilCheck x=>Aa (AY (ρ x)) λv=>K v A
 |.binOp op t x y _=>Aa (An P op t x y (ρ x) (ρ y)) λv=>K v A
 |.unOp op _ x=>Aa (unA P op (ρ x)) λv=>K v A
 |.convert s d x=>Ao (AQ P A s d (ρ x)) K
 |.makeInterface t x=>Aa (Ga P t (ρ x)) λv=>K v A
 |.makeFunc fn first captured=>(match fn with | .yield _=>False | _=>K (.func fn ⟨first.toList.map ρ⟩ ⟨captured.toList.map ρ⟩) A)
 |.makeMap _ none=>Ao (G4 A) K
 |.makeSlice t l c=>Ao (CH P A t (ρ l) (ρ c)) K
 |.slice t x lo hi mx=>Aa (AX P A t (ρ x) (lo.map ρ) (hi.map ρ) (mx.map ρ)) λv=>K v A
 |.fieldAddr s x f=>Aa (Ad P s (ρ x) f) λv=>K v A
 |.indexAddr t x ix=>Aa (Ar P t (ρ x) (ρ ix)) λv=>K v A
 |.index t x ix=>Aa (Io P t (ρ x) (ρ ix)) λv=>K v A
 |.lookup t x k ok=>Aa (Cu P A t (ρ x) (ρ k) ok) λv=>K v A
 |.mapUpdate t m k x=>Be (Cp P A t (ρ m) (ρ k) (ρ x)) λA=>K undef A
 |.extract t ix=>Aa (Ap (ρ t) ix) λv=>K v A
 |.call c=>Zn P X W0 m0 ρ c o.type A K
 |_=>anW P X W0 m0 (Ba P ρ o A) K
def Rv(P:Program)(X:Bt)(W0:World)(m0:Inj P)(r:R AN)(K:Value->AW->Prop):Prop:=
 (∃ v A,r=.ok (.value v) A/\K v A)\/(∃ A,r=.ok .skip A/\K undef A)\/(∃ g args A,r=.ok (.enter g args) A/\toW P X W0 m0 g args A K)\/
  (∃ l fn tm assign body A,r=.ok (.round l fn tm assign body) A/\Rs P X W0 m0 l fn tm assign body A K)\/(∃ it A,r=.ok (.rangeNext it) A/\Aby A it K)
theorem anW.Q8{r:R AN}(h:anW P X W0 m0 r K):Rv P X W0 m0 r K:=by
 rcases h with h | h | h
 ·exact .inl h
 ·exact .inr (.inr (.inl h))
 ·exact .inr (.inr (.inr h))
end
variable {r:Option AW} {A:AW} {K:Value->AW->Prop} {why:String}
section
variable {P:Program} {X:Bt} {W0:World} {m0:Inj P}
theorem Eb{r:Option Value}(h:Aa r λv=>K v A){why:String}:Rv P X W0 m0 (match (generalizing:=false) r with | some v=>.ok (.value v) A | none=>.fail why) K:=by
 obtain ⟨v,rfl,hk⟩:=h;exact .inl ⟨v,A,rfl,hk⟩
theorem Y9(h:Be r λA=>K undef A){why:String}:Rv P X W0 m0 (match (generalizing:=false) r with | some A=>.ok .skip A | none=>.fail why) K:=by
 obtain ⟨v,rfl,hk⟩:=h;exact .inr (.inl ⟨v,rfl,hk⟩)
theorem WT(h:Be r λA=>K (.tuple #[]) A){why:String}:Rv P X W0 m0 (match (generalizing:=false) r with | some A=>.ok (.value (.tuple #[])) A | none=>.fail why) K:=by
 obtain ⟨v,rfl,hk⟩:=h;exact .inl ⟨_,v,rfl,hk⟩
theorem HN{r:R Value}(h:Ao r K):Rv P X W0 m0 (match (generalizing:=false) r with | .ok v A=>.ok (.value v) A | .fail y=>.fail y) K:=by
 obtain ⟨v,A,rfl,hk⟩:=h;exact .inl ⟨v,A,rfl,hk⟩
theorem Cx{v:Value}(h:K v A):Rv P X W0 m0 (.ok (.value v) A) K:=.inl ⟨v,A,rfl,h⟩
theorem UJ{ρ:Operand->Value}(hρ:∀ f,ρ (.func f)=.func (.func f) #[] #[]){c:Call}{type:TypeId}(h:Zn P X W0 m0 ρ c type A K):
  Rv P X W0 m0 (match (generalizing:=false) DH ρ c type with | some d=>Cz P A d.target d.args.toList | none=>.fail "call no function") K:=by
 obtain ⟨callee,args,ts⟩:=c;unfold Zn at h;simp only at h;unfold DH;split at h
 ·rename_i h1 h2;simp only [h1,h2,Cz,Dm,Mc,Mn];exact Eb h
 ·rename_i h1 h2;simp only [h1,h2,Cz,Dm,Mc,Mn];exact HN h
 ·rename_i h1 h2;simp only [h1,h2,Cz,Dm,Mc,Mn];exact HN h
 ·rename_i h1 h2;simp only [h1,h2,Cz,Dm,Mc,Mn];exact WT h
 ·rename_i x r h2;simp only [h2,Cz,Mc];obtain ⟨v,hv,hk⟩:=h;unfold Wn at hv;split at hv
  ·rename_i k a he;split at hv
   ·rename_i n hn;cases hv;simp only [he,Dm,hn];exact Cx hk
   ·cases hv
  ·cases hv
 ·rename_i x r h2;simp only [h2,Cz,Mc];obtain ⟨v,hv,hk⟩:=h;unfold Uf at hv;split at hv
  ·rename_i k a he;split at hv
   ·rename_i n hn;cases hv;simp only [he,Dm,hn];exact Cx hk
   ·cases hv
  ·cases hv
 ·rename_i f;simp only [hρ,Cz,List.nil_append,List.append_nil];cases hb:JI P f with
  |true=>
   rw [hb,Ct] at h;unfold Gy;rw [hb,Ct];exact .inr (.inr (.inl ⟨f,_,A,rfl,h⟩))
  |false=>rw [hb] at h;exact h.elim
 ·simp only;have h:=h.Q8;unfold D2 at h;split at h
  ·rename_i he;simp only [he];exact h
  ·rcases h with ⟨v,A',h,_⟩ | ⟨A',h,_⟩ | ⟨g,aS,A',h,_⟩ | ⟨l,fn,tm,a,b,A',h,_⟩ | ⟨it,A',h,_⟩<;>cases h
 ·exact h.elim
theorem Sf{ρ:Operand->Value}(hρ:∀ f,ρ (.func f)=.func (.func f) #[] #[]){o:Oper}(h:opW P X W0 m0 ρ o A K):Rv P X W0 m0 (Ba P ρ o A) K:=by
 obtain ⟨dst,op,type,pos,after,guard⟩:=o;unfold opW at h;unfold Ba;cases op with
 |move x=>exact Cx h
 |assign x=>exact Cx h
 |pick c a b=>
  obtain ⟨t,h1,h2⟩:=h;simp only [h1];cases t<;>exact Cx h2
 |alloc e=>
  obtain ⟨v,A',h1,h2⟩:=h;unfold BB CO at h1;split at h1
  ·rename_i z hz;simp only [hz];split at h1
   ·rename_i a A2 ha;cases h1;simp only [ha];exact Cx h2
   ·cases h1
  ·cases h1
 |box e x=>
  obtain ⟨v,A',h1,h2⟩:=h;unfold CO at h1;split at h1
  ·rename_i a A2 ha;cases h1;simp only [ha];exact Cx h2
  ·cases h1
 |build t parts=>exact Eb h
 |buildSlice t len parts=>exact HN h
 |load t a=>
  obtain ⟨v,h1,h2⟩:=h;unfold Ae at h1;split at h1
  ·rename_i ad he;simp only [he];rw [h1];exact Cx h2
  ·cases h1
 |store t a x=>
  obtain ⟨v,h1,h2⟩:=h;unfold Av at h1;split at h1
  ·rename_i ad he;simp only [he];rw [h1];exact .inr (.inl ⟨_,rfl,h2⟩)
  ·cases h1
 |nilCheck x=>
  obtain ⟨v,h1,h2⟩:=h;unfold AY at h1;split at h1
  ·cases h1
  ·cases h1
  ·cases h1
  ·cases h1
  ·cases h1;simp only;exact Cx h2
 |binOp op t x y yt=>exact Eb h
 |unOp op t x=>exact Eb h
 |convert s d x=>exact HN h
 |makeInterface t x=>
  obtain ⟨v,h1,h2⟩:=h;unfold Ga at h1;simp only;cases hu:P.underlying t with
  |none=>rw [hu] at h1;cases h1
  |some d=>
   rw [hu] at h1;cases d<;>first | (cases h1;done) | (cases h1;exact Cx h2)
 |makeFunc fn first captured=>
  simp only at h ⊢;split at h
  ·exact h.elim
  ·split
   ·simp_all
   ·exact Cx h
 |makeMap t r=>
  cases r with
  |none=>
   obtain ⟨v,A',h1,h2⟩:=h;unfold G4 at h1;simp only;split at h1
   ·rename_i b A2 hb;cases h1;simp only [hb];exact Cx h2
   ·cases h1
  |some r=>exact h.Q8
 |makeSlice t l c=>exact HN h
 |slice t x lo hi mx=>exact Eb h
 |fieldAddr s x f=>exact Eb h
 |indexAddr t x ix=>exact Eb h
 |index t x ix=>exact Eb h
 |lookup t x k ok=>exact Eb h
 |mapUpdate t m k x=>exact Y9 h
 |extract t ix=>
  obtain ⟨v,h1,h2⟩:=h;unfold Ap at h1;simp only;split at h1
  ·rename_i vs he;simp only [he];rw [h1];exact Cx h2
  ·cases h1
 |call c=>exact UJ hρ h
 |_=>exact h.Q8
end
def Ai(v:Value)(p q:Prop):Prop:=(∃ b,v=.bool b)/\(v=.bool true->p)/\(v=.bool false->q)
def BE(a b:List Item)(p:Prop):Prop:=a=b/\p
def eqW(a b:Value)(p:Prop):Prop:=a=b/\p
def Cd(c:Option TD)(A:AW)(v:Value)(p:Prop):Prop:=(∃ f,c=some f/\B4 A v f=true)/\p
def JU(kt kf:Nat):Operand->Option Bool
 |.const (.bool b)=>some b
 |.tmp t=>bif kt.testBit t then some true else bif kf.testBit t then some false else none
 |_=>none
def Wu(kt kf:Nat):Op->Option Bool
 |.move x=>JU kt kf x
 |.assign x=>JU kt kf x
 |.pick c a b=>(match JU kt kf c with | some true=>JU kt kf a | some false=>JU kt kf b | none=>none)
 |_=>none
def Kr(kt kf:Nat):Op->Option Operand
 |.pick c a b=>(match JU kt kf c with | some true=>some a | some false=>some b | none=>none)
 |_=>none
def clr(k d:Nat):Nat:=bif k.testBit d then k ^^^ (1 <<< d) else k
def MU(k d:Nat):Nat:=bif k.testBit d then k else k ^^^ (1 <<< d)
def knT(kt d:Nat):Option Bool->Nat
 |some true=>MU kt d
 |_=>clr kt d
def knF(kf d:Nat):Option Bool->Nat
 |some false=>MU kf d
 |_=>clr kf d
def AeS(kt:Nat):Operand->Nat
 |.tmp t=>MU kt t
 |_=>kt
def Qc:List Item->Nat
 |.inBlock id::_=>id
 |_=>0
def oneOf:List Value->Value
 |[v]=>v
 |l=>.tuple ⟨l⟩
def Ki(ops:Array Oper)(j:Nat):Option Tmp:=match ops.toList[j]? with | some o=>o.dst | none=>none
def knU(ku d:Nat)(skipped:Bool):Nat:=bif skipped then MU ku d else clr ku d
def Xs(kt kf ku:Nat)(ops:Array Oper)(o:Oper):Option Bool:=
 match o.guard with
 |none=>some true
 |some (j,want)=>(match Ki ops j with
  |none=>none
  |some d=>bif ku.testBit d then some false else (match JU kt kf (.tmp d) with | some b=>some (b==want) | none=>none))
section
variable (P:Program) (X:Bt) (W0:World) (m0:Inj P)
def RX(A:AW)(tm:Tm)(Q:Value->AW->Prop):List ResultVar->List Value->Prop
 |[],acc=>Q (oneOf acc.reverse) A
 |.tmp t::r,acc=>RX A tm Q r (tm.get t::acc)
 |.cell a t::r,acc=>Aa (Ae P A t (tm.get a)) λv=>RX A tm Q r (v::acc)
def Qx(fn:FuncId)(A:AW)(tm:Tm)(Q:Value->AW->Prop):Prop:=
 match P.funcs[fn]? with
 |some f=>RX P A tm Q f.results.toList []
 |none=>False
def GA:List Nat->AW->(AW->Prop)->Prop
 |[],A,K=>K A
 |D::r,A,K=>A.get D=some (.deferred true)/\GA r (A.put D (.deferred false)) K
def QN(A:AW)(l:Nat)(j:Option Code)(K:Value->AW->Prop):Prop:=
 ∃ r,A.get l=some (.loop r)/\K (.bool j.isNone) (A.put l (.loop { r with state:=if j.isNone then .ready else .done,pending:=j }))
def I4(fn:FuncId)(ro:Option Nat)(ds:List Nat)(A:AW)(tm:Tm)(Q:Value->AW->Prop)(j:Option Code):Prop:=
 match ro with
 |none=>(match j with | none=>GA ds A λA=>Qx P fn A tm Q | some .ret=>GA ds A λA=>Qx P fn A tm Q | _=>False)
 |some l=>(match ds with | []=>QN A l j Q | _=>False)
def Rl(A:AW)(l:Nat)(K:AW->Prop):Prop:=∃ r,A.get l=some (.loop r)/\r.state=.ready/\K (A.put l (.loop { r with state:=.busy }))
def Vg(A:AW)(fn:FuncId)(tm:Tm)(ps:List Tmp)(assign body:Code)(K:Nat->Nat->AW->Prop):Prop:=
 ∃ D A1 l A2,A.new (.deferred true)=some (D,A1)/\A1.new (.loop { state:=.ready,pending:=none,fn:=fn,tm:=tm,params:=ps,assign:=assign,body:=body,defers:=D })=some (l,A2)/\K D l A2
def MA(tm:Tm)(l:List (Nat × Value)):Tm:=l.foldl (λtm p=>tm.set p.1 p.2) tm
def LF(A:AW)(l:Nat)(p q:AW->Prop):Prop:=
 ∃ r,A.get l=some (.loop r)/\r.state≠ .busy/\((r.pending=none/\p (A.put l (.loop { r with state:=.exhausted })))\/(r.pending=some .ret/\q (A.put l (.loop { r with state:=.exhausted }))))
def Adb(A:AW)(f:Value)(args:List Value)(K:Value->AW->Prop):Prop:=∃ g aS A',D2 P A f args=.ok (.enter g aS) A'/\Wc P X W0 m0 g aS A' K
def AeT(ds:List Nat)(p:Prop):Prop:=match ds with | []=>p | _=>False
def Cv(fn:FuncId)(T:Nat->List Item)(L:Nat->List Tmp)(S:Nat->List Value->AW->Prop)(Q:Value->AW->Prop)(ro:Option Nat):Nat->Tm->List Item->Bool->Nat->Nat->Nat->List Nat->AW->Prop
 |0,_,_,_,_,_,_,_,_=>False
 |n+1,tm,todo,dr,kt,kf,ku,ds,A=>
  match todo with
  |[]=>bif dr then False else I4 P fn ro ds A tm Q none
  |.code .ret::_=>bif dr then False else I4 P fn ro ds A tm Q (some .ret)
  |.beginRound::k=>bif dr then False else (match ro with | some l=>Rl A l λA'=>Cv fn T L S Q ro n tm k dr kt kf ku ds A' | none=>False)
  |.code (.rangeFunc f ps assign body)::k=>bif dr then False else (match ro with
   |some _=>False
   |none=>Vg A fn tm ps.toList assign body λD l A1=>Adb P X W0 m0 A1 (BZ tm f) [.func (.yield l) #[] #[]] λ_ A'=>
     LF A' l (λA''=>Cv fn T L S Q ro n tm k dr kt kf ku (D::ds) A'') (λA''=>GA (D::ds) A'' λA3=>Qx P fn A3 tm Q))
  |.code .skip::k=>Cv fn T L S Q ro n tm k dr kt kf ku ds A
  |.code (.label _)::k=>Cv fn T L S Q ro n tm k dr kt kf ku ds A
  |.inBlock _::k=>Cv fn T L S Q ro n tm k dr kt kf ku ds A
  |.inScope _::k=>Cv fn T L S Q ro n tm k dr kt kf ku ds A
  |.code (.seq a b)::k=>Cv fn T L S Q ro n tm (.code a:: .code b::k) dr kt kf ku ds A
  |.code (.cond c a b)::k=>(match JU kt kf c with
   |some true=>Cv fn T L S Q ro n tm (.code a::k) dr kt kf ku ds A
   |some false=>Cv fn T L S Q ro n tm (.code b::k) dr kt kf ku ds A
   |none=>Ai (BZ tm c) (Cv fn T L S Q ro n tm (.code a::k) dr (AeS kt c) kf ku ds A) (Cv fn T L S Q ro n tm (.code b::k) dr kt (AeS kf c) ku ds A))
  |.code (.block id b)::k=>Cv fn T L S Q ro n tm (.code b:: .inBlock id::k) dr kt kf ku ds A
  |.code (.scope b)::k=>Cv fn T L S Q ro n tm (.code b:: .inScope b::k) dr kt kf ku ds A
  |.code (.loop b)::k=>bif dr then False else AeT ds (BE (.code b:: .inLoop b::k) (T (Qc k)) (S (Qc k) ((L (Qc k)).map tm.get) A))
  |.inLoop b::k=>bif dr then False else AeT ds (BE (.code b:: .inLoop b::k) (T (Qc k)) (S (Qc k) ((L (Qc k)).map tm.get) A))
  |.code (.exit id)::k=>(match Hc id k with | some k'=>Cv fn T L S Q ro n tm k' dr kt kf ku ds A | none=>bif dr then False else I4 P fn ro ds A tm Q (some (.exit id)))
  |.code (.region _ ops false)::k=>Cv fn T L S Q ro n tm (.inRegion ops (List.range ops.toList.length)::k) dr kt kf ku ds A
  |.code (.region _ ops true)::k=>bif Jj tm.sz ops.toList then (match NO P ops.toList with
   |some p=>Cv fn T L S Q ro n tm (.inRegion ops p::k) true kt kf ku ds A
   |none=>False) else False
  |.inRegion _ []::k=>Cv fn T L S Q ro n tm k false kt kf ku ds A
  |.inRegion ops (i::rest)::k=>
   bif dr&&!Nat.blt i ops.toList.length then
    (match ops.toList[i-ops.toList.length]? with
    |none=>False
    |some o=>(match o.dst,Xs kt kf ku ops o with
     |some d,some false=>eqW undef (tm.get d) (Cv fn T L S Q ro n tm (.inRegion ops rest::k) dr kt kf ku ds A)
     |some d,some true=>bif Cj P o.op then
       (match Kr kt kf o.op with
       |some x=>eqW (BZ tm x) (tm.get d) (Cv fn T L S Q ro n tm (.inRegion ops rest::k) dr kt kf ku ds A)
       |none=>opW P X W0 m0 (BZ tm) o A λv _=>eqW v (tm.get d) (Cv fn T L S Q ro n tm (.inRegion ops rest::k) dr kt kf ku ds A))
      else Cd (Bn P (BZ tm) o.op) A (tm.get d) (Cv fn T L S Q ro n tm (.inRegion ops rest::k) dr kt kf ku ds A)
     |_,_=>False))
   else (match ops.toList[i]? with
    |none=>False
    |some o=>
     let fin (kt kf:Nat) (r:Option Bool) (sk:Bool) (v:Value) (A':AW):Prop:=(match o.dst with
      |some d=>bif Nat.blt d tm.sz then Cv fn T L S Q ro n (tm.set d v) (.inRegion ops rest::k) dr (knT kt d r) (knF kf d r) (knU ku d sk) ds A' else False
      |none=>Cv fn T L S Q ro n tm (.inRegion ops rest::k) dr kt kf ku ds A')
     let go (kt kf:Nat):Prop:=(match Kr kt kf o.op with
      |some x=>fin kt kf (JU kt kf x) false (BZ tm x) A
      |none=>opW P X W0 m0 (BZ tm) o A (fin kt kf (Wu kt kf o.op) false))
     match o.guard with
     |none=>go kt kf
     |some (j,want)=>(match Ki ops j with
      |none=>False
      |some d=>bif ku.testBit d then fin kt kf none true undef A else (match JU kt kf (.tmp d) with
       |some b=>bif b==want then go kt kf else fin kt kf none true undef A
       |none=>Ai (tm.get d) (bif want then go (MU kt d) kf else fin (MU kt d) kf none true undef A) (bif want then fin kt (MU kf d) none true undef A else go kt (MU kf d)))))
  |_=>False
end
variable {kt kf ku d i:Nat} {Q K:Value->AW->Prop} {fn:FuncId} {rest ds:List Nat} {k todo:List Item} {dr:Bool} {ro:Option Nat} {cs:List AFr} {A:AW} {f:Func} {j:Option Code}
section
variable {P:Program} {X:Bt} {W0:World} {m0:Inj P}
abbrev frC(fn:FuncId)(tm:Tm)(todo:List Item)(dr:Bool)(ro:Option Nat)(ds:List Nat):AFr:=⟨fn,tm,todo,ds.map λD=>{ target:=.collected D,args:=#[] },.run,.normal,ro,dr⟩
abbrev frM(fn:FuncId)(tm:Tm)(todo:List Item)(dr:Bool):AFr:=⟨fn,tm,todo,[],.run,.normal,none,dr⟩
def Kn(kt kf ku:Nat)(tm:Tm):Prop:=∀ t,(kt.testBit t=true->tm.get t=.bool true)/\(kf.testBit t=true->tm.get t=.bool false)/\(ku.testBit t=true->tm.get t=undef)
theorem EI{tm:Tm}(h:Kn kt kf ku tm){x:Operand}{b:Bool}(hx:JU kt kf x=some b):BZ tm x=.bool b:=by
 cases x with
 |const v=>
  cases v<;>simp only [JU] at hx<;>first | (cases hx;done) | (cases hx;rfl)
 |tmp t=>
  simp only [JU] at hx;cases h1:kt.testBit t with
  |true=>
   rw [h1,Ct,Oi] at hx;subst hx;exact (h t).1 h1
  |false=>
   rw [h1,Cf] at hx;cases h2:kf.testBit t with
   |true=>
    rw [h2,Ct,Oi] at hx;subst hx;exact (h t).2.1 h2
   |false=>rw [h2] at hx;cases hx
 |_=>cases hx
theorem C5(k d t:Nat):(MU k d).testBit t=(k.testBit t || d==t):=by
 unfold MU;cases h:k.testBit d with
 |true=>
  simp only [Ct];by_cases e:d=t
  ·subst e;simp [h]
  ·simp [e]
 |false=>
  simp only [Cf,Nat.testBit_xor,Nat.one_shiftLeft,Nat.testBit_two_pow];by_cases e:d=t
  ·subst e;simp [h]
  ·simp [e]
theorem CR(k d t:Nat):(clr k d).testBit t=(k.testBit t&&!(d==t)):=by
 unfold clr;cases h:k.testBit d with
 |false=>
  simp only [Cf];by_cases e:d=t
  ·subst e;simp [h]
  ·simp [e]
 |true=>
  simp only [Ct,Nat.testBit_xor,Nat.one_shiftLeft,Nat.testBit_two_pow];by_cases e:d=t
  ·subst e;simp [h]
  ·simp [e]
theorem Kn.set{tm:Tm}(h:Kn kt kf ku tm)(hs:tm.sz<Aj)(hd:d<tm.sz){v:Value}{r:Option Bool}{sk:Bool}(hr:∀ b,r=some b->v=.bool b)(hu:sk=true->v=undef):Kn (knT kt d r) (knF kf d r) (knU ku d sk) (tm.set d v):=by
 intro t;rw [Tm.E3 tm hs d t v];by_cases e:t=d
 ·subst e;rw [if_pos ⟨rfl,hd⟩];refine ⟨?_,?_,?_⟩
  ·cases r with
   |none=>simp [knT,CR]
   |some b=>cases b<;>simp [knT,CR,C5,hr]
  ·cases r with
   |none=>simp [knF,CR]
   |some b=>cases b<;>simp [knF,CR,C5,hr]
  ·cases sk with
   |false=>simp [knU,CR]
   |true=>simp [knU,C5,hu]
 ·rw [Ff (by simp [e])];have hne:(d==t)=false:=by simp [Ne.symm e]
  refine ⟨?_,?_,?_⟩
  ·cases r with
   |none=>simpa [knT,CR,hne] using (h t).1
   |some b=>cases b<;>simpa [knT,CR,C5,hne] using (h t).1
  ·cases r with
   |none=>simpa [knF,CR,hne] using (h t).2.1
   |some b=>cases b<;>simpa [knF,CR,C5,hne] using (h t).2.1
  ·cases sk<;>simpa [knU,CR,C5,hne] using (h t).2.2
theorem Kn.true{tm:Tm}(h:Kn kt kf ku tm)(hv:tm.get d=.bool true):Kn (MU kt d) kf ku tm:=by
 intro t;rw [C5];refine ⟨λht=>?_,(h t).2⟩;simp only [Bool.or_eq_true,beq_iff_eq] at ht;rcases ht with ht | rfl
 ·exact (h t).1 ht
 ·exact hv
theorem Kn.false{tm:Tm}(h:Kn kt kf ku tm)(hv:tm.get d=.bool false):Kn kt (MU kf d) ku tm:=by
 intro t;rw [C5];refine ⟨(h t).1,λht=>?_,(h t).2.2⟩;simp only [Bool.or_eq_true,beq_iff_eq] at ht;rcases ht with ht | rfl
 ·exact (h t).2.1 ht
 ·exact hv
theorem B1(hP:POk P){s s':ASt}(h:Bs P X s=.next s')(h':WP P X W0 m0 s' Q):WP P X W0 m0 s Q:=(TZ hP h).wp1 h'
theorem finish_at{tm:Tm}{ops:Array Oper}{o:Oper}(ho:ops.toList[i]? =some o)(v:Value):
  (frC fn tm (.inRegion ops (i::rest)::k) dr ro ds).finish v=frC fn (match o.dst with | some d=>tm.set d v | none=>tm) (.inRegion ops rest::k) dr ro ds:=by
 unfold AFr.finish;simp only [ho];rfl
theorem Px{tm:Tm}{ops:Array Oper}{o:Oper}(ho:ops.toList[i]? =some o)(hi:(dr&&!Nat.blt i ops.toList.length)=false)(h1:Ey P X ⟨frC fn tm (.inRegion ops (i::rest)::k) dr ro ds,cs,A⟩ ops i=none):
  Bs P X ⟨frC fn tm (.inRegion ops (i::rest)::k) dr ro ds,cs,A⟩=
   (bif Bv ops tm o then Cq P (frC fn tm (.inRegion ops (i::rest)::k) dr ro ds) cs (Ba P (BZ tm) o A) else .next ⟨(frC fn tm (.inRegion ops (i::rest)::k) dr ro ds).finish undef,cs,A⟩):=by
 have e:Bs P X ⟨frC fn tm (.inRegion ops (i::rest)::k) dr ro ds,cs,A⟩=(bif dr&&!Nat.blt i ops.toList.length then .fail "recheck"
  else (match Ey P X ⟨frC fn tm (.inRegion ops (i::rest)::k) dr ro ds,cs,A⟩ ops i with
   |some (f,args,w)=>.calls f args ⟨frC fn tm (.inRegion ops (i::rest)::k) dr ro ds,cs,w⟩
   |none=>(match ops.toList[i]? with
    |some o=>bif Bv ops tm o then Cq P (frC fn tm (.inRegion ops (i::rest)::k) dr ro ds) cs (Ba P (frC fn tm (.inRegion ops (i::rest)::k) dr ro ds).eval o A) else .next ⟨(frC fn tm (.inRegion ops (i::rest)::k) dr ro ds).finish undef,cs,A⟩
    |none=>.fail "no operation"))):=rfl
 rw [e,hi,Cf,h1];simp only [ho];rw [CY]
theorem It{g:FuncId}{args:List Value}{kd:CallKind}{fr:AFr}(h:CD P g args kd=some fr):fr.kind=kd/\fr.roundOf=none:=by
 unfold CD at h;split at h
 ·split at h
  ·simp only at h;generalize (bif Nat.ble _ _ then _ else _)=n at h;cases hn:Nat.blt n Aj with
   |false=>rw [hn] at h;cases h
   |true=>
    rw [hn,Ct,Oi] at h;subst h;exact ⟨rfl,rfl⟩
  ·cases h
 ·cases h
theorem Ql (hP:POk P) {tm:Tm} {ops:Array Oper} {o:Oper} (ho:ops.toList[i]? =some o)
  (hi:(dr&&!Nat.blt i ops.toList.length)=false) (hw:Bv ops tm o=true) (h:Rv P X W0 m0 (Ba P (BZ tm) o A) K)
  (h':∀ v A',K v A'->WP P X W0 m0 ⟨frC fn (match o.dst with | some d=>tm.set d v | none=>tm) (.inRegion ops rest::k) dr ro ds,cs,A'⟩ Q):WP P X W0 m0 ⟨frC fn tm (.inRegion ops (i::rest)::k) dr ro ds,cs,A⟩ Q:=by
 have e:=λh=>Px (P:=P) (X:=X) (fn:=fn) (tm:=tm) (rest:=rest) (k:=k) (ro:=ro) (ds:=ds) (cs:=cs) (A:=A) ho hi h;rw [hw,Ct] at e;have notk:∀ {r:R AN},Ba P (BZ tm) o A=r->(∀ g args A',r=.ok (.enter g args) A'->NW g X.known=false)->Ey P X ⟨frC fn tm (.inRegion ops (i::rest)::k) dr ro ds,cs,A⟩ ops i=none:=by
  intro r hr hn;unfold Ey;split
  ·rfl
  ·simp only [ho,hw,Ct];rw [CY];show (match Ba P (BZ tm) o A with | .ok (.enter f args) w=>bif NW f X.known then some (f,args,w) else none | _=>none)=none;rw [hr];split
   ·rename_i g args A' he;rw [hn _ _ _ rfl,Cf]
   ·rfl
 rcases h with ⟨v,A',hx,hk⟩ | ⟨A',hx,hk⟩ | ⟨g,args,A',hx,hk⟩ | ⟨l,fn',tm',assign,body,A',hx,hk⟩ | ⟨it,A',hx,m,since,seen,last,es,clock,ro',hg1,hg2,hg3,hk⟩
 ·rw [hx] at e;refine B1 hP (e (notk hx (λ_ _ _ h=>by cases h))) ?_;rw [finish_at ho];exact h' v A' hk
 ·rw [hx] at e;refine B1 hP (e (notk hx (λ_ _ _ h=>by cases h))) ?_;rw [finish_at ho];exact h' undef A' hk
 ·unfold toW at hk;cases hkn:NW g X.known with
  |true=>
   rw [hkn,Ct] at hk;have e3:Bs P X ⟨frC fn tm (.inRegion ops (i::rest)::k) dr ro ds,cs,A⟩=.calls g args ⟨frC fn tm (.inRegion ops (i::rest)::k) dr ro ds,cs,A'⟩:=by
    have h1:Ey P X ⟨frC fn tm (.inRegion ops (i::rest)::k) dr ro ds,cs,A⟩ ops i=some (g,args,A'):=by
     unfold Ey;split
     ·rename_i hnil;rw [hnil] at hkn;cases hkn
     ·simp only [ho,hw,Ct];rw [CY];show (match Ba P (BZ tm) o A with | .ok (.enter f args) w=>bif NW f X.known then some (f,args,w) else none | _=>none)=_;rw [hx];simp only [hkn,Ct]
    have e4:Bs P X ⟨frC fn tm (.inRegion ops (i::rest)::k) dr ro ds,cs,A⟩=(bif dr&&!Nat.blt i ops.toList.length then .fail "recheck"
     else (match Ey P X ⟨frC fn tm (.inRegion ops (i::rest)::k) dr ro ds,cs,A⟩ ops i with
      |some (f,args,w)=>.calls f args ⟨frC fn tm (.inRegion ops (i::rest)::k) dr ro ds,cs,w⟩
      |none=>EE P ⟨frC fn tm (.inRegion ops (i::rest)::k) dr ro ds,cs,A⟩)):=rfl
    rw [e4,hi,Cf,h1]
   rcases hk with ⟨vals,hg,hK,hc,hq⟩ | hl
   ·refine (R0 hP e3 hg hK hc).wp λx hx=>?_;obtain ⟨v,hv,rfl⟩:=List.mem_map.1 hx;show WP P X W0 m0 ⟨(frC fn tm (.inRegion ops (i::rest)::k) dr ro ds).finish v,cs,A'⟩ Q;rw [finish_at ho];exact h' v A' (hq v hv)
   ·refine AbY hP e3 hl λv A2 hq=>?_;show WP P X W0 m0 ⟨(frC fn tm (.inRegion ops (i::rest)::k) dr ro ds).finish v,cs,A2⟩ Q;rw [finish_at ho];exact h' v A2 hq
  |false=>
  rw [hkn,Cf] at hk;rw [hx] at e;have e:=e (notk hx (λ_ _ _ h=>by cases h;exact hkn));obtain ⟨fr',he⟩:=Option.isSome_iff_exists.1 hk.1;have h2:=hk.2;unfold YV at h2;rw [he] at h2;simp only [Cq,Cf,he] at e;refine B1 hP e (Xn ?_ ?_ h2 λv A2 hk2=>?_)
  ·exact (It he).1
  ·exact (It he).2
  ·rw [finish_at ho];exact h' v A2 hk2
 ·rw [hx] at e;refine B1 hP (e (notk hx (λ_ _ _ h=>by cases h))) (hk _ _ _ λv A2 hk2=>?_);rw [finish_at ho];exact h' v A2 hk2
 ·rw [hx] at e;have e:=e (notk hx (λ_ _ _ h=>by cases h));have e2:Cq P (frC fn tm (.inRegion ops (i::rest)::k) dr ro ds) cs (.ok (.rangeNext it) A')=.branch ((Rf es since seen).map λc=>match c with
     |some e=>⟨(frC fn tm (.inRegion ops (i::rest)::k) dr ro ds).finish (.tuple #[.bool true,e.key,e.val]),cs,A'.put it (.mit (some m) since (seen++[e.born]) clock)⟩
     |none=>⟨(frC fn tm (.inRegion ops (i::rest)::k) dr ro ds).finish (.tuple #[.bool false]),cs,A'⟩):=by
   unfold Cq;simp only [hg1,hg2,hg3,Cf];rfl
  rw [e2] at e;refine (QC hP e).wp λx hx=>?_;obtain ⟨c,hc,rfl⟩:=List.mem_map.1 hx;have hk:=hk c hc;cases c with
  |none=>
   simp only at hk ⊢;rw [finish_at ho];exact h' _ _ hk
  |some e=>
   simp only at hk ⊢;rw [finish_at ho];exact h' _ _ hk
theorem wp_skip (hP:POk P) {tm:Tm} {ops:Array Oper} {o:Oper} (ho:ops.toList[i]? =some o)
  (hi:(dr&&!Nat.blt i ops.toList.length)=false) (hw:Bv ops tm o=false)
  (h':WP P X W0 m0 ⟨frC fn (match o.dst with | some d=>tm.set d undef | none=>tm) (.inRegion ops rest::k) dr ro ds,cs,A⟩ Q):WP P X W0 m0 ⟨frC fn tm (.inRegion ops (i::rest)::k) dr ro ds,cs,A⟩ Q:=by
 have hkn:Ey P X ⟨frC fn tm (.inRegion ops (i::rest)::k) dr ro ds,cs,A⟩ ops i=none:=by
  unfold Ey;split
  ·rfl
  ·simp only [ho,hw,Cf]
 have e:=Px (P:=P) (X:=X) (fn:=fn) (tm:=tm) (rest:=rest) (k:=k) (ro:=ro) (ds:=ds) (cs:=cs) (A:=A) ho hi hkn;rw [hw,Cf] at e;refine B1 hP e ?_;rw [finish_at ho];exact h'
theorem HX {tm:Tm} {ops:Array Oper} (hi:ops.toList.length<=i) (hv:Valid P X A ops tm (i-ops.toList.length))
  (h':WP P X W0 m0 ⟨frC fn tm (.inRegion ops rest::k) true ro ds,cs,A⟩ Q):WP P X W0 m0 ⟨frC fn tm (.inRegion ops (i::rest)::k) true ro ds,cs,A⟩ Q:=by
 have hr:Reach P X W0 m0 ⟨frC fn tm (.inRegion ops (i::rest)::k) true ro ds,cs,A⟩ [⟨frC fn tm (.inRegion ops rest::k) true ro ds,cs,A⟩]:=by
  intro f0 base lo cs0 m f csW w h _;exact ⟨_,by simp,RY h rfl rfl rfl hi hv⟩
 exact hr.wp1 h'
def Aan(P:Program)(A:AW)(tm:Tm)(r:ResultVar):Option Value:=match r with | .tmp t=>some (tm.get t) | .cell a t=>Ae P A t (tm.get a)
theorem Qy{tm:Tm}:CB P A f tm=(match CB.go (Aan P A tm) f.results.toList with | some [v]=>some v | some l=>some (.tuple ⟨l⟩) | none=>none):=rfl
theorem Km{A:AW}{tm:Tm}{Q:Value->AW->Prop}:∀ (l:List ResultVar) (acc:List Value),RX P A tm Q l acc->∃ vs,CB.go (Aan P A tm) l=some vs/\Q (oneOf (acc.reverse++vs)) A
 |[],acc,h=>⟨[],rfl,by simpa [RX] using h⟩
 |.tmp t::l,acc,h=>by
  obtain ⟨vs,h1,h2⟩:=Km l _ h;refine ⟨tm.get t::vs,?_,by simpa using h2⟩;simp only [CB.go,h1,Aan]
 |.cell a t::l,acc,h=>by
  obtain ⟨v,h0,hv⟩:=h;obtain ⟨vs,h1,h2⟩:=Km l _ hv;refine ⟨v::vs,?_,by simpa using h2⟩;simp only [CB.go,h1,Aan,h0]
theorem V6(hf:P.funcs[fn]? =some f){tm:Tm}(h:Qx P fn A tm Q):∃ v,CB P A f tm=some v/\Q v A:=by
 unfold Qx at h;rw [hf] at h;obtain ⟨vs,h1,h2⟩:=Km _ _ h;rw [Qy,h1]
 match vs,h2 with
 |[],h2=>exact ⟨_,rfl,h2⟩
 |[v],h2=>exact ⟨_,rfl,h2⟩
 |a::b::r,h2=>exact ⟨_,rfl,h2⟩
theorem KS(hP:POk P){fn:FuncId}{tm:Tm}{todo:List Item}{Q:Value->AW->Prop}:∀ (ds:List Nat) (A:AW),GA ds A (λA=>Qx P fn A tm Q)->WP P X W0 m0 ⟨{ (frC fn tm todo false none ds) with mode:=.returning },[],A⟩ Q
 |[],A,h=>by
  have h:Qx P fn A tm Q:=h;cases hf:P.funcs[fn]? with
  |none=>unfold Qx at h;rw [hf] at h;exact h.elim
  |some f=>
   obtain ⟨v,h1,h2⟩:=V6 hf h;have e2:Bs P X ⟨{ (frC fn tm todo false none []) with mode:=.returning },[],A⟩=.done v A:=by
    have:Bs P X ⟨{ (frC fn tm todo false none []) with mode:=.returning },[],A⟩=(match P.funcs[fn]? with
     |none=>.fail "unwind fn"
     |some fn=>(match CB P A fn tm with
      |some v=>.done v A
      |none=>.fail "results")):=by
     rfl
    rw [this,hf];simp only;rw [h1]
   exact (X2 hP e2).wp λx hx=>by simp at hx;subst hx;exact h2
 |D::ds,A,h=>by
  obtain ⟨h1,h2⟩:=h;have e:Bs P X ⟨{ (frC fn tm todo false none (D::ds)) with mode:=.returning },[],A⟩=.next ⟨{ (frC fn tm todo false none ds) with mode:=.returning },[],A.put D (.deferred false)⟩:=by
   have:Bs P X ⟨{ (frC fn tm todo false none (D::ds)) with mode:=.returning },[],A⟩=(match A.get D with
    |some (.deferred true)=>.next ⟨{ (frC fn tm todo false none ds) with mode:=.returning },[],A.put D (.deferred false)⟩
    |_=>.fail "takeDeferred"):=by
    rfl
   rw [this,h1]
  exact B1 hP e (KS hP ds _ h2)
theorem Rx(hP:POk P){tm:Tm}(ht:todo=[]\/∃ k,todo=.code .ret::k)(h:GA ds A λA=>Qx P fn A tm Q):WP P X W0 m0 ⟨frC fn tm todo false none ds,[],A⟩ Q:=by
 have e:Bs P X ⟨frC fn tm todo false none ds,[],A⟩=.next ⟨{ (frC fn tm todo false none ds) with mode:=.returning },[],A⟩:=by
  rcases ht with rfl | ⟨k,rfl⟩<;>rfl
 exact B1 hP e (KS hP ds A h)
inductive Leaves:List Item->Option Code->Prop
 |off:Leaves [] none
 |ret (k:List Item):Leaves (.code .ret::k) (some .ret)
 |exit (id:Nat) (k:List Item) (h:Hc id k=none):Leaves (.code (.exit id)::k) (some (.exit id))
theorem Pq(hP:POk P){tm:Tm}(hj:Leaves todo j)(h:I4 P fn none ds A tm Q j):WP P X W0 m0 ⟨frC fn tm todo false none ds,[],A⟩ Q:=by
 cases hj with
 |off=>exact Rx hP (.inl rfl) h
 |ret k=>exact Rx hP (.inr ⟨k,rfl⟩) h
 |exit id k hx=>exact h.elim
theorem Qw (hP:POk P) {tm:Tm} {l:Nat} (hj:Leaves todo j) (h:I4 P fn (some l) ds A tm K j) {c:AFr} {rest:List AFr}
  (hK:∀ v A',K v A'->WP P X W0 m0 ⟨c.finish v,rest,A'⟩ Q):WP P X W0 m0 ⟨frC fn tm todo false (some l) ds,c::rest,A⟩ Q:=by
 unfold I4 at h;cases ds with
 |cons D ds=>exact h.elim
 |nil=>
  obtain ⟨r,h1,h2⟩:=h;have e:Bs P X ⟨frC fn tm todo false (some l) [],c::rest,A⟩=.next ⟨c.finish (.bool j.isNone),rest,A.put l (.loop { r with state:=if j.isNone then .ready else .done,pending:=j })⟩:=by
   have key:∀ jump:Option Code,(match A.get l with
     |some (.loop r)=>Dl (frC fn tm todo false (some l) []) (c::rest) (.bool jump.isNone) (A.put l (.loop { r with state:=if jump.isNone then .ready else .done,pending:=jump }))
     |_=>.fail "endRound")=.next ⟨c.finish (.bool jump.isNone),rest,A.put l (.loop { r with state:=if jump.isNone then .ready else .done,pending:=jump })⟩:=by
    intro jump;rw [h1];rfl
   rw [<- key j];cases hj with
   |off=>rfl
   |ret k=>rfl
   |exit id k hx=>
    unfold Bs EE;simp only [hx];rfl
  exact B1 hP e (hK _ _ h2)
end
variable {kt kf ku j:Nat} {b want:Bool} {d:Tmp} {x:Operand}
section
variable {P:Program} {X:Bt} {W0:World} {m0:Inj P}
theorem Tm.Acp(tm:Tm)(d:Nat)(v:Value):(tm.set d v).sz=tm.sz:=by
 unfold Tm.set;cases Nat.blt d tm.sz<;>rfl
theorem Kg{tm:Tm}(h:Kn kt kf ku tm){ops:Array Oper}{o:Oper}(hw:Xs kt kf ku ops o=some b):Bv ops tm o=b:=by
 unfold Xs at hw;unfold Bv;split at hw
 ·rename_i hg;rw [hg];cases hw;rfl
 ·rename_i j want hg;rw [hg];simp only;unfold Ki at hw;split at hw
  ·cases hw
  ·rename_i d hd;split at hd
   ·rename_i o' ho';cases hu:ku.testBit d with
    |true=>
     rw [hu,Ct] at hw;cases hw;have hv:tm.get d=undef:=(h d).2.2 hu;unfold EP;simp only [ho',hd,hv];rfl
    |false=>
     rw [hu,Cf] at hw;split at hw
     ·rename_i c hc;cases hw;have hv:tm.get d=.bool c:=EI h hc;unfold EP;simp only [ho',hd,hv]
     ·cases hw
   ·cases hd
theorem Ps{tm:Tm}{ops:Array Oper}{o:Oper}(hg:o.guard=some (j,want))(hs:Ki ops j=some d)(hv:tm.get d=.bool b):Bv ops tm o=(b==want):=by
 unfold Bv EP;unfold Ki at hs;split at hs
 ·rename_i o' ho';simp only [hg,ho',hs,hv]
 ·cases hs
theorem RF{tm:Tm}{ops:Array Oper}{o:Oper}(hg:o.guard=some (j,want))(hs:Ki ops j=some d)(hv:tm.get d=undef):Bv ops tm o=false:=by
 unfold Bv EP;unfold Ki at hs;split at hs
 ·rename_i o' ho';simp only [hg,ho',hs,hv];rfl
 ·cases hs
theorem PW{op:Op}(h:Kr kt kf op=some x){tm:Tm}(hk:Kn kt kf ku tm)(P:Program)(X:Bt){o:Oper}(ho:o.op=op)(A:AW):Ba P (BZ tm) o A=.ok (.value (BZ tm x)) A:=by
 cases op<;>simp only [Kr] at h<;>try (cases h;done)
 rename_i c a b;split at h
 ·rename_i hc;cases h
  have:=EI hk hc
  unfold Ba;simp only [ho,this]
 ·rename_i hc;cases h
  have:=EI hk hc
  unfold Ba;simp only [ho,this]
 ·cases h
theorem Wt{op:Op}(hp:Kr kt kf op=none)(h:Wu kt kf op=some b):∃ x,(op=.move x\/op=.assign x)/\JU kt kf x=some b:=by
 cases op<;>simp only [Wu] at h<;>try (cases h;done)
 ·exact ⟨_,.inl rfl,h⟩
 ·exact ⟨_,.inr rfl,h⟩
 ·simp only [Kr] at hp;split at h<;>first | (cases h;done) | skip
  ·rename_i hc;rw [hc] at hp;cases hp
  ·rename_i hc;rw [hc] at hp;cases hp
theorem Wm{ρ:Operand->Value}{o:Oper}(hx:o.op=.move x\/o.op=.assign x){A:AW}{K:Value->AW->Prop}(h:opW P X W0 m0 ρ o A K):Ba P ρ o A=.ok (.value (ρ x)) A/\K (ρ x) A:=by
 unfold opW at h;unfold Ba;rcases hx with hx | hx
 ·rw [hx] at h ⊢;exact ⟨rfl,h⟩
 ·rw [hx] at h ⊢;exact ⟨rfl,h⟩
variable {fn:FuncId} {T:Nat->List Item} {L:Nat->List Tmp} {S:Nat->List Value->AW->Prop} {Q:Value->AW->Prop} {sz:Nat}
def LQ(P:Program)(X:Bt)(W0:World)(m0:Inj P)(fn:FuncId)(T:Nat->List Item)(L:Nat->List Tmp)(S:Nat->List Value->AW->Prop)(Q:Value->AW->Prop)(sz:Nat):Prop:=
 ∀ id vals A tm,S id vals A->tm.sz=sz->(L id).map tm.get=vals->WP P X W0 m0 ⟨frM fn tm (T id) false,[],A⟩ Q
theorem IG (hP:POk P) (hsz:sz<Aj) {ro:Option Nat} {cs:List AFr} {Q0:Value->AW->Prop}
  (hl:∀ todo tm ds A j,Leaves todo j->I4 P fn ro ds A tm Q j->WP P X W0 m0 ⟨frC fn tm todo false ro ds,cs,A⟩ Q0)
  (hcut:∀ id vals A tm,S id vals A->tm.sz=sz->(L id).map tm.get=vals->WP P X W0 m0 ⟨frC fn tm (T id) false ro [],cs,A⟩ Q0):
  ∀ (n:Nat) (tm:Tm) (todo:List Item) (dr:Bool) (kt kf ku:Nat) (ds:List Nat) (A:AW),tm.sz=sz->Kn kt kf ku tm->Cv P X W0 m0 fn T L S Q ro n tm todo dr kt kf ku ds A->WP P X W0 m0 ⟨frC fn tm todo dr ro ds,cs,A⟩ Q0:=by
 intro n
 induction n with
 |zero=>intro tm todo dr kt kf ku ds A _ _ h;exact h.elim
 |succ n ih=>
  intro tm todo dr kt kf ku ds A hs hk h;unfold Cv at h;split at h
  ·cases dr with
   |true=>exact h.elim
   |false=>exact hl _ _ _ _ _ .off h
  ·cases dr with
   |true=>exact h.elim
   |false=>exact hl _ _ _ _ _ (.ret _) h
  ·
   rename_i k;cases dr with
   |true=>exact h.elim
   |false=>
    cases ro with
    |none=>exact h.elim
    |some l=>
     obtain ⟨r,h1,h2,h3⟩:=h;have e:Bs P X ⟨frC fn tm (.beginRound::k) false (some l) ds,cs,A⟩=.next ⟨frC fn tm k false (some l) ds,cs,A.put l (.loop { r with state:=.busy })⟩:=by
      have:Bs P X ⟨frC fn tm (.beginRound::k) false (some l) ds,cs,A⟩=(match A.get l with
       |some (.loop r)=>(match r.state with
        |.ready=>.next ⟨frC fn tm k false (some l) ds,cs,A.put l (.loop { r with state:=.busy })⟩
        |_=>.fail "beginRound")
       |_=>.fail "beginRound"):=by rfl
      rw [this,h1];simp only [h2]
     exact B1 hP e (ih _ _ _ _ _ _ _ _ hs hk h3)
  ·
   rename_i f ps assign body k;cases dr with
   |true=>exact h.elim
   |false=>
    cases ro with
    |some l=>exact h.elim
    |none=>
     obtain ⟨D,A1,l,A2,hn1,hn2,g,aS,A3,hdy,hwc⟩:=h;have e:Bs P X ⟨frC fn tm (.code (.rangeFunc f ps assign body)::k) false none ds,cs,A⟩=(match BZ tm f with
       |.func fn' first captured=>Cq P (frC fn tm (.inRangeFunc l::k) false none (D::ds)) cs (Cz P A2 (.fn fn' captured) (first.toList++[.func (.yield l) #[] #[]]))
       |_=>.fail "rangeFunc"):=by
      have:Bs P X ⟨frC fn tm (.code (.rangeFunc f ps assign body)::k) false none ds,cs,A⟩=(match (match A.new (.deferred true) with | some (r,w')=>some (r,([{ target:=.collected r,args:=#[] }]:List Deferred),w') | none=>none) with
       |none=>.fail "enterLoop"
       |some (d,mark,w)=>(match w.new (.loop { state:=.ready,pending:=none,fn:=fn,tm:=tm,params:=ps.toList,assign,body,defers:=d }) with
        |none=>.fail "enterLoop"
        |some (l,w)=>(match (frC fn tm (.code (.rangeFunc f ps assign body)::k) false none ds).eval f with
         |.func fn' first captured=>Cq P ({ fn:=fn,tm:=tm,todo:=.inRangeFunc l::k,defers:=mark++(ds.map λD=>{ target:=.collected D,args:=#[] }),mode:=.run,kind:=.normal,roundOf:=none,dr:=false }:AFr) cs (Cz P w (.fn fn' captured) (first.toList++[.func (.yield l) #[] #[]]))
         |_=>.fail "rangeFunc"))):=by rfl
      rw [this,hn1];simp only [hn2];rw [CY];rfl
     unfold D2 at hdy;cases hf:BZ tm f with
     |func fn' first captured=>
      rw [hf] at e hdy;simp only at e hdy;rw [hdy] at e;obtain ⟨fr',he⟩:=Option.isSome_iff_exists.1 hwc.1;have h2:=hwc.2;unfold YV at h2;rw [he] at h2;simp only [Cq,Cf,he] at e;refine B1 hP e (Xn (It he).1 (It he).2 h2 λv A4 hk2=>?_);obtain ⟨r,g1,g2,g3⟩:=hk2;have e5:Bs P X ⟨(frC fn tm (.inRangeFunc l::k) false none (D::ds)).finish v,cs,A4⟩=.next ⟨frC fn tm (match r.pending with | some c=>.code c::k | none=>k) false none (D::ds),cs,A4.put l (.loop { r with state:=.exhausted })⟩:=by
       have:Bs P X ⟨(frC fn tm (.inRangeFunc l::k) false none (D::ds)).finish v,cs,A4⟩=(match A4.get l with
        |some (.loop r)=>(match r.state with
         |.busy=>.fail "endLoop"
         |_=>.next ⟨frC fn tm (match r.pending with | some c=>.code c::k | none=>k) false none (D::ds),cs,A4.put l (.loop { r with state:=.exhausted })⟩)
        |_=>.fail "endLoop"):=by rfl
       rw [this,g1];simp only
      refine B1 hP e5 ?_;rcases g3 with ⟨gp,g3⟩ | ⟨gp,g3⟩
      ·rw [show (match r.pending with | some c=>.code c::k | none=>k)=k by rw [gp]];exact ih _ _ _ _ _ _ _ _ hs hk g3
      ·rw [show (match r.pending with | some c=>.code c::k | none=>k)=.code .ret::k by rw [gp]];exact hl _ _ _ _ _ (.ret _) g3
     |_=>rw [hf] at hdy;cases hdy
  ·exact B1 hP rfl (ih _ _ _ _ _ _ _ _ hs hk h)
  ·exact B1 hP rfl (ih _ _ _ _ _ _ _ _ hs hk h)
  ·exact B1 hP rfl (ih _ _ _ _ _ _ _ _ hs hk h)
  ·exact B1 hP rfl (ih _ _ _ _ _ _ _ _ hs hk h)
  ·exact B1 hP rfl (ih _ _ _ _ _ _ _ _ hs hk h)
  ·
   rename_i c a b k;have e:∀ t,BZ tm c=.bool t->Bs P X ⟨frC fn tm (.code (.cond c a b)::k) dr ro ds,cs,A⟩=.next ⟨frC fn tm (.code (bif t then a else b)::k) dr ro ds,cs,A⟩:=by
    intro t ht
    have:Bs P X ⟨frC fn tm (.code (.cond c a b)::k) dr ro ds,cs,A⟩=(match (frC fn tm (.code (.cond c a b)::k) dr ro ds).eval c with | .bool t=>.next ⟨frC fn tm (.code (bif t then a else b)::k) dr ro ds,cs,A⟩ | _=>.fail "cond"):=rfl
    rw [this,CY];simp only [ht]
   split at h
   ·rename_i hc;exact B1 hP (e true (EI hk hc)) (ih _ _ _ _ _ _ _ _ hs hk h)
   ·rename_i hc;exact B1 hP (e false (EI hk hc)) (ih _ _ _ _ _ _ _ _ hs hk h)
   ·obtain ⟨⟨t,ht⟩,h1,h2⟩:=h;cases t with
    |true=>
     refine B1 hP (e true ht) (ih _ _ _ _ _ _ _ _ hs ?_ (h1 ht));cases c with
     |tmp t=>exact hk.true ht
     |_=>exact hk
    |false=>
     refine B1 hP (e false ht) (ih _ _ _ _ _ _ _ _ hs ?_ (h2 ht));cases c with
     |tmp t=>exact hk.false ht
     |_=>exact hk
  ·exact B1 hP rfl (ih _ _ _ _ _ _ _ _ hs hk h)
  ·exact B1 hP rfl (ih _ _ _ _ _ _ _ _ hs hk h)
  ·
   cases dr with
   |true=>exact h.elim
   |false=>
    cases ds with
    |cons D ds=>exact h.elim
    |nil=>
    obtain ⟨h1,h2⟩:=h;refine B1 hP rfl ?_
    have:=hcut _ _ A tm h2 hs rfl
    rw [<- h1] at this;exact this
  ·cases dr with
   |true=>exact h.elim
   |false=>
    cases ds with
    |cons D ds=>exact h.elim
    |nil=>
    obtain ⟨h1,h2⟩:=h;refine B1 hP rfl ?_
    have:=hcut _ _ A tm h2 hs rfl
    rw [<- h1] at this;exact this
  ·
   rename_i id k;split at h
   ·rename_i k' hk';have e:Bs P X ⟨frC fn tm (.code (.exit id)::k) dr ro ds,cs,A⟩=.next ⟨frC fn tm k' dr ro ds,cs,A⟩:=by
     unfold Bs EE;simp only [hk']
    exact B1 hP e (ih _ _ _ _ _ _ _ _ hs hk h)
   ·rename_i hx;cases dr with
    |true=>exact h.elim
    |false=>exact hl _ _ _ _ _ (.exit _ _ hx) h
  ·exact B1 hP rfl (ih _ _ _ _ _ _ _ _ hs hk h)
  ·
   rename_i id ops k;cases hin:Jj tm.sz ops.toList with
   |false=>rw [hin] at h;exact h.elim
   |true=>
    rw [hin,Ct] at h;split at h
    ·rename_i p hpl;have e:Bs P X ⟨frC fn tm (.code (.region id ops true)::k) dr ro ds,cs,A⟩=.next ⟨frC fn tm (.inRegion ops p::k) true ro ds,cs,A⟩:=by
      unfold Bs;simp only [hin,Ct,hpl]
     exact B1 hP e (ih _ _ _ _ _ _ _ _ hs hk h)
    ·exact h.elim
  ·exact B1 hP rfl (ih _ _ _ _ _ _ _ _ hs hk h)
  ·
   rename_i ops i rest k;cases hb:(dr&&!Nat.blt i ops.toList.length) with
   |true=>
    rw [hb,Ct] at h;simp only [Bq,Bool.not_eq_true'] at hb;obtain ⟨rfl,hb⟩:=hb;have hge:=JQ.1 hb;split at h
    ·exact h.elim
    ·rename_i o ho;split at h
     ·rename_i d hd hw;obtain ⟨h1,h2⟩:=h;refine HX hge ?_ (ih _ _ _ _ _ _ _ _ hs hk h2);intro o' d' ho' hd';rw [ho] at ho';cases ho';rw [hd] at hd';cases hd';exact ⟨λ_=>h1.symm,λhw'=>absurd hw' (by rw [Kg hk hw];exact Bool.noConfusion)⟩
     ·rename_i d hd hw;cases hq:Cj P o.op with
      |false=>
       rw [hq,Cf] at h;obtain ⟨⟨c,h1,h3⟩,h2⟩:=h;refine HX hge ?_ (ih _ _ _ _ _ _ _ _ hs hk h2);intro o' d' ho' hd';rw [ho] at ho';cases ho';rw [hd] at hd';cases hd';exact ⟨λhw'=>absurd hw' (by rw [Kg hk hw];exact Bool.noConfusion),λ_=>⟨λhq'=>absurd hq' (by rw [hq];exact Bool.noConfusion),λ_=>⟨c,h1,h3⟩⟩⟩
      |true=>
       rw [hq,Ct] at h;have fin:∀ A',Ba P (BZ tm) o A=.ok (.value (tm.get d)) A'->Valid P X A ops tm (i-ops.toList.length):=by
        intro A' he o' d' ho' hd';rw [ho] at ho';cases ho';rw [hd] at hd';cases hd';exact ⟨λhw'=>absurd hw' (by rw [Kg hk hw];exact Bool.noConfusion),λ_=>⟨λ_=>⟨A',he⟩,λhq'=>absurd hq' (by rw [hq];exact Bool.noConfusion)⟩⟩
       split at h
       ·rename_i x hpk;obtain ⟨h1,h2⟩:=h;refine HX hge (fin A ?_) (ih _ _ _ _ _ _ _ _ hs hk h2);rw [<- h1];exact PW hpk hk P X rfl A
       ·rcases Sf (P:=P) (X:=X) (λf=>rfl) h with ⟨v,A',he,h1,h2⟩ | ⟨A',he,_⟩ | ⟨g,args,A',he,_⟩ | ⟨l,fn',tm',a,b,A',he,_⟩ | ⟨it,A',he,_⟩
        ·refine HX hge (fin A' ?_) (ih _ _ _ _ _ _ _ _ hs hk h2);rw [<- h1];exact he
        ·obtain ⟨_,v,hv⟩:=Ex hq he;cases hv
        ·obtain ⟨_,v,hv⟩:=Ex hq he;cases hv
        ·obtain ⟨_,v,hv⟩:=Ex hq he;cases hv
        ·obtain ⟨_,v,hv⟩:=Ex hq he;cases hv
     ·exact h.elim
   |false=>
    rw [hb,Cf] at h;split at h
    ·exact h.elim
    ·rename_i o ho;simp only at h;have fin:∀ {kt' kf':Nat} {r:Option Bool} {sk:Bool} {v:Value} {A':AW},Kn kt' kf' ku tm->(∀ b,r=some b->v=.bool b)->(sk=true->v=undef)->(match o.dst with
       |some d=>bif Nat.blt d tm.sz then Cv P X W0 m0 fn T L S Q ro n (tm.set d v) (.inRegion ops rest::k) dr (knT kt' d r) (knF kf' d r) (knU ku d sk) ds A' else False
       |none=>Cv P X W0 m0 fn T L S Q ro n tm (.inRegion ops rest::k) dr kt' kf' ku ds A')->
       WP P X W0 m0 ⟨frC fn (match o.dst with | some d=>tm.set d v | none=>tm) (.inRegion ops rest::k) dr ro ds,cs,A'⟩ Q0:=by
      intro kt' kf' r sk v A' hk' hr hu hh;cases hd:o.dst with
      |none=>
       rw [hd] at hh;exact ih _ _ _ _ _ _ _ _ hs hk' hh
      |some d=>
       rw [hd] at hh;simp only at hh ⊢;cases hlt:Nat.blt d tm.sz with
       |false=>rw [hlt] at hh;exact hh.elim
       |true=>
        rw [hlt,Ct] at hh;exact ih _ _ _ _ _ _ _ _ (by rw [Tm.Acp];exact hs) (hk'.set (by omega) (AA.1 hlt) hr hu) hh
     have nf:∀ {v:Value},false=true->v=undef:=λh=>Bool.noConfusion h;have nn:∀ {v:Value} (b:Bool),(none:Option Bool)=some b->v=.bool b:=λb h=>by cases h
     have go:∀ {kt' kf':Nat},Kn kt' kf' ku tm->Bv ops tm o=true->(match Kr kt' kf' o.op with
       |some x=>(match o.dst with
        |some d=>bif Nat.blt d tm.sz then Cv P X W0 m0 fn T L S Q ro n (tm.set d (BZ tm x)) (.inRegion ops rest::k) dr (knT kt' d (JU kt' kf' x)) (knF kf' d (JU kt' kf' x)) (knU ku d false) ds A else False
        |none=>Cv P X W0 m0 fn T L S Q ro n tm (.inRegion ops rest::k) dr kt' kf' ku ds A)
       |none=>opW P X W0 m0 (BZ tm) o A λv A'=>(match o.dst with
        |some d=>bif Nat.blt d tm.sz then Cv P X W0 m0 fn T L S Q ro n (tm.set d v) (.inRegion ops rest::k) dr (knT kt' d (Wu kt' kf' o.op)) (knF kf' d (Wu kt' kf' o.op)) (knU ku d false) ds A' else False
        |none=>Cv P X W0 m0 fn T L S Q ro n tm (.inRegion ops rest::k) dr kt' kf' ku ds A'))->
       WP P X W0 m0 ⟨frC fn tm (.inRegion ops (i::rest)::k) dr ro ds,cs,A⟩ Q0:=by
      intro kt' kf' hk' hw hh;split at hh
      ·rename_i x hpk;exact Ql hP ho hb hw (K:=λv A'=>v=BZ tm x/\A'=A) (.inl ⟨_,A,PW hpk hk' P X rfl A,(⟨rfl,rfl⟩:_/\_)⟩) λv A' hvA=>by
        obtain ⟨rfl,rfl⟩:=hvA;exact fin (sk:=false) hk' (λb hb=>EI hk' hb) nf hh
      ·rename_i hpk;cases hkn:Wu kt' kf' o.op with
       |none=>
        rw [hkn] at hh;exact Ql hP ho hb hw (Sf (λf=>rfl) hh) λv A' hv=>fin (r:=none) (sk:=false) hk' nn nf hv
       |some b=>
        obtain ⟨x,hx,hxb⟩:=Wt hpk hkn;rw [hkn] at hh;have hb2:=EI hk' hxb;obtain ⟨h3,h4⟩:=Wm (W0:=W0) (m0:=m0) (X:=X) hx hh;rw [hb2] at h3 h4;exact Ql hP ho hb hw (K:=λv A'=>v=.bool b/\A'=A) (.inl ⟨_,A,h3,(⟨rfl,rfl⟩:_/\_)⟩) λv A' hvA=>by
         obtain ⟨rfl,rfl⟩:=hvA;exact fin (r:=some b) (sk:=false) hk' (λb' hb'=>by cases hb';rfl) nf h4
     split at h
     ·rename_i hg;exact go hk (by unfold Bv;rw [hg]) h
     ·rename_i j want hg;split at h
      ·exact h.elim
      ·rename_i d hsl;have ff:∀ {kt' kf':Nat},Kn kt' kf' ku tm->Bv ops tm o=false->(match o.dst with
         |some d=>bif Nat.blt d tm.sz then Cv P X W0 m0 fn T L S Q ro n (tm.set d undef) (.inRegion ops rest::k) dr (knT kt' d none) (knF kf' d none) (knU ku d true) ds A else False
         |none=>Cv P X W0 m0 fn T L S Q ro n tm (.inRegion ops rest::k) dr kt' kf' ku ds A)->WP P X W0 m0 ⟨frC fn tm (.inRegion ops (i::rest)::k) dr ro ds,cs,A⟩ Q0:=
        λhk' hw hh=>wp_skip hP ho hb hw (fin (r:=none) (sk:=true) hk' nn (λ_=>rfl) hh)
       cases hu:ku.testBit d with
       |true=>
        rw [hu,Ct] at h;exact ff hk (RF hg hsl ((hk d).2.2 hu)) h
       |false=>
        rw [hu,Cf] at h;split at h
        ·rename_i b hkb;have hv:tm.get d=.bool b:=EI hk hkb;have hw:=Ps hg hsl hv;cases hbw:(b==want) with
         |true=>
          rw [hbw,Ct] at h;exact go hk (hw.trans hbw) h
         |false=>
          rw [hbw,Cf] at h;exact ff hk (hw.trans hbw) h
        ·obtain ⟨⟨b,hv⟩,h1,h2⟩:=h;have hw:=Ps hg hsl hv;cases b with
         |true=>
          have h1:=h1 hv;cases want with
          |true=>exact go (hk.true hv) hw h1
          |false=>exact ff (hk.true hv) hw h1
         |false=>
          have h2:=h2 hv;cases want with
          |true=>exact ff (hk.false hv) hw h2
          |false=>exact go (hk.false hv) hw h2
  ·exact h.elim
theorem TH (hP:POk P) (hsz:sz<Aj) (hcut:LQ P X W0 m0 fn T L S Q sz) (n:Nat) (tm:Tm) (todo:List Item) (dr:Bool) (kt kf ku:Nat) (A:AW) (hs:tm.sz=sz) (hk:Kn kt kf ku tm)
  (h:Cv P X W0 m0 fn T L S Q none n tm todo dr kt kf ku [] A):WP P X W0 m0 ⟨frM fn tm todo dr,[],A⟩ Q:=
 IG hP hsz (ro:=none) (cs:=[]) (Q0:=Q) (λ_ _ _ _ _ hj h=>Pq hP hj h) hcut n tm todo dr kt kf ku [] A hs hk h
end
variable {todo:List Item} {ro:Option Nat} {cs:List AFr} {A:AW} {I:Nat->Nat->List Value->AW->Prop} {S:Nat->List Value->AW->Prop}
def Og(d:Nat->Value):Nat->Trie Value->Trie Value
 |0,t=>t
 |n+1,t=>Og d n (t.put depth n (some (d n)))
def OU(sz:Nat)(d:Nat->Value):Tm:=⟨sz,Og d sz .nil⟩
theorem P6(d:Nat->Value):∀ (n:Nat) (t:Trie Value) (i:Nat),n<=Aj->i<Aj->(Og d n t).get? i=if i<n then some (d i) else t.get? i
 |0,t,i,_,_=>by simp [Og]
 |n+1,t,i,hn,hi=>by
  unfold Og;rw [P6 d n _ i (by omega) hi,Trie.get?_put depth t n i (some (d n)) (by unfold depth Aj at *;omega)];by_cases h1:i<n
  ·rw [if_pos h1,if_pos (by omega)]
  ·rw [Ff h1];by_cases h2:n=i
   ·subst h2;rw [if_pos rfl,if_pos (by omega)]
   ·rw [Ff (λe=>h2 e.symm),Ff (by omega)]
section
variable {P:Program} {X:Bt} {W0:World} {m0:Inj P}
theorem XE{sz:Nat}(hs:sz<Aj)(d:Nat->Value)(i:Nat):(OU sz d).get i=if i<sz then d i else undef:=by
 unfold OU Tm.get;simp only;by_cases hm:i<Aj
 ·rw [P6 d sz .nil i (by omega) hm];by_cases hi:i<sz
  ·rw [if_pos hi,if_pos hi]
  ·rw [Ff hi,Ff hi];rfl
 ·have key:∀ (n:Nat) (t:Trie Value),n<=Aj->t.get? i=none->(Og d n t).get? i=none:=by
   intro n
   induction n with
   |zero=>intro t _ ht;exact ht
   |succ n ih=>
    intro t hn ht;unfold Og;refine ih _ (by omega) ?_;rw [Trie.get?_put depth t n i _ (by unfold depth Aj at *;omega),Ff (by omega)];exact ht
  rw [key sz .nil (by omega) rfl,Ff (by omega)]
theorem XD{m:Inj P}{tm:Tm}{t':Array Value}(h:Dp m tm t'):Dp m (OU tm.sz tm.get) t':=by
 refine ⟨h.size,h.small,λi=>?_⟩;rw [XE h.small];by_cases hi:i<tm.sz
 ·rw [if_pos hi];exact h.val i
 ·have hv:t'.getD i undef=undef:=by
   have:t'.size<=i:=by rw [h.size];omega
   simp [Array.getD,Nat.not_lt.2 this]
  rw [Ff hi,hv];exact Fm m
theorem Xm{fn:FuncId}{tm:Tm}{ds:List Nat}{Q:Value->AW->Prop}(h:WP P X W0 m0 ⟨frC fn (OU tm.sz tm.get) todo false ro ds,cs,A⟩ Q):WP P X W0 m0 ⟨frC fn tm todo false ro ds,cs,A⟩ Q:=by
 intro f0 base lo cs0 m f csW w hr ho;refine h f0 base lo cs0 m f csW w ⟨hr.rel,hr.glob,hr.below,⟨⟨hr.top.core.fn,hr.top.core.kind,hr.top.core.kindOk,hr.top.core.mode,hr.top.core.round,hr.top.core.defers⟩,?_⟩,hr.stk,hr.bot.top rfl rfl rfl⟩ ho;cases hr.top.body with
 |plain hd tm' todo'=>exact .plain rfl (XD tm') todo'
 |draw ops S C rl pl rest k k' hd=>cases hd
variable {fn:FuncId} {T:Nat->List Item} {L:Nat->List Tmp} {Q:Value->AW->Prop} {sz N:Nat}
theorem Zh (hP:POk P) (hsz:sz<Aj) {Q0:Value->AW->Prop}
  (hl:∀ todo tm ds A j,Leaves todo j->I4 P fn ro ds A tm Q j->WP P X W0 m0 ⟨frC fn tm todo false ro ds,cs,A⟩ Q0)
  (hbody:∀ g id vals A d,I g id vals A->(L id).map d=vals->Cv P X W0 m0 fn T L (λid' v' A'=>∃ g',g'<g/\I g' id' v' A') Q ro N (OU sz d) (T id) false 0 0 0 [] A):
  ∀ id vals A tm,(∃ g,I g id vals A)->tm.sz=sz->(L id).map tm.get=vals->WP P X W0 m0 ⟨frC fn tm (T id) false ro [],cs,A⟩ Q0:=by
 have key:∀ g,∀ id vals A tm,I g id vals A->tm.sz=sz->(L id).map tm.get=vals->WP P X W0 m0 ⟨frC fn tm (T id) false ro [],cs,A⟩ Q0:=by
  intro g
  induction g using Nat.strongRecOn with
  |_ g ih=>
   intro id vals A tm hI hs hv;have hb:=hbody g id vals A tm.get hI hv;rw [<- hs] at hb;refine Xm (IG hP hsz (S:=λid' v' A'=>∃ g',g'<g/\I g' id' v' A') hl ?_ N _ _ _ _ _ _ _ _ hs (λt=>by simp) hb);rintro id' v' A' tm' ⟨g',hg,hI'⟩ hs' hv';exact ih g' hg id' v' A' tm' hI' hs' hv'
 rintro id vals A tm ⟨g,hI⟩ hs hv;exact key g id vals A tm hI hs hv
theorem AaU (hP:POk P) (hsz:sz<Aj)
  (hbody:∀ g id vals A d,I g id vals A->(L id).map d=vals->Cv P X W0 m0 fn T L (λid' v' A'=>∃ g',g'<g/\I g' id' v' A') Q none N (OU sz d) (T id) false 0 0 0 [] A):
  LQ P X W0 m0 fn T L (λid v A=>∃ g,I g id v A) Q sz:=
 Zh hP hsz (ro:=none) (cs:=[]) (Q0:=Q) (λ_ _ _ _ _ hj h=>Pq hP hj h) hbody
theorem Mt (hP:POk P) (hsz:sz<Aj) (hcut:LQ P X W0 m0 fn T L S Q sz) {args:List Value} {tm:Tm}
  (he:CD P fn args .normal=some (frM fn tm todo false)) (hs:tm.sz=sz) (h:Cv P X W0 m0 fn T L S Q none N tm todo false 0 0 0 [] A):Wc P X W0 m0 fn args A Q:=by
 refine ⟨by rw [he];rfl,?_⟩;unfold YV;rw [he];exact TH hP hsz hcut N _ _ _ _ _ _ _ hs (λt=>by simp) h
theorem WW(h:∀ id v A,¬ S id v A):LQ P X W0 m0 fn T L S Q sz:=λid v A _ hs=>absurd hs (h id v A)
theorem BD:LQ P X W0 m0 fn T L (λ_ _ _=>False) Q sz:=WW λ_ _ _ h=>h
theorem RR (hP:POk P) (hsz:sz<Aj) {l:Nat} {tm:Tm} {assign body:Code} {K:Value->AW->Prop} (hs:tm.sz=sz)
  (h:Cv P X W0 m0 fn T L (λ_ _ _=>False) K (some l) N (OU sz tm.get) [.code assign,.beginRound,.code body] false 0 0 0 [] A):Rs P X W0 m0 l fn tm assign body A K:=by
 intro c rest Q0 hK;have h':=h;rw [<- hs] at h';exact Xm (fn:=fn) (ds:=[]) (IG (T:=T) (L:=L) (S:=λ_ _ _=>False) hP (by rw [hs];exact hsz) (sz:=tm.sz) (λ_ _ _ _ _ hj h=>Qw hP hj h hK) (λ_ _ _ _ h=>h.elim) N _ _ _ _ _ _ _ _ rfl (λt=>by simp) h')
end
variable {v:Value} {K:Value->Prop} {A:AW} {p q:Prop} {c n e off f b0:Nat} {x y:ByteArray} {cs:List Value} {ro:Bool}
section
variable {P:Program}
theorem Ab:Aa (some v) K↔K v:=⟨λ⟨_,h,hk⟩=>by cases h;exact hk,λh=>⟨v,rfl,h⟩⟩
theorem JO{K:AW->Prop}:Be (some A) K↔K A:=⟨λ⟨_,h,hk⟩=>by cases h;exact hk,λh=>⟨A,rfl,h⟩⟩
theorem AT{K:Value->AW->Prop}:Ao (.ok v A) K↔K v A:=⟨λ⟨_,_,h,hk⟩=>by cases h;exact hk,λh=>⟨v,A,rfl,h⟩⟩
theorem Dh{r:Option Value}(h:r=some v)(hk:K v):Aa r K:=⟨v,h,hk⟩
theorem Ag{b:Bool}:Ai (.bool b) p q↔(b=true->p)/\(b=false->q):=
 ⟨λh=>⟨λe=>h.2.1 (by rw [e]),λe=>h.2.2 (by rw [e])⟩,λh=>⟨⟨b,rfl⟩,λe=>h.1 (by cases e;rfl),λe=>h.2 (by cases e;rfl)⟩⟩
theorem Az{c:Prop}[Decidable c]:Ai (.bool (decide c)) p q↔(c->p)/\(¬ c->q):=by
 rw [Ag];simp
theorem Cg{a b:Int}:Ai (.bool (a==b)) p q↔(a=b->p)/\(a≠b->q):=by
 rw [Ag];simp
theorem Bj{a b:Int}:Ai (.bool (a != b)) p q↔(a≠b->p)/\(a=b->q):=by
 rw [Ag];simp
theorem Au{a:List Item}:BE a a p↔p:=⟨λh=>h.2,λh=>⟨rfl,h⟩⟩
theorem AR{a:Value}:eqW a a p↔p:=⟨λh=>h.2,λh=>⟨rfl,h⟩⟩
section
variable {t:TypeId} {xo yo:Operand} {k:IntKind} {a b:Int}
theorem Br:An P .lss t xo yo (.int k a) (.int k b)=some (.bool (decide (a<b))):=by simp [An,binOp,Op.intCmp,quiet,C3,Ax,pure]
theorem Rk:An P .leq t xo yo (.int k a) (.int k b)=some (.bool (decide (a<=b))):=by simp [An,binOp,Op.intCmp,quiet,C3,Ax,pure]
theorem B3:An P .gtr t xo yo (.int k a) (.int k b)=some (.bool (decide (b<a))):=by simp [An,binOp,Op.intCmp,quiet,C3,Ax,pure]
theorem JR:An P .geq t xo yo (.int k a) (.int k b)=some (.bool (decide (b<=a))):=by simp [An,binOp,Op.intCmp,quiet,C3,Ax,pure]
theorem B8:An P .eql t xo yo (.int k a) (.int k b)=some (.bool (a==b)):=by simp [An,binOp,Op.intCmp,quiet,C3,Ax,pure]
theorem Bw:An P .neq t xo yo (.int k a) (.int k b)=some (.bool (a != b)):=by simp [An,binOp,Op.intCmp,quiet,C3,Ax,pure]
theorem Bm:An P .add t xo yo (.int k a) (.int k b)=some (.int k (k.wrap (a+b))):=by simp [An,binOp,Op.intArith,quiet,C3,Ax,pure]
theorem Db:An P .sub t xo yo (.int k a) (.int k b)=some (.int k (k.wrap (a-b))):=by simp [An,binOp,Op.intArith,quiet,C3,Ax,pure]
theorem Bl{x:Bool}:unA P .not (.bool x)=some (.bool (!x)):=by simp [unA,Ax,Op.unary,quiet,C3,pure]
theorem FA:An P .eql t xo yo (.string x) (.string y)=some (.bool (x.data.toList==y.data.toList)):=rfl
theorem OH:An P .neq t xo yo (.string x) (.string y)=some (.bool !(x.data.toList==y.data.toList)):=rfl
end
theorem wrap_i64{n:Int}(h1: -9223372036854775808<=n)(h2:n<9223372036854775808):IntKind.i64.wrap n=n:=by
 unfold IntKind.wrap;have e:(2^IntKind.i64.bits:Int)=18446744073709551616:=by decide
 have e2:(2^(IntKind.i64.bits-1):Int)=9223372036854775808:=by decide
 have e3:IntKind.i64.signed=true:=rfl;simp only [e,e2,e3,Bool.true_and,decide_eq_true_eq];split<;>omega
theorem GF:∀ l:List UInt8,EG l l=true
 |[]=>rfl
 |a::r=>by simp [EG,GF r]
theorem Qv:∀ a:Int,KY a a=true
 |.ofNat a=>Nat.beq_refl a
 |.negSucc a=>Nat.beq_refl a
theorem V0{b:Bool}:DT (n+1) (.bool b) (.bool b)=true:=by simp [DT]
theorem EV{k:IntKind}{a:Int}:DT (n+1) (.int k a) (.int k a)=true:=by simp [DT,Qv]
theorem G1{s:ByteArray}:DT (n+1) (.string s) (.string s)=true:=by simp only [DT,GF]
structure Ext (A A':AW):Prop where
 next:A.next<=A'.next
 get:∀ i,i<A.next->A'.get i=A.get i
 mem:∀ i,i<A.next->A'.members i=A.members i
def AW.push(A:AW)(o:AO):AW:={ (A.put A.next o) with next:=A.next+1 }
theorem AW.BK(o:AO){j:Nat}(h:A.next<Aj):(A.push o).get j=if j=A.next then some o else A.get j:=AW.CA A A.next j o h
theorem AW.B0(A:AW)(o:AO):(A.push o).next=A.next+1:=rfl
theorem AW.BR(o:AO)(h:A.next<Aj):Ext A (A.push o):=
 ⟨Nat.le_succ _,λi hi=>by rw [AW.BK o h,Ff (by omega)],λi _=>rfl⟩
theorem Aar{e:TypeId}(h:A.next<Aj)(hc:cs.all AK=true):CO A cs e=.ok (.pointer (some ⟨A.next,0,none⟩)) (A.push (.row cs e A.next 0 false)):=by
 unfold CO AW.newRow AW.new;simp only [hc,Ct,AA.2 h];rfl
theorem AI{k:IntKind}{n:Int}:isTuple (.int k n)=false:=rfl
theorem Di{b:Bool}:isTuple (.bool b)=false:=rfl
theorem AG{b:ByteArray}:isTuple (.string b)=false:=rfl
theorem CG{a:Option Addr}:isTuple (.slice a n c)=false:=rfl
theorem AB{a:Option Addr}:isTuple (.pointer a)=false:=rfl
theorem Bp{a:Option Nat}:isTuple (.map a)=false:=rfl
theorem M7{k:IntKind}{n:Int}:AK (.int k n)=true:=rfl
theorem Yo{b:Bool}:AK (.bool b)=true:=rfl
theorem Ii{b:ByteArray}:AK (.string b)=true:=rfl
theorem AdA{a:Option Addr}:AK (.slice a n c)=true:=rfl
theorem Agd{a:Option Addr}:AK (.pointer a)=true:=rfl
theorem Age{a:Option Nat}:AK (.map a)=true:=rfl
theorem Af{b:Nat}(h:A.get b=some (.row cs e f b0 ro)):A.cell? ⟨b,off,none⟩=cellOf cs off:=by
 unfold AW.cell?;simp only [h]
theorem Bc{b:Nat}(h:A.get b=some (.row cs e f b0 ro)):A.cells? ⟨b,off,none⟩ n=Bh (cs.drop off) n:=by
 unfold AW.cells?;cases n with
 |zero=>simp [Bh]
 |succ n=>simp only [h]
theorem Fz:∀ {cs:List Value} {i:Nat} {v:Value},cs[i]? =some v->isTuple v=false->cellOf cs i=some v
 |[],i,v,h,_=>by simp at h
 |x::r,0,v,h,ht=>by
  simp only [List.getElem?_cons_zero,Oi] at h;subst h;simp [cellOf,ht]
 |x::r,i+1,v,h,ht=>by
  simp only [List.getElem?_cons_succ] at h;simp only [cellOf];exact Fz h ht
end
variable {A A':AW} {i n b:Nat} {cs l:List Value} {e:TypeId} {K:Value->AW->Prop} {v:Value}
section
variable {P:Program}
structure Aw (A:AW):Prop where
 fams:∀ i,A.next<=i->A.fams.get? i=none
 get:∀ i,A.next<=i->A.get i=none
theorem Aw.lt(h:Aw A){o:AO}(hi:A.get i=some o):i<A.next:=by
 rcases Nat.lt_or_ge i A.next with h1 | h1
 ·exact h1
 ·rw [h.get i h1] at hi;cases hi
theorem Aw.alone(h:Aw A)(hi:A.next<=i):A.members i=[i]:=by
 unfold AW.members;rw [h.fams i hi]
theorem Aw.push(h:Aw A)(o:AO)(hn:A.next<Aj):Aw (A.push o):=
 ⟨λi hi=>h.fams i (by rw [AW.B0] at hi;omega),λi hi=>by rw [AW.B0] at hi;rw [AW.BK o hn,Ff (by omega)];exact h.get i (by omega)⟩
structure Made (A A':AW) (cs:List Value) (e:TypeId):Prop where
 ext:Ext A A'
 next:A'.next=A.next+1
 row:A'.get A.next=some (.row cs e A.next 0 false)
 mem:A'.members A.next=[A.next]
 Ay:Aw A'
theorem AZ(hf:Aw A)(h:A.next<Aj)(hc:cs.all AK=true)(hk:∀ A',Made A A' cs e->K (.pointer (some ⟨A.next,0,none⟩)) A'):Ao (CO A cs e) K:=by
 rw [Aar h hc];exact AT.2 (hk _ ⟨AW.BR _ h,rfl,by rw [AW.BK _ h,if_pos rfl],hf.alone (Nl _),hf.push _ h⟩)
theorem AH {z:Value} (hz:Dt P e=some z) (hf:Aw A) (h:A.next<Aj) (hc:z.cells.toList.all AK=true)
  (hk:∀ A',Made A A' z.cells.toList e->K (.pointer (some ⟨A.next,0,none⟩)) A'):Ao (BB P A e) K:=by
 unfold BB;rw [hz];exact AZ hf h hc hk
theorem SX{o:Nat}(h:l[o]? =some v):l.drop o=v::l.drop (o+1):=by
 obtain ⟨h1,rfl⟩:=Gs.1 h;exact List.drop_eq_getElem_cons h1
theorem Nt(h:isTuple v=false):Bh (v::l) (n+1)=(match Bh l n with | some r=>some (v::r) | none=>none):=by
 simp only [Bh,h,Cf];rfl
def Gg:List Value->Nat->List Value->List Value
 |cs,_,[]=>cs
 |cs,o,v::r=>Gg (cs.set o v) (o+1) r
structure MS (A A':AW) (b:Nat) (o:AO):Prop where
 row:A'.get b=some o
 get:∀ i,i≠b->A'.get i=A.get i
 next:A'.next=A.next
 fams:A'.fams=A.fams
theorem MS.Ay{o o':AO}(h:MS A A' b o)(hf:Aw A)(hb:A.get b=some o'):Aw A':=
 ⟨λi hi=>by rw [h.fams];exact hf.fams i (by rw [h.next] at hi;exact hi),λi hi=>by
  rw [h.next] at hi;have hb:=hf.lt hb;rw [h.get i (by omega)];exact hf.get i hi⟩
theorem MS.mem{o:AO}(h:MS A A' b o)(f:Nat):A'.members f=A.members f:=by unfold AW.members;rw [h.fams]
theorem Gh:∀ {new:List Value} {A:AW} {b off:Nat} {cs:List Value} {e f b0:Nat},A.get b=some (.row cs e f b0 false)->A.members f=[b]->off+new.length<=cs.length->new.all AK=true->b<Aj->
  ∃ A',A.setCells ⟨b,off,none⟩ new=some A'/\MS A A' b (.row (Gg cs off new) e f b0 false)
 |[],A,b,off,cs,e,f,b0,hg,hm,hl,ho,hb=>⟨A,rfl,hg,λ_ _=>rfl,rfl,rfl⟩
 |v::r,A,b,off,cs,e,f,b0,hg,hm,hl,ho,hb=>by
  simp only [List.all_cons,Bq] at ho;simp only [Lc] at hl;have hble:Nat.ble cs.length off=false:=BL.2 (by omega);have h1:A.setCell ⟨b,off,none⟩ v=some (A.put b (.row (cs.set off v) e f b0 false)):=by
   unfold AW.setCell;simp only [hg,ho.1,Bool.not_true,Bool.false_or,hble,Cf,hm,BU,Nat.beq_refl,Ct]
  have hg':(A.put b (.row (cs.set off v) e f b0 false)).get b=some (.row (cs.set off v) e f b0 false):=by rw [AW.CA A b b _ hb,if_pos rfl]
  obtain ⟨A',h2,h3⟩:=Gh (new:=r) (A:=A.put b (.row (cs.set off v) e f b0 false)) (off:=off+1) hg' hm (by simp;omega) ho.2 hb;refine ⟨A',?_,h3.row,λi hi=>?_,h3.next,h3.fams⟩
  ·simp only [AW.setCells,h1];exact h2
  ·rw [h3.get i hi,AW.CA A b i _ hb,Ff hi]
theorem UC {off:Nat} {e f b0:Nat} {r:Option AW} {K:AW->Prop} (hr:r=(bif Nat.beq v.cells.toList.length n then A.setCells ⟨b,off,none⟩ v.cells.toList else none))
  (hv:v.cells.toList.length=n) (hg:A.get b=some (.row cs e f b0 false)) (hm:A.members f=[b]) (hl:off+n<=cs.length) (ho:v.cells.toList.all AK=true) (hb:b<Aj)
  (hk:∀ A',MS A A' b (.row (Gg cs off v.cells.toList) e f b0 false)->K A'):Be r K:=by
 obtain ⟨A',h1,h2⟩:=Gh (new:=v.cells.toList) (off:=off) hg hm (by omega) ho hb;rw [hr,hv,Nat.beq_refl,Ct,h1];exact JO.2 (hk A' h2)
end
variable {lo size n bytes m:Nat} {A:AW} {e t t2:TypeId} {v x:Value} {cs new:List Value}
section
variable {P:Program}
structure LP (lo:Nat) (A:AW) (e:TypeId) (size:Nat) (n:Nat) (cs:List Value) (b f:Nat):Prop where
 pos:0<n
 row:A.get b=some (.row cs e f 0 false)
 len:cs.length=n*size
 lob:lo<=b
 lof:lo<=f
 ltf:f<A.next
 mem:∀ i∈A.members f,lo<=i/\i<A.next/\∃ cs' e' b' ro',A.get i=some (.row cs' e' f b' ro')
def Zz(lo:Nat)(A:AW)(e:TypeId)(size:Nat)(v:Value)(n:Nat)(cs:List Value):Prop:=
 (v=.slice none 0 0/\n=0/\cs=[])\/∃ b f,v=.slice (some ⟨b,0,none⟩) n (Bo+n)/\LP lo A e size n cs b f
theorem Zz.one(h:Zz lo A e size v n cs):AK v=true/\isTuple v=false:=by
 rcases h with ⟨rfl,_⟩ | ⟨b,f,rfl,_⟩<;>exact ⟨rfl,rfl⟩
theorem GJ(coord:Nat):∀ (l:List Nat) (A:AW),(∀ i∈l,i<Aj)->(∀ i,i∉l->(BO coord l A).get i=A.get i)/\(BO coord l A).next=A.next/\(BO coord l A).fams=A.fams
 |[],A,_=>⟨λ_ _=>rfl,rfl,rfl⟩
 |x::r,A,hl=>by
  unfold BO;split
  ·rename_i cs e fam base ro hx;obtain ⟨h1,h2,h3⟩:=GJ coord r (A.put x (.row (BS cs (coord-base)) e fam base ro)) λi hi=>hl i (by simp [hi]);refine ⟨λi hi=>?_,h2,h3⟩;simp only [Mk,not_or] at hi;rw [h1 i hi.2,AW.CA A x i _ (hl x (by simp)),Ff hi.1]
  ·obtain ⟨h1,h2,h3⟩:=GJ coord r A λi hi=>hl i (by simp [hi]);exact ⟨λi hi=>h1 i (λh=>hi (by simp [h])),h2,h3⟩
theorem GZ:∀ (l:List Value),D6 l l.length=some l
 |[]=>rfl
 |v::r=>by simp [D6,GZ r]
structure ZN (lo:Nat) (A A':AW) (e:TypeId) (size:Nat) (v v':Value) (n m:Nat) (cs new:List Value):Prop where
 own:Zz lo A' e size v' (n+m) (cs++new)
 next:A'.next=A.next+1
 Ay:Aw A'
 get:∀ i,i<A.next->(∀ b f,v=.slice (some ⟨b,0,none⟩) n (Bo+n)->LP lo A e size n cs b f->i∉A.members f)->A'.get i=A.get i
 mem:∀ g,g<A.next->(∀ b f,v=.slice (some ⟨b,0,none⟩) n (Bo+n)->LP lo A e size n cs b f->g≠f)->A'.members g=A.members g
 fam:∀ b' f',v'=.slice (some ⟨b',0,none⟩) (n+m) (Bo+(n+m))->LP lo A' e size (n+m) (cs++new) b' f'->f'=A.next\/∃ b,v=.slice (some ⟨b,0,none⟩) n (Bo+n)/\LP lo A e size n cs b f'
theorem Js (ht:BG P t=some e) (hs:szT P e=some (size+1)) (hb:EB P e=some bytes)
  (hx:BM P A e t2 (size+1) x=some (m+1,new)) (hroom:(Nat.blt (0+(m+1)) room&&Nat.blt ((0+(m+1))*bytes) room&&C9 P e (size+1))=true) (hmax:A.next<Aj):
  AU P A t t2 (.slice none 0 0) x=.ok (.slice (some ⟨A.next,0,none⟩) (0+(m+1)) (Bo+(0+(m+1)))) (A.push (.row new e A.next 0 false)):=by
 unfold AU;simp only [ht,hs,hb,hx];rw [hroom];simp only [Bool.not_true,Cf];have h1:Nat.ble Bo 0=false:=rfl;have h2:Nat.ble (0+(m+1)) 0=false:=BL.2 (by omega);simp only [h1,Cf,h2,List.nil_append];unfold AW.new;simp only [AA.2 hmax,Ct];rfl
theorem Rq {B:AW} {c b f:Nat} {a':Addr} (ht:BG P t=some e) (hs:szT P e=some (size+1)) (hb:EB P e=some bytes)
  (hx:BM P A e t2 (size+1) x=some (m+1,new)) (hroom:(Nat.blt (n+(m+1)) room&&Nat.blt ((n+(m+1))*bytes) room&&C9 P e (size+1))=true) (h1:Nat.ble Bo c=true) (h2:Nat.ble (n+(m+1)) (c-Bo)=false)
  (hrow:A.get b=some (.row cs e f 0 false)) (hone:new.all AK=true) (hold:A.CE ⟨b,0,none⟩ (n*(size+1))=some cs)
  (hni:(BO (n*(size+1)) (A.members f) A).I0 (cs++new) e f 0=some (a',B)):
  AU P A t t2 (.slice (some ⟨b,0,none⟩) n c) x=.ok (.slice (some a') (n+(m+1)) (Bo+(n+(m+1)))) B:=by
 unfold AU;simp only [ht,hs,hb,hx];rw [hroom];simp only [Bool.not_true,Cf];generalize hlb:(bif Nat.ble Bo c then c-Bo else c)=lb;have hz:Nat.ble (n+(m+1)) lb=false:=by
  rw [h1,Ct] at hlb;rw [<- hlb];exact h2
 clear hlb h2;have hbe:Nat.beq e e=true:=Nat.beq_refl e;simp only [hz,h1,Cf,Ct,hrow,hbe,hone,Bool.and_self,Bool.not_true];rw [hold];have hc:(0+0+n*(size+1))=n*(size+1):=by omega
 simp only [hc,Nat.add_zero,hni]
theorem UO (ht:BG P t=some e) (hs:szT P e=some (size+1)) (hb:EB P e=some bytes)
  (hz:C9 P e (size+1)=true) (hx:BM P A e t2 (size+1) x=some (m+1,new)) (hnew:new.length=(m+1)*(size+1)) (hone:new.all AK=true) (h:Zz lo A e (size+1) v n cs) (hf:Aw A) (hlo:lo<=A.next)
  (hmax:A.next<Aj) (hr1:n+(m+1)<room) (hr2:(n+(m+1))*bytes<room):∃ v' A',AU P A t t2 v x=.ok v' A'/\ZN lo A A' e (size+1) v v' n (m+1) cs new:=by
 have hroom:(Nat.blt (n+(m+1)) room&&Nat.blt ((n+(m+1))*bytes) room&&C9 P e (size+1))=true:=by rw [AA.2 hr1,AA.2 hr2,hz];rfl
 rcases h with ⟨rfl,rfl,rfl⟩ | ⟨b,f,rfl,h⟩
 ·refine ⟨.slice (some ⟨A.next,0,none⟩) (0+(m+1)) (Bo+(0+(m+1))),A.push (.row new e A.next 0 false),?_,?_⟩
  ·exact Js ht hs hb hx hroom hmax
  ·have hfp:=hf.push (.row new e A.next 0 false) hmax;have hrow:(A.push (.row new e A.next 0 false)).get A.next=some (.row new e A.next 0 false):=by rw [AW.BK _ hmax,if_pos rfl]
   refine ⟨.inr ⟨A.next,A.next,rfl,by omega,by rw [hrow];rfl,by simp only [List.nil_append,hnew,Nat.zero_add],hlo,hlo,by rw [AW.B0];omega,λi hi=>?_⟩,rfl,hfp,λi hi _=>by rw [AW.BK _ hmax,Ff (by omega)],λg hg _=>rfl,λb' f' hv ho=>?_⟩
   ·have:(A.push (.row new e A.next 0 false)).members A.next=[A.next]:=hf.alone (Nl _)
    rw [this] at hi;obtain rfl:i=A.next:=by simpa using hi
    exact ⟨hlo,by rw [AW.B0];omega,_,_,_,_,hrow⟩
   ·simp only [Value.slice.injEq,Oi,Addr.mk.injEq] at hv;obtain ⟨⟨rfl,_⟩,_⟩:=hv
    have:=ho.row
    rw [hrow] at this;simp only [Oi,AO.row.injEq] at this;exact .inl this.2.2.1.symm
 ·have hmemlt:∀ i∈A.members f,i<Aj:=λi hi=>by have:=(h.mem i hi).2.1;omega
  obtain ⟨p1,p2,p3⟩:=GJ (n*(size+1)) (A.members f) A hmemlt;let A1:=BO (n*(size+1)) (A.members f) A;have hA1:A1.next=A.next:=p2;let A2:AW:={ (A1.push (.row (cs++new) e f 0 false)) with fams:=(A1.push (.row (cs++new) e f 0 false)).fams.put depth f (some (A1.next::A1.members f)) };have hm1:∀ g,A1.members g=A.members g:=λg=>by unfold AW.members;rw [show A1.fams=A.fams from p3]
  have hget2:∀ i,A2.get i=if i=A.next then some (.row (cs++new) e f 0 false) else A1.get i:=by
   intro i;show (A1.push _).get i=_;rw [AW.BK _ (by rw [hA1];exact hmax),hA1]
  have hltf:=h.ltf;have hmem2:∀ g,g<Aj->A2.members g=if g=f then A.next::A.members f else A.members g:=by
   intro g hg;show (match ((A1.push (.row (cs++new) e f 0 false)).fams.put depth f (some (A1.next::A1.members f))).get? g with | some l=>l | none=>[g])=_;rw [Trie.get?_put depth _ f g _ (by unfold depth Aj at *;omega)];by_cases hgf:g=f
   ·rw [if_pos hgf,if_pos hgf,hm1,hA1]
   ·rw [Ff hgf,Ff hgf,<- hm1 g];rfl
  have hnext2:A2.next=A.next+1:=by show A1.next+1=_;rw [hA1]
  refine ⟨.slice (some ⟨A.next,0,none⟩) (n+(m+1)) (Bo+(n+(m+1))),A2,?_,?_⟩
  ·have hold:A.CE ⟨b,0,none⟩ (n*(size+1))=some cs:=by
    unfold AW.CE;obtain ⟨k,hk⟩:∃ k,n*(size+1)=k+1:=⟨n*(size+1)-1,by have:0<n*(size+1):=Nat.mul_pos h.pos (by omega);omega⟩;rw [hk];simp only [h.row,List.drop_zero];rw [<- hk,<- h.len];exact GZ cs
   have hni:(BO (n*(size+1)) (A.members f) A).I0 (cs++new) e f 0=some (⟨A1.next,0,none⟩,A2):=by
    unfold AW.I0 AW.new
    have:Nat.blt (BO (n*(size+1)) (A.members f) A).next Aj=true:=AA.2 (by rw [p2];exact hmax)
    simp only [this,Ct];rfl
   rw [hA1] at hni;exact Rq ht hs hb hx hroom (Bb.2 (Nat.le_add_right _ _)) (BL.2 (by rw [Nat.add_sub_cancel_left];omega)) h.row hone hold hni
  ·have hnot:A.next∉A.members f:=λhi=>by have:=(h.mem _ hi).2.1;omega
   have hrow:A2.get A.next=some (.row (cs++new) e f 0 false):=by rw [hget2,if_pos rfl]
   have hfam:∀ i∈A.members f,∃ cs' e' b' ro',A1.get i=some (.row cs' e' f b' ro'):=by
    have key:∀ (l:List Nat) (B:AW),(∀ i∈l,i<Aj)->∀ i,(∃ cs' e' b' ro',B.get i=some (.row cs' e' f b' ro'))->∃ cs' e' b' ro',(BO (n*(size+1)) l B).get i=some (.row cs' e' f b' ro'):=by
     intro l
     induction l with
     |nil=>intro B _ i hi;exact hi
     |cons x r ih=>
      intro B hl i hi;unfold BO;refine ih _ (λj hj=>hl j (by simp [hj])) i ?_;split
      ·rename_i cs2 e2 f2 b2 ro2 hx2;rw [AW.CA B x i _ (hl x (by simp))];by_cases hix:i=x
       ·subst hix;obtain ⟨cs',e',b',ro',hi⟩:=hi;rw [hx2] at hi;simp only [Oi,AO.row.injEq] at hi;rw [if_pos rfl];exact ⟨_,_,_,_,by rw [hi.2.2.1]⟩
       ·rw [Ff hix];exact hi
      ·exact hi
    intro i hi;obtain ⟨_,_,h3⟩:=h.mem i hi;exact key _ _ hmemlt i h3
   refine ⟨.inr ⟨A.next,f,rfl,by omega,hrow,by rw [Lq,h.len,hnew,<- Nat.add_mul],hlo,h.lof,by rw [hnext2];omega,λi hi=>?_⟩,hnext2,⟨λi hi=>?_,λi hi=>?_⟩,λi hi hnf=>?_,λg hg hgf=>?_,λb' f' hv ho=>?_⟩
   ·rw [hmem2 f (by omega),if_pos rfl,Mk] at hi;rcases hi with rfl | hi
    ·exact ⟨hlo,by rw [hnext2];omega,_,_,_,_,hrow⟩
    ·obtain ⟨g1,g2,_⟩:=h.mem i hi;obtain ⟨cs',e',b',ro',g3⟩:=hfam i hi;exact ⟨g1,by rw [hnext2];omega,cs',e',b',ro',by rw [hget2,Ff (by omega)];exact g3⟩
   ·rw [hnext2] at hi;show ((A1.push (.row (cs++new) e f 0 false)).fams.put depth f (some (A1.next::A1.members f))).get? i=none;rw [Trie.get?_put depth _ f i _ (by unfold depth Aj at *;omega),Ff (by omega)];show A1.fams.get? i=none;rw [show A1.fams=A.fams from p3];exact hf.fams i (by omega)
   ·rw [hnext2] at hi;rw [hget2,Ff (by omega)];show (BO _ _ A).get i=none;rw [p1 i (λhm=>by have:=(h.mem i hm).2.1;omega)];exact hf.get i (by omega)
   ·rw [hget2,Ff (by omega)];exact p1 i (hnf b f rfl h)
   ·rw [hmem2 g (by omega),Ff (hgf b f rfl h)]
   ·simp only [Value.slice.injEq,Oi,Addr.mk.injEq] at hv;obtain ⟨⟨rfl,_⟩,_⟩:=hv
    have:=ho.row
    rw [hrow] at this;simp only [Oi,AO.row.injEq] at this;obtain ⟨_,_,rfl,_⟩:=this;exact .inr ⟨b,rfl,h⟩
end
section
variable {P:Program}
theorem Dd{α β:Type}(k:α->Sem β):∀ s:Sem α,quiet P (s.bind k)=(quiet P s).bind λa=>quiet P (k a)
 |.pure a=>rfl
 |.program f=>Dd k (f P)
 |.mark _ f=>by
  show quiet P (f.bind k)=_;exact Dd k f
 |.load .. =>rfl
 |.store .. =>rfl
 |.new .. =>rfl
 |.shape .. =>rfl
 |.freeze .. =>rfl
 |.frozen .. =>rfl
 |.getObj .. =>rfl
 |.setObj .. =>rfl
 |.choose .. =>rfl
 |.sys .. =>rfl
 |.halt _=>rfl
theorem R1{α β:Type}(s:Sem α)(k:α->Sem β):quiet P (s >>=k)=(quiet P s).bind λa=>quiet P (k a):=Dd k s
theorem Ic(d:Nat)(t:TypeId)(xs ys:Array Value)(ht:quiet P (underlying t)=some (.struct (P.fieldsOf t)))(hp:P.stoodInHeld t=false):
  quiet P (Op.equalIn (d+1) t (.agg xs) (.agg ys))=quiet P (Op.eqFields d xs ys (P.fieldsOf t).toList):=by
 simp only [Op.equalIn];show quiet P (Sem.bind _ _)=_;rw [Dd,ht];simp only [Option.bind_some];show quiet P (Sem.bind _ _)=_;rw [Dd];show (some P).bind _=_;simp only [Option.bind_some,hp,Bool.false_eq_true,if_false];rw [<- Array.forIn_toList];generalize (P.fieldsOf t).toList=fs;clear ht
 induction fs with
 |nil=>simp [Op.eqFields]
 |cons f fs ih=>
  simp only [List.forIn_cons,Op.eqFields];split
  ·simp only [R1,Option.bind_assoc] at ih ⊢
   congr 1
   funext a
   congr 1
   funext b
   congr 1
   funext r
   cases r
   ·rfl
   ·exact ih
  ·exact ih
theorem Gj(d:Nat)(t:TypeId)(k k':IntKind)(a b:Int)(h:quiet P (underlying t)=some (.int k')):quiet P (Op.equalIn (d+1) t (.int k a) (.int k b))=some (a==b):=by
 simp only [Op.equalIn];show quiet P (Sem.bind _ _)=_;rw [Dd,h];simp only [Option.bind_some,if_true];rfl
theorem MV(d:Nat)(t:TypeId)(a b:ByteArray)(h:quiet P (underlying t)=some .string):quiet P (Op.equalIn (d+1) t (.string a) (.string b))=some (a==b):=by
 simp only [Op.equalIn];show quiet P (Sem.bind _ _)=_;rw [Dd,h];rfl
end
variable {A B A':AW} {S T F:List Nat} {cs:List Value} {e:TypeId} {b n r size c:Nat} {v:Value} {K:Value->AW->Prop} {es:List MapEntry}
section
variable {P:Program}
def Y1(i:Nat):AO->Nat
 |.row _ _ f _ _=>f
 |_=>i
structure Ah (A A':AW) (S:List Nat):Prop where
 next:A.next<=A'.next
 get:∀ i o,A.get i=some o->Y1 i o<A.next->Y1 i o∉S->A'.get i=some o
 mem:∀ f,f<A.next->f∉S->A'.members f=A.members f
theorem Ah.refl(A:AW)(S:List Nat):Ah A A S:=⟨Nl _,λ_ _ h _ _=>h,λ_ _ _=>rfl⟩
theorem Ah.trans{C:AW}(h:Ah A B S)(k:Ah B C T)(hT:∀ x∈T,x∈S\/A.next<=x):Ah A C S:=
 ⟨Nat.le_trans h.next k.next,λi o hi hlt hn=>k.get i o (h.get i o hi hlt hn) (Nat.lt_of_lt_of_le hlt h.next) (λhm=>by
  rcases hT _ hm with h1 | h1
  ·exact hn h1
  ·omega),λf hf hn=>by
  rw [k.mem f (Nat.lt_of_lt_of_le hf h.next) (λhm=>by
   rcases hT _ hm with h1 | h1
   ·exact hn h1
   ·omega),h.mem f hf hn]⟩
theorem Ah.more(h:Ah A B S)(hs:∀ x∈S,x∈T\/A.next<=x):Ah A B T:=
 ⟨h.next,λi o hi hlt hn=>h.get i o hi hlt (λhm=>by
  rcases hs _ hm with h1 | h1
  ·exact hn h1
  ·omega),λf hf hn=>h.mem f hf (λhm=>by
  rcases hs _ hm with h1 | h1
  ·exact hn h1
  ·omega)⟩
theorem Ext.keeps(h:Ext A A')(hf:Aw A):Ah A A' []:=
 ⟨h.next,λi o hi _ _=>by rw [h.get i (hf.lt hi)];exact hi,λf hf _=>h.mem f hf⟩
theorem Made.keeps(m:Made A A' cs e)(hf:Aw A):Ah A A' []:=m.ext.keeps hf
structure Row1 (A:AW) (b:Nat) (cs:List Value) (e:TypeId):Prop where
 row:A.get b=some (.row cs e b 0 false)
 mem:A.members b=[b]
 lt:b<A.next
theorem Made.Bk(m:Made A A' cs e):Row1 A' A.next cs e:=⟨m.row,m.mem,by rw [m.next];omega⟩
theorem Row1.keeps(h:Row1 A b cs e)(k:Ah A A' S)(hn:b∉S):Row1 A' b cs e:=
 ⟨k.get b _ h.row h.lt hn,by rw [k.mem b h.lt hn];exact h.mem,Nat.lt_of_lt_of_le h.lt k.next⟩
theorem MS.keeps{f:Nat}{o:AO}{e b0:Nat}{ro:Bool}(w:MS A A' b o)(h:A.get b=some (.row cs e f b0 ro)):Ah A A' [f]:=
 ⟨by rw [w.next];exact Nl _,λi o hi _ hn=>by
  by_cases hib:i=b
  ·subst hib;rw [h] at hi;cases hi;exact absurd (Ms.2 rfl) hn
  ·rw [w.get i hib];exact hi,λf _ _=>w.mem f⟩
theorem Row1.store {off:Nat} {r:Option AW} {K:AW->Prop} (h:Row1 A b cs e) (hf:Aw A) (hb:A.next<=Aj)
  (hr:r=(bif Nat.beq v.cells.toList.length n then A.setCells ⟨b,off,none⟩ v.cells.toList else none)) (hv:v.cells.toList.length=n) (hl:off+n<=cs.length) (ho:v.cells.toList.all AK=true)
  (hk:∀ A',Row1 A' b (Gg cs off v.cells.toList) e->Ah A A' [b]->A'.next=A.next->Aw A'->K A'):Be r K:=by
 have hlt:=h.lt;refine UC hr hv h.row h.mem hl ho (by omega) λA' w=>?_;exact hk A' ⟨w.row,by rw [w.mem];exact h.mem,by rw [w.next];exact h.lt⟩ (w.keeps h.row) w.next (w.Ay hf h.row)
def Dq(A:AW)(e:TypeId)(size:Nat)(v:Value)(n:Nat)(cs:List Value)(F:List Nat):Prop:=
 (v=.slice none 0 0/\n=0/\cs=[]/\F=[])\/∃ b f,v=.slice (some ⟨b,0,none⟩) n (Bo+n)/\LP 0 A e size n cs b f/\F=[f]
theorem Dq.nil(A:AW)(e:TypeId)(size:Nat):Dq A e size (.slice none 0 0) 0 [] []:=.inl ⟨rfl,rfl,rfl,rfl⟩
theorem Dq.AeN(h:Dq A e size v n cs F):Zz 0 A e size v n cs:=by
 rcases h with ⟨h1,h2,h3,_⟩ | ⟨b,f,h1,h2,_⟩
 ·exact .inl ⟨h1,h2,h3⟩
 ·exact .inr ⟨b,f,h1,h2⟩
theorem Dq.one(h:Dq A e size v n cs F):AK v=true/\isTuple v=false:=h.AeN.one
theorem Dq.lt(h:Dq A e size v n cs F):∀ x∈F,x<A.next:=by
 rcases h with ⟨_,_,_,rfl⟩ | ⟨b,f,_,h2,rfl⟩
 ·intro x hx;simp at hx
 ·intro x hx;obtain rfl:x=f:=by simpa using hx
  exact h2.ltf
theorem Dq.keeps(h:Dq A e size v n cs F)(k:Ah A A' S)(hd:∀ x∈F,x∉S):Dq A' e size v n cs F:=by
 rcases h with h | ⟨b,f,rfl,h,rfl⟩
 ·exact .inl h
 ·have hfs:f∉S:=hd f (by simp);refine .inr ⟨b,f,rfl,⟨h.pos,k.get b _ h.row h.ltf hfs,h.len,Nat.zero_le _,Nat.zero_le _,Nat.lt_of_lt_of_le h.ltf k.next,λi hi=>?_⟩,rfl⟩;rw [k.mem f h.ltf hfs] at hi;obtain ⟨_,h2,cs',e',b',ro',h3⟩:=h.mem i hi;exact ⟨Nat.zero_le _,Nat.lt_of_lt_of_le h2 k.next,cs',e',b',ro',k.get i _ h3 h.ltf hfs⟩
theorem JT {t t2:TypeId} {bytes:Nat} {x:Value} {m:Nat} {new:List Value} (ht:BG P t=some e) (hs:szT P e=some (size+1)) (hb:EB P e=some bytes)
  (hz:C9 P e (size+1)=true) (hx:BM P A e t2 (size+1) x=some (m+1,new)) (hnew:new.length=(m+1)*(size+1)) (hone:new.all AK=true) (h:Dq A e (size+1) v n cs F) (hf:Aw A)
  (hmax:A.next<Aj) (hr1:n+(m+1)<room) (hr2:(n+(m+1))*bytes<room)
  (hk:∀ v' A' F',Dq A' e (size+1) v' (n+(m+1)) (cs++new) F'->Ah A A' F->(∀ x∈F',x∈F\/x=A.next)->A'.next=A.next+1->Aw A'->K v' A'):Ao (AU P A t t2 v x) K:=by
 obtain ⟨v',A',h1,a⟩:=UO (P:=P) ht hs hb hz hx hnew hone h.AeN hf (Nat.zero_le _) hmax hr1 hr2;rw [h1];refine AT.2 ?_;have hfam:∀ b f,v=.slice (some ⟨b,0,none⟩) n (Bo+n)->LP 0 A e (size+1) n cs b f->f∈F:=by
  intro b f hv ho;rcases h with ⟨h1,_⟩ | ⟨b',f',h1,h2,rfl⟩
  ·rw [h1] at hv;cases hv
  ·rw [h1] at hv;simp only [Value.slice.injEq,Oi,Addr.mk.injEq] at hv;obtain ⟨⟨rfl,_⟩,_⟩:=hv
   have:=ho.row
   rw [h2.row] at this;simp only [Oi,AO.row.injEq] at this;simp [this.2.2.1]
 have hkeep:Ah A A' F:=⟨by rw [a.next];omega,λi o hi hlt hn=>by
   rw [a.get i (hf.lt hi) (λb f hv ho him=>?_)]
   ·exact hi
   ·obtain ⟨_,_,cs',e',b',ro',h3⟩:=ho.mem i him;rw [hi] at h3;cases h3;exact hn (hfam b f hv ho),λg hg hn=>a.mem g hg λb f hv ho hgf=>hn (hgf▸hfam b f hv ho)⟩
 rcases a.own with ⟨_,h2,_⟩ | ⟨b,f,h2,h3⟩
 ·omega
 ·refine hk v' A' [f] (.inr ⟨b,f,h2,h3,rfl⟩) hkeep (λx hx=>?_) a.next a.Ay;obtain rfl:x=f:=by simpa using hx
  rcases a.fam b x h2 h3 with h4 | ⟨b',h4,h5⟩
  ·exact .inr h4
  ·exact .inl (hfam b' x h4 h5)
theorem I1(h:A'.fams=A.fams)(g:Nat):A'.members g=A.members g:=by unfold AW.members;rw [h]
theorem Ig(Dr coord:Nat):∀ (l:List Nat) (A:AW),(∀ i∈l,i<Aj)->(∀ i,i∉l\/i=Dr->(BU Dr coord l A).get i=A.get i)/\
  (∀ i cs e f b ro,A.get i=some (.row cs e f b ro)->∃ cs',(BU Dr coord l A).get i=some (.row cs' e f b ro))/\(BU Dr coord l A).next=A.next/\(BU Dr coord l A).fams=A.fams
 |[],A,_=>⟨λ_ _=>rfl,λi cs e f b ro h=>⟨cs,h⟩,rfl,rfl⟩
 |x::r,A,hl=>by
  unfold BU;cases hxs:Nat.beq x Dr with
  |true=>
   have hx:x=Dr:=Nb hxs;obtain ⟨h1,h2,h3,h4⟩:=Ig Dr coord r A (λi hi=>hl i (by simp [hi]));refine ⟨λi hi=>h1 i ?_,h2,h3,h4⟩;rcases hi with hi | hi
   ·exact .inl (λhm=>hi (by simp [hm]))
   ·exact .inr hi
  |false=>
   have hx:x≠Dr:=λe=>by rw [e,Nat.beq_refl] at hxs;cases hxs
   simp only [Cf];have same:∀ B:AW,(∀ i,i≠x->B.get i=A.get i)->(∀ i cs e f b ro,A.get i=some (.row cs e f b ro)->∃ cs',B.get i=some (.row cs' e f b ro))->B.next=A.next->B.fams=A.fams->
     (∀ i,i∉x::r\/i=Dr->(BU Dr coord r B).get i=A.get i)/\(∀ i cs e f b ro,A.get i=some (.row cs e f b ro)->∃ cs',(BU Dr coord r B).get i=some (.row cs' e f b ro))/\(BU Dr coord r B).next=A.next/\(BU Dr coord r B).fams=A.fams:=by
    intro B g1 g2 g3 g4;obtain ⟨h1,h2,h3,h4⟩:=Ig Dr coord r B (λi hi=>hl i (by simp [hi]));refine ⟨λi hi=>?_,λi cs e f b ro hi=>?_,by rw [h3,g3],by rw [h4,g4]⟩
    ·rw [h1 i (by
      rcases hi with hi | hi
      ·exact .inl (λhm=>hi (by simp [hm]))
      ·exact .inr hi),g1 i (by
      rcases hi with hi | hi
      ·exact λe=>hi (by simp [e])
      ·subst hi;exact λe=>hx e.symm)]
    ·obtain ⟨cs',hb⟩:=g2 i cs e f b ro hi;exact h2 i cs' e f b ro hb
   split
   ·rename_i cs2 e2 f2 b2 ro2 hx2;cases hble:Nat.ble b2 coord with
    |false=>exact same A (λ_ _=>rfl) (λi cs e f b ro h=>⟨cs,h⟩) rfl rfl
    |true=>
     simp only [Ct];refine same _ (λi hi=>by rw [AW.CA A x i _ (hl x (by simp)),Ff hi]) (λi cs e f b ro hi=>?_) rfl rfl;rw [AW.CA A x i _ (hl x (by simp))];by_cases hix:i=x
     ·subst hix;rw [hx2] at hi;cases hi;exact ⟨_,by rw [if_pos rfl]⟩
     ·exact ⟨cs,by rw [Ff hix];exact hi⟩
   ·exact same A (λ_ _=>rfl) (λi cs e f b ro h=>⟨cs,h⟩) rfl rfl
theorem Ib:∀ {new:List Value} {A:AW} {b off:Nat} {cs:List Value} {e f:Nat},A.get b=some (.row cs e f 0 false)->(∀ i∈A.members f,i<Aj)->off+new.length<=cs.length->new.all AK=true->b<Aj->
  ∃ A',A.setCells ⟨b,off,none⟩ new=some A'/\A'.get b=some (.row (Gg cs off new) e f 0 false)/\(∀ i,i≠b->i∉A.members f->A'.get i=A.get i)/\
   (∀ i cs e f b ro,A.get i=some (.row cs e f b ro)->∃ cs',A'.get i=some (.row cs' e f b ro))/\A'.next=A.next/\A'.fams=A.fams
 |[],A,b,off,cs,e,f,hg,hm,hl,ho,hb=>⟨A,rfl,hg,λ_ _ _=>rfl,λi cs e f b ro h=>⟨cs,h⟩,rfl,rfl⟩
 |v::r,A,b,off,cs,e,f,hg,hm,hl,ho,hb=>by
  simp only [List.all_cons,Bq] at ho;simp only [Lc] at hl;have hble:Nat.ble cs.length off=false:=BL.2 (by omega);obtain ⟨p1,p2,p3,p4⟩:=Ig b (0+off) (A.members f) (A.put b (.row (cs.set off v) e f 0 false)) hm;have h1:A.setCell ⟨b,off,none⟩ v=some (BU b (0+off) (A.members f) (A.put b (.row (cs.set off v) e f 0 false))):=by
   unfold AW.setCell;simp only [hg,ho.1,Bool.not_true,Bool.false_or,hble,Cf]
  have hmem:∀ g,(BU b (0+off) (A.members f) (A.put b (.row (cs.set off v) e f 0 false))).members g=A.members g:=I1 p4;have hg':(BU b (0+off) (A.members f) (A.put b (.row (cs.set off v) e f 0 false))).get b=some (.row (cs.set off v) e f 0 false):=by
   rw [p1 b (.inr rfl),AW.CA A b b _ hb,if_pos rfl]
  obtain ⟨A',h2,h3,h4,h5,h6,h7⟩:=Ib (new:=r) (off:=off+1) hg' (by rw [hmem];exact hm) (by simp;omega) ho.2 hb;refine ⟨A',?_,h3,λi hi hn=>?_,λi cs2 e2 f2 b2 ro2 hi=>?_,by rw [h6,p3];rfl,by rw [h7,p4];rfl⟩
  ·simp only [AW.setCells,h1];exact h2
  ·rw [h4 i hi (by rw [hmem];exact hn),p1 i (.inl hn),AW.CA A b i _ hb,Ff hi]
  ·have:∃ cs',(A.put b (.row (cs.set off v) e f 0 false)).get i=some (.row cs' e2 f2 b2 ro2):=by
    rw [AW.CA A b i _ hb];by_cases hib:i=b
    ·subst hib;rw [hg] at hi;cases hi;exact ⟨_,by rw [if_pos rfl]⟩
    ·exact ⟨cs2,by rw [Ff hib];exact hi⟩
   obtain ⟨cs3,h8⟩:=this;obtain ⟨cs4,h9⟩:=p2 i cs3 e2 f2 b2 ro2 h8;exact h5 i cs4 e2 f2 b2 ro2 h9
structure TA (A:AW) (r:Nat) (es:List MapEntry) (c:Nat):Prop where
 row:A.get r=some (.map es c false)
 lt:r<A.next
theorem TA.keeps(h:TA A r es c)(k:Ah A A' S)(hn:r∉S):TA A' r es c:=
 ⟨k.get r _ h.row h.lt hn,Nat.lt_of_lt_of_le h.lt k.next⟩
theorem TA.put{es':List MapEntry}{c':Nat}(h:TA A r es c)(hf:Aw A)(hb:A.next<=Aj):TA (A.put r (.map es' c' false)) r es' c'/\Ah A (A.put r (.map es' c' false)) [r]/\(A.put r (.map es' c' false)).next=A.next/\Aw (A.put r (.map es' c' false)):=by
 have hlt:=h.lt;have hg:∀ i,(A.put r (.map es' c' false)).get i=if i=r then some (.map es' c' false) else A.get i:=λi=>AW.CA A r i _ (by omega)
 refine ⟨⟨by rw [hg,if_pos rfl],hlt⟩,⟨Nl _,λi o hi _ hn=>?_,λf _ _=>rfl⟩,rfl,⟨hf.fams,λi hi=>?_⟩⟩
 ·rw [hg,Ff (λe=>?_)]
  ·exact hi
  ·subst e;rw [h.row] at hi;cases hi;exact hn (Ms.2 rfl)
 ·have hi:A.next<=i:=hi;rw [hg,Ff (by omega)];exact hf.get i hi
theorem AcN(hf:Aw A)(h:A.next<Aj)(hk:∀ A',TA A' A.next [] 0->Ah A A' []->A'.next=A.next+1->Aw A'->K (.map (some A.next)) A'):Ao (G4 A) K:=by
 have e:G4 A=.ok (.map (some A.next)) (A.push (.map [] 0 false)):=by
  unfold G4 AW.new;simp only [AA.2 h,Ct];rfl
 rw [e];exact AT.2 (hk _ ⟨by rw [AW.BK _ h,if_pos rfl],by rw [AW.B0];omega⟩ ((AW.BR _ h).keeps hf) rfl (hf.push _ h))
end
def Ow(w:AW)(it:Value):R AN:=match Mf w it with | some v=>.ok (.value v) w | none=>.fail "entry"
def NK(P:Program)(w:AW)(t:TypeId)(x:Value):R AN:=match P.underlying t,x with
  |some (.map _ _),.map none=>(match w.new (.mit none 0 [] 0) with | some (b,w)=>.ok (.value (.pointer (some ⟨b,0,none⟩))) w | none=>.fail "range")
  |some (.map _ _),.map (some m)=>(match w.get m with
   |some (.map _ clock _)=>(match w.new (.mit (some m) clock [] clock) with | some (b,w)=>.ok (.value (.pointer (some ⟨b,0,none⟩))) w | none=>.fail "range")
   |_=>.fail "range")
  |_,_=>.fail "range"
end Go.Abs
