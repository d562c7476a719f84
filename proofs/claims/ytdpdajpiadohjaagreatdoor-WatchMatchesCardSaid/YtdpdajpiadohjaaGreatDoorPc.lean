/-
  This text prints what the functions reached ask of their memory, and shows what they answer. Conditions: none for the last theorem, those that each theorem states for the others.
-/
import Derived.Test.YtdpdajpiadohjaaGreatDoorPb
import Derived.DeepKeys2
import Derived.KernelRfl
import Derived.Laws.StructEq
import Derived.Lib.Bytealg
import Derived.Shelf.SlSortCmp.NoneTotal
import Derived.Test.YtdpdajpiadohjaaGreatDoorProg
set_option maxRecDepth 100000
set_option maxHeartbeats 1000000
namespace Go.Abs
section
variable {P:Program} {X:Ba} {W0:World} {m0:Inj P}
theorem Tm.AbI(tm:Tm)(d:Nat)(v:Value):(tm.set d v).sz=tm.sz:=by
 unfold Tm.set;cases Nat.blt d tm.sz<;>rfl
theorem JO{kt kf ku:Nat}{tm:Tm}(h:Kn kt kf ku tm){ops:Array Oper}{o:Oper}{b:Bool}(hw:XH kt kf ku ops o=some b):AJ ops tm o=b:=by
 unfold XH at hw;unfold AJ;split at hw
 ·rename_i hg;rw [hg];cases hw;rfl
 ·rename_i j want hg;rw [hg];simp only;unfold JS at hw;split at hw
  ·cases hw
  ·rename_i d hd;split at hd
   ·rename_i o' ho';cases hu:ku.testBit d with
    |true=>
     rw [hu,Ct] at hw;cases hw;have hv:tm.get d=undef:=(h d).2.2 hu;unfold Es;simp only [ho',hd,hv];rfl
    |false=>
     rw [hu,Cf] at hw;split at hw
     ·rename_i c hc;cases hw;have hv:tm.get d=.bool c:=Ek h hc;unfold Es;simp only [ho',hd,hv]
     ·cases hw
   ·cases hd
theorem PM{tm:Tm}{ops:Array Oper}{o:Oper}{j:Nat}{want b:Bool}{d:Tmp}(hg:o.guard=some (j,want))(hs:JS ops j=some d)(hv:tm.get d=.bool b):AJ ops tm o=(b==want):=by
 unfold AJ Es;unfold JS at hs;split at hs
 ·rename_i o' ho';simp only [hg,ho',hs,hv]
 ·cases hs
theorem RQ{tm:Tm}{ops:Array Oper}{o:Oper}{j:Nat}{want:Bool}{d:Tmp}(hg:o.guard=some (j,want))(hs:JS ops j=some d)(hv:tm.get d=undef):AJ ops tm o=false:=by
 unfold AJ Es;unfold JS at hs;split at hs
 ·rename_i o' ho';simp only [hg,ho',hs,hv];rfl
 ·cases hs
theorem P8{kt kf ku:Nat}{op:Op}{x:Operand}(h:JZ kt kf op=some x){tm:Tm}(hk:Kn kt kf ku tm)(P:Program)(X:Ba){o:Oper}(ho:o.op=op)(A:AW):AD P X (BI tm) o A=.ok (.value (BI tm x)) A:=by
 cases op<;>simp only [JZ] at h<;>try (cases h;done)
 rename_i c a b;split at h
 ·rename_i hc;cases h
  have:=Ek hk hc
  unfold AD;simp only [ho,this]
 ·rename_i hc;cases h
  have:=Ek hk hc
  unfold AD;simp only [ho,this]
 ·cases h
theorem WW{kt kf:Nat}{op:Op}{b:Bool}(hp:JZ kt kf op=none)(h:WX kt kf op=some b):∃ x,(op=.move x∨op=.assign x)∧Jv kt kf x=some b:=by
 cases op<;>simp only [WX] at h<;>try (cases h;done)
 ·exact ⟨_,.inl rfl,h⟩
 ·exact ⟨_,.inr rfl,h⟩
 ·simp only [JZ] at hp;split at h<;>first | (cases h;done) | skip
  ·rename_i hc;rw [hc] at hp;cases hp
  ·rename_i hc;rw [hc] at hp;cases hp
theorem WR{ρ:Operand→Value}{o:Oper}{x:Operand}(hx:o.op=.move x∨o.op=.assign x){A:AW}{K:Value→AW→Prop}(h:opW P X W0 m0 ρ o A K):AD P X ρ o A=.ok (.value (ρ x)) A∧K (ρ x) A:=by
 unfold opW at h;unfold AD;rcases hx with hx | hx
 ·rw [hx] at h ⊢;exact ⟨rfl,h⟩
 ·rw [hx] at h ⊢;exact ⟨rfl,h⟩
variable {fn:FuncId} {T:Nat→List Item} {L:Nat→List Tmp} {S:Nat→List Value→AW→Prop} {Q:Value→AW→Prop} {sz:Nat}
def RA(P:Program)(X:Ba)(W0:World)(m0:Inj P)(fn:FuncId)(T:Nat→List Item)(L:Nat→List Tmp)(S:Nat→List Value→AW→Prop)(Q:Value→AW→Prop)(sz:Nat):Prop:=
 ∀ id vals A tm,S id vals A→tm.sz=sz→(L id).map tm.get=vals→WP P X W0 m0 ⟨frM fn tm (T id) false,[],A⟩ Q
theorem Mb (hX:XOk P X) (hP:POk P) (hp:Plain X) (hsz:sz<Ao) {ro:Option Nat} {cs:List AFr} {Q0:Value→AW→Prop}
  (hl:∀ todo tm ds A j,Leaves todo j→LO P fn ro ds A tm Q j→WP P X W0 m0 ⟨frC fn tm todo false ro ds,cs,A⟩ Q0)
  (hcut:∀ id vals A tm,S id vals A→tm.sz=sz→(L id).map tm.get=vals→WP P X W0 m0 ⟨frC fn tm (T id) false ro [],cs,A⟩ Q0):
  ∀ (n:Nat) (tm:Tm) (todo:List Item) (dr:Bool) (kt kf ku:Nat) (ds:List Nat) (A:AW),tm.sz=sz→Kn kt kf ku tm→Dg P X W0 m0 fn T L S Q ro n tm todo dr kt kf ku ds A→WP P X W0 m0 ⟨frC fn tm todo dr ro ds,cs,A⟩ Q0:=by
 intro n
 induction n with
 |zero=>intro tm todo dr kt kf ku ds A _ _ h;exact h.elim
 |succ n ih=>
  intro tm todo dr kt kf ku ds A hs hk h;unfold Dg at h;split at h
  ·cases dr with
   |true=>exact h.elim
   |false=>exact hl _ _ _ _ _ .off h
  ·cases dr with
   |true=>exact h.elim
   |false=>exact hl _ _ _ _ _ (.ret _) h
  ·
   rename_i k;cases dr with
   |true=>exact h.elim
   |false=>
    cases ro with
    |none=>exact h.elim
    |some l=>
     obtain ⟨r,h1,h2,h3⟩:=h;have e:AX P X ⟨frC fn tm (.beginRound::k) false (some l) ds,cs,A⟩=.next ⟨frC fn tm k false (some l) ds,cs,A.put l (.loop { r with state:=.busy })⟩:=by
      have:AX P X ⟨frC fn tm (.beginRound::k) false (some l) ds,cs,A⟩=(match A.get l with
       |some (.loop r)=>(match r.state with
        |.ready=>.next ⟨frC fn tm k false (some l) ds,cs,A.put l (.loop { r with state:=.busy })⟩
        |_=>.fail "beginRound")
       |_=>.fail "beginRound"):=by rfl
      rw [this,h1];simp only [h2]
     exact BQ hX hP e (ih _ _ _ _ _ _ _ _ hs hk h3)
  ·
   rename_i f ps assign body k;cases dr with
   |true=>exact h.elim
   |false=>
    cases ro with
    |some l=>exact h.elim
    |none=>
     obtain ⟨D,A1,l,A2,hn1,hn2,g,aS,A3,hdy,hwc⟩:=h;have e:AX P X ⟨frC fn tm (.code (.rangeFunc f ps assign body)::k) false none ds,cs,A⟩=(match BI tm f with
       |.func fn' first captured=>AM P (frC fn tm (.inRangeFunc l::k) false none (D::ds)) cs false (BR P X A2 (.fn fn' captured) (first.toList++[.func (.yield l) #[] #[]]))
       |_=>.fail "rangeFunc"):=by
      have:AX P X ⟨frC fn tm (.code (.rangeFunc f ps assign body)::k) false none ds,cs,A⟩=(match (match A.new (.deferred (some [])) with | some (r,w')=>some (r,([{ target:=.collected r,args:=#[] }]:List Deferred),w') | none=>none) with
       |none=>.fail "enterLoop"
       |some (d,mark,w)=>(match w.new (.loop { state:=.ready,pending:=none,fn:=fn,tm:=tm,params:=ps.toList,assign,body,defers:=d }) with
        |none=>.fail "enterLoop"
        |some (l,w)=>(match (frC fn tm (.code (.rangeFunc f ps assign body)::k) false none ds).eval f with
         |.func fn' first captured=>AM P ({ fn:=fn,tm:=tm,todo:=.inRangeFunc l::k,defers:=mark++(ds.map fun D=>{ target:=.collected D,args:=#[] }),mode:=.run,kind:=.normal,roundOf:=none,dr:=false }:AFr) cs false (BR P X w (.fn fn' captured) (first.toList++[.func (.yield l) #[] #[]]))
         |_=>.fail "rangeFunc"))):=by rfl
      rw [this,hn1];simp only [hn2];rw [BN];rfl
     unfold Cu at hdy;cases hf:BI tm f with
     |func fn' first captured=>
      rw [hf] at e hdy;simp only at e hdy;rw [hdy] at e;obtain ⟨fr',he⟩:=Option.isSome_iff_exists.1 hwc.1;have h2:=hwc.2;unfold Q1 at h2;rw [he] at h2;simp only [AM,Cf,he] at e;refine BQ hX hP e (XB (HY he).1 (HY he).2 h2 fun v A4 hk2=>?_);obtain ⟨r,g1,g2,g3⟩:=hk2;have e5:AX P X ⟨(frC fn tm (.inRangeFunc l::k) false none (D::ds)).finish v,cs,A4⟩=.next ⟨frC fn tm (match r.pending with | some c=>.code c::k | none=>k) false none (D::ds),cs,A4.put l (.loop { r with state:=.exhausted })⟩:=by
       have:AX P X ⟨(frC fn tm (.inRangeFunc l::k) false none (D::ds)).finish v,cs,A4⟩=(match A4.get l with
        |some (.loop r)=>(match r.state with
         |.busy=>.fail "endLoop"
         |_=>.next ⟨frC fn tm (match r.pending with | some c=>.code c::k | none=>k) false none (D::ds),cs,A4.put l (.loop { r with state:=.exhausted })⟩)
        |_=>.fail "endLoop"):=by rfl
       rw [this,g1];simp only
      refine BQ hX hP e5 ?_;rcases g3 with ⟨gp,g3⟩ | ⟨gp,g3⟩
      ·rw [show (match r.pending with | some c=>.code c::k | none=>k)=k by rw [gp]];exact ih _ _ _ _ _ _ _ _ hs hk g3
      ·rw [show (match r.pending with | some c=>.code c::k | none=>k)=.code .ret::k by rw [gp]];exact hl _ _ _ _ _ (.ret _) g3
     |_=>rw [hf] at hdy;cases hdy
  ·exact BQ hX hP rfl (ih _ _ _ _ _ _ _ _ hs hk h)
  ·exact BQ hX hP rfl (ih _ _ _ _ _ _ _ _ hs hk h)
  ·exact BQ hX hP rfl (ih _ _ _ _ _ _ _ _ hs hk h)
  ·exact BQ hX hP rfl (ih _ _ _ _ _ _ _ _ hs hk h)
  ·exact BQ hX hP rfl (ih _ _ _ _ _ _ _ _ hs hk h)
  ·
   rename_i c a b k;have e:∀ t,BI tm c=.bool t→AX P X ⟨frC fn tm (.code (.cond c a b)::k) dr ro ds,cs,A⟩=.next ⟨frC fn tm (.code (bif t then a else b)::k) dr ro ds,cs,A⟩:=by
    intro t ht
    have:AX P X ⟨frC fn tm (.code (.cond c a b)::k) dr ro ds,cs,A⟩=(bif DZ fn X.forks then (match (frC fn tm (.code (.cond c a b)::k) dr ro ds).eval c with
     |.bool _=>.branch [⟨frC fn tm (.code a::k) dr ro ds,cs,A⟩,⟨frC fn tm (.code b::k) dr ro ds,cs,A⟩]
     |_=>.fail "cond") else (match (frC fn tm (.code (.cond c a b)::k) dr ro ds).eval c with | .bool t=>.next ⟨frC fn tm (.code (bif t then a else b)::k) dr ro ds,cs,A⟩ | _=>.fail "cond")):=rfl
    rw [this,hp.forks,BN];simp only [DZ,Cf,ht]
   split at h
   ·rename_i hc;exact BQ hX hP (e true (Ek hk hc)) (ih _ _ _ _ _ _ _ _ hs hk h)
   ·rename_i hc;exact BQ hX hP (e false (Ek hk hc)) (ih _ _ _ _ _ _ _ _ hs hk h)
   ·obtain ⟨⟨t,ht⟩,h1,h2⟩:=h;cases t with
    |true=>
     refine BQ hX hP (e true ht) (ih _ _ _ _ _ _ _ _ hs ?_ (h1 ht));cases c with
     |tmp t=>exact hk.true ht
     |_=>exact hk
    |false=>
     refine BQ hX hP (e false ht) (ih _ _ _ _ _ _ _ _ hs ?_ (h2 ht));cases c with
     |tmp t=>exact hk.false ht
     |_=>exact hk
  ·exact BQ hX hP rfl (ih _ _ _ _ _ _ _ _ hs hk h)
  ·exact BQ hX hP rfl (ih _ _ _ _ _ _ _ _ hs hk h)
  ·
   cases dr with
   |true=>exact h.elim
   |false=>
    cases ds with
    |cons D ds=>exact h.elim
    |nil=>
    obtain ⟨h1,h2⟩:=h;refine BQ hX hP rfl ?_
    have:=hcut _ _ A tm h2 hs rfl
    rw [← h1] at this;exact this
  ·cases dr with
   |true=>exact h.elim
   |false=>
    cases ds with
    |cons D ds=>exact h.elim
    |nil=>
    obtain ⟨h1,h2⟩:=h;refine BQ hX hP rfl ?_
    have:=hcut _ _ A tm h2 hs rfl
    rw [← h1] at this;exact this
  ·
   rename_i id k;split at h
   ·rename_i k' hk';have e:AX P X ⟨frC fn tm (.code (.exit id)::k) dr ro ds,cs,A⟩=.next ⟨frC fn tm k' dr ro ds,cs,A⟩:=by
     unfold AX DE;simp only [hk']
    exact BQ hX hP e (ih _ _ _ _ _ _ _ _ hs hk h)
   ·rename_i hx;cases dr with
    |true=>exact h.elim
    |false=>exact hl _ _ _ _ _ (.exit _ _ hx) h
  ·exact BQ hX hP rfl (ih _ _ _ _ _ _ _ _ hs hk h)
  ·
   rename_i id ops k;cases hin:IM tm.sz ops.toList with
   |false=>rw [hin] at h;exact h.elim
   |true=>
    rw [hin,Ct] at h;split at h
    ·rename_i p hpl;have e:AX P X ⟨frC fn tm (.code (.region id ops true)::k) dr ro ds,cs,A⟩=.next ⟨frC fn tm (.inRegion ops p::k) true ro ds,cs,A⟩:=by
      unfold AX;simp only [hin,Ct,hpl]
     exact BQ hX hP e (ih _ _ _ _ _ _ _ _ hs hk h)
    ·exact h.elim
  ·exact BQ hX hP rfl (ih _ _ _ _ _ _ _ _ hs hk h)
  ·
   rename_i ops i rest k;cases hb:(dr&&!Nat.blt i ops.toList.length) with
   |true=>
    rw [hb,Ct] at h;simp only [Bq,Bool.not_eq_true'] at hb;obtain ⟨rfl,hb⟩:=hb;have hge:=Em.1 hb;split at h
    ·exact h.elim
    ·rename_i o ho;split at h
     ·rename_i d hd hw;obtain ⟨h1,h2⟩:=h;refine Hp hge ?_ (ih _ _ _ _ _ _ _ _ hs hk h2);intro o' d' ho' hd';rw [ho] at ho';cases ho';rw [hd] at hd';cases hd';exact ⟨fun _=>h1.symm,fun hw'=>absurd hw' (by rw [JO hk hw];exact Bool.noConfusion)⟩
     ·rename_i d hd hw;cases hq:B0 P o.op with
      |false=>
       rw [hq,Cf] at h;obtain ⟨⟨c,h1,h3⟩,h2⟩:=h;refine Hp hge ?_ (ih _ _ _ _ _ _ _ _ hs hk h2);intro o' d' ho' hd';rw [ho] at ho';cases ho';rw [hd] at hd';cases hd';exact ⟨fun hw'=>absurd hw' (by rw [JO hk hw];exact Bool.noConfusion),fun _=>⟨fun hq'=>absurd hq' (by rw [hq];exact Bool.noConfusion),fun _=>⟨c,h1,h3⟩⟩⟩
      |true=>
       rw [hq,Ct] at h;have fin:∀ A',AD P X (BI tm) o A=.ok (.value (tm.get d)) A'→Valid P X A ops tm (i-ops.toList.length):=by
        intro A' he o' d' ho' hd';rw [ho] at ho';cases ho';rw [hd] at hd';cases hd';exact ⟨fun hw'=>absurd hw' (by rw [JO hk hw];exact Bool.noConfusion),fun _=>⟨fun _=>⟨A',he⟩,fun hq'=>absurd hq' (by rw [hq];exact Bool.noConfusion)⟩⟩
       split at h
       ·rename_i x hpk;obtain ⟨h1,h2⟩:=h;refine Hp hge (fin A ?_) (ih _ _ _ _ _ _ _ _ hs hk h2);rw [← h1];exact P8 hpk hk P X rfl A
       ·rcases Sk (P:=P) (X:=X) (fun f=>rfl) h with ⟨v,A',he,h1,h2⟩ | ⟨A',he,_⟩ | ⟨g,args,A',he,_⟩ | ⟨l,fn',tm',a,b,A',he,_⟩ | ⟨it,A',he,_⟩
        ·refine Hp hge (fin A' ?_) (ih _ _ _ _ _ _ _ _ hs hk h2);rw [← h1];exact he
        ·obtain ⟨_,v,hv⟩:=Ea hq he;cases hv
        ·obtain ⟨_,v,hv⟩:=Ea hq he;cases hv
        ·obtain ⟨_,v,hv⟩:=Ea hq he;cases hv
        ·obtain ⟨_,v,hv⟩:=Ea hq he;cases hv
     ·exact h.elim
   |false=>
    rw [hb,Cf] at h;split at h
    ·exact h.elim
    ·rename_i o ho;simp only at h;have fin:∀ {kt' kf':Nat} {r:Option Bool} {sk:Bool} {v:Value} {A':AW},Kn kt' kf' ku tm→(∀ b,r=some b→v=.bool b)→(sk=true→v=undef)→(match o.dst with
       |some d=>bif Nat.blt d tm.sz then Dg P X W0 m0 fn T L S Q ro n (tm.set d v) (.inRegion ops rest::k) dr (knT kt' d r) (knF kf' d r) (knU ku d sk) ds A' else False
       |none=>Dg P X W0 m0 fn T L S Q ro n tm (.inRegion ops rest::k) dr kt' kf' ku ds A')→
       WP P X W0 m0 ⟨frC fn (match o.dst with | some d=>tm.set d v | none=>tm) (.inRegion ops rest::k) dr ro ds,cs,A'⟩ Q0:=by
      intro kt' kf' r sk v A' hk' hr hu hh;cases hd:o.dst with
      |none=>
       rw [hd] at hh;exact ih _ _ _ _ _ _ _ _ hs hk' hh
      |some d=>
       rw [hd] at hh;simp only at hh ⊢;cases hlt:Nat.blt d tm.sz with
       |false=>rw [hlt] at hh;exact hh.elim
       |true=>
        rw [hlt,Ct] at hh;exact ih _ _ _ _ _ _ _ _ (by rw [Tm.AbI];exact hs) (hk'.set (by omega) (AF.1 hlt) hr hu) hh
     have nf:∀ {v:Value},false=true→v=undef:=fun h=>Bool.noConfusion h;have nn:∀ {v:Value} (b:Bool),(none:Option Bool)=some b→v=.bool b:=fun b h=>by cases h
     have go:∀ {kt' kf':Nat},Kn kt' kf' ku tm→AJ ops tm o=true→(match JZ kt' kf' o.op with
       |some x=>(match o.dst with
        |some d=>bif Nat.blt d tm.sz then Dg P X W0 m0 fn T L S Q ro n (tm.set d (BI tm x)) (.inRegion ops rest::k) dr (knT kt' d (Jv kt' kf' x)) (knF kf' d (Jv kt' kf' x)) (knU ku d false) ds A else False
        |none=>Dg P X W0 m0 fn T L S Q ro n tm (.inRegion ops rest::k) dr kt' kf' ku ds A)
       |none=>opW P X W0 m0 (BI tm) o A fun v A'=>(match o.dst with
        |some d=>bif Nat.blt d tm.sz then Dg P X W0 m0 fn T L S Q ro n (tm.set d v) (.inRegion ops rest::k) dr (knT kt' d (WX kt' kf' o.op)) (knF kf' d (WX kt' kf' o.op)) (knU ku d false) ds A' else False
        |none=>Dg P X W0 m0 fn T L S Q ro n tm (.inRegion ops rest::k) dr kt' kf' ku ds A'))→
       WP P X W0 m0 ⟨frC fn tm (.inRegion ops (i::rest)::k) dr ro ds,cs,A⟩ Q0:=by
      intro kt' kf' hk' hw hh;split at hh
      ·rename_i x hpk;exact Qw hX hP hp ho hb hw (K:=fun v A'=>v=BI tm x∧A'=A) (.inl ⟨_,A,P8 hpk hk' P X rfl A,(⟨rfl,rfl⟩:_∧_)⟩) fun v A' hvA=>by
        obtain ⟨rfl,rfl⟩:=hvA;exact fin (sk:=false) hk' (fun b hb=>Ek hk' hb) nf hh
      ·rename_i hpk;cases hkn:WX kt' kf' o.op with
       |none=>
        rw [hkn] at hh;exact Qw hX hP hp ho hb hw (Sk (fun f=>rfl) hh) fun v A' hv=>fin (r:=none) (sk:=false) hk' nn nf hv
       |some b=>
        obtain ⟨x,hx,hxb⟩:=WW hpk hkn;rw [hkn] at hh;have hb2:=Ek hk' hxb;obtain ⟨h3,h4⟩:=WR (W0:=W0) (m0:=m0) (X:=X) hx hh;rw [hb2] at h3 h4;exact Qw hX hP hp ho hb hw (K:=fun v A'=>v=.bool b∧A'=A) (.inl ⟨_,A,h3,(⟨rfl,rfl⟩:_∧_)⟩) fun v A' hvA=>by
         obtain ⟨rfl,rfl⟩:=hvA;exact fin (r:=some b) (sk:=false) hk' (fun b' hb'=>by cases hb';rfl) nf h4
     split at h
     ·rename_i hg;exact go hk (by unfold AJ;rw [hg]) h
     ·rename_i j want hg;split at h
      ·exact h.elim
      ·rename_i d hsl;have ff:∀ {kt' kf':Nat},Kn kt' kf' ku tm→AJ ops tm o=false→(match o.dst with
         |some d=>bif Nat.blt d tm.sz then Dg P X W0 m0 fn T L S Q ro n (tm.set d undef) (.inRegion ops rest::k) dr (knT kt' d none) (knF kf' d none) (knU ku d true) ds A else False
         |none=>Dg P X W0 m0 fn T L S Q ro n tm (.inRegion ops rest::k) dr kt' kf' ku ds A)→WP P X W0 m0 ⟨frC fn tm (.inRegion ops (i::rest)::k) dr ro ds,cs,A⟩ Q0:=
        fun hk' hw hh=>wp_skip hX hP hp ho hb hw (fin (r:=none) (sk:=true) hk' nn (fun _=>rfl) hh)
       cases hu:ku.testBit d with
       |true=>
        rw [hu,Ct] at h;exact ff hk (RQ hg hsl ((hk d).2.2 hu)) h
       |false=>
        rw [hu,Cf] at h;split at h
        ·rename_i b hkb;have hv:tm.get d=.bool b:=Ek hk hkb;have hw:=PM hg hsl hv;cases hbw:(b==want) with
         |true=>
          rw [hbw,Ct] at h;exact go hk (hw.trans hbw) h
         |false=>
          rw [hbw,Cf] at h;exact ff hk (hw.trans hbw) h
        ·obtain ⟨⟨b,hv⟩,h1,h2⟩:=h;have hw:=PM hg hsl hv;cases b with
         |true=>
          have h1:=h1 hv;cases want with
          |true=>exact go (hk.true hv) hw h1
          |false=>exact ff (hk.true hv) hw h1
         |false=>
          have h2:=h2 hv;cases want with
          |true=>exact ff (hk.false hv) hw h2
          |false=>exact go (hk.false hv) hw h2
  ·exact h.elim
theorem TL (hX:XOk P X) (hP:POk P) (hp:Plain X) (hsz:sz<Ao) (hcut:RA P X W0 m0 fn T L S Q sz) (n:Nat) (tm:Tm) (todo:List Item) (dr:Bool) (kt kf ku:Nat) (A:AW) (hs:tm.sz=sz) (hk:Kn kt kf ku tm)
  (h:Dg P X W0 m0 fn T L S Q none n tm todo dr kt kf ku [] A):WP P X W0 m0 ⟨frM fn tm todo dr,[],A⟩ Q:=
 Mb hX hP hp hsz (ro:=none) (cs:=[]) (Q0:=Q) (fun _ _ _ _ _ hj h=>PL hX hP hj h) hcut n tm todo dr kt kf ku [] A hs hk h
end
def OA(d:Nat→Value):Nat→Trie Value→Trie Value
 |0,t=>t
 |n+1,t=>OA d n (t.put depth n (some (d n)))
def TU(sz:Nat)(d:Nat→Value):Tm:=⟨sz,OA d sz .nil⟩
theorem Ql(d:Nat→Value):∀ (n:Nat) (t:Trie Value) (i:Nat),n≤Ao→i<Ao→(OA d n t).get? i=if i<n then some (d i) else t.get? i
 |0,t,i,_,_=>by simp [OA]
 |n+1,t,i,hn,hi=>by
  unfold OA;rw [Ql d n _ i (by omega) hi,Trie.get?_put depth t n i (some (d n)) (by unfold depth Ao at *;omega)];by_cases h1:i<n
  ·rw [if_pos h1,if_pos (by omega)]
  ·rw [Ff h1];by_cases h2:n=i
   ·subst h2;rw [if_pos rfl,if_pos (by omega)]
   ·rw [Ff (fun e=>h2 e.symm),Ff (by omega)]
section
variable {P:Program} {X:Ba} {W0:World} {m0:Inj P}
theorem XQ{sz:Nat}(hs:sz<Ao)(d:Nat→Value)(i:Nat):(TU sz d).get i=if i<sz then d i else undef:=by
 unfold TU Tm.get;simp only;by_cases hm:i<Ao
 ·rw [Ql d sz .nil i (by omega) hm];by_cases hi:i<sz
  ·rw [if_pos hi,if_pos hi]
  ·rw [Ff hi,Ff hi];rfl
 ·have key:∀ (n:Nat) (t:Trie Value),n≤Ao→t.get? i=none→(OA d n t).get? i=none:=by
   intro n
   induction n with
   |zero=>intro t _ ht;exact ht
   |succ n ih=>
    intro t hn ht;unfold OA;refine ih _ (by omega) ?_;rw [Trie.get?_put depth t n i _ (by unfold depth Ao at *;omega),Ff (by omega)];exact ht
  rw [key sz .nil (by omega) rfl,Ff (by omega)]
theorem XP{m:Inj P}{tm:Tm}{t':Array Value}(h:Da m tm t'):Da m (TU tm.sz tm.get) t':=by
 refine ⟨h.size,h.small,fun i=>?_⟩;rw [XQ h.small];by_cases hi:i<tm.sz
 ·rw [if_pos hi];exact h.val i
 ·have hv:t'.getD i undef=undef:=by
   have:t'.size≤i:=by rw [h.size];omega
   simp [Array.getD,Nat.not_lt.2 this]
  rw [Ff hi,hv];exact DN m
theorem Abq{fn:FuncId}{tm:Tm}{todo:List Item}{ro:Option Nat}{ds:List Nat}{cs:List AFr}{A:AW}{Q:Value→AW→Prop}(h:WP P X W0 m0 ⟨frC fn (TU tm.sz tm.get) todo false ro ds,cs,A⟩ Q):WP P X W0 m0 ⟨frC fn tm todo false ro ds,cs,A⟩ Q:=by
 intro f0 base lo cs0 m f csW w hr ho;refine h f0 base lo cs0 m f csW w ⟨hr.rel,hr.glob,hr.below,⟨⟨hr.top.core.fn,hr.top.core.kind,hr.top.core.kindOk,hr.top.core.mode,hr.top.core.round,hr.top.core.defers⟩,?_⟩,hr.stk,hr.bot.top rfl rfl rfl⟩ ho;cases hr.top.body with
 |plain hd tm' todo'=>exact .plain rfl (XP tm') todo'
 |draw ops S C rl pl rest k k' hd=>cases hd
variable {fn:FuncId} {T:Nat→List Item} {L:Nat→List Tmp} {Q:Value→AW→Prop} {sz N:Nat}
theorem Y9 (hX:XOk P X) (hP:POk P) (hp:Plain X) (hsz:sz<Ao) {ro:Option Nat} {cs:List AFr} {Q0:Value→AW→Prop}
  (hl:∀ todo tm ds A j,Leaves todo j→LO P fn ro ds A tm Q j→WP P X W0 m0 ⟨frC fn tm todo false ro ds,cs,A⟩ Q0) {I:Nat→Nat→List Value→AW→Prop}
  (hbody:∀ g id vals A d,I g id vals A→(L id).map d=vals→Dg P X W0 m0 fn T L (fun id' v' A'=>∃ g',g'<g∧I g' id' v' A') Q ro N (TU sz d) (T id) false 0 0 0 [] A):
  ∀ id vals A tm,(∃ g,I g id vals A)→tm.sz=sz→(L id).map tm.get=vals→WP P X W0 m0 ⟨frC fn tm (T id) false ro [],cs,A⟩ Q0:=by
 have key:∀ g,∀ id vals A tm,I g id vals A→tm.sz=sz→(L id).map tm.get=vals→WP P X W0 m0 ⟨frC fn tm (T id) false ro [],cs,A⟩ Q0:=by
  intro g
  induction g using Nat.strongRecOn with
  |_ g ih=>
   intro id vals A tm hI hs hv;have hb:=hbody g id vals A tm.get hI hv;rw [← hs] at hb;refine Abq (Mb hX hP hp hsz (S:=fun id' v' A'=>∃ g',g'<g∧I g' id' v' A') hl ?_ N _ _ _ _ _ _ _ _ hs (fun t=>by simp) hb);rintro id' v' A' tm' ⟨g',hg,hI'⟩ hs' hv';exact ih g' hg id' v' A' tm' hI' hs' hv'
 rintro id vals A tm ⟨g,hI⟩ hs hv;exact key g id vals A tm hI hs hv
theorem Aar (hX:XOk P X) (hP:POk P) (hp:Plain X) (hsz:sz<Ao) {I:Nat→Nat→List Value→AW→Prop}
  (hbody:∀ g id vals A d,I g id vals A→(L id).map d=vals→Dg P X W0 m0 fn T L (fun id' v' A'=>∃ g',g'<g∧I g' id' v' A') Q none N (TU sz d) (T id) false 0 0 0 [] A):
  RA P X W0 m0 fn T L (fun id v A=>∃ g,I g id v A) Q sz:=
 Y9 hX hP hp hsz (ro:=none) (cs:=[]) (Q0:=Q) (fun _ _ _ _ _ hj h=>PL hX hP hj h) hbody
theorem Vv (hX:XOk P X) (hP:POk P) (hp:Plain X) (hsz:sz<Ao) {S:Nat→List Value→AW→Prop} (hcut:RA P X W0 m0 fn T L S Q sz) {args:List Value} {tm:Tm} {todo:List Item} {A:AW}
  (he:EI P fn args .normal=some (frM fn tm todo false)) (hs:tm.sz=sz) (h:Dg P X W0 m0 fn T L S Q none N tm todo false 0 0 0 [] A):Wc P X W0 m0 fn args A Q:=by
 refine ⟨by rw [he];rfl,?_⟩;unfold Q1;rw [he];exact TL hX hP hp hsz hcut N _ _ _ _ _ _ _ hs (fun t=>by simp) h
theorem Au{S:Nat→List Value→AW→Prop}(h:∀ id v A,¬ S id v A):RA P X W0 m0 fn T L S Q sz:=fun id v A _ hs=>absurd hs (h id v A)
end
section
variable {P:Program}
theorem Ab{v:Value}{K:Value→Prop}:Aa (some v) K↔K v:=⟨fun ⟨_,h,hk⟩=>by cases h;exact hk,fun h=>⟨v,rfl,h⟩⟩
theorem LX{A:AW}{K:AW→Prop}:B5 (some A) K↔K A:=⟨fun ⟨_,h,hk⟩=>by cases h;exact hk,fun h=>⟨A,rfl,h⟩⟩
theorem AU{v:Value}{A:AW}{K:Value→AW→Prop}:Al (.ok v A) K↔K v A:=⟨fun ⟨_,_,h,hk⟩=>by cases h;exact hk,fun h=>⟨v,A,rfl,h⟩⟩
theorem Aj{b:Bool}{p q:Prop}:Ae (.bool b) p q↔(b=true→p)∧(b=false→q):=
 ⟨fun h=>⟨fun e=>h.2.1 (by rw [e]),fun e=>h.2.2 (by rw [e])⟩,fun h=>⟨⟨b,rfl⟩,fun e=>h.1 (by cases e;rfl),fun e=>h.2 (by cases e;rfl)⟩⟩
theorem Ah{c:Prop}[Decidable c]{p q:Prop}:Ae (.bool (decide c)) p q↔(c→p)∧(¬ c→q):=by
 rw [Aj];simp
theorem Aq{a b:Int}{p q:Prop}:Ae (.bool (a==b)) p q↔(a=b→p)∧(a≠b→q):=by
 rw [Aj];simp
theorem AL{a b:Int}{p q:Prop}:Ae (.bool (a != b)) p q↔(a≠b→p)∧(a=b→q):=by
 rw [Aj];simp
theorem Ai{a:List Item}{p:Prop}:AE a a p↔p:=⟨fun h=>h.2,fun h=>⟨rfl,h⟩⟩
theorem BA{a:Value}{p:Prop}:eqW a a p↔p:=⟨fun h=>h.2,fun h=>⟨rfl,h⟩⟩
section
variable {t:TypeId} {xo yo:Operand} {k:IntKind} {a b:Int}
theorem Ar:Af P .lss t xo yo (.int k a) (.int k b)=some (.bool (decide (a<b))):=by simp [Af,binOp,Op.intCmp,quiet,Cj,Av,pure]
theorem CV:Af P .leq t xo yo (.int k a) (.int k b)=some (.bool (decide (a≤b))):=by simp [Af,binOp,Op.intCmp,quiet,Cj,Av,pure]
theorem Bc:Af P .gtr t xo yo (.int k a) (.int k b)=some (.bool (decide (b<a))):=by simp [Af,binOp,Op.intCmp,quiet,Cj,Av,pure]
theorem BL:Af P .geq t xo yo (.int k a) (.int k b)=some (.bool (decide (b≤a))):=by simp [Af,binOp,Op.intCmp,quiet,Cj,Av,pure]
theorem AQ:Af P .eql t xo yo (.int k a) (.int k b)=some (.bool (a==b)):=by simp [Af,binOp,Op.intCmp,quiet,Cj,Av,pure]
theorem AR:Af P .neq t xo yo (.int k a) (.int k b)=some (.bool (a != b)):=by simp [Af,binOp,Op.intCmp,quiet,Cj,Av,pure]
theorem AA:Af P .add t xo yo (.int k a) (.int k b)=some (.int k (k.wrap (a+b))):=by simp [Af,binOp,Op.intArith,quiet,Cj,Av,pure]
theorem Cp:Af P .sub t xo yo (.int k a) (.int k b)=some (.int k (k.wrap (a-b))):=by simp [Af,binOp,Op.intArith,quiet,Cj,Av,pure]
theorem Bo{x:Bool}:unA P .not (.bool x)=some (.bool (!x)):=by simp [unA,Av,Op.unary,quiet,Cj,pure]
theorem Dz{x y:ByteArray}:Af P .eql t xo yo (.string x) (.string y)=some (.bool (x.data.toList==y.data.toList)):=rfl
theorem BP{x y:ByteArray}:Af P .neq t xo yo (.string x) (.string y)=some (.bool !(x.data.toList==y.data.toList)):=rfl
end
theorem wrap_i64{n:Int}(h1: -9223372036854775808≤n)(h2:n<9223372036854775808):IntKind.i64.wrap n=n:=by
 unfold IntKind.wrap;have e:(2^IntKind.i64.bits:Int)=18446744073709551616:=by decide
 have e2:(2^(IntKind.i64.bits-1):Int)=9223372036854775808:=by decide
 have e3:IntKind.i64.signed=true:=rfl;simp only [e,e2,e3,Bool.true_and,decide_eq_true_eq];split<;>omega
theorem Io:∀ l:List UInt8,DP l l=true
 |[]=>rfl
 |a::r=>by simp [DP,Io r]
theorem QC:∀ a:Int,Km a a=true
 |.ofNat a=>Nat.beq_refl a
 |.negSucc a=>Nat.beq_refl a
theorem Ws{n:Nat}{b:Bool}:DX (n+1) (.bool b) (.bool b)=true:=by simp [DX]
theorem NP{n:Nat}{k:IntKind}{a:Int}:DX (n+1) (.int k a) (.int k a)=true:=by simp [DX,QC]
theorem RW{n:Nat}{s:ByteArray}:DX (n+1) (.string s) (.string s)=true:=by simp only [DX,Io]
structure Ext (A A':AW):Prop where
 next:A.next≤A'.next
 get:∀ i,i<A.next→A'.get i=A.get i
 mem:∀ i,i<A.next→A'.members i=A.members i
def AW.push(A:AW)(o:AO):AW:={ (A.put A.next o) with next:=A.next+1 }
theorem AW.B8{A:AW}(o:AO){j:Nat}(h:A.next<Ao):(A.push o).get j=if j=A.next then some o else A.get j:=AW.DJ A A.next j o h
theorem AW.CN(A:AW)(o:AO):(A.push o).next=A.next+1:=rfl
theorem AW.C6{A:AW}(o:AO)(h:A.next<Ao):Ext A (A.push o):=
 ⟨Nat.le_succ _,fun i hi=>by rw [AW.B8 o h,Ff (by omega)],fun i _=>rfl⟩
theorem Aak{A:AW}{cs:List Value}{e:TypeId}(h:A.next<Ao)(hc:cs.all AT=true):Bk A cs e=.ok (.pointer (some ⟨A.next,0,none⟩)) (A.push (.row cs e A.next 0 false)):=by
 unfold Bk AW.newRow AW.new;simp only [hc,Ct,AF.2 h];rfl
theorem B7{k:IntKind}{n:Int}:isTuple (.int k n)=false:=rfl
theorem YO{b:Bool}:isTuple (.bool b)=false:=rfl
theorem BX{b:ByteArray}:isTuple (.string b)=false:=rfl
theorem CC{a:Option Addr}{n c:Nat}:isTuple (.slice a n c)=false:=rfl
theorem AfR{a:Option Addr}:isTuple (.pointer a)=false:=rfl
theorem AfS{a:Option Nat}:isTuple (.map a)=false:=rfl
theorem AfQ{k:IntKind}{n:Int}:AT (.int k n)=true:=rfl
theorem Aej{b:Bool}:AT (.bool b)=true:=rfl
theorem AbY{b:ByteArray}:AT (.string b)=true:=rfl
theorem Adg{a:Option Addr}{n c:Nat}:AT (.slice a n c)=true:=rfl
theorem AfO{a:Option Addr}:AT (.pointer a)=true:=rfl
theorem AfP{a:Option Nat}:AT (.map a)=true:=rfl
theorem Ax{A:AW}{b off:Nat}{cs:List Value}{e f b0:Nat}{ro:Bool}(h:A.get b=some (.row cs e f b0 ro)):A.cell? ⟨b,off,none⟩=cellOf cs off:=by
 unfold AW.cell?;simp only [h]
theorem Bd{A:AW}{b off n:Nat}{cs:List Value}{e f b0:Nat}{ro:Bool}(h:A.get b=some (.row cs e f b0 ro)):A.cells? ⟨b,off,none⟩ n=Bf (cs.drop off) n:=by
 unfold AW.cells?;cases n with
 |zero=>simp [Bf]
 |succ n=>simp only [h]
theorem AK:∀ {cs:List Value} {i:Nat} {v:Value},cs[i]? =some v→isTuple v=false→cellOf cs i=some v
 |[],i,v,h,_=>by simp at h
 |x::r,0,v,h,ht=>by
  simp only [List.getElem?_cons_zero,Oi] at h;subst h;simp [cellOf,ht]
 |x::r,i+1,v,h,ht=>by
  simp only [List.getElem?_cons_succ] at h;simp only [cellOf];exact AK h ht
end
section
variable {P:Program}
structure AH (A:AW):Prop where
 fams:∀ i,A.next≤i→A.fams.get? i=none
 get:∀ i,A.next≤i→A.get i=none
theorem AH.lt{A:AW}(h:AH A){i:Nat}{o:AO}(hi:A.get i=some o):i<A.next:=by
 rcases Nat.lt_or_ge i A.next with h1 | h1
 ·exact h1
 ·rw [h.get i h1] at hi;cases hi
theorem AH.alone{A:AW}(h:AH A){i:Nat}(hi:A.next≤i):A.members i=[i]:=by
 unfold AW.members;rw [h.fams i hi]
theorem AH.push{A:AW}(h:AH A)(o:AO)(hn:A.next<Ao):AH (A.push o):=
 ⟨fun i hi=>h.fams i (by rw [AW.CN] at hi;omega),fun i hi=>by rw [AW.CN] at hi;rw [AW.B8 o hn,Ff (by omega)];exact h.get i (by omega)⟩
structure Made (A A':AW) (cs:List Value) (e:TypeId):Prop where
 ext:Ext A A'
 next:A'.next=A.next+1
 row:A'.get A.next=some (.row cs e A.next 0 false)
 mem:A'.members A.next=[A.next]
 Ap:AH A'
theorem Am{A:AW}{cs:List Value}{e:TypeId}{K:Value→AW→Prop}(hf:AH A)(h:A.next<Ao)(hc:cs.all AT=true)(hk:∀ A',Made A A' cs e→K (.pointer (some ⟨A.next,0,none⟩)) A'):Al (Bk A cs e) K:=by
 rw [Aak h hc];exact AU.2 (hk _ ⟨AW.C6 _ h,rfl,by rw [AW.B8 _ h,if_pos rfl],hf.alone (Nl _),hf.push _ h⟩)
theorem Df {A:AW} {z:Value} {e:TypeId} {K:Value→AW→Prop} (hz:Ci P e=some z) (hf:AH A) (h:A.next<Ao) (hc:z.cells.toList.all AT=true)
  (hk:∀ A',Made A A' z.cells.toList e→K (.pointer (some ⟨A.next,0,none⟩)) A'):Al (BB P A e) K:=by
 unfold BB;rw [hz];exact Am hf h hc hk
theorem IN{l:List Value}{o:Nat}{v:Value}(h:l[o]? =some v):l.drop o=v::l.drop (o+1):=by
 obtain ⟨h1,rfl⟩:=Gs.1 h;exact List.drop_eq_getElem_cons h1
theorem Et{v:Value}{l:List Value}{n:Nat}(h:isTuple v=false):Bf (v::l) (n+1)=(match Bf l n with | some r=>some (v::r) | none=>none):=by
 simp only [Bf,h,Cf];rfl
theorem O7{l:List Value}{o:Nat}{v w:Value}(h1:l[o]? =some v)(h2:l[o+1]? =some w)(t1:isTuple v=false)(t2:isTuple w=false):Bf (l.drop o) 2=some [v,w]:=by
 rw [IN h1,Et t1,IN h2,Et t2];simp [Bf]
def NO:List Value→Nat→List Value→List Value
 |cs,_,[]=>cs
 |cs,o,v::r=>NO (cs.set o v) (o+1) r
structure ML (A A':AW) (b:Nat) (o:AO):Prop where
 row:A'.get b=some o
 get:∀ i,i≠b→A'.get i=A.get i
 next:A'.next=A.next
 fams:A'.fams=A.fams
theorem ML.Ap{A A':AW}{b:Nat}{o o':AO}(h:ML A A' b o)(hf:AH A)(hb:A.get b=some o'):AH A':=
 ⟨fun i hi=>by rw [h.fams];exact hf.fams i (by rw [h.next] at hi;exact hi),fun i hi=>by
  rw [h.next] at hi;have hb:=hf.lt hb;rw [h.get i (by omega)];exact hf.get i hi⟩
theorem ML.mem{A A':AW}{b:Nat}{o:AO}(h:ML A A' b o)(f:Nat):A'.members f=A.members f:=by unfold AW.members;rw [h.fams]
theorem Hz:∀ {new:List Value} {A:AW} {b off:Nat} {cs:List Value} {e f b0:Nat},A.get b=some (.row cs e f b0 false)→A.members f=[b]→off+new.length≤cs.length→new.all AT=true→b<Ao→
  ∃ A',A.setCells ⟨b,off,none⟩ new=some A'∧ML A A' b (.row (NO cs off new) e f b0 false)
 |[],A,b,off,cs,e,f,b0,hg,hm,hl,ho,hb=>⟨A,rfl,hg,fun _ _=>rfl,rfl,rfl⟩
 |v::r,A,b,off,cs,e,f,b0,hg,hm,hl,ho,hb=>by
  simp only [List.all_cons,Bq] at ho;simp only [Lc] at hl;have hble:Nat.ble cs.length off=false:=BZ.2 (by omega);have h1:A.setCell ⟨b,off,none⟩ v=some (A.put b (.row (cs.set off v) e f b0 false)):=by
   unfold AW.setCell;simp only [hg,ho.1,Bool.not_true,Bool.false_or,hble,Cf,hm,CQ,Nat.beq_refl,Ct]
  have hg':(A.put b (.row (cs.set off v) e f b0 false)).get b=some (.row (cs.set off v) e f b0 false):=by rw [AW.DJ A b b _ hb,if_pos rfl]
  obtain ⟨A',h2,h3⟩:=Hz (new:=r) (A:=A.put b (.row (cs.set off v) e f b0 false)) (off:=off+1) hg' hm (by simp;omega) ho.2 hb;refine ⟨A',?_,h3.row,fun i hi=>?_,h3.next,h3.fams⟩
  ·simp only [AW.setCells,h1];exact h2
  ·rw [h3.get i hi,AW.DJ A b i _ hb,Ff hi]
theorem U7 {A:AW} {b off n:Nat} {v:Value} {cs:List Value} {e f b0:Nat} {r:Option AW} {K:AW→Prop} (hr:r=(bif Nat.beq v.cells.toList.length n then A.setCells ⟨b,off,none⟩ v.cells.toList else none))
  (hv:v.cells.toList.length=n) (hg:A.get b=some (.row cs e f b0 false)) (hm:A.members f=[b]) (hl:off+n≤cs.length) (ho:v.cells.toList.all AT=true) (hb:b<Ao)
  (hk:∀ A',ML A A' b (.row (NO cs off v.cells.toList) e f b0 false)→K A'):B5 r K:=by
 obtain ⟨A',h1,h2⟩:=Hz (new:=v.cells.toList) (off:=off) hg hm (by omega) ho hb;rw [hr,hv,Nat.beq_refl,Ct,h1];exact LX.2 (hk A' h2)
end
section
variable {P:Program}
structure MN (lo:Nat) (A:AW) (e:TypeId) (size:Nat) (n:Nat) (cs:List Value) (b f:Nat):Prop where
 pos:0<n
 row:A.get b=some (.row cs e f 0 false)
 len:cs.length=n*size
 lob:lo≤b
 lof:lo≤f
 ltf:f<A.next
 mem:∀ i∈A.members f,lo≤i∧i<A.next∧∃ cs' e' b' ro',A.get i=some (.row cs' e' f b' ro')
def Ac9(lo:Nat)(A:AW)(e:TypeId)(size:Nat)(v:Value)(n:Nat)(cs:List Value):Prop:=
 (v=.slice none 0 0∧n=0∧cs=[])∨∃ b f,v=.slice (some ⟨b,0,none⟩) n (BF+n)∧MN lo A e size n cs b f
theorem FW(coord:Nat):∀ (l:List Nat) (A:AW),(∀ i∈l,i<Ao)→(∀ i,i∉l→(Bz coord l A).get i=A.get i)∧(Bz coord l A).next=A.next∧(Bz coord l A).fams=A.fams
 |[],A,_=>⟨fun _ _=>rfl,rfl,rfl⟩
 |x::r,A,hl=>by
  unfold Bz;split
  ·rename_i cs e fam base ro hx;obtain ⟨h1,h2,h3⟩:=FW coord r (A.put x (.row (BE cs (coord-base)) e fam base ro)) fun i hi=>hl i (by simp [hi]);refine ⟨fun i hi=>?_,h2,h3⟩;simp only [Mk,not_or] at hi;rw [h1 i hi.2,AW.DJ A x i _ (hl x (by simp)),Ff hi.1]
  ·obtain ⟨h1,h2,h3⟩:=FW coord r A fun i hi=>hl i (by simp [hi]);exact ⟨fun i hi=>h1 i (fun h=>hi (by simp [h])),h2,h3⟩
theorem Mf:∀ (l:List Value),DO l l.length=some l
 |[]=>rfl
 |v::r=>by simp [DO,Mf r]
structure ZS (lo:Nat) (A A':AW) (e:TypeId) (size:Nat) (v v':Value) (n m:Nat) (cs new:List Value):Prop where
 own:Ac9 lo A' e size v' (n+m) (cs++new)
 next:A'.next=A.next+1
 Ap:AH A'
 get:∀ i,i<A.next→(∀ b f,v=.slice (some ⟨b,0,none⟩) n (BF+n)→MN lo A e size n cs b f→i∉A.members f)→A'.get i=A.get i
 mem:∀ g,g<A.next→(∀ b f,v=.slice (some ⟨b,0,none⟩) n (BF+n)→MN lo A e size n cs b f→g≠f)→A'.members g=A.members g
 fam:∀ b' f',v'=.slice (some ⟨b',0,none⟩) (n+m) (BF+(n+m))→MN lo A' e size (n+m) (cs++new) b' f'→f'=A.next∨∃ b,v=.slice (some ⟨b,0,none⟩) n (BF+n)∧MN lo A e size n cs b f'
theorem MK {A:AW} {t t2 e:TypeId} {size bytes:Nat} {x:Value} {m:Nat} {new:List Value} (ht:BJ P t=some e) (hs:szT P e=some (size+1)) (hb:Gp P e=some bytes)
  (hx:Cm P A e t2 (size+1) x=some (m+1,new)) (hroom:(Nat.blt (0+(m+1)) room&&Nat.blt ((0+(m+1))*bytes) room&&D5 P e (size+1))=true) (hmax:A.next<Ao):
  Bh P A t t2 (.slice none 0 0) x=.ok (.slice (some ⟨A.next,0,none⟩) (0+(m+1)) (BF+(0+(m+1)))) (A.push (.row new e A.next 0 false)):=by
 unfold Bh;simp only [ht,hs,hb,hx];rw [hroom];simp only [Bool.not_true,Cf];have h1:Nat.ble BF 0=false:=rfl;have h2:Nat.ble (0+(m+1)) 0=false:=BZ.2 (by omega);simp only [h1,Cf,h2,List.nil_append];unfold AW.new;simp only [AF.2 hmax,Ct];rfl
theorem Ru {A B:AW} {t t2 e:TypeId} {size bytes:Nat} {x:Value} {n m c b f:Nat} {cs new:List Value} {a':Addr} (ht:BJ P t=some e) (hs:szT P e=some (size+1)) (hb:Gp P e=some bytes)
  (hx:Cm P A e t2 (size+1) x=some (m+1,new)) (hroom:(Nat.blt (n+(m+1)) room&&Nat.blt ((n+(m+1))*bytes) room&&D5 P e (size+1))=true) (h1:Nat.ble BF c=true) (h2:Nat.ble (n+(m+1)) (c-BF)=false)
  (hrow:A.get b=some (.row cs e f 0 false)) (hone:new.all AT=true) (hold:A.C9 ⟨b,0,none⟩ (n*(size+1))=some cs)
  (hni:(Bz (n*(size+1)) (A.members f) A).Iy (cs++new) e f 0=some (a',B)):
  Bh P A t t2 (.slice (some ⟨b,0,none⟩) n c) x=.ok (.slice (some a') (n+(m+1)) (BF+(n+(m+1)))) B:=by
 unfold Bh;simp only [ht,hs,hb,hx];rw [hroom];simp only [Bool.not_true,Cf];generalize hlb:(bif Nat.ble BF c then c-BF else c)=lb;have hz:Nat.ble (n+(m+1)) lb=false:=by
  rw [h1,Ct] at hlb;rw [← hlb];exact h2
 clear hlb h2;have hbe:Nat.beq e e=true:=Nat.beq_refl e;simp only [hz,h1,Cf,Ct,hrow,hbe,hone,Bool.and_self,Bool.not_true];rw [hold];have hc:(0+0+n*(size+1))=n*(size+1):=by omega
 simp only [hc,Nat.add_zero,hni]
theorem Vn {lo:Nat} {A:AW} {t t2 e:TypeId} {size bytes:Nat} {v x:Value} {n m:Nat} {cs new:List Value} (ht:BJ P t=some e) (hs:szT P e=some (size+1)) (hb:Gp P e=some bytes)
  (hz:D5 P e (size+1)=true) (hx:Cm P A e t2 (size+1) x=some (m+1,new)) (hnew:new.length=(m+1)*(size+1)) (hone:new.all AT=true) (h:Ac9 lo A e (size+1) v n cs) (hf:AH A) (hlo:lo≤A.next)
  (hmax:A.next<Ao) (hr1:n+(m+1)<room) (hr2:(n+(m+1))*bytes<room):∃ v' A',Bh P A t t2 v x=.ok v' A'∧ZS lo A A' e (size+1) v v' n (m+1) cs new:=by
 have hroom:(Nat.blt (n+(m+1)) room&&Nat.blt ((n+(m+1))*bytes) room&&D5 P e (size+1))=true:=by rw [AF.2 hr1,AF.2 hr2,hz];rfl
 rcases h with ⟨rfl,rfl,rfl⟩ | ⟨b,f,rfl,h⟩
 ·refine ⟨.slice (some ⟨A.next,0,none⟩) (0+(m+1)) (BF+(0+(m+1))),A.push (.row new e A.next 0 false),?_,?_⟩
  ·exact MK ht hs hb hx hroom hmax
  ·have hfp:=hf.push (.row new e A.next 0 false) hmax;have hrow:(A.push (.row new e A.next 0 false)).get A.next=some (.row new e A.next 0 false):=by rw [AW.B8 _ hmax,if_pos rfl]
   refine ⟨.inr ⟨A.next,A.next,rfl,by omega,by rw [hrow];rfl,by simp only [List.nil_append,hnew,Nat.zero_add],hlo,hlo,by rw [AW.CN];omega,fun i hi=>?_⟩,rfl,hfp,fun i hi _=>by rw [AW.B8 _ hmax,Ff (by omega)],fun g hg _=>rfl,fun b' f' hv ho=>?_⟩
   ·have:(A.push (.row new e A.next 0 false)).members A.next=[A.next]:=hf.alone (Nl _)
    rw [this] at hi;obtain rfl:i=A.next:=by simpa using hi
    exact ⟨hlo,by rw [AW.CN];omega,_,_,_,_,hrow⟩
   ·simp only [Value.slice.injEq,Oi,Addr.mk.injEq] at hv;obtain ⟨⟨rfl,_⟩,_⟩:=hv
    have:=ho.row
    rw [hrow] at this;simp only [Oi,AO.row.injEq] at this;exact .inl this.2.2.1.symm
 ·have hmemlt:∀ i∈A.members f,i<Ao:=fun i hi=>by have:=(h.mem i hi).2.1;omega
  obtain ⟨p1,p2,p3⟩:=FW (n*(size+1)) (A.members f) A hmemlt;let A1:=Bz (n*(size+1)) (A.members f) A;have hA1:A1.next=A.next:=p2;let A2:AW:={ (A1.push (.row (cs++new) e f 0 false)) with fams:=(A1.push (.row (cs++new) e f 0 false)).fams.put depth f (some (A1.next::A1.members f)) };have hm1:∀ g,A1.members g=A.members g:=fun g=>by unfold AW.members;rw [show A1.fams=A.fams from p3]
  have hget2:∀ i,A2.get i=if i=A.next then some (.row (cs++new) e f 0 false) else A1.get i:=by
   intro i;show (A1.push _).get i=_;rw [AW.B8 _ (by rw [hA1];exact hmax),hA1]
  have hltf:=h.ltf;have hmem2:∀ g,g<Ao→A2.members g=if g=f then A.next::A.members f else A.members g:=by
   intro g hg;show (match ((A1.push (.row (cs++new) e f 0 false)).fams.put depth f (some (A1.next::A1.members f))).get? g with | some l=>l | none=>[g])=_;rw [Trie.get?_put depth _ f g _ (by unfold depth Ao at *;omega)];by_cases hgf:g=f
   ·rw [if_pos hgf,if_pos hgf,hm1,hA1]
   ·rw [Ff hgf,Ff hgf,← hm1 g];rfl
  have hnext2:A2.next=A.next+1:=by show A1.next+1=_;rw [hA1]
  refine ⟨.slice (some ⟨A.next,0,none⟩) (n+(m+1)) (BF+(n+(m+1))),A2,?_,?_⟩
  ·have hold:A.C9 ⟨b,0,none⟩ (n*(size+1))=some cs:=by
    unfold AW.C9;obtain ⟨k,hk⟩:∃ k,n*(size+1)=k+1:=⟨n*(size+1)-1,by have:0<n*(size+1):=Nat.mul_pos h.pos (by omega);omega⟩;rw [hk];simp only [h.row,List.drop_zero];rw [← hk,← h.len];exact Mf cs
   have hni:(Bz (n*(size+1)) (A.members f) A).Iy (cs++new) e f 0=some (⟨A1.next,0,none⟩,A2):=by
    unfold AW.Iy AW.new
    have:Nat.blt (Bz (n*(size+1)) (A.members f) A).next Ao=true:=AF.2 (by rw [p2];exact hmax)
    simp only [this,Ct];rfl
   rw [hA1] at hni;exact Ru ht hs hb hx hroom (BO.2 (Nat.le_add_right _ _)) (BZ.2 (by rw [Nat.add_sub_cancel_left];omega)) h.row hone hold hni
  ·have hnot:A.next∉A.members f:=fun hi=>by have:=(h.mem _ hi).2.1;omega
   have hrow:A2.get A.next=some (.row (cs++new) e f 0 false):=by rw [hget2,if_pos rfl]
   have hfam:∀ i∈A.members f,∃ cs' e' b' ro',A1.get i=some (.row cs' e' f b' ro'):=by
    have key:∀ (l:List Nat) (B:AW),(∀ i∈l,i<Ao)→∀ i,(∃ cs' e' b' ro',B.get i=some (.row cs' e' f b' ro'))→∃ cs' e' b' ro',(Bz (n*(size+1)) l B).get i=some (.row cs' e' f b' ro'):=by
     intro l
     induction l with
     |nil=>intro B _ i hi;exact hi
     |cons x r ih=>
      intro B hl i hi;unfold Bz;refine ih _ (fun j hj=>hl j (by simp [hj])) i ?_;split
      ·rename_i cs2 e2 f2 b2 ro2 hx2;rw [AW.DJ B x i _ (hl x (by simp))];by_cases hix:i=x
       ·subst hix;obtain ⟨cs',e',b',ro',hi⟩:=hi;rw [hx2] at hi;simp only [Oi,AO.row.injEq] at hi;rw [if_pos rfl];exact ⟨_,_,_,_,by rw [hi.2.2.1]⟩
       ·rw [Ff hix];exact hi
      ·exact hi
    intro i hi;obtain ⟨_,_,h3⟩:=h.mem i hi;exact key _ _ hmemlt i h3
   refine ⟨.inr ⟨A.next,f,rfl,by omega,hrow,by rw [List.length_append,h.len,hnew,← Nat.add_mul],hlo,h.lof,by rw [hnext2];omega,fun i hi=>?_⟩,hnext2,⟨fun i hi=>?_,fun i hi=>?_⟩,fun i hi hnf=>?_,fun g hg hgf=>?_,fun b' f' hv ho=>?_⟩
   ·rw [hmem2 f (by omega),if_pos rfl,Mk] at hi;rcases hi with rfl | hi
    ·exact ⟨hlo,by rw [hnext2];omega,_,_,_,_,hrow⟩
    ·obtain ⟨g1,g2,_⟩:=h.mem i hi;obtain ⟨cs',e',b',ro',g3⟩:=hfam i hi;exact ⟨g1,by rw [hnext2];omega,cs',e',b',ro',by rw [hget2,Ff (by omega)];exact g3⟩
   ·rw [hnext2] at hi;show ((A1.push (.row (cs++new) e f 0 false)).fams.put depth f (some (A1.next::A1.members f))).get? i=none;rw [Trie.get?_put depth _ f i _ (by unfold depth Ao at *;omega),Ff (by omega)];show A1.fams.get? i=none;rw [show A1.fams=A.fams from p3];exact hf.fams i (by omega)
   ·rw [hnext2] at hi;rw [hget2,Ff (by omega)];show (Bz _ _ A).get i=none;rw [p1 i (fun hm=>by have:=(h.mem i hm).2.1;omega)];exact hf.get i (by omega)
   ·rw [hget2,Ff (by omega)];exact p1 i (hnf b f rfl h)
   ·rw [hmem2 g (by omega),Ff (hgf b f rfl h)]
   ·simp only [Value.slice.injEq,Oi,Addr.mk.injEq] at hv;obtain ⟨⟨rfl,_⟩,_⟩:=hv
    have:=ho.row
    rw [hrow] at this;simp only [Oi,AO.row.injEq] at this;obtain ⟨_,_,rfl,_⟩:=this;exact .inr ⟨b,rfl,h⟩
end
section
variable {P:Program}
theorem CF{α β:Type}(k:α→Sem β):∀ s:Sem α,quiet P (s.bind k)=(quiet P s).bind fun a=>quiet P (k a)
 |.pure a=>rfl
 |.program f=>CF k (f P)
 |.mark _ f=>by
  show quiet P (f.bind k)=_;exact CF k f
 |.load .. =>rfl
 |.store .. =>rfl
 |.new .. =>rfl
 |.shape .. =>rfl
 |.freeze .. =>rfl
 |.frozen .. =>rfl
 |.getObj .. =>rfl
 |.setObj .. =>rfl
 |.choose .. =>rfl
 |.sys .. =>rfl
 |.halt _=>rfl
theorem Sc{α β:Type}(s:Sem α)(k:α→Sem β):quiet P (s >>=k)=(quiet P s).bind fun a=>quiet P (k a):=CF k s
theorem HD(d:Nat)(t:TypeId)(xs ys:Array Value)(ht:quiet P (underlying t)=some (.struct (P.fieldsOf t)))(hp:P.stoodInHeld t=false):
  quiet P (Op.equalIn (d+1) t (.agg xs) (.agg ys))=quiet P (Op.eqFields d xs ys (P.fieldsOf t).toList):=by
 simp only [Op.equalIn];show quiet P (Sem.bind _ _)=_;rw [CF,ht];simp only [Option.bind_some];show quiet P (Sem.bind _ _)=_;rw [CF];show (some P).bind _=_;simp only [Option.bind_some,hp,Bool.false_eq_true,if_false];rw [← Array.forIn_toList];generalize (P.fieldsOf t).toList=fs;clear ht
 induction fs with
 |nil=>simp [Op.eqFields]
 |cons f fs ih=>
  simp only [List.forIn_cons,Op.eqFields];split
  ·simp only [Sc,Option.bind_assoc] at ih ⊢
   congr 1
   funext a
   congr 1
   funext b
   congr 1
   funext r
   cases r
   ·rfl
   ·exact ih
  ·exact ih
theorem Kt(d:Nat)(t:TypeId)(k k':IntKind)(a b:Int)(h:quiet P (underlying t)=some (.int k')):quiet P (Op.equalIn (d+1) t (.int k a) (.int k b))=some (a==b):=by
 simp only [Op.equalIn];show quiet P (Sem.bind _ _)=_;rw [CF,h];simp only [Option.bind_some,if_true];rfl
theorem Pb(d:Nat)(t:TypeId)(a b:Bool)(h:quiet P (underlying t)=some .bool):quiet P (Op.equalIn (d+1) t (.bool a) (.bool b))=some (a==b):=by
 simp only [Op.equalIn];show quiet P (Sem.bind _ _)=_;rw [CF,h];rfl
theorem MQ(d:Nat)(t:TypeId)(a b:ByteArray)(h:quiet P (underlying t)=some .string):quiet P (Op.equalIn (d+1) t (.string a) (.string b))=some (a==b):=by
 simp only [Op.equalIn];show quiet P (Sem.bind _ _)=_;rw [CF,h];rfl
end
section
variable {P:Program}
def Y0(i:Nat):AO→Nat
 |.row _ _ f _ _=>f
 |_=>i
structure Bs (A A':AW) (S:List Nat):Prop where
 next:A.next≤A'.next
 get:∀ i o,A.get i=some o→Y0 i o<A.next→Y0 i o∉S→A'.get i=some o
 mem:∀ f,f<A.next→f∉S→A'.members f=A.members f
theorem Bs.refl(A:AW)(S:List Nat):Bs A A S:=⟨Nl _,fun _ _ h _ _=>h,fun _ _ _=>rfl⟩
theorem Bs.trans{A B C:AW}{S T:List Nat}(h:Bs A B S)(k:Bs B C T)(hT:∀ x∈T,x∈S∨A.next≤x):Bs A C S:=
 ⟨Nat.le_trans h.next k.next,fun i o hi hlt hn=>k.get i o (h.get i o hi hlt hn) (Nat.lt_of_lt_of_le hlt h.next) (fun hm=>by
  rcases hT _ hm with h1 | h1
  ·exact hn h1
  ·omega),fun f hf hn=>by
  rw [k.mem f (Nat.lt_of_lt_of_le hf h.next) (fun hm=>by
   rcases hT _ hm with h1 | h1
   ·exact hn h1
   ·omega),h.mem f hf hn]⟩
theorem Bs.more{A B:AW}{S T:List Nat}(h:Bs A B S)(hs:∀ x∈S,x∈T∨A.next≤x):Bs A B T:=
 ⟨h.next,fun i o hi hlt hn=>h.get i o hi hlt (fun hm=>by
  rcases hs _ hm with h1 | h1
  ·exact hn h1
  ·omega),fun f hf hn=>h.mem f hf (fun hm=>by
  rcases hs _ hm with h1 | h1
  ·exact hn h1
  ·omega)⟩
theorem Ext.keeps{A A':AW}(h:Ext A A')(hf:AH A):Bs A A' []:=
 ⟨h.next,fun i o hi _ _=>by rw [h.get i (hf.lt hi)];exact hi,fun f hf _=>h.mem f hf⟩
theorem Made.keeps{A A':AW}{cs:List Value}{e:TypeId}(m:Made A A' cs e)(hf:AH A):Bs A A' []:=m.ext.keeps hf
structure Row1 (A:AW) (b:Nat) (cs:List Value) (e:TypeId):Prop where
 row:A.get b=some (.row cs e b 0 false)
 mem:A.members b=[b]
 lt:b<A.next
theorem Made.AS{A A':AW}{cs:List Value}{e:TypeId}(m:Made A A' cs e):Row1 A' A.next cs e:=⟨m.row,m.mem,by rw [m.next];omega⟩
theorem Row1.keeps{A A':AW}{b:Nat}{cs:List Value}{e:TypeId}{S:List Nat}(h:Row1 A b cs e)(k:Bs A A' S)(hn:b∉S):Row1 A' b cs e:=
 ⟨k.get b _ h.row h.lt hn,by rw [k.mem b h.lt hn];exact h.mem,Nat.lt_of_lt_of_le h.lt k.next⟩
theorem ML.keeps{A A':AW}{b f:Nat}{o:AO}{cs:List Value}{e b0:Nat}{ro:Bool}(w:ML A A' b o)(h:A.get b=some (.row cs e f b0 ro)):Bs A A' [f]:=
 ⟨by rw [w.next];exact Nl _,fun i o hi _ hn=>by
  by_cases hib:i=b
  ·subst hib;rw [h] at hi;cases hi;exact absurd (Ms.2 rfl) hn
  ·rw [w.get i hib];exact hi,fun f _ _=>w.mem f⟩
theorem Row1.store {A:AW} {b off n:Nat} {v:Value} {cs:List Value} {e:TypeId} {r:Option AW} {K:AW→Prop} (h:Row1 A b cs e) (hf:AH A) (hb:A.next≤Ao)
  (hr:r=(bif Nat.beq v.cells.toList.length n then A.setCells ⟨b,off,none⟩ v.cells.toList else none)) (hv:v.cells.toList.length=n) (hl:off+n≤cs.length) (ho:v.cells.toList.all AT=true)
  (hk:∀ A',Row1 A' b (NO cs off v.cells.toList) e→Bs A A' [b]→A'.next=A.next→AH A'→K A'):B5 r K:=by
 have hlt:=h.lt;refine U7 hr hv h.row h.mem hl ho (by omega) fun A' w=>?_;exact hk A' ⟨w.row,by rw [w.mem];exact h.mem,by rw [w.next];exact h.lt⟩ (w.keeps h.row) w.next (w.Ap hf h.row)
def IX(A:AW)(e:TypeId)(size:Nat)(v:Value)(n:Nat)(cs:List Value)(F:List Nat):Prop:=
 (v=.slice none 0 0∧n=0∧cs=[]∧F=[])∨∃ b f,v=.slice (some ⟨b,0,none⟩) n (BF+n)∧MN 0 A e size n cs b f∧F=[f]
theorem IX.nil(A:AW)(e:TypeId)(size:Nat):IX A e size (.slice none 0 0) 0 [] []:=.inl ⟨rfl,rfl,rfl,rfl⟩
theorem IX.AhJ{A:AW}{e:TypeId}{size:Nat}{v:Value}{n:Nat}{cs:List Value}{F:List Nat}(h:IX A e size v n cs F):Ac9 0 A e size v n cs:=by
 rcases h with ⟨h1,h2,h3,_⟩ | ⟨b,f,h1,h2,_⟩
 ·exact .inl ⟨h1,h2,h3⟩
 ·exact .inr ⟨b,f,h1,h2⟩
theorem IX.lt{A:AW}{e:TypeId}{size:Nat}{v:Value}{n:Nat}{cs:List Value}{F:List Nat}(h:IX A e size v n cs F):∀ x∈F,x<A.next:=by
 rcases h with ⟨_,_,_,rfl⟩ | ⟨b,f,_,h2,rfl⟩
 ·intro x hx;simp at hx
 ·intro x hx;obtain rfl:x=f:=by simpa using hx
  exact h2.ltf
theorem IX.keeps{A A':AW}{e:TypeId}{size:Nat}{v:Value}{n:Nat}{cs:List Value}{F S:List Nat}(h:IX A e size v n cs F)(k:Bs A A' S)(hd:∀ x∈F,x∉S):IX A' e size v n cs F:=by
 rcases h with h | ⟨b,f,rfl,h,rfl⟩
 ·exact .inl h
 ·have hfs:f∉S:=hd f (by simp);refine .inr ⟨b,f,rfl,⟨h.pos,k.get b _ h.row h.ltf hfs,h.len,Nat.zero_le _,Nat.zero_le _,Nat.lt_of_lt_of_le h.ltf k.next,fun i hi=>?_⟩,rfl⟩;rw [k.mem f h.ltf hfs] at hi;obtain ⟨_,h2,cs',e',b',ro',h3⟩:=h.mem i hi;exact ⟨Nat.zero_le _,Nat.lt_of_lt_of_le h2 k.next,cs',e',b',ro',k.get i _ h3 h.ltf hfs⟩
theorem Wf {A:AW} {t t2 e:TypeId} {size bytes:Nat} {v x:Value} {n m:Nat} {cs new:List Value} {F:List Nat} (ht:BJ P t=some e) (hs:szT P e=some (size+1)) (hb:Gp P e=some bytes)
  (hz:D5 P e (size+1)=true) (hx:Cm P A e t2 (size+1) x=some (m+1,new)) (hnew:new.length=(m+1)*(size+1)) (hone:new.all AT=true) (h:IX A e (size+1) v n cs F) (hf:AH A)
  (hmax:A.next<Ao) (hr1:n+(m+1)<room) (hr2:(n+(m+1))*bytes<room) {K:Value→AW→Prop}
  (hk:∀ v' A' F',IX A' e (size+1) v' (n+(m+1)) (cs++new) F'→Bs A A' F→(∀ x∈F',x∈F∨x=A.next)→A'.next=A.next+1→AH A'→K v' A'):Al (Bh P A t t2 v x) K:=by
 obtain ⟨v',A',h1,a⟩:=Vn (P:=P) ht hs hb hz hx hnew hone h.AhJ hf (Nat.zero_le _) hmax hr1 hr2;rw [h1];refine AU.2 ?_;have hfam:∀ b f,v=.slice (some ⟨b,0,none⟩) n (BF+n)→MN 0 A e (size+1) n cs b f→f∈F:=by
  intro b f hv ho;rcases h with ⟨h1,_⟩ | ⟨b',f',h1,h2,rfl⟩
  ·rw [h1] at hv;cases hv
  ·rw [h1] at hv;simp only [Value.slice.injEq,Oi,Addr.mk.injEq] at hv;obtain ⟨⟨rfl,_⟩,_⟩:=hv
   have:=ho.row
   rw [h2.row] at this;simp only [Oi,AO.row.injEq] at this;simp [this.2.2.1]
 have hkeep:Bs A A' F:=⟨by rw [a.next];omega,fun i o hi hlt hn=>by
   rw [a.get i (hf.lt hi) (fun b f hv ho him=>?_)]
   ·exact hi
   ·obtain ⟨_,_,cs',e',b',ro',h3⟩:=ho.mem i him;rw [hi] at h3;cases h3;exact hn (hfam b f hv ho),fun g hg hn=>a.mem g hg fun b f hv ho hgf=>hn (hgf▸hfam b f hv ho)⟩
 rcases a.own with ⟨_,h2,_⟩ | ⟨b,f,h2,h3⟩
 ·omega
 ·refine hk v' A' [f] (.inr ⟨b,f,h2,h3,rfl⟩) hkeep (fun x hx=>?_) a.next a.Ap;obtain rfl:x=f:=by simpa using hx
  rcases a.fam b x h2 h3 with h4 | ⟨b',h4,h5⟩
  ·exact .inr h4
  ·exact .inl (hfam b' x h4 h5)
structure TE (A:AW) (r:Nat) (es:List MapEntry) (c:Nat):Prop where
 row:A.get r=some (.map es c false)
 lt:r<A.next
theorem TE.keeps{A A':AW}{r:Nat}{es:List MapEntry}{c:Nat}{S:List Nat}(h:TE A r es c)(k:Bs A A' S)(hn:r∉S):TE A' r es c:=
 ⟨k.get r _ h.row h.lt hn,Nat.lt_of_lt_of_le h.lt k.next⟩
theorem TE.put{A:AW}{r:Nat}{es es':List MapEntry}{c c':Nat}(h:TE A r es c)(hf:AH A)(hb:A.next≤Ao):TE (A.put r (.map es' c' false)) r es' c'∧Bs A (A.put r (.map es' c' false)) [r]∧(A.put r (.map es' c' false)).next=A.next∧AH (A.put r (.map es' c' false)):=by
 have hlt:=h.lt;have hg:∀ i,(A.put r (.map es' c' false)).get i=if i=r then some (.map es' c' false) else A.get i:=fun i=>AW.DJ A r i _ (by omega)
 refine ⟨⟨by rw [hg,if_pos rfl],hlt⟩,⟨Nl _,fun i o hi _ hn=>?_,fun f _ _=>rfl⟩,rfl,⟨hf.fams,fun i hi=>?_⟩⟩
 ·rw [hg,Ff (fun e=>?_)]
  ·exact hi
  ·subst e;rw [h.row] at hi;cases hi;exact hn (Ms.2 rfl)
 ·have hi:A.next≤i:=hi;rw [hg,Ff (by omega)];exact hf.get i hi
theorem Ab1{A:AW}{K:Value→AW→Prop}(hf:AH A)(h:A.next<Ao)(hk:∀ A',TE A' A.next [] 0→Bs A A' []→A'.next=A.next+1→AH A'→K (.map (some A.next)) A'):Al (GC A) K:=by
 have e:GC A=.ok (.map (some A.next)) (A.push (.map [] 0 false)):=by
  unfold GC AW.new;simp only [AF.2 h,Ct];rfl
 rw [e];exact AU.2 (hk _ ⟨by rw [AW.B8 _ h,if_pos rfl],by rw [AW.CN];omega⟩ ((AW.C6 _ h).keeps hf) rfl (hf.push _ h))
end
def Uf(P:Program)(w:AW)(t:TypeId)(x:Value):R AN:=match P.underlying t,x with
  |some .string,.string s=>(match w.new (.sit s 0) with | some (b,w)=>.ok (.value (.pointer (some ⟨b,0,none⟩))) w | none=>.fail "range")
  |some (.map _ _),.map none=>(match w.new (.mit none 0 [] 0) with | some (b,w)=>.ok (.value (.pointer (some ⟨b,0,none⟩))) w | none=>.fail "range")
  |some (.map _ _),.map (some m)=>(match w.get m with
   |some (.map _ clock _)=>(match w.new (.mit (some m) clock [] clock) with | some (b,w)=>.ok (.value (.pointer (some ⟨b,0,none⟩))) w | none=>.fail "range")
   |_=>.fail "range")
  |_,_=>.fail "range"
end Go.Abs
namespace Go.Proofs.YtdpdajpiadohjaaGreatDoor
open Go.Abs
abbrev pP(b o:Nat):Value:=.pointer (some ⟨b,o,none⟩)
noncomputable abbrev Tp:Program:=Tryz.prog
def Tz:Nat→List Item:=fun _=>[]
def Lz:Nat→List Tmp:=fun _=>[]
def Ak:Ba:={ clone:=[],noEscape:=[],noZero:=[],known:=[7,54,60,86,87,88,128,156] }
def sub:Code→List Nat→Code
 |c,[]=>c
 |.seq a _,0::p=>sub a p
 |.seq _ b,_::p=>sub b p
 |.cond _ a _,0::p=>sub a p
 |.cond _ _ b,_::p=>sub b p
 |.block _ b,_::p=>sub b p
 |.loop b,_::p=>sub b p
 |.rangeFunc _ _ a _,0::p=>sub a p
 |.rangeFunc _ _ _ b,_::p=>sub b p
 |.scope b,_::p=>sub b p
 |c,_=>c
noncomputable def cd(f:FuncId)(p:List Nat):Code:=match Tp.funcs[f]? with
 |some fn=>(match fn.body with | some c=>sub c p | none=>.skip)
 |none=>.skip
theorem gX:XOk Tp Ak:=⟨fun f h=>by simp [Ak,DZ] at h,fun f h=>by simp [Ak,DZ] at h,fun f h=>by simp [Ak,DZ] at h⟩
theorem gP:POk Tp:=Ym (by kernel_rfl) (by kernel_rfl)
theorem Ou:Plain Ak:=⟨rfl,rfl,rfl⟩
def gE(W0:World)(m0:Inj Tp)(S:Nat→List Value→AW→Prop)(Q:Value→AW→Prop)(f sz:Nat)(T:Nat→List Item)(L:Nat→List Tmp)(aS:List Value)(A:AW):Prop:=Dg Tp Ak W0 m0 f T L S Q none 4000 (Tm.fill ⟨sz,.nil⟩ 0 aS) [.code (cd f [])] false 0 0 0 [] A
def gL(W0:World)(m0:Inj Tp)(S:Nat→List Value→AW→Prop)(Q:Value→AW→Prop)(f sz:Nat)(T:Nat→List Item)(L:Nat→List Tmp)(d:Nat→Value)(id:Nat)(A:AW):Prop:=Dg Tp Ak W0 m0 f T L S Q none 4000 (TU sz d) (T id) false 0 0 0 [] A
def Wf1(f sz:Nat)(T:Nat→List Item)(L:Nat→List Tmp):Prop:=∀ {W0:World} {m0:Inj Tp} {S:Nat→List Value→AW→Prop} {Q:Value→AW→Prop} (a0:Value) (A:AW),RA Tp Ak W0 m0 f T L S Q sz→gE W0 m0 S Q f sz T L [a0] A→Wc Tp Ak W0 m0 f [a0] A Q
theorem wf1{f sz:Nat}{T:Nat→List Item}{L:Nat→List Tmp}(n:∀ (a0:Value),EI Tp f [a0] .normal=some (frM f (Tm.fill ⟨sz,.nil⟩ 0 [a0]) [.code (cd f [])] false))(hs:sz<Ao)(hz:∀ (a0:Value),(Tm.fill ⟨sz,.nil⟩ 0 [a0]).sz=sz):Wf1 f sz T L:=fun a0 _ hc h=>Vv gX gP Ou hs hc (n a0) (hz a0) h
def Wf2(f sz:Nat)(T:Nat→List Item)(L:Nat→List Tmp):Prop:=∀ {W0:World} {m0:Inj Tp} {S:Nat→List Value→AW→Prop} {Q:Value→AW→Prop} (a0 a1:Value) (A:AW),RA Tp Ak W0 m0 f T L S Q sz→gE W0 m0 S Q f sz T L [a0,a1] A→Wc Tp Ak W0 m0 f [a0,a1] A Q
theorem wf2{f sz:Nat}{T:Nat→List Item}{L:Nat→List Tmp}(n:∀ (a0 a1:Value),EI Tp f [a0,a1] .normal=some (frM f (Tm.fill ⟨sz,.nil⟩ 0 [a0,a1]) [.code (cd f [])] false))(hs:sz<Ao)(hz:∀ (a0 a1:Value),(Tm.fill ⟨sz,.nil⟩ 0 [a0,a1]).sz=sz):Wf2 f sz T L:=fun a0 a1 _ hc h=>Vv gX gP Ou hs hc (n a0 a1) (hz a0 a1) h
def Wf3(f sz:Nat)(T:Nat→List Item)(L:Nat→List Tmp):Prop:=∀ {W0:World} {m0:Inj Tp} {S:Nat→List Value→AW→Prop} {Q:Value→AW→Prop} (a0 a1 a2:Value) (A:AW),RA Tp Ak W0 m0 f T L S Q sz→gE W0 m0 S Q f sz T L [a0,a1,a2] A→Wc Tp Ak W0 m0 f [a0,a1,a2] A Q
theorem wf3{f sz:Nat}{T:Nat→List Item}{L:Nat→List Tmp}(n:∀ (a0 a1 a2:Value),EI Tp f [a0,a1,a2] .normal=some (frM f (Tm.fill ⟨sz,.nil⟩ 0 [a0,a1,a2]) [.code (cd f [])] false))(hs:sz<Ao)(hz:∀ (a0 a1 a2:Value),(Tm.fill ⟨sz,.nil⟩ 0 [a0,a1,a2]).sz=sz):Wf3 f sz T L:=fun a0 a1 a2 _ hc h=>Vv gX gP Ou hs hc (n a0 a1 a2) (hz a0 a1 a2) h
def Wf5(f sz:Nat)(T:Nat→List Item)(L:Nat→List Tmp):Prop:=∀ {W0:World} {m0:Inj Tp} {S:Nat→List Value→AW→Prop} {Q:Value→AW→Prop} (a0 a1 a2 a3 a4:Value) (A:AW),RA Tp Ak W0 m0 f T L S Q sz→gE W0 m0 S Q f sz T L [a0,a1,a2,a3,a4] A→Wc Tp Ak W0 m0 f [a0,a1,a2,a3,a4] A Q
theorem wf5{f sz:Nat}{T:Nat→List Item}{L:Nat→List Tmp}(n:∀ (a0 a1 a2 a3 a4:Value),EI Tp f [a0,a1,a2,a3,a4] .normal=some (frM f (Tm.fill ⟨sz,.nil⟩ 0 [a0,a1,a2,a3,a4]) [.code (cd f [])] false))(hs:sz<Ao)(hz:∀ (a0 a1 a2 a3 a4:Value),(Tm.fill ⟨sz,.nil⟩ 0 [a0,a1,a2,a3,a4]).sz=sz):Wf5 f sz T L:=fun a0 a1 a2 a3 a4 _ hc h=>Vv gX gP Ou hs hc (n a0 a1 a2 a3 a4) (hz a0 a1 a2 a3 a4) h
def B9(f sz:Nat)(T:Nat→List Item)(L:Nat→List Tmp):Prop:=∀ {W0:World} {m0:Inj Tp} {Q:Value→AW→Prop} {I:Nat→Nat→List Value→AW→Prop},(∀ g id vals A d,I g id vals A→(L id).map d=vals→gL W0 m0 (fun id v A=>∃ g2,g2<g∧I g2 id v A) Q f sz T L d id A)→RA Tp Ak W0 m0 f T L (fun id v A=>∃ g,I g id v A) Q sz
theorem Ce{f sz:Nat}{T:Nat→List Item}{L:Nat→List Tmp}(hs:sz<Ao):B9 f sz T L:=fun h=>Aar gX gP Ou hs h
noncomputable def T3:Nat→List Item:=fun i=>match i with
 |_=>[]
noncomputable def T8:Nat→List Item:=fun i=>match i with
 |0=>[(.code (cd 8 [1,1,0,1,0,0])),(.inLoop (cd 8 [1,1,0,1,0,0])),(.inBlock 0),(.code (cd 8 [1,1,1]))]
 |_=>[]
section
variable (W0:World) (m0:Inj Tp) (S:Nat→List Value→AW→Prop) (Q:Value→AW→Prop)
theorem e27(a0 a1:Value)(A:AW):gE W0 m0 S Q 27 22 Tz Lz [a0,a1] A=(Al (Bk A (Value.cells a0).toList 46) fun t0 At0=>Al (Bk At0 (Value.cells a1).toList 46) fun t1 At1=>Aa (Ac Tp 46 t0 0) fun t2=>Aa (Ad Tp At1 44 t2) fun t3=>Aa (Ac Tp 46 t1 0) fun t4=>Aa (Ad Tp At1 44 t4) fun t5=>Aa (Ac Tp 46 t0 1) fun t6=>Aa (Ad Tp At1 9 t6) fun t7=>Aa (Ac Tp 46 t1 1) fun t8=>Aa (Ad Tp At1 9 t8) fun t9=>Aa (Ac Tp 46 t0 2) fun t10=>Aa (Ad Tp At1 9 t10) fun t11=>Aa (Ac Tp 46 t1 2) fun t12=>Aa (Ad Tp At1 9 t12) fun t13=>Wc Tp Ak W0 m0 57 [t3,t5] At1 fun t14 At14=>Aa (Ad Tp At14 9 t12) fun t15=>eqW t15 t13 (Aa (Ac Tp 46 t1 2) fun t16=>eqW t16 t12 (Aa (Ad Tp At14 9 t10) fun t17=>eqW t17 t11 (Aa (Ac Tp 46 t0 2) fun t18=>eqW t18 t10 (Aa (Ad Tp At14 9 t8) fun t19=>eqW t19 t9 (Aa (Ac Tp 46 t1 1) fun t20=>eqW t20 t8 (Aa (Ad Tp At14 9 t6) fun t21=>eqW t21 t7 (Aa (Ac Tp 46 t0 1) fun t22=>eqW t22 t6 (Wc Tp Ak W0 m0 58 [t7,t9] At14 fun t23 At23=>Aa (Ad Tp At23 9 t12) fun t24=>eqW t24 t13 (Aa (Ac Tp 46 t1 2) fun t25=>eqW t25 t12 (Aa (Ad Tp At23 9 t10) fun t26=>eqW t26 t11 (Aa (Ac Tp 46 t0 2) fun t27=>eqW t27 t10 (Wc Tp Ak W0 m0 58 [t11,t13] At23 fun t28 At28=>Al (AG Tp At28 143 3 [(0,t14),(1,t23),(2,t28)]) fun t29 At29=>EC (BS Tp (BI (Tm.fill ⟨3,.nil⟩ 0 [t14,t23,t28])) (.buildSlice 143 3 #[(0,.tmp 0),(1,.tmp 1),(2,.tmp 2)])) At29 t29 (Aa (Ad Tp At29 9 t12) fun t30=>eqW t30 t13 (Aa (Ac Tp 46 t1 2) fun t31=>eqW t31 t12 (Aa (Ad Tp At29 9 t10) fun t32=>eqW t32 t11 (Aa (Ac Tp 46 t0 2) fun t33=>eqW t33 t10 (Aa (Ad Tp At29 9 t8) fun t34=>eqW t34 t9 (Aa (Ac Tp 46 t1 1) fun t35=>eqW t35 t8 (Aa (Ad Tp At29 9 t6) fun t36=>eqW t36 t7 (Aa (Ac Tp 46 t0 1) fun t37=>eqW t37 t6 (Aa (Ad Tp At29 44 t4) fun t38=>eqW t38 t5 (Aa (Ac Tp 46 t1 0) fun t39=>eqW t39 t4 (Aa (Ad Tp At29 44 t2) fun t40=>eqW t40 t3 (Aa (Ac Tp 46 t0 0) fun t41=>eqW t41 t2 (Wc Tp Ak W0 m0 56 [t29] At29 fun t42 At42=>Q t42 At42)))))))))))))))))))))))))):=by kernel_rfl
theorem w27:Wf2 27 22 Tz Lz:=wf2 (fun _ _=>by kernel_rfl) (by decide) fun _ _=>rfl
noncomputable def T56:Nat→List Item:=fun i=>match i with
 |0=>[(.code (cd 56 [1,1,0,1,0,0])),(.inLoop (cd 56 [1,1,0,1,0,0])),(.inBlock 0),(.code (cd 56 [1,1,1]))]
 |_=>[]
def L56:Nat→List Tmp:=fun i=>match i with
 |0=>[3,6,7,8]
 |_=>[]
theorem e56(a0:Value)(A:AW):gE W0 m0 S Q 56 18 T56 L56 [a0] A=(Aa (AB Tp A 143 a0) fun t0=>AE (T56 0) (T56 0) (S 0 [(.int .i64 0),a0,t0,(.int .i64 0)] A)):=by kernel_rfl
theorem Abb(d:Nat→Value)(A:AW):gL W0 m0 S Q 56 18 T56 L56 d 0 A=(Aa (Af Tp .lss 3 (.tmp 8) (.tmp 7) (d 8) (d 7)) fun t0=>Ae t0 (Aa (Ag Tp 143 (d 6) (d 8)) fun t1=>Aa (Ad Tp A 3 t1) fun t2=>Aa (Af Tp .neq 3 (.tmp 12) (.tmp 13) t2 (d 3)) fun t3=>Ae t3 (Q t2 A) (Aa (Af Tp .add 3 (.tmp 8) (.const (.int .i64 1)) (d 8) (.int .i64 1)) fun t4=>AE (T56 0) (T56 0) (S 0 [(d 3),(d 6),(d 7),t4] A))) (Q (d 3) A)):=by kernel_rfl
theorem w56:Wf1 56 18 T56 L56:=wf1 (fun _=>by kernel_rfl) (by decide) fun _=>rfl
theorem c56:B9 56 18 T56 L56:=Ce (by decide)
theorem e57(a0 a1:Value)(A:AW):gE W0 m0 S Q 57 20 Tz Lz [a0,a1] A=(Wc Tp Ak W0 m0 83 [a0] A fun t0 At0=>Wc Tp Ak W0 m0 83 [a1] At0 fun t1 At1=>Ae t0 (Ae t1 (Q (.int .i64 0) At1) (Q (.int .i64 (-1)) At1)) (Ae t1 (Q (.int .i64 1) At1) (Aa (Af Tp .lss 44 (.tmp 14) (.tmp 15) a0 a1) fun t2=>Ae t2 (Q (.int .i64 (-1)) At1) (Aa (Af Tp .gtr 44 (.tmp 17) (.tmp 18) a0 a1) fun t3=>Ae t3 (Q (.int .i64 1) At1) (Q (.int .i64 0) At1))))):=by kernel_rfl
theorem w57:Wf2 57 20 Tz Lz:=wf2 (fun _ _=>by kernel_rfl) (by decide) fun _ _=>rfl
theorem e58(a0 a1:Value)(A:AW):gE W0 m0 S Q 58 8 Tz Lz [a0,a1] A=(Wc Tp Ak W0 m0 84 [a0,a1] A fun t0 At0=>Q t0 At0):=by kernel_rfl
theorem w58:Wf2 58 8 Tz Lz:=wf2 (fun _ _=>by kernel_rfl) (by decide) fun _ _=>rfl
theorem e59(a0 a1:Value)(A:AW):gE W0 m0 S Q 59 35 Tz Lz [a0,a1] A=(Al (Bk A (Value.cells a0).toList 46) fun t0 At0=>Al (Bk At0 (Value.cells a1).toList 46) fun t1 At1=>Aa (Ad Tp At1 46 t0) fun t2=>Aa (Ad Tp At1 46 t1) fun t3=>Aa (Af Tp .eql 46 (.tmp 6) (.tmp 7) t2 t3) fun t4=>Ae t4 (Q (.int .i64 0) At1) (Aa (Ac Tp 46 t0 2) fun t5=>Aa (Ad Tp At1 9 t5) fun t6=>Aa (Ac Tp 46 t1 2) fun t7=>Aa (Ad Tp At1 9 t7) fun t8=>Wc Tp Ak W0 m0 85 [t6,t8] At1 fun t9 At9=>Aa (Ac Tp 46 t0 1) fun t10=>Aa (Ad Tp At9 9 t10) fun t11=>Aa (Ac Tp 46 t1 1) fun t12=>Aa (Ad Tp At9 9 t12) fun t13=>Aa (Af Tp .neq 9 (.tmp 15) (.tmp 17) t11 t13) fun t14=>Ae t14 (Aa (Ac Tp 46 t0 1) fun t15=>Aa (Ad Tp At9 9 t15) fun t16=>Aa (Ac Tp 46 t1 1) fun t17=>Aa (Ad Tp At9 9 t17) fun t18=>Wc Tp Ak W0 m0 85 [t16,t18] At9 fun t19 At19=>Aa (Ac Tp 46 t0 0) fun t20=>Aa (Ad Tp At19 44 t20) fun t21=>Aa (Ac Tp 46 t1 0) fun t22=>Aa (Ad Tp At19 44 t22) fun t23=>Aa (Af Tp .neq 44 (.tmp 25) (.tmp 27) t21 t23) fun t24=>Ae t24 (Aa (Ac Tp 46 t0 0) fun t25=>Aa (Ad Tp At19 44 t25) fun t26=>Aa (Ac Tp 46 t1 0) fun t27=>Aa (Ad Tp At19 44 t27) fun t28=>Aa (Af Tp .lss 44 (.tmp 30) (.tmp 32) t26 t28) fun t29=>Ae t29 (Q (.int .i64 (-1)) At19) (Q (.int .i64 1) At19)) (Ae t19 (Q (.int .i64 (-1)) At19) (Q (.int .i64 1) At19))) (Aa (Ac Tp 46 t0 0) fun t30=>Aa (Ad Tp At9 44 t30) fun t31=>Aa (Ac Tp 46 t1 0) fun t32=>Aa (Ad Tp At9 44 t32) fun t33=>Aa (Af Tp .neq 44 (.tmp 25) (.tmp 27) t31 t33) fun t34=>Ae t34 (Aa (Ac Tp 46 t0 0) fun t35=>Aa (Ad Tp At9 44 t35) fun t36=>Aa (Ac Tp 46 t1 0) fun t37=>Aa (Ad Tp At9 44 t37) fun t38=>Aa (Af Tp .lss 44 (.tmp 30) (.tmp 32) t36 t38) fun t39=>Ae t39 (Q (.int .i64 (-1)) At9) (Q (.int .i64 1) At9)) (Ae t9 (Q (.int .i64 (-1)) At9) (Q (.int .i64 1) At9))))):=by kernel_rfl
theorem w59:Wf2 59 35 Tz Lz:=wf2 (fun _ _=>by kernel_rfl) (by decide) fun _ _=>rfl
theorem e83(a0:Value)(A:AW):gE W0 m0 S Q 83 6 Tz Lz [a0] A=(Aa (Af Tp .neq 44 (.tmp 3) (.tmp 4) a0 a0) fun t0=>Q t0 A):=by kernel_rfl
theorem w83:Wf1 83 6 Tz Lz:=wf1 (fun _=>by kernel_rfl) (by decide) fun _=>rfl
noncomputable def T85:Nat→List Item:=fun i=>match i with
 |0=>[(.code (cd 85 [1,0,1,0,0])),(.inLoop (cd 85 [1,0,1,0,0])),(.inBlock 0),(.code (cd 85 [1,1]))]
 |_=>[]
def L85:Nat→List Tmp:=fun i=>match i with
 |0=>[0,1,5]
 |_=>[]
theorem e85(a0 a1:Value)(A:AW):gE W0 m0 S Q 85 37 T85 L85 [a0,a1] A=(AE (T85 0) (T85 0) (S 0 [a0,a1,(.int .i64 0)] A)):=by kernel_rfl
theorem AeG(d:Nat→Value)(A:AW):gL W0 m0 S Q 85 37 T85 L85 d 0 A=(Aa (AB Tp A 9 (d 0)) fun t0=>Aa (Af Tp .lss 3 (.tmp 6) (.tmp 8) (d 5) t0) fun t1=>Ae t1 (Aa (AB Tp A 9 (d 1)) fun t2=>Aa (Af Tp .lss 3 (.tmp 11) (.tmp 13) (d 5) t2) fun t3=>Ae t3 (Aa (BU Tp 9 (d 0) (d 5)) fun t4=>Aa (BU Tp 9 (d 1) (d 5)) fun t5=>Aa (Af Tp .neq 5 (.tmp 20) (.tmp 23) t4 t5) fun t6=>Ae t6 (Aa (BU Tp 9 (d 0) (d 5)) fun t7=>Aa (BU Tp 9 (d 1) (d 5)) fun t8=>Aa (Af Tp .lss 5 (.tmp 27) (.tmp 30) t7 t8) fun t9=>Q t9 A) (Aa (Af Tp .add 3 (.tmp 16) (.const (.int .i64 1)) (d 5) (.int .i64 1)) fun t10=>AE (T85 0) (T85 0) (S 0 [(d 0),(d 1),t10] A))) (Aa (AB Tp A 9 (d 0)) fun t11=>Aa (AB Tp A 9 (d 1)) fun t12=>Aa (Af Tp .lss 3 (.tmp 33) (.tmp 35) t11 t12) fun t13=>Q t13 A)) (Aa (AB Tp A 9 (d 0)) fun t14=>Aa (AB Tp A 9 (d 1)) fun t15=>Aa (Af Tp .lss 3 (.tmp 33) (.tmp 35) t14 t15) fun t16=>Q t16 A)):=by kernel_rfl
theorem w85:Wf2 85 37 T85 L85:=wf2 (fun _ _=>by kernel_rfl) (by decide) fun _ _=>rfl
theorem c85:B9 85 37 T85 L85:=Ce (by decide)
theorem e84(a0 a1:Value)(A:AW):gE W0 m0 S Q 84 8 Tz Lz [a0,a1] A=(anW Tp Ak W0 m0 (Co Tp Ak A 117 [a0,a1]) fun t0 At0=>Q t0 At0):=by kernel_rfl
theorem w84:Wf2 84 8 Tz Lz:=wf2 (fun _ _=>by kernel_rfl) (by decide) fun _ _=>rfl
end
end Go.Proofs.YtdpdajpiadohjaaGreatDoor
namespace Go.Abs
section
variable {P:Program}
theorem Dh{d:Nat}{xs ys:Array Value}{f:Field}{fs:List Field}{a b:Value}{r:Bool}(hn:decide (f.name≠ "_")=true)(h1:quiet P (part f.type xs f.offset)=some a)(h2:quiet P (part f.type ys f.offset)=some b)(h3:quiet P (Op.equalIn d f.type a b)=some r):
  quiet P (Op.eqFields d xs ys (f::fs))=if r=true then quiet P (Op.eqFields d xs ys fs) else some false:=by
 simp only [Op.eqFields];rw [if_pos (of_decide_eq_true hn)];show quiet P (Sem.bind _ _)=_;rw [CF,h1];simp only [Option.bind_some];show quiet P (Sem.bind _ _)=_;rw [CF,h2];simp only [Option.bind_some];show quiet P (Sem.bind _ _)=_;rw [CF,h3];cases r<;>rfl
theorem bytes_beq(a b:ByteArray):(a==b)=(a.data.toList==b.data.toList):=by
 obtain ⟨⟨x⟩⟩:=a;obtain ⟨⟨y⟩⟩:=b;show ((⟨x⟩:Array UInt8)==⟨y⟩)=(x==y)
 simp
theorem I6{d:Nat}{t:TypeId}{a b:ByteArray}(h:quiet P (underlying t)=some .string):quiet P (Op.equalIn (d+1) t (.string a) (.string b))=some (a.data.toList==b.data.toList):=by
 rw [MQ d t a b h,bytes_beq]
end
def Bj(l:List UInt8):List Value:=l.map fun b=>.int .u8 b.toNat
theorem GX(a b:List UInt8):Bj (a++b)=Bj a++Bj b:=List.map_append
theorem B3(a:List UInt8):(Bj a).length=a.length:=List.length_map _
theorem OO(a:List UInt8):(Bj a).all AT=true:=by
 rw [List.all_eq_true];intro x hx;obtain ⟨b,_,rfl⟩:=List.mem_map.1 hx;rfl
theorem OP(a:List UInt8):(Bj a).all (fun v=>!isTuple v)=true:=by
 rw [List.all_eq_true];intro x hx;obtain ⟨b,_,rfl⟩:=List.mem_map.1 hx;rfl
theorem IS:∀ l:List UInt8,Bv (Bj l)=some l
 |[]=>rfl
 |b::r=>by
  show (match Bv (Bj r) with | some l=>some (UInt8.ofNat ((b.toNat:Int)).toNat::l) | none=>none)=_;rw [IS r]
  simp
theorem GN:∀ (l rest:List Value),l.all (fun v=>!isTuple v)=true→Bf (l++rest) l.length=some l
 |[],_,_=>by simp [Bf]
 |v::r,rest,h=>by
  simp only [List.all_cons,Bq,Bool.not_eq_true'] at h;simp [Bf,h.1,GN r rest h.2]
theorem Me:∀ (l rest:List Value),DO (l++rest) l.length=some l
 |[],_=>by simp [DO]
 |v::r,rest=>by simp [DO,Me r rest]
def RdB(A:AW)(v:Value)(l:List UInt8)(F:List Nat):Prop:=
 (l=[]∧F=[]∧∃ o c,v=.slice o 0 c)∨∃ r o c cs e f b ro rest,v=.slice (some ⟨r,o,none⟩) l.length c∧A.get r=some (.row cs e f b ro)∧f<A.next∧F=[f]∧cs.drop o=Bj l++rest
theorem RdB.keeps{A A':AW}{v:Value}{l:List UInt8}{F S:List Nat}(h:RdB A v l F)(k:Bs A A' S)(hd:∀ x∈F,x∉S):RdB A' v l F:=by
 rcases h with h | ⟨r,o,c,cs,e,f,b,ro,rest,h1,h2,h3,rfl,h4⟩
 ·exact .inl h
 ·exact .inr ⟨r,o,c,cs,e,f,b,ro,rest,h1,k.get r _ h2 h3 (hd f (by simp)),Nat.lt_of_lt_of_le h3 k.next,rfl,h4⟩
theorem RdB.one{A:AW}{v:Value}{l:List UInt8}{F:List Nat}(h:RdB A v l F):AT v=true∧isTuple v=false:=by
 rcases h with ⟨_,_,o,c,rfl⟩ | ⟨r,o,c,cs,e,f,b,ro,rest,rfl,_⟩<;>exact ⟨rfl,rfl⟩
theorem RdB.lt{A:AW}{v:Value}{l:List UInt8}{F:List Nat}(h:RdB A v l F):∀ x∈F,x<A.next:=by
 rcases h with ⟨_,rfl,_⟩ | ⟨r,o,c,cs,e,f,b,ro,rest,_,_,h3,rfl,_⟩
 ·simp
 ·simpa using h3
theorem RdB.slice{A:AW}{v:Value}{l:List UInt8}{F:List Nat}(h:RdB A v l F):∃ a c,v=.slice a l.length c:=by
 rcases h with ⟨rfl,_,o,c,rfl⟩ | ⟨r,o,c,cs,e,f,b,ro,rest,rfl,_⟩<;>exact ⟨_,_,rfl⟩
theorem RdB.src{A:AW}{v:Value}{l:List UInt8}{F:List Nat}(h:RdB A v l F):Hw A 1 v=some (l.length,Bj l):=by
 rcases h with ⟨rfl,_,o,c,rfl⟩ | ⟨r,o,c,cs,e,f,b,ro,rest,rfl,h2,_,_,h4⟩
 ·cases o<;>rfl
 ·unfold Hw;simp only [Nat.mul_one,Bd h2,h4]
  have:=GN (Bj l) rest (OP l)
  rw [B3] at this;rw [this]
structure BT (P:Program) (tb ts tst:TypeId):Prop where
 sl:BJ P ts=some tb
 sz:szT P tb=some 1
 by_:Gp P tb=some 1
 hz:D5 P tb 1=true
 us:P.underlying ts=some (.slice tb)
 ub:P.underlying tb=some (.int .u8)
 ust:P.underlying tst=some .string
 zt:Ci P tb=some (.int .u8 0)
 ln:∀ A a n c,AB P A ts (.slice a n c)=some (.int .i64 (n:Nat))
 ia:∀ b o n c i k,Ag P ts (.slice (some ⟨b,o,none⟩) n c) (.int k (.ofNat i))=(bif Nat.blt i n then some (.pointer (some (Eh ⟨b,o,none⟩ (i*1)))) else none)
 ld:∀ A a,Ad P A tb (.pointer (some a))=A.cell? a
 st:∀ A a v,Bg P A tb (.pointer (some a)) v=(bif Nat.beq v.cells.toList.length 1 then A.setCells a v.cells.toList else none)
section
variable {P:Program} {tb ts tst:TypeId}
theorem RdB.len{A:AW}{v:Value}{l:List UInt8}{F:List Nat}(T:BT P tb ts tst)(h:RdB A v l F):AB P A ts v=some (.int .i64 (l.length:Nat)):=by
 obtain ⟨a,c,rfl⟩:=h.slice;exact T.ln _ _ _ _
theorem RdB.str{A:AW}{v:Value}{l:List UInt8}{F:List Nat}(T:BT P tb ts tst)(h:RdB A v l F):AI P A ts tst v=.ok (.string ⟨⟨l⟩⟩) A:=by
 rcases h with ⟨rfl,_,o,c,rfl⟩ | ⟨r,o,c,cs,e,f,b,ro,rest,rfl,h2,_,_,h4⟩
 ·unfold AI;cases o with
  |none=>simp only [T.us,T.ust,T.ub];rfl
  |some a=>simp only [T.us,T.ust,T.ub,AW.cells?,Bv]
 ·unfold AI;simp only [T.us,T.ust,T.ub,Bd h2,h4]
  have:=GN (Bj l) rest (OP l)
  rw [B3] at this;simp only [this,IS]
theorem BY{A:AW}{v:Value}{l:List UInt8}{F:List Nat}(T:BT P tb ts tst)(h:RdB A v l F):Cm P A tb ts 1 v=some (l.length,Bj l):=by
 unfold Cm;rw [T.us];exact h.src
theorem Ki{A:AW}{s:ByteArray}(T:BT P tb ts tst):Cm P A tb tst 1 (.string s)=some (s.data.toList.length,Bj s.data.toList):=by
 unfold Cm;rw [T.ust];rfl
def Buf(tb:TypeId)(A:AW)(v:Value)(l:List UInt8)(F:List Nat):Prop:=
 (v=.slice none 0 0∧l=[]∧F=[])∨(∃ b f,v=.slice (some ⟨b,0,none⟩) l.length (BF+l.length)∧MN 0 A tb 1 l.length (Bj l) b f∧F=[f])∨
 ∃ b c pad,v=.slice (some ⟨b,0,none⟩) l.length c∧c<room∧Row1 A b (Bj l++pad) tb∧l.length+pad.length=c∧pad.all AT=true∧F=[b]
theorem Buf.nil(tb:TypeId)(A:AW):Buf tb A (.slice none 0 0) [] []:=.inl ⟨rfl,rfl,rfl⟩
theorem Buf.keeps{A A':AW}{v:Value}{l:List UInt8}{F S:List Nat}(h:Buf tb A v l F)(k:Bs A A' S)(hd:∀ x∈F,x∉S):Buf tb A' v l F:=by
 rcases h with h | ⟨b,f,rfl,h,rfl⟩ | ⟨b,c,pad,h1,h2,h3,h4,h5,rfl⟩
 ·exact .inl h
 ·have:=IX.keeps (v:=.slice (some ⟨b,0,none⟩) l.length (BF+l.length)) (.inr ⟨b,f,rfl,h,rfl⟩) k hd
  rcases this with ⟨h1,_⟩ | ⟨b',f',h1,h2,h3⟩
  ·cases h1
  ·exact .inr (.inl ⟨b',f',h1,h2,h3⟩)
 ·exact .inr (.inr ⟨b,c,pad,h1,h2,h3.keeps k (hd b (by simp)),h4,h5,rfl⟩)
theorem Buf.rd{A:AW}{v:Value}{l:List UInt8}{F:List Nat}(h:Buf tb A v l F):RdB A v l F:=by
 rcases h with ⟨rfl,rfl,rfl⟩ | ⟨b,f,rfl,h,rfl⟩ | ⟨b,c,pad,rfl,h2,h3,h4,h5,rfl⟩
 ·exact .inl ⟨rfl,rfl,none,0,rfl⟩
 ·exact .inr ⟨b,0,_,_,_,f,0,false,[],rfl,h.row,h.ltf,rfl,by simp⟩
 ·exact .inr ⟨b,0,_,_,_,b,0,false,pad,rfl,h3.row,h3.lt,rfl,by simp⟩
theorem Buf.lt{A:AW}{v:Value}{l:List UInt8}{F:List Nat}(h:Buf tb A v l F):∀ x∈F,x<A.next:=h.rd.lt
theorem Kk:∀ (a mid new rest:List Value),mid.length=new.length→NO (a++(mid++rest)) a.length new=a++(new++rest)
 |a,[],[],rest,_=>by simp [NO]
 |a,m::ms,n::ns,rest,h=>by
  simp only [Lc,Nat.add_right_cancel_iff] at h
  have:=Kk (a++[n]) ms ns rest h
  simp only [NO];have e:(a++(m::ms++rest)).set a.length n=(a++[n])++(ms++rest):=by simp
  rw [e];have e2:a.length+1=(a++[n]).length:=by simp
  rw [e2,this]
  simp
 |a,[],_::_,rest,h=>by simp at h
 |a,_::_,[],rest,h=>by simp at h
theorem BH {A:AW} {t2:TypeId} {v x:Value} {l new:List UInt8} {F:List Nat} {K:Value→AW→Prop} (T:BT P tb ts tst) (h:Buf tb A v l F) (hx:Cm P A tb t2 1 x=some (new.length,Bj new)) (hf:AH A) (hmax:A.next<Ao) (hr:l.length+new.length<room)
  (hk:∀ v' A' F',Buf tb A' v' (l++new) F'→Bs A A' F→(∀ x∈F',x∈F∨A.next≤x)→A'.next≤A.next+1→AH A'→K v' A'):Al (Bh P A ts t2 v x) K:=by
 have hroom:(Nat.blt (l.length+new.length) room&&Nat.blt ((l.length+new.length)*1) room&&D5 P tb 1)=true:=by rw [Nat.mul_one,AF.2 hr,T.hz];rfl
 rcases Nat.eq_zero_or_pos new.length with h0 | hpos
 ·have hnew:new=[]:=List.eq_nil_of_length_eq_zero h0;subst hnew;obtain ⟨a,c,rfl⟩:=h.rd.slice;have e:Bh P A ts t2 (.slice a l.length c) x=.ok (.slice a l.length c) A:=by
   unfold Bh;simp only [T.sl,T.sz,T.by_,hx];simp only [Ln] at hroom ⊢;rw [hroom];rfl
  rw [e];refine AU.2 (hk _ A F (by rw [List.append_nil];exact h) (.refl _ _) (fun x hx=>.inl hx) (by omega) hf)
 ·obtain ⟨m,hm⟩:∃ m,new.length=m+1:=⟨new.length-1,by omega⟩;rcases h with ⟨rfl,rfl,rfl⟩ | ⟨b,f,rfl,ho,rfl⟩ | ⟨b,c,pad,rfl,hc,h3,h4,h5,rfl⟩
  ·have hx':Cm P A tb t2 (0+1) x=some (m+1,Bj new):=by rw [← hm];exact hx
   rw [hm] at hroom;rw [MK T.sl T.sz T.by_ hx' hroom hmax];have hfp:=hf.push (.row (Bj new) tb A.next 0 false) hmax;have hrow:(A.push (.row (Bj new) tb A.next 0 false)).get A.next=some (.row (Bj new) tb A.next 0 false):=by rw [AW.B8 _ hmax,if_pos rfl]
   refine AU.2 (hk _ _ [A.next] (.inr (.inl ⟨A.next,A.next,by simp [hm],?_,rfl⟩)) ((AW.C6 _ hmax).keeps hf) (fun x hx=>.inr (by simp at hx;omega)) (by rw [AW.CN];omega) hfp);refine ⟨by simp [hm],by rw [hrow];rfl,by simp [B3],Nat.zero_le _,Nat.zero_le _,by rw [AW.CN];omega,fun i hi=>?_⟩
   have:(A.push (.row (Bj new) tb A.next 0 false)).members A.next=[A.next]:=hf.alone (Nl _)
   rw [this] at hi;obtain rfl:i=A.next:=by simpa using hi
   exact ⟨Nat.zero_le _,by rw [AW.CN];omega,_,_,_,_,hrow⟩
  ·have hx':Cm P A tb t2 (0+1) x=some (m+1,Bj new):=by rw [← hm];exact hx
   refine Wf (P:=P) (size:=0) T.sl T.sz T.by_ T.hz hx' (by rw [B3,hm];omega) (OO new) (.inr ⟨b,f,rfl,ho,rfl⟩) hf hmax (by omega) (by omega) fun v' A' F' hv hk' hF' hn hf'=>?_;refine hk v' A' F' ?_ hk' (fun x hx=>?_) (by omega) hf'
   ·rcases hv with ⟨_,hz,_⟩ | ⟨b',f',h1,h2,h3⟩
    ·omega
    ·refine .inr (.inl ⟨b',f',?_,?_,h3⟩)
     ·rw [h1,List.length_append,hm]
     ·rw [List.length_append,hm,GX];exact h2
   ·rcases hF' x hx with h | h
    ·exact .inl h
    ·exact .inr (by omega)
  ·have hlen:(Bj l++pad).length=c:=by rw [List.length_append,B3];exact h4
   have hcu:Nat.ble BF c=false:=BZ.2 (by unfold room at hc;unfold BF;omega);by_cases hfit:l.length+new.length≤c
   ·
    have hb:=h3.lt;obtain ⟨A',h1,w⟩:=Hz (new:=Bj new) (off:=l.length) h3.row h3.mem (by rw [hlen,B3];exact hfit) (OO new) (by omega);have e:Bh P A ts t2 (.slice (some ⟨b,0,none⟩) l.length c) x=.ok (.slice (some ⟨b,0,none⟩) (l.length+new.length) c) A':=by
     unfold Bh;simp only [T.sl,T.sz,T.by_,hx];rw [hroom];rw [hm];have ha:Eh ⟨b,0,none⟩ (l.length*1)=⟨b,l.length,none⟩:=by
      unfold Eh;cases hb:Nat.beq (l.length*1) 0 with
      |true=>rw [Ct];have:=Nb hb;rw [Nat.mul_one] at this;rw [this]
      |false=>rw [Cf,Nat.mul_one,Nat.zero_add]
     have hfit':Nat.ble (l.length+(m+1)) c=true:=BO.2 (by omega);simp only [hcu,Cf,hfit',Ct,ha,h1,Bool.not_true]
    rw [e];have hcs:NO (Bj l++pad) l.length (Bj new)=Bj (l++new)++pad.drop new.length:=by
     have hp:pad=pad.take new.length++pad.drop new.length:=(List.take_append_drop _ _).symm
     conv=>lhs;rw [hp]
     have hl2:l.length=(Bj l).length:=(B3 l).symm
     conv=>lhs;arg 2;rw [hl2]
     rw [Kk (Bj l) (pad.take new.length) (Bj new) (pad.drop new.length) (by rw [List.length_take,B3];omega),GX,Mw]
    refine AU.2 (hk _ A' [b] (.inr (.inr ⟨b,c,pad.drop new.length,by rw [List.length_append],hc,?_,by rw [List.length_append,List.length_drop];omega,?_,rfl⟩)) (w.keeps h3.row) (fun x hx=>.inl hx) (by rw [w.next];omega) (w.Ap hf h3.row))
    ·rw [← hcs];exact ⟨w.row,by rw [w.mem];exact h3.mem,by rw [w.next];exact h3.lt⟩
    ·rw [List.all_eq_true] at h5 ⊢;exact fun x hx=>h5 x (List.mem_of_mem_drop hx)
   ·
    have hold:(match (some ⟨b,0,none⟩:Option Addr) with | some a=>A.C9 a (l.length*1) | none=>some [])=some (Bj l):=by
     show A.C9 ⟨b,0,none⟩ (l.length*1)=_;rw [Nat.mul_one];unfold AW.C9;cases hl:l.length with
     |zero=>
      have:l=[]:=List.eq_nil_of_length_eq_zero hl
      subst this;rfl
     |succ k=>
      simp only [h3.row,List.drop_zero]
      have:=Me (Bj l) pad
      rw [B3,hl] at this;exact this
    have hnew:A.new (.row (Bj l++Bj new) tb A.next 0 false)=some (A.next,A.push (.row (Bj l++Bj new) tb A.next 0 false)):=by
     unfold AW.new;simp only [AF.2 hmax,Ct];rfl
    have e:Bh P A ts t2 (.slice (some ⟨b,0,none⟩) l.length c) x=.ok (.slice (some ⟨A.next,0,none⟩) (l.length+new.length) (BF+(l.length+new.length))) (A.push (.row (Bj l++Bj new) tb A.next 0 false)):=by
     unfold Bh;simp only [T.sl,T.sz,T.by_,hx];rw [hroom];rw [hm];have hfit':Nat.ble (l.length+(m+1)) c=false:=BZ.2 (by omega);simp only [hcu,Cf,hfit',Bool.not_true];simp only at hold;rw [hold];simp only [hnew]
    rw [e];have hfp:=hf.push (.row (Bj l++Bj new) tb A.next 0 false) hmax;have hrow:(A.push (.row (Bj l++Bj new) tb A.next 0 false)).get A.next=some (.row (Bj l++Bj new) tb A.next 0 false):=by rw [AW.B8 _ hmax,if_pos rfl]
    refine AU.2 (hk _ _ [A.next] (.inr (.inl ⟨A.next,A.next,by rw [List.length_append],?_,rfl⟩)) (((AW.C6 _ hmax).keeps hf).more (by simp)) (fun x hx=>.inr (by simp at hx;omega)) (by rw [AW.CN];omega) hfp);refine ⟨by rw [List.length_append];omega,by rw [hrow,GX],by rw [B3,Nat.mul_one],Nat.zero_le _,Nat.zero_le _,by rw [AW.CN];omega,fun i hi=>?_⟩
    have:(A.push (.row (Bj l++Bj new) tb A.next 0 false)).members A.next=[A.next]:=hf.alone (Nl _)
    rw [this] at hi;obtain rfl:i=A.next:=by simpa using hi
    exact ⟨Nat.zero_le _,by rw [AW.CN];omega,_,_,_,_,hrow⟩
theorem NH(v:Value):∀ n,DY [v] n=List.replicate n v
 |0=>rfl
 |n+1=>by rw [DY,NH v n];rfl
theorem P2 {A:AW} {k k2:IntKind} {n c:Nat} {K:Value→AW→Prop} (T:BT P tb ts tst) (hf:AH A) (hmax:A.next<Ao) (hn:n≤c) (hc:c<room)
  (hk:∀ A',Made A A' (List.replicate c (.int .u8 0)) tb→K (.slice (some ⟨A.next,0,none⟩) n c) A'):Al (CX P A ts (.int k (n:Int)) (.int k2 (c:Int))) K:=by
 have hz:GM P tb 1 c=some (List.replicate c (.int .u8 0)):=by
  unfold GM;rw [T.zt];cases c with
  |zero=>rfl
  |succ c=>
   have:Nat.beq ((c+1)*1) 0=false:=beq_false.2 (by omega)
   simp only [this,Cf];show (bif Nat.beq 1 1 then some (DY [.int .u8 0] (c+1)) else none)=_;rw [NH];rfl
 have hnr:A.newRow (List.replicate c (.int .u8 0)) tb=some (⟨A.next,0,none⟩,A.push (.row (List.replicate c (.int .u8 0)) tb A.next 0 false)):=by
  unfold AW.newRow AW.new
  have:(List.replicate c (Value.int .u8 0)).all AT=true:=by
   rw [List.all_eq_true];intro x hx;rw [List.eq_of_mem_replicate hx];rfl
  simp only [this,Ct,AF.2 hmax];rfl
 have e:CX P A ts (.int k (n:Int)) (.int k2 (c:Int))=.ok (.slice (some ⟨A.next,0,none⟩) n c) (A.push (.row (List.replicate c (.int .u8 0)) tb A.next 0 false)):=by
  show CX P A ts (.int k (.ofNat n)) (.int k2 (.ofNat c))=_;unfold CX;simp only [T.sl,T.sz,T.by_,Nat.mul_one,BO.2 hn,AF.2 hc,Bool.and_self,Ct,hz,hnr]
 rw [e];exact AU.2 (hk _ ⟨AW.C6 _ hmax,rfl,by rw [AW.B8 _ hmax,if_pos rfl],hf.alone (Nl _),hf.push _ hmax⟩)
theorem Made.Ajt{A A':AW}{c:Nat}(m:Made A A' (List.replicate c (.int .u8 0)) tb)(hc:c<room):Buf tb A' (.slice (some ⟨A.next,0,none⟩) 0 c) [] [A.next]:=
 .inr (.inr ⟨A.next,c,List.replicate c (.int .u8 0),rfl,hc,m.AS,by simp,by rw [List.all_eq_true];intro x hx;rw [List.eq_of_mem_replicate hx];rfl,rfl⟩)
end
section
variable {P:Program} {tb ts tst:TypeId}
theorem L2(A:AW)(a:Addr):A.cells? a 0=some []:=by unfold AW.cells?;rfl
def Ajz(P:Program)(U:Nat)(w:AW)(t t2:TypeId)(s x:Value):R Value:=
 match BJ P t,s with
 |some e,.slice base n cap=>
  (match szT P e,Gp P e with
  |some 0,_=>.fail "append size 0"
  |some size,some bytes=>
   match Cm P w e t2 size x with
   |none=>.fail "append source"
   |some (m,new)=>
    let need:=n+m
    bif !(Nat.blt need room&&Nat.blt (need*bytes) room&&D5 P e size) then .fail "append room" else
    match m with
    |0=>.ok s w
    |_+1=>
     let lb:=bif Nat.ble U cap then cap-U else cap
     bif Nat.ble need lb then
      match base with
      |none=>.fail "append nil with room"
      |some a=>(match w.setCells (Eh a (n*size)) new with
       |some w'=>.ok (.slice base need cap) w'
       |none=>.fail "append set")
     else bif Nat.ble U cap then
      match base with
      |none=>.fail "append nil with unknown capacity"
      |some a=>match a.spot,w.get a.block with
       |none,some (.row _ e' fam b0 false)=>
        bif !(Nat.beq e' e&&new.all AT) then .fail "append elements" else
        (match w.C9 a (n*size) with
        |none=>.fail "append old cells"
        |some old=>
         match (Bz (b0+a.off+n*size) (w.members fam) w).Iy (old++new) e fam (b0+a.off) with
         |some (a',w')=>.ok (.slice (some a') need (U+need)) w'
         |none=>.fail "append new")
       |_,_=>.fail "append base row"
     else
      match (match base with | some a=>w.C9 a (n*size) | none=>some []) with
      |none=>.fail "append old cells"
      |some old=>(match w.new (.row (old++new) e w.next 0 false) with
       |some (b,w')=>.ok (.slice (some ⟨b,0,none⟩) need (U+need)) w'
       |none=>.fail "append new")
  |_,_=>.fail "append type")
 |_,_=>.fail "append"
theorem AfW(A:AW)(t t2:TypeId)(s x:Value):Bh P A t t2 s x=Ajz P BF A t t2 s x:=rfl
end
end Go.Abs
namespace Go.Abs
open Go.ChangeShapes Go.WideShapes Go.ChangeAt Go.RowKit
abbrev Arg:=(Nat × Nat) × Option (List Value × TypeId)
def PA(F:Nat):Nat→List Arg→Trie AO→Trie AO
 |_,[],t=>t
 |j,(_,none)::r,t=>PA F (j+1) r t
 |j,(_,some (cs,e))::r,t=>(PA F (j+1) r t).put depth j (some (.row cs e F 0 true))
def wR(n:Nat)(gl:List (Nat × List Value × TypeId))(L:List Arg):AW:=
 ⟨PA (n+L.length) n L (JA gl),n+L.length+1,(Trie.nil:Trie (List Nat)).put depth (n+L.length) (some ((List.range L.length).map (n+·)))⟩
def mR(P:Program)(L:List Arg):Inj P:=mA P (L.map (·.1))
theorem IT(F:Nat):∀ (L:List Arg) (j:Nat) (t:Trie AO) (i:Nat),j+L.length≤Ao→(PA F j L t).get? i=if i<j then t.get? i else match L[i-j]? with
  |some (_,some (cs,e))=>some (.row cs e F 0 true)
  |_=>t.get? i
 |[],j,t,i,_=>by simp [PA]
 |(p,none)::r,j,t,i,h=>by
  simp only [Lc] at h;simp only [PA];rw [IT F r (j+1) t i (by omega)];by_cases h1:i<j
  ·rw [if_pos (by omega),if_pos h1]
  ·by_cases h2:i=j
   ·subst h2;rw [if_pos (by omega),Ff h1,Nat.sub_self];rfl
   ·rw [Ff (by omega),Ff h1,show i-j=(i-(j+1))+1 by omega,List.getElem?_cons_succ]
 |(p,some (cs,e))::r,j,t,i,h=>by
  simp only [Lc] at h;simp only [PA];rw [Trie.get?_put depth _ j i _ (by unfold depth Ao at *;omega),IT F r (j+1) t i (by omega)];by_cases h1:i<j
  ·rw [Ff (by omega),if_pos (by omega),if_pos h1]
  ·by_cases h2:i=j
   ·subst h2;rw [if_pos rfl,Ff h1,Nat.sub_self];rfl
   ·rw [Ff h2,Ff (by omega),Ff h1,show i-j=(i-(j+1))+1 by omega,List.getElem?_cons_succ]
section
variable {P:Program} {W:World} {gl:List (Nat × List Value × TypeId)} {L:List Arg}
theorem AbD{n:Nat}(hk:n+L.length≤Ao){j:Nat}{p:Nat × Nat}{cs:List Value}{e:TypeId}(h:L[j]? =some (p,some (cs,e))):(wR n gl L).get (n+j)=some (.row cs e (n+L.length) 0 true):=by
 show (PA _ n L _).get? _=_;rw [IT _ L n _ _ hk,Ff (by omega),Nat.add_sub_cancel_left,h]
theorem TO{n:Nat}(hok:okG n gl=true)(hk:n+L.length≤Ao){i:Nat}{o:AO}(h:(wR n gl L).get i=some o):
  (∃ x∈gl,x.1=i∧i<n∧o=.row x.2.1 x.2.2 i 0 true)∨∃ j p cs e,i=n+j∧L[j]? =some (p,some (cs,e))∧o=.row cs e (n+L.length) 0 true:=by
 have h:(PA (n+L.length) n L (JA gl)).get? i=some o:=h;rw [IT _ L n _ _ hk] at h;unfold okG at hok;simp only [Bq,List.all_eq_true] at hok;obtain ⟨hn,hl⟩:=hok;have hn:=BO.1 hn;have glob:(JA gl).get? i=some o→∃ x∈gl,x.1=i∧i<n∧o=.row x.2.1 x.2.2 i 0 true:=by
  intro h;obtain ⟨x,hx,rfl,rfl⟩:=I2 gl (fun x hx=>Nat.lt_of_lt_of_le (AF.1 (hl x hx).1) hn) i o h;exact ⟨x,hx,rfl,AF.1 (hl x hx).1,rfl⟩
 split at h
 ·exact .inl (glob h)
 ·split at h
  ·rename_i hi p cs e hq;cases h;exact .inr ⟨i-n,p,cs,e,by omega,hq,rfl⟩
  ·exact .inl (glob h)
theorem E8{n:Nat}(hok:okG n gl=true)(hk:n+L.length+1≤Ao):AH (wR n gl L):=by
 refine ⟨fun i hi=>?_,fun i hi=>?_⟩
 ·have hi:n+L.length+1≤i:=hi;show ((Trie.nil:Trie (List Nat)).put depth (n+L.length) _).get? i=none;rw [Trie.get?_put depth _ _ i _ (by unfold depth Ao at *;omega),Ff (by omega)];rfl
 ·have hi:n+L.length+1≤i:=hi;cases hq:(wR n gl L).get i with
  |none=>rfl
  |some o=>
   rcases TO hok (by omega) hq with ⟨x,_,_,h,_⟩ | ⟨j,p,cs,e,rfl,h,_⟩
   ·omega
   ·have:=(Gs.1 h).1
    omega
def TJ(P:Program)(W:World)(L:List Arg):Prop:=∀ (j:Nat) (p:Nat × Nat) (cs:List Value) (e:TypeId),L[j]? =some (p,some (cs,e))→∃ cs' fr,W.heap[p.1]? =some (.cells cs' e fr)∧p.2≤cs'.size∧
 ∀ i v,cs[i]? =some v→∃ v',cs'[p.2+i]? =some v'∧Az (mR P L) v v'
theorem AbT(hok:okG P.globals.size gl=true)(hk:P.globals.size+L.length+1≤Ao)(hW:Holds W gl)(hA:TJ P W L):Rel (mR P L) (wR P.globals.size gl L) W:=by
 have hget:=fun {i:Nat} {o:AO} (h:(wR P.globals.size gl L).get i=some o)=>TO hok (by omega) h;have hl:∀ x∈gl,x.2.1.all (Av 4)=true:=by
  unfold okG at hok;simp only [Bq,List.all_eq_true] at hok;intro x hx;exact List.all_eq_true.2 (hok.2 x hx).2
 have hlen:(L.map (·.1)).length=L.length:=List.length_map _;have harg:∀ {j:Nat} {p:Nat × Nat} {q:Option (List Value × TypeId)},L[j]? =some (p,q)→mR P L (P.globals.size+j)=some p:=by
  intro j p q h;show mA P _ _=_;rw [Yz,List.getElem?_map,h];rfl
 refine ⟨?_,?_,?_,?_,?_,hk,?_⟩
 ·intro i o c d hi hm;rcases hget hi with ⟨x,hx,rfl,hlt,rfl⟩ | ⟨j,p,cs,e,rfl,hj,rfl⟩
  ·have hm:mA P (L.map (·.1)) x.1=some (c,d):=hm;rw [LN hlt] at hm;cases hm;obtain ⟨fr,hc⟩:=hW x hx;exact ⟨_,hc,_,fr,rfl,fun i v hv=>⟨v,by simpa using hv,fun _=>Br 4 v (List.all_eq_true.1 (hl x hx) v (List.mem_of_getElem? hv)),fun h=>by cases h⟩⟩
  ·rw [harg hj] at hm;cases hm;obtain ⟨cs',fr,h1,h2,h3⟩:=hA j _ cs e hj;refine ⟨_,h1,cs',fr,rfl,fun i v hv=>?_⟩;obtain ⟨v',g1,g2⟩:=h3 i v hv;exact ⟨v',g1,fun _=>g2,fun h=>by cases h⟩
 ·intro i cs e b ro hi c d hm;rcases hget hi with ⟨x,hx,rfl,hlt,_⟩ | ⟨j,p,cs2,e2,rfl,hj,he⟩
  ·have hm:mA P (L.map (·.1)) x.1=some (c,d):=hm;rw [LN hlt] at hm;cases hm;rfl
  ·have:=(Gs.1 hj).1
   simp only [AO.row.injEq] at he;omega
 ·intro i j oi oj c di dj hij hi hj hmi hmj;refine .inl ?_;rcases hget hi with ⟨x,hx,rfl,hlt,rfl⟩ | ⟨j,p,cs2,e2,rfl,_,rfl⟩<;>rcases hget hj with ⟨y,hy,rfl,hlt2,rfl⟩ | ⟨j2,p2,cs3,e3,rfl,_,rfl⟩<;>exact ⟨rfl,rfl⟩
 ·intro i o f b hi hf;have hmem:∀ f,(wR P.globals.size gl L).members f=if f=P.globals.size+L.length then (List.range L.length).map (P.globals.size+·) else [f]:=by
   intro f;show (match ((Trie.nil:Trie (List Nat)).put depth (P.globals.size+L.length) _).get? f with | some l=>l | none=>[f])=_;rw [Trie.get?_put depth _ _ f _ (by unfold depth Ao at *;omega)];by_cases h:f=P.globals.size+L.length
   ·rw [if_pos h,if_pos h]
   ·rw [Ff h,Ff h];rfl
  rcases hget hi with ⟨x,hx,rfl,hlt,rfl⟩ | ⟨j,p,cs2,e2,rfl,hj,rfl⟩
  ·simp only [AO.fam,Oi,Pj] at hf;obtain ⟨rfl,rfl⟩:=hf;rw [hmem,Ff (by omega)];exact ⟨by simp,by show x.1<P.globals.size+L.length+1;omega⟩
  ·simp only [AO.fam,Oi,Pj] at hf;obtain ⟨rfl,rfl⟩:=hf
   have:=(Gs.1 hj).1
   rw [hmem,if_pos rfl];exact ⟨List.mem_map.2 ⟨j,List.mem_range.2 this,rfl⟩,by show _<P.globals.size+L.length+1;omega⟩
 ·intro i hi;have hi:P.globals.size+L.length+1≤i:=hi;have hf:=E8 (n:=P.globals.size) hok hk;refine ⟨hf.get i hi,?_,hf.fams i hi⟩;show (if i<P.globals.size then some (i,0) else (L.map (·.1))[i-P.globals.size]?)=none;rw [Ff (by omega)];exact List.getElem?_eq_none (by omega)
 ·intro i cs e f b ro c d hi hm;rcases hget hi with ⟨x,hx,rfl,hlt,he⟩ | ⟨j,p,cs2,e2,rfl,hj,he⟩
  ·cases he;have hm:mA P (L.map (·.1)) x.1=some (c,d):=hm;rw [LN hlt] at hm;cases hm;obtain ⟨fr,hc⟩:=hW x hx;exact ⟨fun h=>absurd rfl h,_,_,fr,hc,by show 0+0≤_;omega,fun h=>by cases h⟩
  ·cases he;rw [harg hj] at hm;cases hm;obtain ⟨cs',fr,h1,h2,h3⟩:=hA j _ _ _ hj;exact ⟨fun h=>absurd rfl h,cs',_,fr,h1,by show _+0≤_;omega,fun h=>by cases h⟩
theorem WI(hok:okG P.globals.size gl=true)(hk:P.globals.size+L.length≤Ao)(c:Nat):¬ Own (mR P L) (wR P.globals.size gl L) c:=by
 rintro ⟨i,o,d,hi,hro,_⟩;rcases TO hok hk hi with ⟨x,hx,rfl,hlt,rfl⟩ | ⟨j,p,cs2,e2,rfl,_,rfl⟩<;>cases hro
theorem Te {X:Ba} (hP:POk P) (hok:okG P.globals.size gl=true) (hk:P.globals.size+L.length+1≤Ao) {g:FuncId} {args args':List Value}
  (hW:Holds W gl) (hA:TJ P W L) (ha:Ay (mR P L) args args') (h:Wc P X W (mR P L) g args (wR P.globals.size gl L) fun v _=>v=.bool true):Calls P g ⟨args'⟩ W fun e W'=>e=.returned (.bool true)∧Below W.heap.size W W':=by
 refine (IQ hP h (AbT hok hk hW hA) (fun i hi=>LN hi) (WI hok (by omega)) ha).mono ?_;rintro e w' ⟨v,v',m',A',rfl,rfl,h2,h3⟩;cases h2;exact ⟨rfl,Zn h3 (WI hok (by omega))⟩
end
section
variable {H:Type} {enc:TypeId × Value→H} {P:Program}
def flat{β:Type}(f:β→List Value)(l:List β):List Value:=l.flatMap f
theorem IG{β:Type}{f:β→List Value}{n:Nat}(hn:∀ b,(f b).length=n):∀ l:List β,(flat f l).length=l.length*n
 |[]=>by simp [flat]
 |b::r=>by
  have:=IG hn r
  simp only [flat,List.flatMap_cons,List.length_append,hn,Lc] at *;rw [this,Nat.succ_mul];omega
theorem Jk{β:Type}{f:β→List Value}{n:Nat}(hn:∀ b,(f b).length=n):∀ (l:List β) (i:Nat) (b:β),l[i]? =some b→∃ rest,(flat f l).drop (i*n)=f b++rest
 |[],i,b,h=>by simp at h
 |x::r,0,b,h=>by
  simp only [List.getElem?_cons_zero,Oi] at h;subst h;exact ⟨flat f r,by simp [flat]⟩
 |x::r,i+1,b,h=>by
  simp only [List.getElem?_cons_succ] at h;obtain ⟨rest,h2⟩:=Jk hn r i b h;refine ⟨rest,?_⟩;rw [← h2];simp only [flat,List.flatMap_cons];rw [Nat.succ_mul,Nat.add_comm,← List.drop_drop,List.drop_append,hn,Nat.sub_self];rw [show List.drop n (f x)=[] from List.drop_eq_nil_of_le (by rw [hn];exact Nl _)]
  simp
theorem SN{β:Type}{f:β→List Value}{n:Nat}(hn:∀ b,(f b).length=n){l:List β}{i:Nat}{b:β}(h:l[i]? =some b){k:Nat}(hk:k<n):(flat f l)[i*n+k]? =(f b)[k]? :=by
 obtain ⟨rest,h2⟩:=Jk hn l i b h;rw [← List.getElem?_drop,h2,List.getElem?_append_left (by rw [hn];exact hk)]
inductive Bb (W:World) {β:Type} (f:β→List Value) (s:Value) (l:List β):Arg→Prop
 |nil (hl:l=[]) (hs:DW s) (h0:∃ o c,s=.slice o 0 c):Bb W f s l (placeOf s,none)
 |blk (a:Addr) (c:Nat) (cs:Array Value) (e':TypeId) (fr:Nat × Nat) (hs:s=.slice (some a) l.length c) (hc:l.length≤c) (hc2:c<BF) (hsp:a.spot=none) (hb:W.heap[a.block]? =some (.cells cs e' fr)) (ho:a.off≤cs.size)
   (hg:∀ i v,(flat f l)[i]? =some v→cs[a.off+i]? =some v):Bb W f s l ((a.block,a.off),some (flat f l,e'))
theorem Jr(a:Addr)(n:Nat)(h:a.spot=none):a.add n=⟨a.block,a.off+n,none⟩:=by
 unfold Addr.add;split
 ·rename_i h0;subst h0;obtain ⟨b,o,s⟩:=a;simp only at h;subst h;rfl
 ·rfl
theorem DQ {W:World} {t e:TypeId} {fuel:Nat} {cs:List Value} {x:DataW H × List MemPlace} {β:Type} {f:β→List Value} {ok:β→Prop} (b0:β) (hu:P.underlying t=some (.slice e)) (hz:0<P.cellsOf e) (hn:∀ b,(f b).length=P.cellsOf e)
  (hel:∀ q cs y,DataW.trod enc P W 0 (fun _=>true) true q e cs=some y→∃ b,cs=f b∧ok b) (h:DataW.trod enc P W 0 (fun _=>true) true fuel t cs=some x):
  ∃ s l L,cs=[s]∧Bb W f s l L∧(∀ b∈l,ok b):=by
 have hsl:=NU hu hz h;rcases Go.Deep.open_slice hu h with ⟨rfl,_⟩ | ⟨a,n,c,m,k,D,Pl,rfl,_,hnm,hc,hm,_,hx⟩
 ·exact ⟨_,[],_,rfl,.nil rfl (.inl rfl) ⟨none,0,rfl⟩,by simp⟩
 ·obtain ⟨s',hs1,hs2⟩:=hsl;simp only [Li,and_true] at hs1;subst hs1;have hm:m=c:=hm;subst hm;have hcap:m<BF:=by
   have h1:maxLen<BF:=by decide
   omega
  rcases Nat.eq_zero_or_pos n with rfl | hpos
  ·exact ⟨_,[],_,rfl,.nil rfl hs2 ⟨some a,m,rfl⟩,by simp⟩
  ·have key:∀ i,i<n→∃ b:β,ok b∧∀ j,j<P.cellsOf e→∃ v,(f b)[j]? =some v∧W.cell? ((a.add (i*P.cellsOf e)).add j)=some v:=by
    intro i hi;obtain ⟨cs',g1,g2⟩:=hx i (by omega);obtain ⟨_,hl,g3⟩:=World.cells?_some g1;obtain ⟨b,rfl,hok⟩:=hel _ _ _ g2;refine ⟨b,hok,fun j hj=>?_⟩;have h4:=g3 j (by omega);exact ⟨(f b)[j]'(by rw [hn];exact hj),Ge _,by rw [h4];exact Ge _⟩
   obtain ⟨bb,_,q⟩:=key 0 hpos;obtain ⟨v0,_,q2⟩:=q 0 hz;have hblk:a.spot=none∧∃ cs e' fr,W.heap[a.block]? =some (.cells cs e' fr)∧a.off≤cs.size:=by
    have:W.cell? a=some v0:=by simpa [Addr.add] using q2
    unfold World.cell? at this;split at this
    ·rename_i cs e' fr hh;split at this
     ·cases this
     ·rename_i hsp;refine ⟨?_,cs,e',fr,hh,?_⟩
      ·cases hq:a.spot with
       |none=>rfl
       |some z=>exact absurd (by simp [hq]) hsp
      ·have:=(Array.getElem?_eq_some_iff.1 this).1
       omega
    ·cases this
   obtain ⟨hsp,cs,e',fr,hh,hoff⟩:=hblk;let g:Nat→β:=fun i=>if h:i<n then Classical.choose (key i h) else b0
   have hg:∀ i (h:i<n),g i=Classical.choose (key i h):=fun i h=>dif_pos h;have hfl:((List.range n).map g).length=n:=by simp
   refine ⟨_,(List.range n).map g,_,rfl,.blk a m cs e' fr (by rw [hfl]) (by rw [hfl];exact hnm) hcap hsp hh hoff fun i v hi=>?_,fun b hb=>?_⟩
   ·have hlt:i<n*P.cellsOf e:=by
     have:=(Gs.1 hi).1
     rw [IG hn,hfl] at this;exact this
    have hdiv:i/P.cellsOf e<n:=(Nat.div_lt_iff_lt_mul hz).2 hlt;have hmod:i%P.cellsOf e<P.cellsOf e:=Nat.mod_lt _ hz;have hie:i/P.cellsOf e*P.cellsOf e+i%P.cellsOf e=i:=by rw [Nat.mul_comm];exact Nat.div_add_mod i _
    have hget:((List.range n).map g)[i/P.cellsOf e]? =some (g (i/P.cellsOf e)):=by
     rw [List.getElem?_map,List.getElem?_range hdiv];rfl
    have:=SN hn hget hmod
    rw [hie,hi,hg _ hdiv] at this;obtain ⟨_,p2⟩:=Classical.choose_spec (key _ hdiv);obtain ⟨v',p3,p4⟩:=p2 _ hmod;rw [← this] at p3;cases p3;rw [Jr a _ hsp,Jr _ _ rfl] at p4;unfold World.cell? at p4;rw [hh] at p4;simp only [Option.isSome_none,Bool.false_eq_true,if_false] at p4;rw [show a.off+i/P.cellsOf e*P.cellsOf e+i%P.cellsOf e=a.off+i by omega] at p4
    simpa using p4
   ·simp only [List.mem_map,List.mem_range] at hb;obtain ⟨i,hi,rfl⟩:=hb;rw [hg i hi];exact (Classical.choose_spec (key i hi)).1
end
end Go.Abs
namespace Go.Abs
structure ET (P:Program) (ts te:TypeId) (n:Nat) {β:Type} (f:β→List Value):Prop where
 us:P.underlying ts=some (.slice te)
 sz:szT P te=some (n+1)
 ag:Ol P te=some true
 by':∃ b,Gp P te=some b∧b≤256
 hz:D5 P te (n+1)=true
 len:∀ x,(f x).length=n+1
 one:∀ x,(f x).all AT=true
 noT:∀ x,(f x).all (fun v=>!isTuple v)=true
section
variable {P:Program} {ts te:TypeId} {n:Nat} {β:Type} {f:β→List Value}
def RdE(n:Nat)(f:β→List Value)(A:AW)(v:Value)(l:List β)(F:List Nat):Prop:=
 (l=[]∧F=[]∧∃ o c,v=.slice o 0 c)∨∃ r o c cs e g b ro,v=.slice (some ⟨r,o,none⟩) l.length c∧A.get r=some (.row cs e g b ro)∧g<A.next∧F=[g]∧∀ (i:Nat) p,l[i]? =some p→∃ rest,cs.drop (o+i*(n+1))=f p++rest
theorem RdE.keeps{A A':AW}{v:Value}{l:List β}{F S:List Nat}(h:RdE n f A v l F)(k:Bs A A' S)(hd:∀ x∈F,x∉S):RdE n f A' v l F:=by
 rcases h with h | ⟨r,o,c,cs,e,g,b,ro,h1,h2,h3,rfl,h4⟩
 ·exact .inl h
 ·exact .inr ⟨r,o,c,cs,e,g,b,ro,h1,k.get r _ h2 h3 (hd g (by simp)),Nat.lt_of_lt_of_le h3 k.next,rfl,h4⟩
theorem RdE.slice{A:AW}{v:Value}{l:List β}{F:List Nat}(h:RdE n f A v l F):∃ o c,v=.slice o l.length c:=by
 rcases h with ⟨rfl,_,o,c,rfl⟩ | ⟨r,o,c,cs,e,g,b,ro,rfl,_⟩<;>exact ⟨_,_,rfl⟩
theorem RdE.nil(A:AW)(o:Option Addr)(c:Nat):RdE n f A (.slice o 0 c) [] []:=.inl ⟨rfl,rfl,o,c,rfl⟩
theorem RdE.len(T:ET P ts te n f){A B:AW}{v:Value}{l:List β}{F:List Nat}(h:RdE n f A v l F):AB P B ts v=some (.int .i64 (l.length:Int)):=by
 obtain ⟨o,c,rfl⟩:=h.slice;unfold AB;simp only [T.us]
theorem GO:∀ (a rest:List Value),a.all (fun v=>!isTuple v)=true→Bf (a++rest) a.length=some a
 |[],rest,_=>by simp [Bf]
 |v::a,rest,h=>by
  simp only [List.all_cons,Bq,Bool.not_eq_true'] at h;rw [List.cons_append,Lc,Et h.1,GO a rest h.2]
theorem QY(T:ET P ts te n f){b o len c i:Nat}(hi:i<len):Ag P ts (.slice (some ⟨b,o,none⟩) len c) (.int .i64 (i:Int))=some (.pointer (some ⟨b,o+i*(n+1),none⟩)):=by
 show Ag P ts _ (.int .i64 (.ofNat i))=_;unfold Ag;simp only [T.us,AF.2 hi,Ct,T.sz];unfold Eh;cases hb:Nat.beq (i*(n+1)) 0 with
 |true=>rw [Ct,Nb hb,Nat.add_zero]
 |false=>rfl
theorem RdE.at(T:ET P ts te n f){A:AW}{v:Value}{l:List β}{F:List Nat}(h:RdE n f A v l F){i:Nat}{p:β}(hi:l[i]? =some p):
  ∃ r o,Ag P ts v (.int .i64 (i:Int))=some (.pointer (some ⟨r,o,none⟩))∧A.cells? ⟨r,o,none⟩ (n+1)=some (f p)∧Ad P A te (.pointer (some ⟨r,o,none⟩))=some (.agg ⟨f p⟩):=by
 rcases h with ⟨rfl,_⟩ | ⟨r,o,c,cs,e,g,b,ro,rfl,h2,h3,_,h4⟩
 ·simp at hi
 ·have hlt:i<l.length:=(Gs.1 hi).1;obtain ⟨rest,hr⟩:=h4 i p hi;have hc:A.cells? ⟨r,o+i*(n+1),none⟩ (n+1)=some (f p):=by
   rw [Bd h2,hr]
   have:=GO (f p) rest (T.noT p)
   rwa [T.len] at this
  refine ⟨r,o+i*(n+1),QY T hlt,hc,?_⟩;show Cv P A te _=_;unfold Cv;simp only [T.ag,T.sz,hc]
theorem cell_of{A:AW}{r o m:Nat}{cs:List Value}(h:A.cells? ⟨r,o,none⟩ (m+1)=some cs){k:Nat}{v:Value}(hk:cs[k]? =some v):A.cell? ⟨r,o+k,none⟩=some v:=by
 unfold AW.cells? at h;simp only at h;unfold AW.cell?;simp only;split at h
 ·rename_i cs0 e g b ro hg;have key:∀ (m o k:Nat) (l cs:List Value),Bf (l.drop o) m=some cs→cs[k]? =some v→cellOf l (o+k)=some v:=by
   intro m
   induction m with
   |zero=>intro o k l cs h hk;unfold Bf at h;simp at h;subst h;simp at hk
   |succ m ih=>
    intro o k l cs h hk;cases hl:l.drop o with
    |nil=>rw [hl] at h;unfold Bf at h;cases h
    |cons x r=>
     rw [hl] at h;unfold Bf at h;cases hx:isTuple x with
     |true=>rw [hx] at h;cases h
     |false=>
      rw [hx,Cf] at h;cases hr:Bf r m with
      |none=>rw [hr] at h;cases h
      |some q=>
       rw [hr] at h;simp only [Oi] at h;subst h;have hget:l[o]? =some x:=by
        have:(l.drop o)[0]? =some x:=by rw [hl];rfl
        rw [List.getElem?_drop,Nat.add_zero] at this;exact this
       have hr':l.drop (o+1)=r:=by
        have:=IN hget
        rw [hl] at this
        simpa using this.symm
       cases k with
       |zero=>
        obtain rfl:x=v:=by simpa using hk
        exact AK hget hx
       |succ k=>
        have:=ih (o+1) k l q (by rw [hr'];exact hr) (by simpa using hk)
        rw [show o+(k+1)=o+1+k by omega];exact this
  exact key (m+1) o k cs0 cs h hk
 ·cases h
def Ia(te:TypeId)(n:Nat)(f:β→List Value)(A:AW)(v:Value)(l:List β)(F:List Nat):Prop:=IX A te (n+1) v l.length (flat f l) F
theorem W4(a b:List β):flat f (a++b)=flat f a++flat f b:=by simp [flat]
theorem Ia.rd(hlen:∀ x,(f x).length=n+1){A:AW}{v:Value}{l:List β}{F:List Nat}(h:Ia te n f A v l F):RdE n f A v l F:=by
 rcases h with ⟨rfl,h2,_,rfl⟩ | ⟨b,g,rfl,h2,rfl⟩
 ·have:l=[]:=List.eq_nil_of_length_eq_zero h2
  subst this;exact .nil _ _ _
 ·exact .inr ⟨b,0,_,_,_,g,0,false,rfl,h2.row,h2.ltf,rfl,fun i p hi=>by rw [Nat.zero_add];exact Jk hlen l i p hi⟩
theorem Ia.keeps{A A':AW}{v:Value}{l:List β}{F S:List Nat}(h:Ia te n f A v l F)(k:Bs A A' S)(hd:∀ x∈F,x∉S):Ia te n f A' v l F:=IX.keeps h k hd
theorem Ia.nil(A:AW):Ia te n f A (.slice none 0 0) [] []:=IX.nil _ _ _
theorem Ia.lt{A:AW}{v:Value}{l:List β}{F:List Nat}(h:Ia te n f A v l F):∀ x∈F,x<A.next:=IX.lt h
theorem XU(T:ET P ts te n f){A:AW}{q:Nat}{p:β}{e:TypeId}(hq:Row1 A q (f p) e):Cm P A te ts (n+1) (.slice (some ⟨q,0,none⟩) 1 1)=some (0+1,f p):=by
 unfold Cm;simp only [T.us];show Hw A (n+1) (.slice (some ⟨q,0,none⟩) 1 1)=_;unfold Hw
 have:=GO (f p) [] (T.noT p)
 rw [List.append_nil,T.len] at this;simp only [Nat.one_mul,Bd hq.row,List.drop_zero,this]
theorem Ia.append (T:ET P ts te n f) {A:AW} {v:Value} {l:List β} {F:List Nat} {p:β} {q:Nat} {e:TypeId} {K:Value→AW→Prop} (h:Ia te n f A v l F) (hq:Row1 A q (f p) e) (hf:AH A) (hA:A.next<Ao) (hl:l.length<1000000)
  (hk:∀ v' A' F',Ia te n f A' v' (l++[p]) F'→Bs A A' F→(∀ x∈F',x∈F∨x=A.next)→A'.next=A.next+1→AH A'→K v' A'):Al (Bh P A ts ts v (.slice (some ⟨q,0,none⟩) 1 1)) K:=by
 have hroom:room=68719476736:=rfl;obtain ⟨b,hb,hb2⟩:=T.by'
 have hse:BJ P ts=some te:=by unfold BJ;rw [T.us]
 have hm:(l.length+(0+1))*b≤(l.length+(0+1))*256:=Nat.mul_le_mul_left _ hb2;refine Wf (m:=0) (size:=n) hse T.sz hb T.hz (XU T hq) (by rw [T.len];omega) (T.one p) h hf hA (by omega) (by omega) fun v' A' F' h1 h2 h3 h4 h5=>?_;refine hk v' A' F' ?_ h2 h3 h4 h5;show IX A' te (n+1) v' (l++[p]).length (flat f (l++[p])) F';rw [List.length_append,W4];have e:flat f [p]=f p:=by simp [flat]
 rw [e];exact h1
theorem VD(hlen:∀ x,(f x).length=n+1){N:Nat}{gl:List (Nat × List Value × TypeId)}{L:List Arg}{j c:Nat}{l:List β}{p:Nat × Nat}{e:TypeId}(hk:N+L.length+1≤Ao)(h:L[j]? =some (p,some (flat f l,e))):
  RdE n f (wR N gl L) (.slice (some ⟨N+j,0,none⟩) l.length c) l [N+L.length]:=
 .inr ⟨N+j,0,c,flat f l,e,N+L.length,0,true,rfl,AbD (by omega) h,by show N+L.length<N+L.length+1;omega,rfl,fun i q hi=>by rw [Nat.zero_add];exact Jk hlen l i q hi⟩
end
structure En (α β:Type) where
 k:α
 v:β
 b:Nat
section
variable {α β:Type} (ke:α→Value) (ve:β→Value)
def En.entry(e:En α β):MapEntry:={ key:=ke e.k,val:=ve e.v,born:=e.b }
structure MT (P:Program) (t kt et:TypeId) (ke:α→Value) (keq:α→α→Bool):Prop where
 ty:P.underlying t=some (.map kt et)
 eq:∀ a b,eqA P kt (ke a) (ke b)=some (keq a b)
 dec:∀ {a b},keq a b=true↔a=b
 q:∀ e a,IC P e kt (ke a)=true
 same:∀ a,(Av 4 (ke a)&&Instr.sameBits 10000 (ke a) (ke a))=true
structure Gu (A:AW) (r:Nat) (es:List (En α β)) (c:Nat):Prop where
 row:TE A r (es.map (En.entry ke ve)) c
 lt:∀ e∈es,e.b<c
 nb:(es.map En.b).Nodup
 nk:(es.map En.k).Nodup
end
section
variable {P:Program} {X:Ba} {W0:World} {m0:Inj P} {α β:Type} {ke:α→Value} {ve:β→Value} {keq:α→α→Bool} {t kt et:TypeId}
theorem Gu.keeps{A A':AW}{r:Nat}{es:List (En α β)}{c:Nat}{S:List Nat}(h:Gu ke ve A r es c)(k:Bs A A' S)(hn:r∉S):Gu ke ve A' r es c:=⟨h.row.keeps k hn,h.lt,h.nb,h.nk⟩
theorem Gu.ltA{A:AW}{r:Nat}{es:List (En α β)}{c:Nat}(h:Gu ke ve A r es c):r<A.next:=h.row.lt
theorem Aem{A:AW}{K:Value→AW→Prop}(hf:AH A)(h:A.next<Ao)(hk:∀ A',Gu (α:=α) (β:=β) ke ve A' A.next [] 0→Bs A A' []→A'.next=A.next+1→AH A'→K (.map (some A.next)) A'):Al (GC A) K:=
 Ab1 hf h fun A' h1 h2 h3 h4=>hk A' ⟨h1,by simp,by simp,by simp⟩ h2 h3 h4
def Ej(keq:α→α→Bool):List (En α β)→α→Option β
 |[],_=>none
 |e::es,k=>if keq k e.k=true then some e.v else Ej keq es k
def atE(keq:α→α→Bool):List (En α β)→α→Nat→Option Nat
 |[],_,_=>none
 |e::es,k,i=>if keq k e.k=true then some i else atE keq es k (i+1)
theorem KY(T:MT P t kt et ke keq)(k:α):∀ (es:List (En α β)) (i:Nat),GG P kt (ke k) (es.map (En.entry ke ve)) i=some (atE keq es k i)
 |[],i=>rfl
 |e::es,i=>by
  show (match eqA P kt (ke k) (ke e.k) with | some true=>some (some i) | some false=>GG P kt (ke k) (es.map (En.entry ke ve)) (i+1) | none=>none)=_;rw [T.eq];unfold atE;cases h:keq k e.k with
  |true=>simp
  |false=>
   simp only [Bool.false_eq_true,if_false];exact KY T k es (i+1)
theorem Jq{es:List (En α β)}{k:α}{i j:Nat}(h:atE keq es k i=some j):i≤j∧j-i<es.length∧∃ e,es[j-i]? =some e∧keq k e.k=true∧Ej keq es k=some e.v:=by
 induction es generalizing i with
 |nil=>cases h
 |cons e es ih=>
  unfold atE at h;unfold Ej;split at h
  ·rename_i hk;cases h;rw [if_pos hk,Nat.sub_self];exact ⟨Nl _,by simp,e,rfl,hk,rfl⟩
  ·rename_i hk;obtain ⟨h1,h2,e',h3,h4,h5⟩:=ih h;refine ⟨by omega,by simp;omega,e',?_,h4,?_⟩
   ·rw [show j-i=(j-(i+1))+1 by omega];exact h3
   ·rw [Ff hk];exact h5
theorem NF{es:List (En α β)}{k:α}{i:Nat}(h:atE keq es k i=none):(∀ e∈es,keq k e.k=false)∧Ej keq es k=none:=by
 induction es generalizing i with
 |nil=>exact ⟨by simp,rfl⟩
 |cons e es ih=>
  unfold atE at h;unfold Ej;split at h
  ·cases h
  ·rename_i hk;obtain ⟨h1,h2⟩:=ih h;refine ⟨fun x hx=>?_,by rw [Ff hk];exact h2⟩;rcases Mk.1 hx with rfl | hx
   ·simpa using hk
   ·exact h1 x hx
theorem GD(T:MT P t kt et ke keq):Dq P t=some (kt,et):=by unfold Dq;rw [T.ty]
theorem Gu.look(T:MT P t kt et ke keq){A:AW}{r:Nat}{es:List (En α β)}{c:Nat}(h:Gu ke ve A r es c){z:Value}(hz:Ci P et=some z)(k:α)(ok:Bool):
  DH P A t (.map (some r)) (ke k) ok=some (match Ej keq es k with | some v=>(bif ok then .tuple #[ve v,.bool true] else ve v) | none=>(bif ok then .tuple #[z,.bool false] else z)):=by
 unfold DH LL;simp only [GD T,h.row.row,T.q,Ct,KY T];cases ha:atE keq es k 0 with
 |none=>
  rw [(NF ha).2];simp only [hz]
 |some i=>
  obtain ⟨_,_,e,h3,_,h5⟩:=Jq ha;rw [Nat.sub_zero] at h3;rw [h5];simp only [List.getElem?_map,h3,Option.map_some];rfl
def Fp(keq:α→α→Bool):List (En α β)→α→β→Nat→List (En α β)
 |[],k,v,c=>[⟨k,v,c⟩]
 |e::es,k,v,c=>if keq k e.k=true then ⟨k,v,e.b⟩::es else e::Fp keq es k v c
theorem EX(hd:∀ {a b},keq a b=true↔a=b)(es:List (En α β))(k k':α)(v:β)(c:Nat):Ej keq (Fp keq es k v c) k'=if keq k' k=true then some v else Ej keq es k':=by
 induction es with
 |nil=>rfl
 |cons e es ih=>
  unfold Fp;split
  ·rename_i hk;have hk:=hd.1 hk;unfold Ej;rw [hk];split<;>rfl
  ·rename_i hk;unfold Ej;rw [ih];split
   ·rename_i h1;split
    ·rename_i h2;exact absurd (hd.2 ((hd.1 h2).symm.trans (hd.1 h1))) hk
    ·rfl
   ·rfl
theorem Vx(k:α)(v:β)(c:Nat):∀ (es:List (En α β)) (i j:Nat),(∀ {a b},keq a b=true↔a=b)→atE keq es k i=some j→DB (es.map (En.entry ke ve)) (j-i) (ke k) (ve v)=(Fp keq es k v c).map (En.entry ke ve)
 |[],i,j,_,h=>by cases h
 |e::es,i,j,hd,h=>by
  unfold atE at h;unfold Fp;split at h
  ·rename_i hk;cases h;rw [if_pos hk,Nat.sub_self];rfl
  ·rename_i hk
   have:=(Jq h).1
   rw [Ff hk,show j-i=(j-(i+1))+1 by omega];show e.entry ke ve::DB (es.map (En.entry ke ve)) (j-(i+1)) (ke k) (ve v)=_;rw [Vx k v c es (i+1) j hd h];rfl
theorem It{es:List (En α β)}{k:α}(hn:∀ e∈es,keq k e.k=false)(v:β)(c:Nat):Fp keq es k v c=es++[(⟨k,v,c⟩:En α β)]:=by
 induction es with
 |nil=>rfl
 |cons e es ih=>
  unfold Fp;rw [Ff (by rw [hn e List.mem_cons_self];simp),ih fun x hx=>hn x (List.mem_cons_of_mem _ hx)];rfl
theorem Sf(k:α)(v:β)(c:Nat):∀ (es:List (En α β)),(∀ {a b},keq a b=true↔a=b)→(∃ e∈es,keq k e.k=true)→(Fp keq es k v c).map En.k=es.map En.k∧(Fp keq es k v c).map En.b=es.map En.b
 |[],_,h=>by obtain ⟨e,he,_⟩:=h;cases he
 |e::es,hd,h=>by
  unfold Fp;split
  ·rename_i hk;rw [Mc,Mc,Mc,Mc,← hd.1 hk];exact ⟨rfl,rfl⟩
  ·rename_i hk;obtain ⟨x,hx,h2⟩:=h;rcases Mk.1 hx with rfl | hx
   ·exact absurd h2 hk
   ·obtain ⟨h3,h4⟩:=Sf k v c es hd ⟨x,hx,h2⟩;rw [Mc,Mc,Mc,Mc,h3,h4];exact ⟨rfl,rfl⟩
theorem Gu.put (T:MT P t kt et ke keq) {A:AW} {r:Nat} {es:List (En α β)} {c:Nat} (h:Gu ke ve A r es c) (hf:AH A) (hb:A.next≤Ao) {k:α} {v:β} {K:AW→Prop}
  (hk:∀ A' c',Gu ke ve A' r (Fp keq es k v c) c'→Bs A A' [r]→A'.next=A.next→AH A'→K A'):B5 (Cd P A t (.map (some r)) (ke k) (ve v)) K:=by
 unfold Cd;simp only [GD T,h.row.row,T.q,Ct,KY T];cases ha:atE keq es k 0 with
 |none=>
  obtain ⟨h1,h2⟩:=NF ha;obtain ⟨g1,g2,g3,g4⟩:=h.row.put (es':=es.map (En.entry ke ve)++[{ key:=ke k,val:=ve v,born:=c }]) (c':=c+1) hf hb;simp only;refine LX.2 (hk _ (c+1) ⟨?_,?_,?_,?_⟩ g2 g3 g4)
  ·rw [It h1,List.map_append];exact g1
  ·rw [It h1];intro e he;rcases Mz.1 he with he | he
   ·have:=h.lt e he;omega
   ·rw [Ms.1 he];exact Nat.lt_succ_self c
  ·rw [It h1,List.map_append,List.nodup_append];refine ⟨h.nb,by simp,fun a ha b hb=>?_⟩;obtain ⟨e,he,rfl⟩:=List.mem_map.1 ha
   have:=h.lt e he
   simp at hb;omega
  ·rw [It h1,List.map_append,List.nodup_append];refine ⟨h.nk,by simp,fun a ha b hb=>?_⟩;obtain ⟨e,he,rfl⟩:=List.mem_map.1 ha
   have:=h1 e he
   simp at hb;subst hb;intro h0;rw [T.dec.2 h0.symm] at this;cases this
 |some i=>
  obtain ⟨_,_,e,h3,h4,_⟩:=Jq ha;rw [Nat.sub_zero] at h3;have hke:k=e.k:=T.dec.1 h4;simp only [List.getElem?_map,h3,Option.map_some];have hs:(Av 4 (e.entry ke ve).key&&Instr.sameBits 10000 (e.entry ke ve).key (ke k))=true:=by
   show (Av 4 (ke e.k)&&Instr.sameBits 10000 (ke e.k) (ke k))=true;rw [hke];exact T.same _
  rw [hs,Ct];have hset:=Vx (ke:=ke) (ve:=ve) k v c es 0 i T.dec ha;rw [Nat.sub_zero] at hset;rw [hset];obtain ⟨g1,g2,g3,g4⟩:=h.row.put (es':=(Fp keq es k v c).map (En.entry ke ve)) (c':=c) hf hb;obtain ⟨p1,p2⟩:=Sf k v c es T.dec ⟨e,List.mem_of_getElem? h3,h4⟩;refine LX.2 (hk _ c ⟨g1,fun x hx=>?_,by rw [p2];exact h.nb,by rw [p1];exact h.nk⟩ g2 g3 g4)
  have:x.b∈(Fp keq es k v c).map En.b:=List.mem_map.2 ⟨x,hx,rfl⟩
  rw [p2] at this;obtain ⟨y,hy,hyb⟩:=List.mem_map.1 this
  have:=h.lt y hy
  omega
end
structure Nm where
 f:Nat
 g:ByteArray
 b:ByteArray
instance:Inhabited Nm:=⟨⟨0,.empty,.empty⟩⟩
def Nm.cells(p:Nm):List Value:=[.int .u32 (p.f:Int),.string p.g,.string p.b]
def Ep(a b:Int):Int:=if a<b then -1 else if b<a then 1 else 0
def orL:List Int→Int
 |[]=>0
 |a::r=>if a≠0 then a else orL r
def Db(a b:ByteArray):Int:=Go.Lib.compareBytes a.data.toList b.data.toList
def B6(p q:Nm):Int:=orL [Ep (p.f:Int) (q.f:Int),Db p.g q.g,Db p.b q.b]
theorem V6:∀ a:List UInt8,Go.Lib.compareBytes a a=0
 |[]=>rfl
 |a::xs=>by simp [Go.Lib.compareBytes,V6 xs]
theorem Abi:∀ {a b:List UInt8},Go.Lib.compareBytes a b=0→a=b
 |[],[],_=>rfl
 |[],_::_,h=>by simp [Go.Lib.compareBytes] at h
 |_::_,[],h=>by simp [Go.Lib.compareBytes] at h
 |a::xs,b::ys,h=>by
  simp only [Go.Lib.compareBytes] at h;split at h
  ·simp at h
  ·split at h
   ·simp at h
   ·rename_i h1 h2;have hab:a=b:=by
     have h1:=UInt8.not_lt.1 h1;have h2:=UInt8.not_lt.1 h2;exact UInt8.le_antisymm h2 h1
    rw [hab,Abi h]
theorem Td:∀ {a b c:List UInt8},Go.Lib.compareBytes a b<0→Go.Lib.compareBytes b c<0→Go.Lib.compareBytes a c<0
 |[],[],_,h,_=>by simp [Go.Lib.compareBytes] at h
 |[],_::_,[],_,h=>by simp [Go.Lib.compareBytes] at h
 |[],_::_,_::_,_,_=>by simp [Go.Lib.compareBytes]
 |_::_,[],_,h,_=>by simp [Go.Lib.compareBytes] at h
 |_::_,_::_,[],_,h=>by simp [Go.Lib.compareBytes] at h
 |a::xs,b::ys,c::zs,h1,h2=>by
  simp only [Go.Lib.compareBytes] at h1 h2 ⊢;by_cases p1:a<b
  ·by_cases p2:b<c
   ·rw [if_pos (UInt8.lt_trans p1 p2)];decide
   ·rw [Ff p2] at h2;by_cases p3:c<b
    ·rw [if_pos p3] at h2;exact absurd h2 (by decide)
    ·have:b=c:=UInt8.le_antisymm (UInt8.not_lt.1 p3) (UInt8.not_lt.1 p2)
     subst this;rw [if_pos p1];decide
  ·rw [Ff p1] at h1;by_cases p3:b<a
   ·rw [if_pos p3] at h1;exact absurd h1 (by decide)
   ·have:a=b:=UInt8.le_antisymm (UInt8.not_lt.1 p3) (UInt8.not_lt.1 p1)
    subst this;rw [Ff p3] at h1;by_cases p2:a<c
    ·rw [if_pos p2];decide
    ·rw [Ff p2] at h2 ⊢;by_cases p4:c<a
     ·rw [if_pos p4] at h2;exact absurd h2 (by decide)
     ·rw [Ff p4] at h2 ⊢;exact Td h1 h2
theorem Zc{a b:Int}:Ep a b<0↔a<b:=by
 unfold Ep;split
 ·omega
 ·split<;>omega
theorem Jn{a b:Int}:Ep a b=0↔a=b:=by
 unfold Ep;split
 ·omega
 ·split<;>omega
theorem OW{a b:ByteArray}(h:a.data.toList=b.data.toList):a=b:=by
 obtain ⟨⟨x⟩⟩:=a;obtain ⟨⟨y⟩⟩:=b;have h:x=y:=h;rw [h]
theorem Cg{a b:ByteArray}:Db a b=0↔a=b:=⟨fun h=>OW (Abi h),fun h=>by subst h;exact V6 _⟩
theorem E1{a b c:ByteArray}(h1:Db a b<0)(h2:Db b c<0):Db a c<0:=Td h1 h2
theorem RF(p q:Nm):B6 p q=if Ep (p.f:Int) (q.f:Int)≠0 then Ep (p.f:Int) (q.f:Int) else if Db p.g q.g≠0 then Db p.g q.g else Db p.b q.b:=by
 unfold B6;simp only [orL];split
 ·rfl
 ·split
  ·rfl
  ·split
   ·rfl
   ·rename_i h;exact (Classical.not_not.1 h).symm
theorem C2{p q:Nm}:B6 p q=0↔p=q:=by
 rw [RF];constructor
 ·intro h;split at h
  ·exact absurd h (by assumption)
  ·split at h
   ·exact absurd h (by assumption)
   ·rename_i h1 h2;have k1:=Jn.1 (Classical.not_not.1 h1);have k2:=Cg.1 (Classical.not_not.1 h2);have k3:=Cg.1 h;clear h h1 h2;obtain ⟨f,g,b⟩:=p;obtain ⟨f',g',b'⟩:=q;simp only at k1 k2 k3;have k1:f=f':=by omega
    subst k1;subst k2;subst k3;rfl
 ·rintro rfl;rw [Ff (by rw [Jn.2 rfl];simp),Ff (by rw [Cg.2 rfl];simp)];exact Cg.2 rfl
theorem NJ{p q:Nm}:B6 p q<0↔(p.f<q.f∨(p.f=q.f∧(Db p.g q.g<0∨(p.g=q.g∧Db p.b q.b<0)))):=by
 rw [RF];by_cases h1:(p.f:Int)=q.f
 ·rw [Ff (by rw [Jn.2 h1];simp)];have h1':p.f=q.f:=by omega
  by_cases h2:p.g=q.g
  ·rw [Ff (by rw [Cg.2 h2];simp)];constructor
   ·exact fun h=>.inr ⟨h1',.inr ⟨h2,h⟩⟩
   ·rintro (h | ⟨_,h | ⟨_,h⟩⟩)
    ·omega
    ·rw [Cg.2 h2] at h;omega
    ·exact h
  ·have h2':Db p.g q.g≠0:=fun h=>h2 (Cg.1 h);rw [if_pos h2'];constructor
   ·exact fun h=>.inr ⟨h1',.inl h⟩
   ·rintro (h | ⟨_,h | ⟨h,_⟩⟩)
    ·omega
    ·exact h
    ·exact absurd h h2
 ·rw [if_pos (fun h=>h1 (Jn.1 h)),Zc];constructor
  ·exact fun h=>.inl (by omega)
  ·rintro (h | ⟨h,_⟩)<;>omega
theorem Cb{p q r:Nm}(h1:B6 p q<0)(h2:B6 q r<0):B6 p r<0:=by
 rw [NJ] at *;rcases h1 with h1 | ⟨e1,h1⟩
 ·rcases h2 with h2 | ⟨e2,_⟩<;>exact .inl (by omega)
 ·rcases h2 with h2 | ⟨e2,h2⟩
  ·exact .inl (by omega)
  ·refine .inr ⟨by omega,?_⟩;rcases h1 with h1 | ⟨g1,h1⟩
   ·rcases h2 with h2 | ⟨g2,_⟩
    ·exact .inl (E1 h1 h2)
    ·exact .inl (by rw [← g2];exact h1)
   ·rcases h2 with h2 | ⟨g2,h2⟩
    ·exact .inl (by rw [g1];exact h2)
    ·exact .inr ⟨g1.trans g2,E1 h1 h2⟩
noncomputable def QX(a b:Nm):Bool:=@decide (a=b) (Classical.propDecidable _)
theorem Dr{a b:Nm}:QX a b=true↔a=b:=by unfold QX;exact @decide_eq_true_iff _ (Classical.propDecidable _)
end Go.Abs
namespace Go.Proofs.YtdpdajpiadohjaaGreatDoor
open Go.Abs
theorem Ny(b o:Nat):Ac Tp 46 (pP b o) 0=some (pP b o):=by kernel_rfl
theorem K7(b o:Nat):Ac Tp 46 (pP b o) 1=some (pP b (o+1)):=by kernel_rfl
theorem K6(b o:Nat):Ac Tp 46 (pP b o) 2=some (pP b (o+2)):=by kernel_rfl
theorem UI(A:AW)(a:Addr):Ad Tp A 3 (.pointer (some a))=A.cell? a:=by kernel_rfl
theorem UH(A:AW)(a:Addr):Ad Tp A 5 (.pointer (some a))=A.cell? a:=by kernel_rfl
theorem B1(A:AW)(a:Addr):Ad Tp A 9 (.pointer (some a))=A.cell? a:=by kernel_rfl
theorem P5(A:AW)(a:Addr):Ad Tp A 44 (.pointer (some a))=A.cell? a:=by kernel_rfl
theorem Aex(A:AW)(a:Addr):Ad Tp A 46 (.pointer (some a))=(match A.cells? a 3 with | some l=>some (.agg ⟨l⟩) | none=>none):=by kernel_rfl
theorem Aea(A:AW)(a:Addr)(v:Value):Bg Tp A 46 (.pointer (some a)) v=(bif Nat.beq v.cells.toList.length 3 then A.setCells a v.cells.toList else none):=by kernel_rfl
theorem YR(b o n c i:Nat)(k:IntKind):Ag Tp 143 (.slice (some ⟨b,o,none⟩) n c) (.int k (.ofNat i))=(bif Nat.blt i n then some (.pointer (some (Eh ⟨b,o,none⟩ (i*1)))) else none):=by kernel_rfl
theorem Eb(A:AW)(s:ByteArray):AB Tp A 9 (.string s)=some (.int .i64 s.data.toList.length):=by kernel_rfl
theorem YE(A:AW)(a:Option Addr)(n c:Nat):AB Tp A 143 (.slice a n c)=some (.int .i64 n):=by kernel_rfl
theorem AbE:Tp.underlying 9=some .string:=by kernel_rfl
theorem Abo:Ci Tp 46=some (.agg #[.int .u32 0,.string .empty,.string .empty]):=by kernel_rfl
theorem AfC(A:AW)(a b c:Int):AG Tp A 143 3 [(0,.int .i64 a),(1,.int .i64 b),(2,.int .i64 c)]=(match A.newRow [.int .i64 a,.int .i64 b,.int .i64 c] 3 with | some (a,w')=>.ok (.slice (some a) 3 3) w' | none=>.fail "buildSlice new"):=by kernel_rfl
theorem Ajw(A:AW)(f:Int)(g b:ByteArray):AG Tp A 28 1 [(0,.agg ⟨[.int .u32 f,.string g,.string b]⟩)]=(match A.newRow [.int .u32 f,.string g,.string b] 46 with | some (a,w')=>.ok (.slice (some a) 1 1) w' | none=>.fail "buildSlice new"):=by kernel_rfl
theorem YW(a b c:Int):BS Tp (BI (Tm.fill ⟨3,.nil⟩ 0 [.int .i64 a,.int .i64 b,.int .i64 c])) (.buildSlice 143 3 #[(0,.tmp 0),(1,.tmp 1),(2,.tmp 2)])=some (.slice [.int .i64 a,.int .i64 b,.int .i64 c] 3 3):=by kernel_rfl
theorem AhT:quiet Tp (underlying 46)=some (.struct (Tp.fieldsOf 46)):=by kernel_rfl
noncomputable def F46(i:Nat):Field:=(Tp.fieldsOf 46).toList.getD i default
theorem AhU:(Tp.fieldsOf 46).toList=[F46 0,F46 1,F46 2]:=by kernel_rfl
theorem Yk(f:Int)(g b:ByteArray):quiet Tp (part (F46 0).type ⟨[.int .u32 f,.string g,.string b]⟩ (F46 0).offset)=some (.int .u32 f):=by kernel_rfl
theorem Yj(f:Int)(g b:ByteArray):quiet Tp (part (F46 1).type ⟨[.int .u32 f,.string g,.string b]⟩ (F46 1).offset)=some (.string g):=by kernel_rfl
theorem Yi(f:Int)(g b:ByteArray):quiet Tp (part (F46 2).type ⟨[.int .u32 f,.string g,.string b]⟩ (F46 2).offset)=some (.string b):=by kernel_rfl
theorem AbH:(F46 0).type=44:=by kernel_rfl
theorem AbG:(F46 1).type=9:=by kernel_rfl
theorem AbF:(F46 2).type=9:=by kernel_rfl
theorem ut9:quiet Tp (underlying 9)=some .string:=by kernel_rfl
theorem AhF:quiet Tp (underlying 44)=some (.int .u32):=by kernel_rfl
def Mg(f f':Int)(g g' b b':ByteArray):Bool:=f==f'&&(g.data.toList==g'.data.toList&&b.data.toList==b'.data.toList)
theorem VE(n:Nat)(f f':Int)(g g' b b':ByteArray):quiet Tp (Op.equalIn (n+1+1) 46 (.agg ⟨[.int .u32 f,.string g,.string b]⟩) (.agg ⟨[.int .u32 f',.string g',.string b']⟩))=some (Mg f f' g g' b b'):=by
 rw [HD (n+1) 46 _ _ AhT (by kernel_rfl),AhU];rw [Dh (by kernel_rfl) (Yk f g b) (Yk f' g' b') (by rw [AbH];exact Kt n 44 _ _ _ _ AhF)];rw [Dh (by kernel_rfl) (Yj f g b) (Yj f' g' b') (by rw [AbG];exact I6 ut9)];rw [Dh (by kernel_rfl) (Yi f g b) (Yi f' g' b') (by rw [AbF];exact I6 ut9)];unfold Mg;cases f==f'<;>cases g.data.toList==g'.data.toList<;>cases b.data.toList==b'.data.toList<;>rfl
theorem PS{p q:Nm}:Mg (p.f:Int) (q.f:Int) p.g q.g p.b q.b=true↔p=q:=by
 unfold Mg;simp only [Bq,beq_iff_eq];constructor
 ·rintro ⟨h1,h2,h3⟩;have h2:=OW h2;have h3:=OW h3;obtain ⟨f,g,b⟩:=p;obtain ⟨f',g',b'⟩:=q;simp only at h1 h2 h3
  have:f=f':=by omega
  rw [this,h2,h3]
 ·rintro rfl;exact ⟨rfl,rfl,rfl⟩
theorem XV(p q:Nm):Mg (p.f:Int) (q.f:Int) p.g q.g p.b q.b=QX p q:=by
 rw [Bool.eq_iff_iff,PS,Dr]
def kN(p:Nm):Value:=.agg ⟨p.cells⟩
theorem Aft(p q:Nm):eqA Tp 46 (kN p) (kN q)=some (QX p q):=by
 unfold eqA;have hc:(Av 4 (kN p)&&Av 4 (kN q))=true:=rfl;rw [hc,Ct,← XV];exact VE 9998 _ _ _ _ _ _
theorem eqN(p q:Nm)(xo yo:Operand):Af Tp .eql 46 xo yo (.agg ⟨p.cells⟩) (.agg ⟨q.cells⟩)=some (.bool (QX p q)):=by
 have hg:CT Tp 46 xo yo (kN p) (kN q)=true:=by
  show (!Tp.eqGuardType Tp.depth 46)=true
  kernel_rfl
 show (bif CT Tp 46 xo yo (kN p) (kN q) then (match eqA Tp 46 (kN p) (kN q) with | some b=>some (Value.bool b) | none=>none) else none)=_;rw [hg,Ct,Aft]
theorem AhL(p q:Nm)(xo yo:Operand):Af Tp .neq 46 xo yo (.agg ⟨p.cells⟩) (.agg ⟨q.cells⟩)=some (.bool !(QX p q)):=by
 have hg:CT Tp 46 xo yo (kN p) (kN q)=true:=by
  show (!Tp.eqGuardType Tp.depth 46)=true
  kernel_rfl
 show (bif CT Tp 46 xo yo (kN p) (kN q) then (match eqA Tp 46 (kN p) (kN q) with | some b=>some (Value.bool !b) | none=>none) else none)=_;rw [hg,Ct,Aft]
theorem etN:ET Tp 28 46 2 Nm.cells:=⟨by kernel_rfl,by kernel_rfl,by kernel_rfl,⟨40,by kernel_rfl,by decide⟩,by kernel_rfl,fun _=>rfl,fun _=>rfl,fun _=>rfl⟩
noncomputable def T6:Nat→List Item:=fun i=>match i with
 |0=>[(.code (cd 6 [1,1,0,1,0,0])),(.inLoop (cd 6 [1,1,0,1,0,0])),(.inBlock 0),(.code (cd 6 [1,1,1]))]
 |_=>[]
noncomputable def T15:Nat→List Item:=fun i=>match i with
 |0=>[(.code (cd 15 [1,1,0,1,0,0])),(.inLoop (cd 15 [1,1,0,1,0,0])),(.inBlock 0),(.code (cd 15 [1,1,1]))]
 |2=>[(.code (cd 15 [1,1,0,1,0,0,1,0,0,1,1,0,0])),(.inLoop (cd 15 [1,1,0,1,0,0,1,0,0,1,1,0,0])),(.inBlock 2),(.inBlock 1),(.code (cd 15 [1,1,0,1,0,0,1,1])),(.inLoop (cd 15 [1,1,0,1,0,0])),(.inBlock 0),(.code (cd 15 [1,1,1]))]
 |4=>[(.code (cd 15 [1,1,1,0,1,0,0])),(.inLoop (cd 15 [1,1,1,0,1,0,0])),(.inBlock 4),(.code (cd 15 [1,1,1,1]))]
 |_=>[]
def L15:Nat→List Tmp:=fun i=>match i with
 |0=>[1,3]
 |2=>[1,3,4]
 |4=>[1,5]
 |_=>[]
section
variable (W0:World) (m0:Inj Tp) (S:Nat→List Value→AW→Prop) (Q:Value→AW→Prop)
theorem e15(a0:Value)(A:AW):gE W0 m0 S Q 15 119 T15 L15 [a0] A=(Al (Bk A (Value.cells a0).toList 37) fun t0 At0=>Aa (Ac Tp 37 t0 1) fun t1=>Aa (Ad Tp At0 33 t1) fun t2=>Aa (AB Tp At0 33 t2) fun t3=>Aa (Af Tp .gtr 3 (.tmp 8) (.const (.int .i64 12)) t3 (.int .i64 12)) fun t4=>Ae t4 (Q (.bool false) At0) (Aa (Ac Tp 37 t0 2) fun t5=>Aa (Ad Tp At0 34 t5) fun t6=>Aa (AB Tp At0 34 t6) fun t7=>Aa (Af Tp .gtr 3 (.tmp 13) (.const (.int .i64 12)) t7 (.int .i64 12)) fun t8=>Ae t8 (Q (.bool false) At0) (Aa (Ac Tp 37 t0 3) fun t9=>Aa (Ad Tp At0 35 t9) fun t10=>Aa (AB Tp At0 35 t10) fun t11=>Aa (Af Tp .gtr 3 (.tmp 19) (.const (.int .i64 40)) t11 (.int .i64 40)) fun t12=>Ae t12 (Q (.bool false) At0) (AE (T15 0) (T15 0) (S 0 [t0,(.int .i64 0)] At0))))):=by kernel_rfl
theorem Afi(d:Nat→Value)(A:AW):gL W0 m0 S Q 15 119 T15 L15 d 0 A=(Aa (Ac Tp 37 (d 1) 1) fun t0=>Aa (Ad Tp A 33 t0) fun t1=>Aa (AB Tp A 33 t1) fun t2=>Aa (Af Tp .lss 3 (.tmp 22) (.tmp 25) (d 3) t2) fun t3=>Ae t3 (Aa (Ac Tp 37 (d 1) 1) fun t4=>Aa (Ad Tp A 33 t4) fun t5=>Aa (Ag Tp 33 t5 (d 3)) fun t6=>Aa (Ac Tp 75 t6 2) fun t7=>Aa (Ad Tp A 73 t7) fun t8=>Aa (AB Tp A 73 t8) fun t9=>Aa (Af Tp .gtr 3 (.tmp 35) (.const (.int .i64 40)) t9 (.int .i64 40)) fun t10=>Ae t10 (Q (.bool false) A) (Aa (Ac Tp 37 (d 1) 1) fun t11=>Aa (Ad Tp A 33 t11) fun t12=>Aa (Ag Tp 33 t12 (d 3)) fun t13=>Aa (Ac Tp 75 t13 0) fun t14=>Aa (Ad Tp A 9 t14) fun t15=>Aa (AB Tp A 9 t15) fun t16=>Aa (Af Tp .gtr 3 (.tmp 44) (.const (.int .i64 200)) t16 (.int .i64 200)) fun t17=>Ae t17 (Q (.bool false) A) (AE (T15 2) (T15 2) (S 2 [(d 1),(d 3),(.int .i64 0)] A)))) (AE (T15 4) (T15 4) (S 4 [(d 1),(.int .i64 0)] A))):=by kernel_rfl
theorem Afh(d:Nat→Value)(A:AW):gL W0 m0 S Q 15 119 T15 L15 d 2 A=(Aa (Ac Tp 37 (d 1) 1) fun t0=>Aa (Ad Tp A 33 t0) fun t1=>Aa (Ag Tp 33 t1 (d 3)) fun t2=>Aa (Ac Tp 75 t2 2) fun t3=>Aa (Ad Tp A 73 t3) fun t4=>Aa (AB Tp A 73 t4) fun t5=>Aa (Af Tp .lss 3 (.tmp 47) (.tmp 54) (d 4) t5) fun t6=>Ae t6 (Aa (Ac Tp 37 (d 1) 1) fun t7=>Aa (Ad Tp A 33 t7) fun t8=>Aa (Ag Tp 33 t8 (d 3)) fun t9=>Aa (Ac Tp 75 t9 2) fun t10=>Aa (Ad Tp A 73 t10) fun t11=>Aa (Ag Tp 73 t11 (d 4)) fun t12=>Aa (Ac Tp 84 t12 2) fun t13=>Aa (Ad Tp A 9 t13) fun t14=>Aa (AB Tp A 9 t14) fun t15=>Aa (Af Tp .gtr 3 (.tmp 68) (.const (.int .i64 5000)) t15 (.int .i64 5000)) fun t16=>Ae t16 (Q (.bool false) A) (Aa (Ac Tp 37 (d 1) 1) fun t17=>Aa (Ad Tp A 33 t17) fun t18=>Aa (Ag Tp 33 t18 (d 3)) fun t19=>Aa (Ac Tp 75 t19 2) fun t20=>Aa (Ad Tp A 73 t20) fun t21=>Aa (Ag Tp 73 t21 (d 4)) fun t22=>Aa (Ac Tp 84 t22 1) fun t23=>Aa (Ad Tp A 82 t23) fun t24=>Wc Tp Ak W0 m0 34 [t24] A fun t25 At25=>Aa (unA Tp .not t25) fun t26=>Ae t26 (Q (.bool false) At25) (Aa (Af Tp .add 3 (.tmp 56) (.const (.int .i64 1)) (d 4) (.int .i64 1)) fun t27=>AE (T15 2) (T15 2) (S 2 [(d 1),(d 3),t27] At25)))) (Aa (Af Tp .add 3 (.tmp 27) (.const (.int .i64 1)) (d 3) (.int .i64 1)) fun t28=>AE (T15 0) (T15 0) (S 0 [(d 1),t28] A))):=by kernel_rfl
theorem Afg(d:Nat→Value)(A:AW):gL W0 m0 S Q 15 119 T15 L15 d 4 A=(Aa (Ac Tp 37 (d 1) 2) fun t0=>Aa (Ad Tp A 34 t0) fun t1=>Aa (AB Tp A 34 t1) fun t2=>Aa (Af Tp .lss 3 (.tmp 84) (.tmp 87) (d 5) t2) fun t3=>Ae t3 (Aa (Ac Tp 37 (d 1) 2) fun t4=>Aa (Ad Tp A 34 t4) fun t5=>Aa (Ag Tp 34 t5 (d 5)) fun t6=>Aa (Ac Tp 89 t6 1) fun t7=>Aa (Ad Tp A 86 t7) fun t8=>Aa (AB Tp A 86 t8) fun t9=>Aa (Af Tp .gtr 3 (.tmp 97) (.const (.int .i64 20)) t9 (.int .i64 20)) fun t10=>Ae t10 (Q (.bool false) A) (Aa (Ac Tp 37 (d 1) 2) fun t11=>Aa (Ad Tp A 34 t11) fun t12=>Aa (Ag Tp 34 t12 (d 5)) fun t13=>Aa (Ac Tp 89 t13 2) fun t14=>Aa (Ad Tp A 87 t14) fun t15=>Aa (AB Tp A 87 t15) fun t16=>Aa (Af Tp .gtr 3 (.tmp 106) (.const (.int .i64 20)) t16 (.int .i64 20)) fun t17=>Ae t17 (Q (.bool false) A) (Aa (Ac Tp 37 (d 1) 2) fun t18=>Aa (Ad Tp A 34 t18) fun t19=>Aa (Ag Tp 34 t19 (d 5)) fun t20=>Aa (Ad Tp A 89 t20) fun t21=>Wc Tp Ak W0 m0 36 [t21] A fun t22 At22=>Wc Tp Ak W0 m0 35 [t22] At22 fun t23 At23=>Aa (unA Tp .not t23) fun t24=>Ae t24 (Q (.bool false) At23) (Aa (Af Tp .add 3 (.tmp 89) (.const (.int .i64 1)) (d 5) (.int .i64 1)) fun t25=>AE (T15 4) (T15 4) (S 4 [(d 1),t25] At23))))) (Q (.bool true) A)):=by kernel_rfl
theorem w15:Wf1 15 119 T15 L15:=wf1 (fun _=>by kernel_rfl) (by decide) fun _=>rfl
theorem c15:B9 15 119 T15 L15:=Ce (by decide)
theorem e34(a0:Value)(A:AW):gE W0 m0 S Q 34 18 Tz Lz [a0] A=(Al (Bk A (Value.cells a0).toList 82) fun t0 At0=>Aa (Ac Tp 82 t0 0) fun t1=>Aa (Ad Tp At0 9 t1) fun t2=>Aa (AB Tp At0 9 t2) fun t3=>Aa (Af Tp .leq 3 (.tmp 5) (.const (.int .i64 1000)) t3 (.int .i64 1000)) fun t4=>Ae t4 (Aa (Ac Tp 82 t0 3) fun t5=>Aa (Ad Tp At0 9 t5) fun t6=>Aa (AB Tp At0 9 t6) fun t7=>Aa (Af Tp .leq 3 (.tmp 10) (.const (.int .i64 1000)) t7 (.int .i64 1000)) fun t8=>Ae t8 (Aa (Ac Tp 82 t0 4) fun t9=>Aa (Ad Tp At0 80 t9) fun t10=>knW Tp W0 m0 60 [t10] At0 fun t11 At11=>Q t11 At11) (Q (.bool false) At0)) (Q (.bool false) At0)):=by kernel_rfl
theorem w34:Wf1 34 18 Tz Lz:=wf1 (fun _=>by kernel_rfl) (by decide) fun _=>rfl
noncomputable def T35:Nat→List Item:=fun i=>match i with
 |0=>[(.code (cd 35 [1,1,0,1,0,0])),(.inLoop (cd 35 [1,1,0,1,0,0])),(.inBlock 0),(.code (cd 35 [1,1,1]))]
 |_=>[]
def L35:Nat→List Tmp:=fun i=>match i with
 |0=>[1,3]
 |_=>[]
theorem e35(a0:Value)(A:AW):gE W0 m0 S Q 35 35 T35 L35 [a0] A=(Al (Bk A (Value.cells a0).toList 92) fun t0 At0=>Aa (Ac Tp 92 t0 5) fun t1=>Aa (Ad Tp At0 87 t1) fun t2=>Aa (AB Tp At0 87 t2) fun t3=>Aa (Af Tp .gtr 3 (.tmp 6) (.const (.int .i64 110)) t3 (.int .i64 110)) fun t4=>Ae t4 (Q (.bool false) At0) (Aa (Ac Tp 92 t0 1) fun t5=>Aa (Ad Tp At0 9 t5) fun t6=>Aa (AB Tp At0 9 t6) fun t7=>Aa (Af Tp .gtr 3 (.tmp 11) (.const (.int .i64 200)) t7 (.int .i64 200)) fun t8=>Ae t8 (Q (.bool false) At0) (Aa (Ac Tp 92 t0 4) fun t9=>Aa (Ad Tp At0 86 t9) fun t10=>Wc Tp Ak W0 m0 61 [t10,(.int .i64 110)] At0 fun t11 At11=>Aa (unA Tp .not t11) fun t12=>Ae t12 (Q (.bool false) At11) (AE (T35 0) (T35 0) (S 0 [t0,(.int .i64 0)] At11))))):=by kernel_rfl
theorem Afd(d:Nat→Value)(A:AW):gL W0 m0 S Q 35 35 T35 L35 d 0 A=(Aa (Ac Tp 92 (d 1) 5) fun t0=>Aa (Ad Tp A 87 t0) fun t1=>Aa (AB Tp A 87 t1) fun t2=>Aa (Af Tp .lss 3 (.tmp 20) (.tmp 23) (d 3) t2) fun t3=>Ae t3 (Aa (Ac Tp 92 (d 1) 5) fun t4=>Aa (Ad Tp A 87 t4) fun t5=>Aa (Ag Tp 87 t5 (d 3)) fun t6=>Aa (Ac Tp 120 t6 0) fun t7=>Aa (Ad Tp A 9 t7) fun t8=>Aa (AB Tp A 9 t8) fun t9=>Aa (Af Tp .gtr 3 (.tmp 33) (.const (.int .i64 200)) t9 (.int .i64 200)) fun t10=>Ae t10 (Q (.bool false) A) (Aa (Af Tp .add 3 (.tmp 25) (.const (.int .i64 1)) (d 3) (.int .i64 1)) fun t11=>AE (T35 0) (T35 0) (S 0 [(d 1),t11] A))) (Q (.bool true) A)):=by kernel_rfl
theorem w35:Wf1 35 35 T35 L35:=wf1 (fun _=>by kernel_rfl) (by decide) fun _=>rfl
theorem c35:B9 35 35 T35 L35:=Ce (by decide)
theorem e36(a0:Value)(A:AW):gE W0 m0 S Q 36 10 Tz Lz [a0] A=(Al (Bk A (Value.cells a0).toList 89) fun t0 At0=>Al (BB Tp At0 92) fun t1 At1=>Aa (Ac Tp 89 t0 0) fun t2=>Aa (Ad Tp At1 46 t2) fun t3=>Aa (Ac Tp 89 t0 1) fun t4=>Aa (Ad Tp At1 86 t4) fun t5=>Aa (Ac Tp 89 t0 2) fun t6=>Aa (Ad Tp At1 87 t6) fun t7=>Aa (Ch Tp 92 [(0,(.int .u8 4)),(3,t3),(4,t5),(5,t7)]) fun t8=>B5 (Bg Tp At1 92 t1 t8) fun At9=>Aa (Ad Tp At9 92 t1) fun t10=>Q t10 At9):=by kernel_rfl
theorem w36:Wf1 36 10 Tz Lz:=wf1 (fun _=>by kernel_rfl) (by decide) fun _=>rfl
theorem e60(a0:Value)(A:AW):gE W0 m0 S Q 60 13 Tz Lz [a0] A=(Al (Bk A (Value.cells a0).toList 80) fun t0 At0=>Aa (Ad Tp At0 80 t0) fun t1=>knW Tp W0 m0 86 [t1,(.int .i64 400)] At0 fun t2 At2=>Aa (Af Tp .lss 3 (.tmp 4) (.const (.int .i64 0)) t2 (.int .i64 0)) fun t3=>Ae t3 (Q (.bool false) At2) (Aa (Ad Tp At2 80 t0) fun t4=>knW Tp W0 m0 87 [t4,(.int .i64 40)] At2 fun t5 At5=>Ae t5 (Q (.bool false) At5) (Aa (Ad Tp At5 80 t0) fun t6=>knW Tp W0 m0 88 [t6,(.int .i64 20000)] At5 fun t7 At7=>Aa (Af Tp .geq 3 (.tmp 11) (.const (.int .i64 0)) t7 (.int .i64 0)) fun t8=>Q t8 At7))):=by kernel_rfl
theorem w60:Wf1 60 13 Tz Lz:=wf1 (fun _=>by kernel_rfl) (by decide) fun _=>rfl
noncomputable def T61:Nat→List Item:=fun i=>match i with
 |0=>[(.code (cd 61 [1,1,1,0,1,0,0])),(.inLoop (cd 61 [1,1,1,0,1,0,0])),(.inBlock 0),(.code (cd 61 [1,1,1,1]))]
 |_=>[]
def L61:Nat→List Tmp:=fun i=>match i with
 |0=>[0,5,6]
 |_=>[]
theorem e61(a0 a1:Value)(A:AW):gE W0 m0 S Q 61 51 T61 L61 [a0,a1] A=(Aa (AB Tp A 86 a0) fun t0=>Aa (Af Tp .gtr 3 (.tmp 8) (.tmp 9) t0 a1) fun t1=>Ae t1 (Q (.bool false) A) (AE (T61 0) (T61 0) (S 0 [a0,(.int .i64 20000),(.int .i64 0)] A))):=by kernel_rfl
theorem AeZ(d:Nat→Value)(A:AW):gL W0 m0 S Q 61 51 T61 L61 d 0 A=(Aa (AB Tp A 86 (d 0)) fun t0=>Aa (Af Tp .lss 3 (.tmp 11) (.tmp 13) (d 6) t0) fun t1=>Ae t1 (Aa (Ag Tp 86 (d 0) (d 6)) fun t2=>Aa (Ac Tp 134 t2 3) fun t3=>Aa (Ad Tp A 9 t3) fun t4=>Aa (AB Tp A 9 t4) fun t5=>Aa (Af Tp .gtr 3 (.tmp 22) (.tmp 23) t5 (d 5)) fun t6=>Ae t6 (Q (.bool false) A) (Aa (Ag Tp 86 (d 0) (d 6)) fun t7=>Aa (Ac Tp 134 t7 0) fun t8=>Aa (Ad Tp A 9 t8) fun t9=>Aa (AB Tp A 9 t9) fun t10=>Aa (Af Tp .gtr 3 (.tmp 31) (.const (.int .i64 200)) t10 (.int .i64 200)) fun t11=>Ae t11 (Q (.bool false) A) (Aa (Ag Tp 86 (d 0) (d 6)) fun t12=>Aa (Ac Tp 134 t12 2) fun t13=>Aa (Ad Tp A 82 t13) fun t14=>Wc Tp Ak W0 m0 34 [t14] A fun t15 At15=>Aa (unA Tp .not t15) fun t16=>Ae t16 (Q (.bool false) At15) (Aa (Ag Tp 86 (d 0) (d 6)) fun t17=>Aa (Ac Tp 134 t17 3) fun t18=>Aa (Ad Tp At15 9 t18) fun t19=>Aa (AB Tp At15 9 t19) fun t20=>Aa (Af Tp .sub 3 (.tmp 43) (.tmp 49) (d 5) t20) fun t21=>Aa (Af Tp .add 3 (.tmp 15) (.const (.int .i64 1)) (d 6) (.int .i64 1)) fun t22=>AE (T61 0) (T61 0) (S 0 [(d 0),t21,t22] At15))))) (Q (.bool true) A)):=by kernel_rfl
theorem w61:Wf2 61 51 T61 L61:=wf2 (fun _ _=>by kernel_rfl) (by decide) fun _ _=>rfl
theorem c61:B9 61 51 T61 L61:=Ce (by decide)
noncomputable def T86:Nat→List Item:=fun i=>match i with
 |0=>[(.code (cd 86 [1,1,0,1,0,0])),(.inLoop (cd 86 [1,1,0,1,0,0])),(.inBlock 0),(.code (cd 86 [1,1,1]))]
 |_=>[]
def L86:Nat→List Tmp:=fun i=>match i with
 |0=>[1,2,5]
 |_=>[]
theorem e86(a0 a1:Value)(A:AW):gE W0 m0 S Q 86 27 T86 L86 [a0,a1] A=(Al (Bk A (Value.cells a0).toList 80) fun t0 At0=>Aa (Af Tp .sub 3 (.tmp 6) (.const (.int .i64 1)) a1 (.int .i64 1)) fun t1=>AE (T86 0) (T86 0) (S 0 [t1,t0,(.int .i64 0)] At0)):=by kernel_rfl
theorem AeF(d:Nat→Value)(A:AW):gL W0 m0 S Q 86 27 T86 L86 d 0 A=(Aa (Ac Tp 80 (d 2) 4) fun t0=>Aa (Ad Tp A 78 t0) fun t1=>Aa (AB Tp A 78 t1) fun t2=>Aa (Af Tp .lss 3 (.tmp 8) (.tmp 11) (d 5) t2) fun t3=>Ae t3 (Aa (Af Tp .geq 3 (.tmp 14) (.const (.int .i64 0)) (d 1) (.int .i64 0)) fun t4=>Ae t4 (Aa (Ac Tp 80 (d 2) 4) fun t5=>Aa (Ad Tp A 78 t5) fun t6=>Aa (Ag Tp 78 t6 (d 5)) fun t7=>Aa (Ad Tp A 80 t7) fun t8=>knW Tp W0 m0 86 [t8,(d 1)] A fun t9 At9=>Aa (Af Tp .add 3 (.tmp 17) (.const (.int .i64 1)) (d 5) (.int .i64 1)) fun t10=>AE (T86 0) (T86 0) (S 0 [t9,(d 2),t10] At9)) (Q (d 1) A)) (Q (d 1) A)):=by kernel_rfl
theorem w86:Wf2 86 27 T86 L86:=wf2 (fun _ _=>by kernel_rfl) (by decide) fun _ _=>rfl
theorem c86:B9 86 27 T86 L86:=Ce (by decide)
noncomputable def T87:Nat→List Item:=fun i=>match i with
 |0=>[(.code (cd 87 [1,1,0,1,0,0])),(.inLoop (cd 87 [1,1,0,1,0,0])),(.inBlock 0),(.code (cd 87 [1,1,1]))]
 |_=>[]
def L87:Nat→List Tmp:=fun i=>match i with
 |0=>[1,2,5]
 |_=>[]
theorem e87(a0 a1:Value)(A:AW):gE W0 m0 S Q 87 23 T87 L87 [a0,a1] A=(Al (Bk A (Value.cells a0).toList 80) fun t0 At0=>Aa (Af Tp .eql 3 (.tmp 6) (.const (.int .i64 0)) a1 (.int .i64 0)) fun t1=>Ae t1 (Q (.bool true) At0) (AE (T87 0) (T87 0) (S 0 [a1,t0,(.int .i64 0)] At0))):=by kernel_rfl
theorem Aba(d:Nat→Value)(A:AW):gL W0 m0 S Q 87 23 T87 L87 d 0 A=(Aa (Ac Tp 80 (d 2) 4) fun t0=>Aa (Ad Tp A 78 t0) fun t1=>Aa (AB Tp A 78 t1) fun t2=>Aa (Af Tp .lss 3 (.tmp 8) (.tmp 11) (d 5) t2) fun t3=>Ae t3 (Aa (Ac Tp 80 (d 2) 4) fun t4=>Aa (Ad Tp A 78 t4) fun t5=>Aa (Ag Tp 78 t5 (d 5)) fun t6=>Aa (Ad Tp A 80 t6) fun t7=>Aa (Af Tp .sub 3 (.tmp 20) (.const (.int .i64 1)) (d 1) (.int .i64 1)) fun t8=>knW Tp W0 m0 87 [t7,t8] A fun t9 At9=>Ae t9 (Q (.bool true) At9) (Aa (Af Tp .add 3 (.tmp 13) (.const (.int .i64 1)) (d 5) (.int .i64 1)) fun t10=>AE (T87 0) (T87 0) (S 0 [(d 1),(d 2),t10] At9))) (Q (.bool false) A)):=by kernel_rfl
theorem w87:Wf2 87 23 T87 L87:=wf2 (fun _ _=>by kernel_rfl) (by decide) fun _ _=>rfl
theorem c87:B9 87 23 T87 L87:=Ce (by decide)
noncomputable def T88:Nat→List Item:=fun i=>match i with
 |0=>[(.code (cd 88 [1,1,1,0,1,0,0])),(.inLoop (cd 88 [1,1,1,0,1,0,0])),(.inBlock 0),(.code (cd 88 [1,1,1,1]))]
 |2=>[(.code (cd 88 [1,1,1,1,0,1,0,0])),(.inLoop (cd 88 [1,1,1,1,0,1,0,0])),(.inBlock 2),(.code (cd 88 [1,1,1,1,1]))]
 |_=>[]
def L88:Nat→List Tmp:=fun i=>match i with
 |0=>[1,2,5]
 |2=>[1,2,6]
 |_=>[]
theorem e88(a0 a1:Value)(A:AW):gE W0 m0 S Q 88 70 T88 L88 [a0,a1] A=(Al (Bk A (Value.cells a0).toList 80) fun t0 At0=>Aa (Ac Tp 80 t0 2) fun t1=>Aa (Ad Tp At0 9 t1) fun t2=>Aa (AB Tp At0 9 t2) fun t3=>Aa (Af Tp .gtr 3 (.tmp 9) (.tmp 10) t3 a1) fun t4=>Ae t4 (Q (.int .i64 (-1)) At0) (Aa (Ac Tp 80 t0 3) fun t5=>Aa (Ad Tp At0 77 t5) fun t6=>Aa (AB Tp At0 77 t6) fun t7=>Aa (Af Tp .gtr 3 (.tmp 15) (.tmp 16) t7 a1) fun t8=>Ae t8 (Q (.int .i64 (-1)) At0) (Aa (Ac Tp 80 t0 2) fun t9=>Aa (Ad Tp At0 9 t9) fun t10=>Aa (AB Tp At0 9 t10) fun t11=>Aa (Af Tp .sub 3 (.tmp 19) (.tmp 22) a1 t11) fun t12=>Aa (Ac Tp 80 t0 3) fun t13=>Aa (Ad Tp At0 77 t13) fun t14=>Aa (AB Tp At0 77 t14) fun t15=>Aa (Af Tp .sub 3 (.tmp 23) (.tmp 26) t12 t15) fun t16=>AE (T88 0) (T88 0) (S 0 [t16,t0,(.int .i64 0)] At0)))):=by kernel_rfl
theorem AeE(d:Nat→Value)(A:AW):gL W0 m0 S Q 88 70 T88 L88 d 0 A=(Aa (Ac Tp 80 (d 2) 3) fun t0=>Aa (Ad Tp A 77 t0) fun t1=>Aa (AB Tp A 77 t1) fun t2=>Aa (Af Tp .lss 3 (.tmp 28) (.tmp 31) (d 5) t2) fun t3=>Ae t3 (Aa (Ac Tp 80 (d 2) 3) fun t4=>Aa (Ad Tp A 77 t4) fun t5=>Aa (Ag Tp 77 t5 (d 5)) fun t6=>Aa (Ad Tp A 9 t6) fun t7=>Aa (AB Tp A 9 t7) fun t8=>Aa (Af Tp .gtr 3 (.tmp 40) (.tmp 41) t8 (d 1)) fun t9=>Ae t9 (Q (.int .i64 (-1)) A) (Aa (Ac Tp 80 (d 2) 3) fun t10=>Aa (Ad Tp A 77 t10) fun t11=>Aa (Ag Tp 77 t11 (d 5)) fun t12=>Aa (Ad Tp A 9 t12) fun t13=>Aa (AB Tp A 9 t13) fun t14=>Aa (Af Tp .sub 3 (.tmp 43) (.tmp 49) (d 1) t14) fun t15=>Aa (Af Tp .add 3 (.tmp 33) (.const (.int .i64 1)) (d 5) (.int .i64 1)) fun t16=>AE (T88 0) (T88 0) (S 0 [t15,(d 2),t16] A))) (AE (T88 2) (T88 2) (S 2 [(d 1),(d 2),(.int .i64 0)] A))):=by kernel_rfl
theorem AeD(d:Nat→Value)(A:AW):gL W0 m0 S Q 88 70 T88 L88 d 2 A=(Aa (Ac Tp 80 (d 2) 4) fun t0=>Aa (Ad Tp A 78 t0) fun t1=>Aa (AB Tp A 78 t1) fun t2=>Aa (Af Tp .lss 3 (.tmp 51) (.tmp 54) (d 6) t2) fun t3=>Ae t3 (Aa (Af Tp .geq 3 (.tmp 57) (.const (.int .i64 0)) (d 1) (.int .i64 0)) fun t4=>Ae t4 (Aa (Ac Tp 80 (d 2) 4) fun t5=>Aa (Ad Tp A 78 t5) fun t6=>Aa (Ag Tp 78 t6 (d 6)) fun t7=>Aa (Ad Tp A 80 t7) fun t8=>knW Tp W0 m0 88 [t8,(d 1)] A fun t9 At9=>Aa (Af Tp .add 3 (.tmp 60) (.const (.int .i64 1)) (d 6) (.int .i64 1)) fun t10=>AE (T88 2) (T88 2) (S 2 [t9,(d 2),t10] At9)) (Q (d 1) A)) (Q (d 1) A)):=by kernel_rfl
theorem w88:Wf2 88 70 T88 L88:=wf2 (fun _ _=>by kernel_rfl) (by decide) fun _ _=>rfl
theorem c88:B9 88 70 T88 L88:=Ce (by decide)
end
theorem EG(b o:Nat):Ac Tp 37 (pP b o) 1=some (pP b (o+1)):=by kernel_rfl
theorem D7(b o:Nat):Ac Tp 37 (pP b o) 2=some (pP b (o+2)):=by kernel_rfl
theorem FF(b o:Nat):Ac Tp 37 (pP b o) 3=some (pP b (o+3)):=by kernel_rfl
theorem GI(b o:Nat):Ac Tp 75 (pP b o) 0=some (pP b o):=by kernel_rfl
theorem GH(b o:Nat):Ac Tp 75 (pP b o) 2=some (pP b (o+2)):=by kernel_rfl
theorem HU(b o:Nat):Ac Tp 80 (pP b o) 2=some (pP b (o+2)):=by kernel_rfl
theorem EF(b o:Nat):Ac Tp 80 (pP b o) 3=some (pP b (o+3)):=by kernel_rfl
theorem CL(b o:Nat):Ac Tp 80 (pP b o) 4=some (pP b (o+4)):=by kernel_rfl
theorem K5(b o:Nat):Ac Tp 82 (pP b o) 0=some (pP b o):=by kernel_rfl
theorem Jl(b o:Nat):Ac Tp 82 (pP b o) 3=some (pP b (o+3)):=by kernel_rfl
theorem FE(b o:Nat):Ac Tp 82 (pP b o) 4=some (pP b (o+4)):=by kernel_rfl
theorem Q8(b o:Nat):Ac Tp 84 (pP b o) 1=some (pP b (o+1)):=by kernel_rfl
theorem Q7(b o:Nat):Ac Tp 84 (pP b o) 2=some (pP b (o+10)):=by kernel_rfl
theorem HS(b o:Nat):Ac Tp 89 (pP b o) 0=some (pP b o):=by kernel_rfl
theorem K4(b o:Nat):Ac Tp 89 (pP b o) 1=some (pP b (o+3)):=by kernel_rfl
theorem HR(b o:Nat):Ac Tp 89 (pP b o) 2=some (pP b (o+4)):=by kernel_rfl
theorem Nw(b o:Nat):Ac Tp 92 (pP b o) 1=some (pP b (o+1)):=by kernel_rfl
theorem Nv(b o:Nat):Ac Tp 92 (pP b o) 4=some (pP b (o+6)):=by kernel_rfl
theorem K0(b o:Nat):Ac Tp 92 (pP b o) 5=some (pP b (o+7)):=by kernel_rfl
theorem IK(b o:Nat):Ac Tp 120 (pP b o) 0=some (pP b o):=by kernel_rfl
theorem IJ(b o:Nat):Ac Tp 134 (pP b o) 0=some (pP b o):=by kernel_rfl
theorem OD(b o:Nat):Ac Tp 134 (pP b o) 2=some (pP b (o+2)):=by kernel_rfl
theorem OC(b o:Nat):Ac Tp 134 (pP b o) 3=some (pP b (o+11)):=by kernel_rfl
theorem IB(A:AW)(a:Addr):Ad Tp A 33 (.pointer (some a))=A.cell? a:=by kernel_rfl
theorem H7(A:AW)(a:Addr):Ad Tp A 34 (.pointer (some a))=A.cell? a:=by kernel_rfl
theorem KS(A:AW)(a:Addr):Ad Tp A 35 (.pointer (some a))=A.cell? a:=by kernel_rfl
theorem Aez(A:AW)(a:Addr):Ad Tp A 37 (.pointer (some a))=(match A.cells? a 4 with | some l=>some (.agg ⟨l⟩) | none=>none):=by kernel_rfl
theorem Mx(A:AW)(a:Addr):Ad Tp A 73 (.pointer (some a))=A.cell? a:=by kernel_rfl
theorem Aew(A:AW)(a:Addr):Ad Tp A 75 (.pointer (some a))=(match A.cells? a 3 with | some l=>some (.agg ⟨l⟩) | none=>none):=by kernel_rfl
theorem IA(A:AW)(a:Addr):Ad Tp A 77 (.pointer (some a))=A.cell? a:=by kernel_rfl
theorem EQ(A:AW)(a:Addr):Ad Tp A 78 (.pointer (some a))=A.cell? a:=by kernel_rfl
theorem Sw(A:AW)(a:Addr):Ad Tp A 80 (.pointer (some a))=(match A.cells? a 5 with | some l=>some (.agg ⟨l⟩) | none=>none):=by kernel_rfl
theorem Sv(A:AW)(a:Addr):Ad Tp A 82 (.pointer (some a))=(match A.cells? a 9 with | some l=>some (.agg ⟨l⟩) | none=>none):=by kernel_rfl
theorem Aev(A:AW)(a:Addr):Ad Tp A 84 (.pointer (some a))=(match A.cells? a 11 with | some l=>some (.agg ⟨l⟩) | none=>none):=by kernel_rfl
theorem KQ(A:AW)(a:Addr):Ad Tp A 86 (.pointer (some a))=A.cell? a:=by kernel_rfl
theorem G6(A:AW)(a:Addr):Ad Tp A 87 (.pointer (some a))=A.cell? a:=by kernel_rfl
theorem Aeu(A:AW)(a:Addr):Ad Tp A 89 (.pointer (some a))=(match A.cells? a 5 with | some l=>some (.agg ⟨l⟩) | none=>none):=by kernel_rfl
theorem YG(A:AW)(a:Addr):Ad Tp A 92 (.pointer (some a))=(match A.cells? a 8 with | some l=>some (.agg ⟨l⟩) | none=>none):=by kernel_rfl
theorem Ad9(A:AW)(a:Addr)(v:Value):Bg Tp A 75 (.pointer (some a)) v=(bif Nat.beq v.cells.toList.length 3 then A.setCells a v.cells.toList else none):=by kernel_rfl
theorem Ad7(A:AW)(a:Addr)(v:Value):Bg Tp A 84 (.pointer (some a)) v=(bif Nat.beq v.cells.toList.length 11 then A.setCells a v.cells.toList else none):=by kernel_rfl
theorem Ad6(A:AW)(a:Addr)(v:Value):Bg Tp A 89 (.pointer (some a)) v=(bif Nat.beq v.cells.toList.length 5 then A.setCells a v.cells.toList else none):=by kernel_rfl
theorem Aa3(A:AW)(a:Addr)(v:Value):Bg Tp A 92 (.pointer (some a)) v=(bif Nat.beq v.cells.toList.length 8 then A.setCells a v.cells.toList else none):=by kernel_rfl
theorem Afj(b o n c i:Nat)(k:IntKind):Ag Tp 77 (.slice (some ⟨b,o,none⟩) n c) (.int k (.ofNat i))=(bif Nat.blt i n then some (.pointer (some (Eh ⟨b,o,none⟩ (i*1)))) else none):=by kernel_rfl
theorem Aa9(A:AW)(a:Option Addr)(n c:Nat):AB Tp A 33 (.slice a n c)=some (.int .i64 n):=by kernel_rfl
theorem Aa8(A:AW)(a:Option Addr)(n c:Nat):AB Tp A 34 (.slice a n c)=some (.int .i64 n):=by kernel_rfl
theorem Aet(A:AW)(a:Option Addr)(n c:Nat):AB Tp A 35 (.slice a n c)=some (.int .i64 n):=by kernel_rfl
theorem Aa7(A:AW)(a:Option Addr)(n c:Nat):AB Tp A 73 (.slice a n c)=some (.int .i64 n):=by kernel_rfl
theorem P3(A:AW)(a:Option Addr)(n c:Nat):AB Tp A 77 (.slice a n c)=some (.int .i64 n):=by kernel_rfl
theorem Ss(A:AW)(a:Option Addr)(n c:Nat):AB Tp A 78 (.slice a n c)=some (.int .i64 n):=by kernel_rfl
theorem Aeq(A:AW)(a:Option Addr)(n c:Nat):AB Tp A 86 (.slice a n c)=some (.int .i64 n):=by kernel_rfl
theorem YD(A:AW)(a:Option Addr)(n c:Nat):AB Tp A 87 (.slice a n c)=some (.int .i64 n):=by kernel_rfl
section
variable (W0:World) (m0:Inj Tp) (S:Nat→List Value→AW→Prop) (Q:Value→AW→Prop)
theorem Ah5(a0 a1:Value)(A:AW):gE W0 m0 S Q 174 11 Tz Lz [a0,a1] A=(Al (Bk A (Value.cells a0).toList 80) fun t0 At0=>Al (Bk At0 (Value.cells a1).toList 3) fun t1 At1=>Aa (Ad Tp At1 3 t1) fun t2=>Aa (Af Tp .eql 3 (.tmp 5) (.const (.int .i64 0)) t2 (.int .i64 0)) fun t3=>Ae t3 (Q (.bool true) At1) (Aa (Ac Tp 80 t0 4) fun t4=>Aa (Ad Tp At1 78 t4) fun t5=>Wc Tp Ak W0 m0 177 [t5,(.func (.func 178) ⟨[]⟩ ⟨[t1]⟩)] At1 fun t6 At6=>Q t6 At6)):=by kernel_rfl
theorem AgJ:Wf2 174 11 Tz Lz:=wf2 (fun _ _=>by kernel_rfl) (by decide) fun _ _=>rfl
theorem Ah1(a0 a1:Value)(A:AW):gE W0 m0 S Q 178 8 Tz Lz [a0,a1] A=(Al (Bk A (Value.cells a0).toList 80) fun t0 At0=>Aa (Ad Tp At0 80 t0) fun t1=>Aa (Ad Tp At0 3 a1) fun t2=>Aa (Af Tp .sub 3 (.tmp 5) (.const (.int .i64 1)) t2 (.int .i64 1)) fun t3=>Wc Tp Ak W0 m0 174 [t1,t3] At0 fun t4 At4=>Q t4 At4):=by kernel_rfl
theorem AgF:Wf2 178 8 Tz Lz:=wf2 (fun _ _=>by kernel_rfl) (by decide) fun _ _=>rfl
theorem Ah2(a0 a1:Value)(A:AW):gE W0 m0 S Q 177 9 Tz Lz [a0,a1] A=(Wc Tp Ak W0 m0 182 [a0,a1] A fun t0 At0=>Aa (Af Tp .geq 3 (.tmp 7) (.const (.int .i64 0)) t0 (.int .i64 0)) fun t1=>Q t1 At0):=by kernel_rfl
theorem AgG:Wf2 177 9 Tz Lz:=wf2 (fun _ _=>by kernel_rfl) (by decide) fun _ _=>rfl
noncomputable def Tt:Nat→List Item:=fun i=>match i with
 |0=>[(.code (cd 182 [1,0,1,0,0])),(.inLoop (cd 182 [1,0,1,0,0])),(.inBlock 0),(.code (cd 182 [1,1]))]
 |_=>[]
def Zz:Nat→List Tmp:=fun i=>match i with
 |0=>[0,1,7,8]
 |_=>[]
theorem AhX(a0 a1:Value)(A:AW):gE W0 m0 S Q 182 19 Tt Zz [a0,a1] A=(Aa (AB Tp A 78 a0) fun t0=>AE (Tt 0) (Tt 0) (S 0 [a0,a1,t0,(.int .i64 0)] A)):=by kernel_rfl
theorem Acg(d:Nat→Value)(A:AW):gL W0 m0 S Q 182 19 Tt Zz d 0 A=(Aa (Af Tp .lss 3 (.tmp 8) (.tmp 7) (d 8) (d 7)) fun t0=>Ae t0 (Aa (Ag Tp 78 (d 0) (d 8)) fun t1=>Aa (Ad Tp A 80 t1) fun t2=>anW Tp Ak W0 m0 (Cu Tp Ak A (d 1) [t2]) fun t3 At3=>Ae t3 (Q (d 8) At3) (Aa (Af Tp .add 3 (.tmp 8) (.const (.int .i64 1)) (d 8) (.int .i64 1)) fun t4=>AE (Tt 0) (Tt 0) (S 0 [(d 0),(d 1),(d 7),t4] At3))) (Q (.int .i64 (-1)) A)):=by kernel_rfl
theorem AgB:Wf2 182 19 Tt Zz:=wf2 (fun _ _=>by kernel_rfl) (by decide) fun _ _=>rfl
theorem Ai6:B9 182 19 Tt Zz:=Ce (by decide)
noncomputable def Tv:Nat→List Item:=fun i=>match i with
 |0=>[(.code (cd 175 [1,1,0,1,0,0])),(.inLoop (cd 175 [1,1,0,1,0,0])),(.inBlock 0),(.code (cd 175 [1,1,1]))]
 |_=>[]
def ZC:Nat→List Tmp:=fun i=>match i with
 |0=>[1,10,11,12]
 |_=>[]
theorem Ah4(a0 a1:Value)(A:AW):gE W0 m0 S Q 175 24 Tv ZC [a0,a1] A=(Al (Bk A (Value.cells a0).toList 80) fun t0 At0=>Aa (Af Tp .sub 3 (.tmp 7) (.const (.int .i64 1)) a1 (.int .i64 1)) fun t1=>Aa (Ac Tp 80 t0 4) fun t2=>Aa (Ad Tp At0 78 t2) fun t3=>Aa (AB Tp At0 78 t3) fun t4=>AE (Tv 0) (Tv 0) (S 0 [t1,t3,t4,(.int .i64 0)] At0)):=by kernel_rfl
theorem Acj(d:Nat→Value)(A:AW):gL W0 m0 S Q 175 24 Tv ZC d 0 A=(Aa (Af Tp .lss 3 (.tmp 12) (.tmp 11) (d 12) (d 11)) fun t0=>Ae t0 (Aa (Ag Tp 78 (d 10) (d 12)) fun t1=>Aa (Ad Tp A 80 t1) fun t2=>Al (BB Tp A 80) fun t3 At3=>B5 (Bg Tp At3 80 t3 t2) fun At4=>Aa (Af Tp .lss 3 (.tmp 16) (.const (.int .i64 0)) (d 1) (.int .i64 0)) fun t5=>Ae t5 (Q (d 1) At4) (Aa (Ad Tp At4 80 t3) fun t6=>Wc Tp Ak W0 m0 175 [t6,(d 1)] At4 fun t7 At7=>Aa (Af Tp .add 3 (.tmp 12) (.const (.int .i64 1)) (d 12) (.int .i64 1)) fun t8=>AE (Tv 0) (Tv 0) (S 0 [t7,(d 10),(d 11),t8] At7))) (Q (d 1) A)):=by kernel_rfl
theorem AgI:Wf2 175 24 Tv ZC:=wf2 (fun _ _=>by kernel_rfl) (by decide) fun _ _=>rfl
theorem Ai9:B9 175 24 Tv ZC:=Ce (by decide)
abbrev KB(x0:Value)(X2:AW):Prop:=Aa (Ac Tp 80 x0 0) fun t901=>Aa (Ad Tp X2 76 t901) fun t903=>Aa (Af Tp .eql 76 (.tmp 29) (.const (.int .u8 240)) t903 (.int .u8 240)) fun t904=>Ae t904 (Aa (Ac Tp 80 x0 1) fun t905=>Aa (Ad Tp X2 32 t905) fun t906=>Aa (Af Tp .eql 32 (.tmp 33) (.const (.int .u64 0)) t906 (.int .u64 0)) fun t907=>Ae t907 (Aa (Ac Tp 80 x0 2) fun t908=>Aa (Ad Tp X2 9 t908) fun t909=>Aa (Af Tp .eql 9 (.tmp 37) (.const (.string ⟨⟨[]⟩⟩)) t909 (.string ⟨⟨[]⟩⟩)) fun t910=>Q t910 X2) (Q (.bool false) X2)) (Aa (Af Tp .eql 76 (.tmp 29) (.const (.int .u8 8)) t903 (.int .u8 8)) fun t911=>Ae t911 (Aa (Ac Tp 80 x0 1) fun t912=>Aa (Ad Tp X2 32 t912) fun t913=>Aa (Af Tp .leq 32 (.tmp 43) (.const (.int .u64 1)) t913 (.int .u64 1)) fun t914=>Ae t914 (Aa (Ac Tp 80 x0 2) fun t915=>Aa (Ad Tp X2 9 t915) fun t916=>Aa (Af Tp .eql 9 (.tmp 47) (.const (.string ⟨⟨[]⟩⟩)) t916 (.string ⟨⟨[]⟩⟩)) fun t917=>Q t917 X2) (Q (.bool false) X2)) (Aa (Af Tp .eql 76 (.tmp 29) (.const (.int .u8 2)) t903 (.int .u8 2)) fun t918=>Ae t918 (Aa (Ac Tp 80 x0 1) fun t919=>Aa (Ad Tp X2 32 t919) fun t920=>Aa (Af Tp .leq 32 (.tmp 53) (.const (.int .u64 255)) t920 (.int .u64 255)) fun t921=>Ae t921 (Aa (Ac Tp 80 x0 2) fun t922=>Aa (Ad Tp X2 9 t922) fun t923=>Aa (Af Tp .eql 9 (.tmp 57) (.const (.string ⟨⟨[]⟩⟩)) t923 (.string ⟨⟨[]⟩⟩)) fun t924=>Q t924 X2) (Q (.bool false) X2)) (Aa (Af Tp .eql 76 (.tmp 29) (.const (.int .u8 50)) t903 (.int .u8 50)) fun t925=>Ae t925 (Aa (Ac Tp 80 x0 2) fun t926=>Aa (Ad Tp X2 9 t926) fun t927=>Aa (Af Tp .eql 9 (.tmp 64) (.const (.string ⟨⟨[]⟩⟩)) t927 (.string ⟨⟨[]⟩⟩)) fun t928=>Q t928 X2) (Aa (Af Tp .eql 76 (.tmp 29) (.const (.int .u8 49)) t903 (.int .u8 49)) fun t929=>Ae t929 (Aa (Ac Tp 80 x0 2) fun t930=>Aa (Ad Tp X2 9 t930) fun t931=>Aa (Af Tp .eql 9 (.tmp 64) (.const (.string ⟨⟨[]⟩⟩)) t931 (.string ⟨⟨[]⟩⟩)) fun t932=>Q t932 X2) (Aa (Af Tp .eql 76 (.tmp 29) (.const (.int .u8 149)) t903 (.int .u8 149)) fun t933=>Ae t933 (Aa (Ac Tp 80 x0 1) fun t934=>Aa (Ad Tp X2 32 t934) fun t935=>Aa (Af Tp .eql 32 (.tmp 69) (.const (.int .u64 0)) t935 (.int .u64 0)) fun t936=>Ae t936 (Aa (Ac Tp 80 x0 2) fun t937=>Aa (Ad Tp X2 9 t937) fun t938=>Aa (AB Tp X2 9 t938) fun t939=>Aa (Af Tp .leq 3 (.tmp 74) (.const (.int .i64 4096)) t939 (.int .i64 4096)) fun t940=>Ae t940 (Aa (Ac Tp 80 x0 2) fun t941=>Aa (Ad Tp X2 9 t941) fun t942=>Wc Tp Ak W0 m0 179 [t942] X2 fun t943 At944=>Q t943 At944) (Q (.bool false) X2)) (Q (.bool false) X2)) (Aa (Af Tp .eql 76 (.tmp 29) (.const (.int .u8 160)) t903 (.int .u8 160)) fun t945=>Ae t945 (Aa (Ac Tp 80 x0 1) fun t946=>Aa (Ad Tp X2 32 t946) fun t947=>Aa (Af Tp .eql 32 (.tmp 85) (.const (.int .u64 0)) t947 (.int .u64 0)) fun t948=>Ae t948 (Aa (Ac Tp 80 x0 2) fun t949=>Aa (Ad Tp X2 9 t949) fun t950=>Aa (AB Tp X2 9 t950) fun t951=>Aa (Af Tp .leq 3 (.tmp 90) (.const (.int .i64 4096)) t951 (.int .i64 4096)) fun t952=>Q t952 X2) (Q (.bool false) X2)) (Aa (Af Tp .eql 76 (.tmp 29) (.const (.int .u8 168)) t903 (.int .u8 168)) fun t953=>Ae t953 (Aa (Ac Tp 80 x0 3) fun t954=>Aa (Ad Tp X2 77 t954) fun t955=>Aa (AB Tp X2 77 t955) fun t956=>Aa (Ac Tp 80 x0 4) fun t957=>Aa (Ad Tp X2 78 t957) fun t958=>Aa (AB Tp X2 78 t958) fun t959=>Aa (Af Tp .neq 3 (.tmp 97) (.tmp 100) t956 t959) fun t960=>Ae t960 (Q (.bool false) X2) (Aa (Ac Tp 80 x0 3) fun t961=>Aa (Ad Tp X2 77 t961) fun t962=>Wc Tp Ak W0 m0 180 [t962] X2 fun t963 At964=>Aa (unA Tp .not t963) fun t965=>Ae t965 (Q (.bool false) At964) (Aa (Ac Tp 80 x0 1) fun t966=>Aa (Ad Tp At964 32 t966) fun t967=>Aa (Af Tp .eql 32 (.tmp 111) (.const (.int .u64 0)) t967 (.int .u64 0)) fun t968=>Ae t968 (Aa (Ac Tp 80 x0 2) fun t969=>Aa (Ad Tp At964 9 t969) fun t970=>Aa (Af Tp .eql 9 (.tmp 115) (.const (.string ⟨⟨[]⟩⟩)) t970 (.string ⟨⟨[]⟩⟩)) fun t971=>Ae t971 (Aa (Ac Tp 80 x0 4) fun t972=>Aa (Ad Tp At964 78 t972) fun t973=>Wc Tp Ak W0 m0 177 [t973,(.func (.func 181) #[] #[])] At964 fun t974 At975=>Aa (unA Tp .not t974) fun t976=>Q t976 At975) (Q (.bool false) At964)) (Q (.bool false) At964)))) (Aa (Af Tp .eql 76 (.tmp 29) (.const (.int .u8 169)) t903 (.int .u8 169)) fun t977=>Ae t977 (Aa (Ac Tp 80 x0 1) fun t978=>Aa (Ad Tp X2 32 t978) fun t979=>Aa (Af Tp .eql 32 (.tmp 111) (.const (.int .u64 0)) t979 (.int .u64 0)) fun t980=>Ae t980 (Aa (Ac Tp 80 x0 2) fun t981=>Aa (Ad Tp X2 9 t981) fun t982=>Aa (Af Tp .eql 9 (.tmp 115) (.const (.string ⟨⟨[]⟩⟩)) t982 (.string ⟨⟨[]⟩⟩)) fun t983=>Ae t983 (Aa (Ac Tp 80 x0 4) fun t984=>Aa (Ad Tp X2 78 t984) fun t985=>Wc Tp Ak W0 m0 177 [t985,(.func (.func 181) #[] #[])] X2 fun t986 At987=>Aa (unA Tp .not t986) fun t988=>Q t988 At987) (Q (.bool false) X2)) (Q (.bool false) X2)) (Q (.bool false) X2)))))))))
abbrev Nc(x0:Value)(X2:AW):Prop:=Aa (Ac Tp 80 x0 0) fun t901=>Aa (Ad Tp X2 76 t901) fun t903=>Aa (Af Tp .neq 76 (.tmp 14) (.const (.int .u8 168)) t903 (.int .u8 168)) fun t904=>Ae t904 (Aa (Ac Tp 80 x0 0) fun t905=>Aa (Ad Tp X2 76 t905) fun t906=>Aa (Af Tp .neq 76 (.tmp 18) (.const (.int .u8 169)) t906 (.int .u8 169)) fun t907=>Ae t907 (Aa (Ac Tp 80 x0 4) fun t908=>Aa (Ad Tp X2 78 t908) fun t909=>Aa (AB Tp X2 78 t909) fun t910=>Aa (Af Tp .gtr 3 (.tmp 24) (.const (.int .i64 0)) t910 (.int .i64 0)) fun t911=>Ae t911 (Q (.bool false) X2) (KB W0 m0 Q x0 X2)) (KB W0 m0 Q x0 X2)) (KB W0 m0 Q x0 X2)
theorem Ah3(a0:Value)(A:AW):gE W0 m0 S Q 176 124 Tz Lz [a0] A=(Al (Bk A (Value.cells a0).toList 80) fun t0 At0=>Aa (Ac Tp 80 t0 0) fun t1=>Aa (Ad Tp At0 76 t1) fun t2=>Aa (Af Tp .neq 76 (.tmp 4) (.const (.int .u8 168)) t2 (.int .u8 168)) fun t3=>Ae t3 (Aa (Ac Tp 80 t0 3) fun t4=>Aa (Ad Tp At0 77 t4) fun t5=>Aa (AB Tp At0 77 t5) fun t6=>Aa (Af Tp .gtr 3 (.tmp 9) (.const (.int .i64 0)) t6 (.int .i64 0)) fun t7=>Ae t7 (Q (.bool false) At0) (Nc W0 m0 Q t0 At0)) (Nc W0 m0 Q t0 At0)):=by kernel_rfl
theorem AgH:Wf1 176 124 Tz Lz:=wf1 (fun _=>by kernel_rfl) (by decide) fun _=>rfl
theorem AhY(a0:Value)(A:AW):gE W0 m0 S Q 181 6 Tz Lz [a0] A=(Al (Bk A (Value.cells a0).toList 80) fun t0 At0=>Aa (Ad Tp At0 80 t0) fun t1=>Wc Tp Ak W0 m0 176 [t1] At0 fun t2 At2=>Aa (unA Tp .not t2) fun t3=>Q t3 At2):=by kernel_rfl
theorem AgC:Wf1 181 6 Tz Lz:=wf1 (fun _=>by kernel_rfl) (by decide) fun _=>rfl
noncomputable def Tu:Nat→List Item:=fun i=>match i with
 |0=>[(.code (cd 180 [1,1,0,1,0,0])),(.inLoop (cd 180 [1,1,0,1,0,0])),(.inBlock 0),(.code (cd 180 [1,1,1]))]
 |_=>[]
def ZA:Nat→List Tmp:=fun i=>match i with
 |0=>[3,7,8,9]
 |_=>[]
theorem AhZ(a0:Value)(A:AW):gE W0 m0 S Q 180 36 Tu ZA [a0] A=(Al (GC A) fun t0 At0=>Aa (AB Tp At0 77 a0) fun t1=>AE (Tu 0) (Tu 0) (S 0 [t0,a0,t1,(.int .i64 0)] At0)):=by kernel_rfl
theorem Ach(d:Nat→Value)(A:AW):gL W0 m0 S Q 180 36 Tu ZA d 0 A=(Aa (Af Tp .lss 3 (.tmp 9) (.tmp 8) (d 9) (d 8)) fun t0=>Ae t0 (Aa (Ag Tp 77 (d 7) (d 9)) fun t1=>Aa (Ad Tp A 9 t1) fun t2=>Aa (Af Tp .eql 9 (.tmp 13) (.const (.string ⟨⟨[]⟩⟩)) t2 (.string ⟨⟨[]⟩⟩)) fun t3=>Ae t3 (Q (.bool false) A) (Aa (AB Tp A 9 t2) fun t4=>Aa (Af Tp .gtr 3 (.tmp 17) (.const (.int .i64 255)) t4 (.int .i64 255)) fun t5=>Ae t5 (Q (.bool false) A) (Wc Tp Ak W0 m0 179 [t2] A fun t6 At6=>Aa (unA Tp .not t6) fun t7=>Ae t7 (Q (.bool false) At6) (Aa (DH Tp At6 236 (d 3) t2 false) fun t8=>Aa (Af Tp .gtr 3 (.tmp 28) (.const (.int .i64 0)) t8 (.int .i64 0)) fun t9=>Ae t9 (Q (.bool false) At6) (Aa (DH Tp At6 236 (d 3) t2 false) fun t10=>Aa (Af Tp .add 3 (.tmp 33) (.const (.int .i64 1)) t10 (.int .i64 1)) fun t11=>B5 (Cd Tp At6 236 (d 3) t2 t11) fun At12=>Aa (Af Tp .add 3 (.tmp 9) (.const (.int .i64 1)) (d 9) (.int .i64 1)) fun t13=>AE (Tu 0) (Tu 0) (S 0 [(d 3),(d 7),(d 8),t13] At12)))))) (Q (.bool true) A)):=by kernel_rfl
theorem AgD:Wf1 180 36 Tu ZA:=wf1 (fun _=>by kernel_rfl) (by decide) fun _=>rfl
theorem Ai7:B9 180 36 Tu ZA:=Ce (by decide)
noncomputable def PC:Nat→List Item:=fun i=>match i with
 |0=>[(.code (cd 179 [1,0,1,0,0])),(.inLoop (cd 179 [1,0,1,0,0])),(.inBlock 0),(.code (cd 179 [1,1]))]
 |_=>[]
def ZB:Nat→List Tmp:=fun i=>match i with
 |0=>[0,8]
 |_=>[]
theorem Ah0(a0:Value)(A:AW):gE W0 m0 S Q 179 24 PC ZB [a0] A=(anW Tp Ak W0 m0 (Uf Tp A 9 a0) fun t0 At0=>AE (PC 0) (PC 0) (S 0 [a0,t0] At0)):=by kernel_rfl
theorem Aci(d:Nat→Value)(A:AW):gL W0 m0 S Q 179 24 PC ZB d 0 A=(anW Tp Ak W0 m0 (Mu A (d 8) true) fun t0 At0=>Aa (Aw t0 0) fun t1=>Ae t1 (Aa (Aw t0 1) fun t2=>Aa (Aw t0 2) fun t3=>Aa (Af Tp .eql 21 (.tmp 13) (.const (.int .i32 65533)) t3 (.int .i32 65533)) fun t4=>Ae t4 (Aa (Ik Tp At0 9 (d 0) (some t2) none none) fun t5=>Wc Tp Ak W0 m0 183 [t5] At0 fun t6 At6=>Aa (Aw t6 0) fun t7=>Aa (Aw t6 1) fun t8=>Aa (Af Tp .eql 3 (.tmp 22) (.const (.int .i64 1)) t8 (.int .i64 1)) fun t9=>Ae t9 (Q (.bool false) At6) (AE (PC 0) (PC 0) (S 0 [(d 0),(d 8)] At6))) (AE (PC 0) (PC 0) (S 0 [(d 0),(d 8)] At0))) (Q (.bool true) At0)):=by kernel_rfl
theorem AgE:Wf1 179 24 PC ZB:=wf1 (fun _=>by kernel_rfl) (by decide) fun _=>rfl
theorem Ai8:B9 179 24 PC ZB:=Ce (by decide)
theorem AhW(a0:Value)(A:AW):gE W0 m0 S Q 183 19 Tz Lz [a0] A=(Aa (Af Tp .neq 9 (.tmp 4) (.const (.string ⟨⟨[]⟩⟩)) a0 (.string ⟨⟨[]⟩⟩)) fun t0=>Ae t0 (Aa (BU Tp 9 a0 (.int .i64 0)) fun t1=>Aa (Af Tp .lss 5 (.tmp 8) (.const (.int .u8 128)) t1 (.int .u8 128)) fun t2=>Ae t2 (Aa (BU Tp 9 a0 (.int .i64 0)) fun t3=>Al (AI Tp A 5 21 t3) fun t4 At4=>Q (.tuple ⟨[t4,(.int .i64 1)]⟩) At4) (Wc Tp Ak W0 m0 184 [a0] A fun t5 At5=>Aa (Aw t5 0) fun t6=>Aa (Aw t5 1) fun t7=>Q (.tuple ⟨[t6,t7]⟩) At5)) (Wc Tp Ak W0 m0 184 [a0] A fun t8 At8=>Aa (Aw t8 0) fun t9=>Aa (Aw t8 1) fun t10=>Q (.tuple ⟨[t9,t10]⟩) At8)):=by kernel_rfl
theorem AgA:Wf1 183 19 Tz Lz:=wf1 (fun _=>by kernel_rfl) (by decide) fun _=>rfl
abbrev Na(x0:Value)(X2:AW)(x5:Value)(z0:Nat)(z1:Nat)(z2:Nat)(y3:Value):Prop:=Aa (Af Tp .and 5 (.tmp z0) (.const (.int .u8 63)) x0 (.int .u8 63)) fun t901=>Al (AI Tp X2 5 21 t901) fun t903 At904=>Aa (Af Tp .or 21 (.tmp z1) (.tmp z2) x5 t903) fun t906=>Q (.tuple ⟨[t906,y3]⟩) At904
theorem Afu(a0:Value)(A:AW):gE W0 m0 S Q 184 117 Tz Lz [a0] A=(Aa (AB Tp A 9 a0) fun t0=>Aa (Af Tp .lss 3 (.tmp 15) (.const (.int .i64 1)) t0 (.int .i64 1)) fun t1=>Ae t1 (Q (.tuple ⟨[(.int .i32 65533),(.int .i64 0)]⟩) A) (Aa (BU Tp 9 a0 (.int .i64 0)) fun t2=>Aa (Ag Tp 237 (pP 1 0) t2) fun t3=>Aa (Ad Tp A 5 t3) fun t4=>Aa (Af Tp .geq 5 (.tmp 22) (.const (.int .u8 240)) t4 (.int .u8 240)) fun t5=>Ae t5 (Al (AI Tp A 5 21 t4) fun t6 At6=>Aa (Af Tp .shl 21 (.tmp 25) (.const (.int .u64 31)) t6 (.int .u64 31)) fun t7=>Aa (Af Tp .shr 21 (.tmp 26) (.const (.int .u64 31)) t7 (.int .u64 31)) fun t8=>Aa (BU Tp 9 a0 (.int .i64 0)) fun t9=>Al (AI Tp At6 5 21 t9) fun t10 At10=>Aa (Af Tp .andNot 21 (.tmp 30) (.tmp 31) t10 t8) fun t11=>Aa (Af Tp .and 21 (.const (.int .i32 65533)) (.tmp 33) (.int .i32 65533) t8) fun t12=>Aa (Af Tp .or 21 (.tmp 32) (.tmp 34) t11 t12) fun t13=>Q (.tuple ⟨[t13,(.int .i64 1)]⟩) At10) (Aa (Af Tp .and 5 (.tmp 36) (.const (.int .u8 7)) t4 (.int .u8 7)) fun t14=>Al (AI Tp A 5 3 t14) fun t15 At15=>Aa (Af Tp .shr 5 (.tmp 39) (.const (.int .u64 4)) t4 (.int .u64 4)) fun t16=>Aa (Ag Tp 240 (pP 2 0) t16) fun t17=>Aa (Ad Tp At15 239 t17) fun t18=>Al (BB Tp At15 239) fun t19 At19=>B5 (Bg Tp At19 239 t19 t18) fun At20=>Aa (Af Tp .lss 3 (.tmp 43) (.tmp 44) t0 t15) fun t21=>Ae t21 (Q (.tuple ⟨[(.int .i32 65533),(.int .i64 1)]⟩) At20) (Aa (BU Tp 9 a0 (.int .i64 1)) fun t22=>Aa (Ac Tp 239 t19 0) fun t23=>Aa (Ad Tp At20 5 t23) fun t24=>Aa (Af Tp .lss 5 (.tmp 48) (.tmp 50) t22 t24) fun t25=>Ae t25 (Q (.tuple ⟨[(.int .i32 65533),(.int .i64 1)]⟩) At20) (Aa (Ac Tp 239 t19 1) fun t26=>Aa (Ad Tp At20 5 t26) fun t27=>Aa (Af Tp .lss 5 (.tmp 54) (.tmp 55) t27 t22) fun t28=>Ae t28 (Q (.tuple ⟨[(.int .i32 65533),(.int .i64 1)]⟩) At20) (Aa (Af Tp .leq 3 (.tmp 58) (.const (.int .i64 2)) t15 (.int .i64 2)) fun t29=>Ae t29 (Aa (Af Tp .and 5 (.tmp 60) (.const (.int .u8 31)) t2 (.int .u8 31)) fun t30=>Al (AI Tp At20 5 21 t30) fun t31 At31=>Aa (Af Tp .shl 21 (.tmp 62) (.const (.int .u64 6)) t31 (.int .u64 6)) fun t32=>Na Q t22 At31 t32 64 63 66 (.int .i64 2)) (Aa (BU Tp 9 a0 (.int .i64 2)) fun t36=>Aa (Af Tp .lss 5 (.tmp 70) (.const (.int .u8 128)) t36 (.int .u8 128)) fun t37=>Ae t37 (Q (.tuple ⟨[(.int .i32 65533),(.int .i64 1)]⟩) At20) (Aa (Af Tp .lss 5 (.const (.int .u8 191)) (.tmp 73) (.int .u8 191) t36) fun t38=>Ae t38 (Q (.tuple ⟨[(.int .i32 65533),(.int .i64 1)]⟩) At20) (Aa (Af Tp .leq 3 (.tmp 76) (.const (.int .i64 3)) t15 (.int .i64 3)) fun t39=>Ae t39 (Aa (Af Tp .and 5 (.tmp 78) (.const (.int .u8 15)) t2 (.int .u8 15)) fun t40=>Al (AI Tp At20 5 21 t40) fun t41 At41=>Aa (Af Tp .shl 21 (.tmp 80) (.const (.int .u64 12)) t41 (.int .u64 12)) fun t42=>Aa (Af Tp .and 5 (.tmp 82) (.const (.int .u8 63)) t22 (.int .u8 63)) fun t43=>Al (AI Tp At41 5 21 t43) fun t44 At44=>Aa (Af Tp .shl 21 (.tmp 84) (.const (.int .u64 6)) t44 (.int .u64 6)) fun t45=>Aa (Af Tp .or 21 (.tmp 81) (.tmp 85) t42 t45) fun t46=>Na Q t36 At44 t46 87 86 89 (.int .i64 3)) (Aa (BU Tp 9 a0 (.int .i64 3)) fun t50=>Aa (Af Tp .lss 5 (.tmp 93) (.const (.int .u8 128)) t50 (.int .u8 128)) fun t51=>Ae t51 (Q (.tuple ⟨[(.int .i32 65533),(.int .i64 1)]⟩) At20) (Aa (Af Tp .lss 5 (.const (.int .u8 191)) (.tmp 96) (.int .u8 191) t50) fun t52=>Ae t52 (Q (.tuple ⟨[(.int .i32 65533),(.int .i64 1)]⟩) At20) (Aa (Af Tp .and 5 (.tmp 99) (.const (.int .u8 7)) t2 (.int .u8 7)) fun t53=>Al (AI Tp At20 5 21 t53) fun t54 At54=>Aa (Af Tp .shl 21 (.tmp 101) (.const (.int .u64 18)) t54 (.int .u64 18)) fun t55=>Aa (Af Tp .and 5 (.tmp 103) (.const (.int .u8 63)) t22 (.int .u8 63)) fun t56=>Al (AI Tp At54 5 21 t56) fun t57 At57=>Aa (Af Tp .shl 21 (.tmp 105) (.const (.int .u64 12)) t57 (.int .u64 12)) fun t58=>Aa (Af Tp .or 21 (.tmp 102) (.tmp 106) t55 t58) fun t59=>Aa (Af Tp .and 5 (.tmp 108) (.const (.int .u8 63)) t36 (.int .u8 63)) fun t60=>Al (AI Tp At57 5 21 t60) fun t61 At61=>Aa (Af Tp .shl 21 (.tmp 110) (.const (.int .u64 6)) t61 (.int .u64 6)) fun t62=>Aa (Af Tp .or 21 (.tmp 107) (.tmp 111) t59 t62) fun t63=>Na Q t50 At61 t63 113 112 115 (.int .i64 4))))))))))))):=by kernel_rfl
theorem Ad3:Wf1 184 117 Tz Lz:=wf1 (fun _=>by kernel_rfl) (by decide) fun _=>rfl
theorem Aid(a0 a1:Value)(A:AW):gE W0 m0 S Q 166 38 Tz Lz [a0,a1] A=(Al (Bk A (Value.cells a0).toList 80) fun t0 At0=>Al (Bk At0 (Value.cells a1).toList 80) fun t1 At1=>Aa (Ac Tp 80 t0 0) fun t2=>Aa (Ad Tp At1 76 t2) fun t3=>Aa (Ac Tp 80 t1 0) fun t4=>Aa (Ad Tp At1 76 t4) fun t5=>Aa (Af Tp .eql 76 (.tmp 6) (.tmp 8) t3 t5) fun t6=>Ae t6 (Aa (Ac Tp 80 t0 1) fun t7=>Aa (Ad Tp At1 32 t7) fun t8=>Aa (Ac Tp 80 t1 1) fun t9=>Aa (Ad Tp At1 32 t9) fun t10=>Aa (Af Tp .eql 32 (.tmp 12) (.tmp 14) t8 t10) fun t11=>Ae t11 (Aa (Ac Tp 80 t0 2) fun t12=>Aa (Ad Tp At1 9 t12) fun t13=>Aa (Ac Tp 80 t1 2) fun t14=>Aa (Ad Tp At1 9 t14) fun t15=>Aa (Af Tp .eql 9 (.tmp 19) (.tmp 21) t13 t15) fun t16=>Ae t16 (Aa (Ac Tp 80 t0 3) fun t17=>Aa (Ad Tp At1 77 t17) fun t18=>Aa (Ac Tp 80 t1 3) fun t19=>Aa (Ad Tp At1 77 t19) fun t20=>Wc Tp Ak W0 m0 172 [t18,t20] At1 fun t21 At21=>Ae t21 (Aa (Ac Tp 80 t0 4) fun t22=>Aa (Ad Tp At21 78 t22) fun t23=>Aa (Ac Tp 80 t1 4) fun t24=>Aa (Ad Tp At21 78 t24) fun t25=>Wc Tp Ak W0 m0 173 [t23,t25,(.func (.func 166) #[] #[])] At21 fun t26 At26=>Q t26 At26) (Q (.bool false) At21)) (Q (.bool false) At1)) (Q (.bool false) At1)) (Q (.bool false) At1)):=by kernel_rfl
theorem AgR:Wf2 166 38 Tz Lz:=wf2 (fun _ _=>by kernel_rfl) (by decide) fun _ _=>rfl
noncomputable def Tx:Nat→List Item:=fun i=>match i with
 |0=>[(.code (cd 172 [1,1,0,1,0,0])),(.inLoop (cd 172 [1,1,0,1,0,0])),(.inBlock 0),(.code (cd 172 [1,1,1]))]
 |_=>[]
def ZE:Nat→List Tmp:=fun i=>match i with
 |0=>[0,1,12,13]
 |_=>[]
theorem Ah7(a0 a1:Value)(A:AW):gE W0 m0 S Q 172 26 Tx ZE [a0,a1] A=(Aa (AB Tp A 77 a0) fun t0=>Aa (AB Tp A 77 a1) fun t1=>Aa (Af Tp .neq 3 (.tmp 7) (.tmp 9) t0 t1) fun t2=>Ae t2 (Q (.bool false) A) (Aa (AB Tp A 77 a0) fun t3=>AE (Tx 0) (Tx 0) (S 0 [a0,a1,t3,(.int .i64 0)] A))):=by kernel_rfl
theorem Acl(d:Nat→Value)(A:AW):gL W0 m0 S Q 172 26 Tx ZE d 0 A=(Aa (Af Tp .lss 3 (.tmp 13) (.tmp 12) (d 13) (d 12)) fun t0=>Ae t0 (Aa (Ag Tp 77 (d 0) (d 13)) fun t1=>Aa (Ad Tp A 9 t1) fun t2=>Aa (Ag Tp 77 (d 1) (d 13)) fun t3=>Aa (Ad Tp A 9 t3) fun t4=>Aa (Af Tp .neq 9 (.tmp 19) (.tmp 23) t2 t4) fun t5=>Ae t5 (Q (.bool false) A) (Aa (Af Tp .add 3 (.tmp 13) (.const (.int .i64 1)) (d 13) (.int .i64 1)) fun t6=>AE (Tx 0) (Tx 0) (S 0 [(d 0),(d 1),(d 12),t6] A))) (Q (.bool true) A)):=by kernel_rfl
theorem AgL:Wf2 172 26 Tx ZE:=wf2 (fun _ _=>by kernel_rfl) (by decide) fun _ _=>rfl
theorem Ajb:B9 172 26 Tx ZE:=Ce (by decide)
noncomputable def Tw:Nat→List Item:=fun i=>match i with
 |0=>[(.code (cd 173 [1,1,0,1,0,0])),(.inLoop (cd 173 [1,1,0,1,0,0])),(.inBlock 0),(.code (cd 173 [1,1,1]))]
 |_=>[]
def ZD:Nat→List Tmp:=fun i=>match i with
 |0=>[1,2,15,16,17]
 |_=>[]
theorem Ah6(a0 a1 a2:Value)(A:AW):gE W0 m0 S Q 173 32 Tw ZD [a0,a1,a2] A=(Aa (AB Tp A 78 a0) fun t0=>Aa (AB Tp A 78 a1) fun t1=>Aa (Af Tp .neq 3 (.tmp 11) (.tmp 13) t0 t1) fun t2=>Ae t2 (Q (.bool false) A) (Aa (AB Tp A 78 a0) fun t3=>AE (Tw 0) (Tw 0) (S 0 [a1,a2,a0,t3,(.int .i64 0)] A))):=by kernel_rfl
theorem Ack(d:Nat→Value)(A:AW):gL W0 m0 S Q 173 32 Tw ZD d 0 A=(Aa (Af Tp .lss 3 (.tmp 17) (.tmp 16) (d 17) (d 16)) fun t0=>Ae t0 (Aa (Ag Tp 78 (d 15) (d 17)) fun t1=>Aa (Ad Tp A 80 t1) fun t2=>Al (BB Tp A 80) fun t3 At3=>B5 (Bg Tp At3 80 t3 t2) fun At4=>Aa (Ag Tp 78 (d 1) (d 17)) fun t5=>Aa (Ad Tp At4 80 t5) fun t6=>Al (BB Tp At4 80) fun t7 At7=>B5 (Bg Tp At7 80 t7 t6) fun At8=>Aa (Ad Tp At8 80 t3) fun t9=>Aa (Ad Tp At8 80 t7) fun t10=>anW Tp Ak W0 m0 (Cu Tp Ak At8 (d 2) [t9,t10]) fun t11 At11=>Aa (unA Tp .not t11) fun t12=>Ae t12 (Q (.bool false) At11) (Aa (Af Tp .add 3 (.tmp 17) (.const (.int .i64 1)) (d 17) (.int .i64 1)) fun t13=>AE (Tw 0) (Tw 0) (S 0 [(d 1),(d 2),(d 15),(d 16),t13] At11))) (Q (.bool true) A)):=by kernel_rfl
theorem AgK:Wf3 173 32 Tw ZD:=wf3 (fun _ _ _=>by kernel_rfl) (by decide) fun _ _ _=>rfl
theorem Aja:B9 173 32 Tw ZD:=Ce (by decide)
noncomputable def M6:Nat→List Item:=fun i=>match i with
 |1=>[(.code (cd 171 [1,1,0,1,0,1,1,1,1,1,1,1,1,1,0,1,0,1,0,0])),(.inLoop (cd 171 [1,1,0,1,0,1,1,1,1,1,1,1,1,1,0,1,0,1,0,0])),(.inBlock 1),(.code (cd 171 [1,1,0,1,0,1,1,1,1,1,1,1,1,1,0,1,1])),(.inBlock 0),(.code (cd 171 [1,1,1]))]
 |_=>[]
def ZF:Nat→List Tmp:=fun i=>match i with
 |1=>[0,3,5,56,57,58]
 |_=>[]
abbrev Ng(x0:Value)(X2:AW)(x12:Value):Prop:=Aa (Ac Tp 80 x0 4) fun t901=>Aa (Ad Tp X2 78 t901) fun t903=>Aa (AB Tp X2 78 t903) fun t904=>Al (AI Tp X2 3 32 t904) fun t905 At906=>Wc Tp Ak W0 m0 160 [(.slice none 0 0),t905,(.int .i64 4)] At906 fun t907 At908=>Aa (Ac Tp 80 x0 4) fun t909=>Aa (Ad Tp At908 78 t909) fun t910=>Aa (AB Tp At908 78 t910) fun t911=>AE (M6 1) (M6 1) (S 1 [x12,x0,t907,t910,t911,(.int .i64 0)] At908)
abbrev I9(x0:Value)(X2:AW)(x4:Value)(y0:Value):Prop:=Aa (Ac Tp 80 x0 1) fun t901=>Aa (Ad Tp X2 32 t901) fun t903=>Wc Tp Ak W0 m0 160 [x4,t903,y0] X2 fun t905 At906=>Q t905 At906
abbrev Nf(x0:Value)(X2:AW)(x4:Value)(y0:Value):Prop:=Aa (Ac Tp 80 x0 2) fun t901=>Aa (Ad Tp X2 9 t901) fun t903=>Wc Tp Ak W0 m0 161 [x4,t903,y0] X2 fun t905 At906=>Aa (Aw t905 0) fun t907=>Aa (Aw t905 1) fun t908=>Q t907 At906
theorem Ah8(a0 a1:Value)(A:AW):gE W0 m0 S Q 171 88 M6 ZF [a0,a1] A=(Al (Bk A (Value.cells a1).toList 80) fun t0 At0=>Aa (Ac Tp 80 t0 0) fun t1=>Aa (Ad Tp At0 76 t1) fun t2=>Al (AG Tp At0 203 1 [(0,t2)]) fun t3 At3=>Al (Bh Tp At3 203 203 a0 t3) fun t4 At4=>Aa (Ac Tp 80 t0 0) fun t5=>Aa (Ad Tp At4 76 t5) fun t6=>Aa (Af Tp .eql 76 (.tmp 14) (.const (.int .u8 8)) t6 (.int .u8 8)) fun t7=>Ae t7 (I9 W0 m0 Q t0 At4 t4 (.int .i64 1)) (Aa (Af Tp .eql 76 (.tmp 14) (.const (.int .u8 2)) t6 (.int .u8 2)) fun t11=>Ae t11 (I9 W0 m0 Q t0 At4 t4 (.int .i64 1)) (Aa (Af Tp .eql 76 (.tmp 14) (.const (.int .u8 50)) t6 (.int .u8 50)) fun t15=>Ae t15 (I9 W0 m0 Q t0 At4 t4 (.int .i64 8)) (Aa (Af Tp .eql 76 (.tmp 14) (.const (.int .u8 49)) t6 (.int .u8 49)) fun t19=>Ae t19 (I9 W0 m0 Q t0 At4 t4 (.int .i64 8)) (Aa (Af Tp .eql 76 (.tmp 14) (.const (.int .u8 149)) t6 (.int .u8 149)) fun t23=>Ae t23 (Nf W0 m0 Q t0 At4 t4 (.int .i64 2)) (Aa (Af Tp .eql 76 (.tmp 14) (.const (.int .u8 160)) t6 (.int .u8 160)) fun t29=>Ae t29 (Nf W0 m0 Q t0 At4 t4 (.int .i64 4)) (Aa (Af Tp .eql 76 (.tmp 14) (.const (.int .u8 168)) t6 (.int .u8 168)) fun t35=>Ae t35 (Ng W0 m0 S t0 At4 t4) (Aa (Af Tp .eql 76 (.tmp 14) (.const (.int .u8 169)) t6 (.int .u8 169)) fun t44=>Ae t44 (Ng W0 m0 S t0 At4 t4) (Q t4 At4))))))))):=by kernel_rfl
theorem Acm(d:Nat→Value)(A:AW):gL W0 m0 S Q 171 88 M6 ZF d 1 A=(Aa (Af Tp .lss 3 (.tmp 58) (.tmp 57) (d 58) (d 57)) fun t0=>Ae t0 (Aa (Ag Tp 78 (d 56) (d 58)) fun t1=>Aa (Ad Tp A 80 t1) fun t2=>Al (BB Tp A 80) fun t3 At3=>B5 (Bg Tp At3 80 t3 t2) fun At4=>Aa (Ac Tp 80 (d 3) 0) fun t5=>Aa (Ad Tp At4 76 t5) fun t6=>Aa (Af Tp .eql 76 (.tmp 64) (.const (.int .u8 168)) t6 (.int .u8 168)) fun t7=>Ae t7 (Aa (Ac Tp 80 (d 3) 3) fun t8=>Aa (Ad Tp At4 77 t8) fun t9=>Aa (Ag Tp 77 t9 (d 58)) fun t10=>Aa (Ad Tp At4 9 t10) fun t11=>Wc Tp Ak W0 m0 161 [(d 5),t11,(.int .i64 1)] At4 fun t12 At12=>Aa (Aw t12 0) fun t13=>Aa (Aw t12 1) fun t14=>Aa (Ad Tp At12 80 t3) fun t15=>Wc Tp Ak W0 m0 171 [t13,t15] At12 fun t16 At16=>Aa (Af Tp .add 3 (.tmp 58) (.const (.int .i64 1)) (d 58) (.int .i64 1)) fun t17=>AE (M6 1) (M6 1) (S 1 [(d 0),(d 3),t16,(d 56),(d 57),t17] At16)) (Aa (Ad Tp At4 80 t3) fun t18=>Wc Tp Ak W0 m0 171 [(d 5),t18] At4 fun t19 At19=>Aa (Af Tp .add 3 (.tmp 58) (.const (.int .i64 1)) (d 58) (.int .i64 1)) fun t20=>AE (M6 1) (M6 1) (S 1 [(d 0),(d 3),t19,(d 56),(d 57),t20] At19))) (Aa (AB Tp A 203 (d 5)) fun t21=>Al (AI Tp A 3 32 t21) fun t22 At22=>Wc Tp Ak W0 m0 160 [(d 0),t22,(.int .i64 4)] At22 fun t23 At23=>Al (Bh Tp At23 203 203 t23 (d 5)) fun t24 At24=>Q t24 At24)):=by kernel_rfl
theorem AgM:Wf2 171 88 M6 ZF:=wf2 (fun _ _=>by kernel_rfl) (by decide) fun _ _=>rfl
theorem Ajc:B9 171 88 M6 ZF:=Ce (by decide)
theorem Aic(a0:Value)(A:AW):gE W0 m0 S Q 167 14 Tz Lz [a0] A=(Al (Bk A (Value.cells a0).toList 80) fun t0 At0=>Aa (Ad Tp At0 80 t0) fun t1=>Wc Tp Ak W0 m0 174 [t1,(.int .i64 6)] At0 fun t2 At2=>Ae t2 (Q (.int .i64 51) At2) (Aa (Ad Tp At2 80 t0) fun t3=>Wc Tp Ak W0 m0 175 [t3,(.int .i64 200)] At2 fun t4 At4=>Aa (Af Tp .lss 3 (.tmp 8) (.const (.int .i64 0)) t4 (.int .i64 0)) fun t5=>Ae t5 (Q (.int .i64 3) At4) (Aa (Ad Tp At4 80 t0) fun t6=>Wc Tp Ak W0 m0 176 [t6] At4 fun t7 At7=>Aa (unA Tp .not t7) fun t8=>Ae t8 (Q (.int .i64 50) At7) (Q (.int .i64 0) At7)))):=by kernel_rfl
theorem AgQ:Wf1 167 14 Tz Lz:=wf1 (fun _=>by kernel_rfl) (by decide) fun _=>rfl
theorem Aih(a0:Value)(A:AW):gE W0 m0 S Q 162 12 Tz Lz [a0] A=(Al (Bk A (Value.cells a0).toList 80) fun t0 At0=>Aa (Ad Tp At0 80 t0) fun t1=>Wc Tp Ak W0 m0 167 [t1] At0 fun t2 At2=>Aa (Af Tp .neq 94 (.tmp 7) (.const (.int .i64 0)) t2 (.int .i64 0)) fun t3=>Ae t3 (Q (.tuple ⟨[(.slice none 0 0),t2]⟩) At2) (Aa (Ad Tp At2 80 t0) fun t4=>Wc Tp Ak W0 m0 171 [(.slice none 0 0),t4] At2 fun t5 At5=>Q (.tuple ⟨[t5,(.int .i64 0)]⟩) At5)):=by kernel_rfl
theorem AgV:Wf1 162 12 Tz Lz:=wf1 (fun _=>by kernel_rfl) (by decide) fun _=>rfl
theorem Aij(a0 a1 a2:Value)(A:AW):gE W0 m0 S Q 160 17 Tz Lz [a0,a1,a2] A=(Wc Tp Ak W0 m0 168 [a2] A fun t0 At0=>Aa (unA Tp .not t0) fun t1=>Ae t1 (Wc Tp Ak W0 m0 169 [a0,(.slice none 0 0)] At0 fun t2 At2=>Q t2 At2) (Wc Tp Ak W0 m0 170 [a1,a2] At0 fun t3 At3=>Wc Tp Ak W0 m0 169 [a0,t3] At3 fun t4 At4=>Q t4 At4)):=by kernel_rfl
theorem AgX:Wf3 160 17 Tz Lz:=wf3 (fun _ _ _=>by kernel_rfl) (by decide) fun _ _ _=>rfl
theorem Aii(a0 a1 a2:Value)(A:AW):gE W0 m0 S Q 161 31 Tz Lz [a0,a1,a2] A=(Aa (Af Tp .eql 3 (.tmp 8) (.const (.int .i64 8)) a2 (.int .i64 8)) fun t0=>Ae t0 (Q (.tuple ⟨[(.slice none 0 0),(.int .i64 2)]⟩) A) (Wc Tp Ak W0 m0 168 [a2] A fun t1 At1=>Aa (unA Tp .not t1) fun t2=>Ae t2 (Q (.tuple ⟨[(.slice none 0 0),(.int .i64 2)]⟩) At1) (Aa (AB Tp At1 9 a1) fun t3=>Al (AI Tp At1 3 32 t3) fun t4 At4=>Aa (Af Tp .mul 3 (.const (.int .i64 8)) (.tmp 18) (.int .i64 8) a2) fun t5=>Aa (Af Tp .shr 32 (.tmp 17) (.tmp 19) t4 t5) fun t6=>Aa (Af Tp .neq 32 (.tmp 20) (.const (.int .u64 0)) t6 (.int .u64 0)) fun t7=>Ae t7 (Q (.tuple ⟨[(.slice none 0 0),(.int .i64 3)]⟩) At4) (Aa (AB Tp At4 9 a1) fun t8=>Al (AI Tp At4 3 32 t8) fun t9 At9=>Wc Tp Ak W0 m0 170 [t9,a2] At9 fun t10 At10=>Al (Bh Tp At10 203 9 t10 a1) fun t11 At11=>Wc Tp Ak W0 m0 169 [a0,t11] At11 fun t12 At12=>Q (.tuple ⟨[t12,(.int .i64 0)]⟩) At12)))):=by kernel_rfl
theorem AgW:Wf3 161 31 Tz Lz:=wf3 (fun _ _ _=>by kernel_rfl) (by decide) fun _ _ _=>rfl
theorem Aib(a0:Value)(A:AW):gE W0 m0 S Q 168 12 Tz Lz [a0] A=(Aa (Af Tp .eql 3 (.tmp 3) (.const (.int .i64 1)) a0 (.int .i64 1)) fun t0=>Ae t0 (Q (.bool true) A) (Aa (Af Tp .eql 3 (.tmp 3) (.const (.int .i64 2)) a0 (.int .i64 2)) fun t1=>Ae t1 (Q (.bool true) A) (Aa (Af Tp .eql 3 (.tmp 3) (.const (.int .i64 4)) a0 (.int .i64 4)) fun t2=>Ae t2 (Q (.bool true) A) (Aa (Af Tp .eql 3 (.tmp 3) (.const (.int .i64 8)) a0 (.int .i64 8)) fun t3=>Ae t3 (Q (.bool true) A) (Q (.bool false) A))))):=by kernel_rfl
theorem AgP:Wf1 168 12 Tz Lz:=wf1 (fun _=>by kernel_rfl) (by decide) fun _=>rfl
theorem Aia(a0 a1:Value)(A:AW):gE W0 m0 S Q 169 15 Tz Lz [a0,a1] A=(Aa (AB Tp A 203 a0) fun t0=>Aa (AB Tp A 203 a1) fun t1=>Aa (Af Tp .add 3 (.tmp 6) (.tmp 8) t0 t1) fun t2=>Al (CX Tp A 203 (.int .i64 0) t2) fun t3 At3=>Al (Bh Tp At3 203 203 t3 a0) fun t4 At4=>Al (Bh Tp At4 203 203 t4 a1) fun t5 At5=>Q t5 At5):=by kernel_rfl
theorem AgO:Wf2 169 15 Tz Lz:=wf2 (fun _ _=>by kernel_rfl) (by decide) fun _ _=>rfl
noncomputable def Ty:Nat→List Item:=fun i=>match i with
 |0=>[(.code (cd 170 [1,1,0,1,0,0])),(.inLoop (cd 170 [1,1,0,1,0,0])),(.inBlock 0),(.code (cd 170 [1,1,1]))]
 |_=>[]
def Ry:Nat→List Tmp:=fun i=>match i with
 |0=>[0,1,5,10,11]
 |_=>[]
theorem Ah9(a0 a1:Value)(A:AW):gE W0 m0 S Q 170 27 Ty Ry [a0,a1] A=(Al (CX Tp A 203 a1 a1) fun t0 At0=>Aa (AB Tp At0 203 t0) fun t1=>AE (Ty 0) (Ty 0) (S 0 [a0,a1,t0,t1,(.int .i64 0)] At0)):=by kernel_rfl
theorem Acn(d:Nat→Value)(A:AW):gL W0 m0 S Q 170 27 Ty Ry d 0 A=(Aa (Af Tp .lss 3 (.tmp 11) (.tmp 10) (d 11) (d 10)) fun t0=>Ae t0 (Aa (Af Tp .sub 3 (.tmp 15) (.const (.int .i64 1)) (d 1) (.int .i64 1)) fun t1=>Aa (Af Tp .sub 3 (.tmp 16) (.tmp 17) t1 (d 11)) fun t2=>Aa (Af Tp .mul 3 (.const (.int .i64 8)) (.tmp 20) (.int .i64 8) (d 11)) fun t3=>Aa (Af Tp .shr 32 (.tmp 19) (.tmp 21) (d 0) t3) fun t4=>Al (AI Tp A 32 5 t4) fun t5 At5=>Aa (Ag Tp 203 (d 5) t2) fun t6=>B5 (Bg Tp At5 5 t6 t5) fun At7=>Aa (Af Tp .add 3 (.tmp 11) (.const (.int .i64 1)) (d 11) (.int .i64 1)) fun t8=>AE (Ty 0) (Ty 0) (S 0 [(d 0),(d 1),(d 5),(d 10),t8] At7)) (Q (d 5) A)):=by kernel_rfl
theorem AgN:Wf2 170 27 Ty Ry:=wf2 (fun _ _=>by kernel_rfl) (by decide) fun _ _=>rfl
theorem Ajd:B9 170 27 Ty Ry:=Ce (by decide)
noncomputable def PD:Nat→List Item:=fun i=>match i with
 |0=>[(.code (cd 163 [1,1,0,1,0,0])),(.inLoop (cd 163 [1,1,0,1,0,0])),(.inBlock 0),(.code (cd 163 [1,1,1]))]
 |_=>[]
def ZG:Nat→List Tmp:=fun i=>match i with
 |0=>[3,6,7,8]
 |_=>[]
theorem Aig(a0:Value)(A:AW):gE W0 m0 S Q 163 20 PD ZG [a0] A=(Aa (AB Tp A 229 a0) fun t0=>AE (PD 0) (PD 0) (S 0 [(.int .u64 0),a0,t0,(.int .i64 0)] A)):=by kernel_rfl
theorem Acs(d:Nat→Value)(A:AW):gL W0 m0 S Q 163 20 PD ZG d 0 A=(Aa (Af Tp .lss 3 (.tmp 8) (.tmp 7) (d 8) (d 7)) fun t0=>Ae t0 (Aa (Ag Tp 229 (d 6) (d 8)) fun t1=>Aa (Ad Tp A 4 t1) fun t2=>Ae t2 (Aa (Af Tp .shl 32 (.const (.int .u64 1)) (.tmp 15) (.int .u64 1) (d 8)) fun t3=>Aa (Af Tp .or 32 (.tmp 14) (.tmp 16) (d 3) t3) fun t4=>Aa (Af Tp .add 3 (.tmp 8) (.const (.int .i64 1)) (d 8) (.int .i64 1)) fun t5=>AE (PD 0) (PD 0) (S 0 [t4,(d 6),(d 7),t5] A)) (Aa (Af Tp .add 3 (.tmp 8) (.const (.int .i64 1)) (d 8) (.int .i64 1)) fun t6=>AE (PD 0) (PD 0) (S 0 [(d 3),(d 6),(d 7),t6] A))) (Q (d 3) A)):=by kernel_rfl
theorem AgU:Wf1 163 20 PD ZG:=wf1 (fun _=>by kernel_rfl) (by decide) fun _=>rfl
theorem Ajg:B9 163 20 PD ZG:=Ce (by decide)
theorem Ail(a0:Value)(A:AW):gE W0 m0 S Q 158 34 Tz Lz [a0] A=(Al (Bk A (Value.cells a0).toList 82) fun t0 At0=>Aa (Ac Tp 82 t0 4) fun t1=>Aa (Ad Tp At0 80 t1) fun t2=>Aa (Ch Tp 80 []) fun t3=>Wc Tp Ak W0 m0 166 [t2,t3] At0 fun t4 At4=>Aa (Ac Tp 82 t0 0) fun t5=>Aa (Ad Tp At4 9 t5) fun t6=>Aa (AB Tp At4 9 t6) fun t7=>Aa (Af Tp .gtr 3 (.tmp 10) (.const (.int .i64 255)) t7 (.int .i64 255)) fun t8=>Ae t8 (Q (.int .i64 90) At4) (Aa (Ac Tp 82 t0 3) fun t9=>Aa (Ad Tp At4 9 t9) fun t10=>Aa (AB Tp At4 9 t10) fun t11=>Aa (Af Tp .gtr 3 (.tmp 15) (.const (.int .i64 255)) t11 (.int .i64 255)) fun t12=>Ae t12 (Q (.int .i64 90) At4) (Aa (unA Tp .not t4) fun t13=>Ae t13 (Aa (Ac Tp 82 t0 4) fun t14=>Aa (Ac Tp 80 t14 0) fun t15=>Aa (Ad Tp At4 76 t15) fun t16=>Aa (Af Tp .neq 76 (.tmp 24) (.const (.int .u8 168)) t16 (.int .u8 168)) fun t17=>Ae t17 (Q (.int .i64 90) At4) (Aa (Ac Tp 82 t0 4) fun t18=>Aa (Ad Tp At4 80 t18) fun t19=>Wc Tp Ak W0 m0 167 [t19] At4 fun t20 At20=>Aa (Af Tp .neq 94 (.tmp 29) (.const (.int .i64 0)) t20 (.int .i64 0)) fun t21=>Ae t21 (Q (.int .i64 90) At20) (Q (.int .i64 0) At20))) (Q (.int .i64 0) At4)))):=by kernel_rfl
theorem AgZ:Wf1 158 34 Tz Lz:=wf1 (fun _=>by kernel_rfl) (by decide) fun _=>rfl
theorem Ain(a0:Value)(A:AW):gE W0 m0 S Q 156 44 Tz Lz [a0] A=(Al (Bk A (Value.cells a0).toList 82) fun t0 At0=>Aa (Ad Tp At0 82 t0) fun t1=>Wc Tp Ak W0 m0 158 [t1] At0 fun t2 At2=>Aa (Af Tp .neq 94 (.tmp 8) (.const (.int .i64 0)) t2 (.int .i64 0)) fun t3=>Ae t3 (Q (.tuple ⟨[(.string ⟨⟨[]⟩⟩),(.int .i64 90)]⟩) At2) (Al (BB Tp At2 203) fun t4 At4=>Aa (Ac Tp 82 t0 1) fun t5=>Aa (Ad Tp At4 4 t5) fun t6=>Aa (Ac Tp 82 t0 2) fun t7=>Aa (Ad Tp At4 4 t7) fun t8=>Aa (Ac Tp 82 t0 0) fun t9=>Aa (Ad Tp At4 9 t9) fun t10=>Aa (Af Tp .neq 9 (.tmp 17) (.const (.string ⟨⟨[]⟩⟩)) t10 (.string ⟨⟨[]⟩⟩)) fun t11=>Al (AG Tp At4 229 3 [(0,t6),(1,t8),(2,t11)]) fun t12 At12=>EC (BS Tp (BI (Tm.fill ⟨3,.nil⟩ 0 [t6,t8,t11])) (.buildSlice 229 3 #[(0,.tmp 0),(1,.tmp 1),(2,.tmp 2)])) At12 t12 (Aa (Af Tp .neq 9 (.tmp 17) (.const (.string ⟨⟨[]⟩⟩)) t10 (.string ⟨⟨[]⟩⟩)) fun t13=>eqW t13 t11 (Aa (Ad Tp At12 9 t9) fun t14=>eqW t14 t10 (Aa (Ac Tp 82 t0 0) fun t15=>eqW t15 t9 (Aa (Ad Tp At12 4 t7) fun t16=>eqW t16 t8 (Aa (Ac Tp 82 t0 2) fun t17=>eqW t17 t7 (Aa (Ad Tp At12 4 t5) fun t18=>eqW t18 t6 (Aa (Ac Tp 82 t0 1) fun t19=>eqW t19 t5 (eqW (.func (.func 159) ⟨[]⟩ ⟨[t0,t4]⟩) (.func (.func 159) ⟨[]⟩ ⟨[t0,t4]⟩) (Aa (Ac Tp 82 t0 0) fun t20=>Aa (Ad Tp At12 9 t20) fun t21=>Al (AG Tp At12 77 1 [(0,t21)]) fun t22 At22=>EC (BS Tp (BI (Tm.fill ⟨1,.nil⟩ 0 [t21])) (.buildSlice 77 1 #[(0,.tmp 0)])) At22 t22 (Aa (Ad Tp At22 9 t20) fun t23=>eqW t23 t21 (Aa (Ac Tp 82 t0 0) fun t24=>eqW t24 t20 (EC (BS Tp (BI (Tm.fill ⟨3,.nil⟩ 0 [t6,t8,t11])) (.buildSlice 229 3 #[(0,.tmp 0),(1,.tmp 1),(2,.tmp 2)])) At22 t12 (Aa (Af Tp .neq 9 (.tmp 17) (.const (.string ⟨⟨[]⟩⟩)) t10 (.string ⟨⟨[]⟩⟩)) fun t25=>eqW t25 t11 (Aa (Ad Tp At22 9 t9) fun t26=>eqW t26 t10 (Aa (Ac Tp 82 t0 0) fun t27=>eqW t27 t9 (Aa (Ad Tp At22 4 t7) fun t28=>eqW t28 t8 (Aa (Ac Tp 82 t0 2) fun t29=>eqW t29 t7 (Aa (Ad Tp At22 4 t5) fun t30=>eqW t30 t6 (Aa (Ac Tp 82 t0 1) fun t31=>eqW t31 t5 (eqW (.func (.func 159) ⟨[]⟩ ⟨[t0,t4]⟩) (.func (.func 159) ⟨[]⟩ ⟨[t0,t4]⟩) (Wc Tp Ak W0 m0 163 [t12] At22 fun t32 At32=>EC (BS Tp (BI (Tm.fill ⟨1,.nil⟩ 0 [t21])) (.buildSlice 77 1 #[(0,.tmp 0)])) At32 t22 (Aa (Ad Tp At32 9 t20) fun t33=>eqW t33 t21 (Aa (Ac Tp 82 t0 0) fun t34=>eqW t34 t20 (eqW (.func (.func 159) ⟨[]⟩ ⟨[t0,t4]⟩) (.func (.func 159) ⟨[]⟩ ⟨[t0,t4]⟩) (anW Tp Ak W0 m0 (Cu Tp Ak At32 (.func (.func 159) ⟨[]⟩ ⟨[t0,t4]⟩) [(.int .u8 1),t32,t22]) fun t35 At35=>Aa (Ac Tp 82 t0 3) fun t36=>Aa (Ad Tp At35 9 t36) fun t37=>Aa (Af Tp .neq 9 (.tmp 26) (.const (.string ⟨⟨[]⟩⟩)) t37 (.string ⟨⟨[]⟩⟩)) fun t38=>Aa (Ac Tp 82 t0 4) fun t39=>Aa (Ac Tp 80 t39 0) fun t40=>Aa (Ad Tp At35 76 t40) fun t41=>Aa (Af Tp .eql 76 (.tmp 30) (.const (.int .u8 168)) t41 (.int .u8 168)) fun t42=>Al (AG Tp At35 229 2 [(0,t38),(1,t42)]) fun t43 At43=>Wc Tp Ak W0 m0 163 [t43] At43 fun t44 At44=>Aa (Af Tp .neq 32 (.tmp 34) (.const (.int .u64 0)) t44 (.int .u64 0)) fun t45=>Ae t45 (Aa (Ac Tp 82 t0 3) fun t46=>Aa (Ad Tp At44 9 t46) fun t47=>Al (AG Tp At44 77 1 [(0,t47)]) fun t48 At48=>anW Tp Ak W0 m0 (Cu Tp Ak At48 (.func (.func 159) ⟨[]⟩ ⟨[t0,t4]⟩) [(.int .u8 3),t44,t48]) fun t49 At49=>Aa (Ad Tp At49 203 t4) fun t50=>Al (AI Tp At49 203 9 t50) fun t51 At51=>Q (.tuple ⟨[t51,(.int .i64 0)]⟩) At51) (Aa (Ad Tp At44 203 t4) fun t52=>Al (AI Tp At44 203 9 t52) fun t53 At53=>Q (.tuple ⟨[t53,(.int .i64 0)]⟩) At53)))))))))))))))))))))))))))):=by kernel_rfl
theorem Ag1:Wf1 156 44 Tz Lz:=wf1 (fun _=>by kernel_rfl) (by decide) fun _=>rfl
noncomputable def PE:Nat→List Item:=fun i=>match i with
 |0=>[(.code (cd 159 [1,0,1,0,0])),(.inLoop (cd 159 [1,0,1,0,0])),(.inBlock 0),(.code (cd 159 [1,1]))]
 |_=>[]
def ZH:Nat→List Tmp:=fun i=>match i with
 |0=>[0,1,3,4,8,17,18,19]
 |_=>[]
theorem Aik(a0 a1 a2 a3 a4:Value)(A:AW):gE W0 m0 S Q 159 55 PE ZH [a0,a1,a2,a3,a4] A=(Al (AG Tp A 203 2 [(0,(.int .u8 4)),(1,a0)]) fun t0 At0=>Wc Tp Ak W0 m0 160 [t0,a1,(.int .i64 2)] At0 fun t1 At1=>Aa (AB Tp At1 77 a2) fun t2=>AE (PE 0) (PE 0) (S 0 [a0,a1,a3,a4,t1,a2,t2,(.int .i64 0)] At1)):=by kernel_rfl
abbrev G2(A:AW)(x0:Value)(x2:Value):Prop:=Aa (Ad Tp A 203 x0) fun t901=>Aa (AB Tp A 203 x2) fun t903=>Al (AI Tp A 3 32 t903) fun t904 At905=>Wc Tp Ak W0 m0 160 [t901,t904,(.int .i64 4)] At905 fun t906 At907=>Al (Bh Tp At907 203 203 t906 x2) fun t908 At909=>B5 (Bg Tp At909 203 x0 t908) fun At910=>Q (.tuple ⟨[]⟩) At910
theorem Acu(d:Nat→Value)(A:AW):gL W0 m0 S Q 159 55 PE ZH d 0 A=(Aa (Af Tp .lss 3 (.tmp 19) (.tmp 18) (d 19) (d 18)) fun t0=>Ae t0 (Aa (Ag Tp 77 (d 17) (d 19)) fun t1=>Aa (Ad Tp A 9 t1) fun t2=>Aa (Af Tp .neq 9 (.tmp 23) (.const (.string ⟨⟨[]⟩⟩)) t2 (.string ⟨⟨[]⟩⟩)) fun t3=>Ae t3 (Wc Tp Ak W0 m0 161 [(d 8),t2,(.int .i64 1)] A fun t4 At4=>Aa (Aw t4 0) fun t5=>Aa (Aw t4 1) fun t6=>Aa (Af Tp .add 3 (.tmp 19) (.const (.int .i64 1)) (d 19) (.int .i64 1)) fun t7=>AE (PE 0) (PE 0) (S 0 [(d 0),(d 1),(d 3),(d 4),t5,(d 17),(d 18),t7] At4)) (Aa (Af Tp .add 3 (.tmp 19) (.const (.int .i64 1)) (d 19) (.int .i64 1)) fun t8=>AE (PE 0) (PE 0) (S 0 [(d 0),(d 1),(d 3),(d 4),(d 8),(d 17),(d 18),t8] A))) (Aa (Af Tp .eql 5 (.tmp 32) (.const (.int .u8 3)) (d 0) (.int .u8 3)) fun t9=>Ae t9 (Aa (Af Tp .and 32 (.tmp 35) (.const (.int .u64 2)) (d 1) (.int .u64 2)) fun t10=>Aa (Af Tp .neq 32 (.tmp 36) (.const (.int .u64 0)) t10 (.int .u64 0)) fun t11=>Ae t11 (Aa (Ac Tp 82 (d 3) 4) fun t12=>Aa (Ad Tp A 80 t12) fun t13=>Wc Tp Ak W0 m0 162 [t13] A fun t14 At14=>Aa (Aw t14 0) fun t15=>Aa (Aw t14 1) fun t16=>Al (Bh Tp At14 203 203 (d 8) t15) fun t17 At17=>Aa (Ad Tp At17 203 (d 4)) fun t18=>Aa (AB Tp At17 203 t17) fun t19=>Al (AI Tp At17 3 32 t19) fun t20 At20=>Wc Tp Ak W0 m0 160 [t18,t20,(.int .i64 4)] At20 fun t21 At21=>Al (Bh Tp At21 203 203 t21 t17) fun t22 At22=>B5 (Bg Tp At22 203 (d 4) t22) fun At23=>Q (.tuple ⟨[]⟩) At23) (G2 W0 m0 Q A (d 4) (d 8))) (G2 W0 m0 Q A (d 4) (d 8)))):=by kernel_rfl
theorem AgY:Wf5 159 55 PE ZH:=wf5 (fun _ _ _ _ _=>by kernel_rfl) (by decide) fun _ _ _ _ _=>rfl
theorem Ajh:B9 159 55 PE ZH:=Ce (by decide)
theorem Aiq(a0:Value)(A:AW):gE W0 m0 S Q 153 11 Tz Lz [a0] A=(Al (Bk A (Value.cells a0).toList 80) fun t0 At0=>Aa (Ad Tp At0 80 t0) fun t1=>knW Tp W0 m0 87 [t1,(.int .i64 6)] At0 fun t2 At2=>Ae t2 (Q (.int .i64 51) At2) (Aa (Ad Tp At2 80 t0) fun t3=>knW Tp W0 m0 86 [t3,(.int .i64 200)] At2 fun t4 At4=>Aa (Af Tp .lss 3 (.tmp 6) (.const (.int .i64 0)) t4 (.int .i64 0)) fun t5=>Ae t5 (Q (.int .i64 3) At4) (Aa (Ad Tp At4 80 t0) fun t6=>Wc Tp Ak W0 m0 157 [t6] At4 fun t7 At7=>Aa (unA Tp .not t7) fun t8=>Ae t8 (Q (.int .i64 50) At7) (Q (.int .i64 0) At7)))):=by kernel_rfl
theorem Ag4:Wf1 153 11 Tz Lz:=wf1 (fun _=>by kernel_rfl) (by decide) fun _=>rfl
noncomputable def Er:Nat→List Item:=fun i=>match i with
 |1=>[(.code (cd 157 [1,1,1,1,1,1,0,1,0,0])),(.inLoop (cd 157 [1,1,1,1,1,1,0,1,0,0])),(.inBlock 1),(.code (cd 157 [1,1,1,1,1,1,1]))]
 |_=>[]
def ZI:Nat→List Tmp:=fun i=>match i with
 |1=>[1,5]
 |_=>[]
abbrev Jc(x0:Value)(x1:Value)(X3:AW):Prop:=Ae x0 (Aa (Ac Tp 80 x1 2) fun t902=>Aa (Ad Tp X3 9 t902) fun t904=>Aa (Af Tp .neq 9 (.tmp 46) (.const (.string ⟨⟨[]⟩⟩)) t904 (.string ⟨⟨[]⟩⟩)) fun t905=>Ae t905 (Q (.bool false) X3) (Aa (Ac Tp 80 x1 2) fun t906=>Aa (Ad Tp X3 9 t906) fun t907=>Aa (AB Tp X3 9 t907) fun t908=>Aa (Af Tp .gtr 3 (.tmp 53) (.const (.int .i64 4096)) t908 (.int .i64 4096)) fun t909=>Ae t909 (Q (.bool false) X3) (Aa (Ac Tp 80 x1 0) fun t910=>Aa (Ad Tp X3 76 t910) fun t911=>Aa (Af Tp .eql 76 (.tmp 57) (.const (.int .u8 8)) t911 (.int .u8 8)) fun t912=>Ae t912 (Aa (Ac Tp 80 x1 1) fun t913=>Aa (Ad Tp X3 32 t913) fun t914=>Aa (Af Tp .leq 32 (.tmp 61) (.const (.int .u64 1)) t914 (.int .u64 1)) fun t915=>Q t915 X3) (Aa (Af Tp .eql 76 (.tmp 57) (.const (.int .u8 2)) t911 (.int .u8 2)) fun t916=>Ae t916 (Aa (Ac Tp 80 x1 1) fun t917=>Aa (Ad Tp X3 32 t917) fun t918=>Aa (Af Tp .leq 32 (.tmp 66) (.const (.int .u64 255)) t918 (.int .u64 255)) fun t919=>Q t919 X3) (Aa (Af Tp .eql 76 (.tmp 57) (.const (.int .u8 49)) t911 (.int .u8 49)) fun t920=>Ae t920 (Q (.bool true) X3) (Aa (Af Tp .eql 76 (.tmp 57) (.const (.int .u8 50)) t911 (.int .u8 50)) fun t921=>Ae t921 (Q (.bool true) X3) (Aa (Af Tp .eql 76 (.tmp 57) (.const (.int .u8 240)) t911 (.int .u8 240)) fun t922=>Ae t922 (Aa (Ac Tp 80 x1 1) fun t923=>Aa (Ad Tp X3 32 t923) fun t924=>Aa (Af Tp .neq 32 (.tmp 97) (.const (.int .u64 0)) t924 (.int .u64 0)) fun t925=>Ae t925 (Q (.bool false) X3) (AE (Er 1) (Er 1) (S 1 [x1,(.int .i64 0)] X3))) (Aa (Af Tp .eql 76 (.tmp 57) (.const (.int .u8 160)) t911 (.int .u8 160)) fun t926=>Ae t926 (Aa (Ac Tp 80 x1 1) fun t927=>Aa (Ad Tp X3 32 t927) fun t928=>Aa (Af Tp .neq 32 (.tmp 97) (.const (.int .u64 0)) t928 (.int .u64 0)) fun t929=>Ae t929 (Q (.bool false) X3) (AE (Er 1) (Er 1) (S 1 [x1,(.int .i64 0)] X3))) (Aa (Af Tp .eql 76 (.tmp 57) (.const (.int .u8 169)) t911 (.int .u8 169)) fun t930=>Ae t930 (Aa (Ac Tp 80 x1 1) fun t931=>Aa (Ad Tp X3 32 t931) fun t932=>Aa (Af Tp .neq 32 (.tmp 97) (.const (.int .u64 0)) t932 (.int .u64 0)) fun t933=>Ae t933 (Q (.bool false) X3) (AE (Er 1) (Er 1) (S 1 [x1,(.int .i64 0)] X3))) (Aa (Af Tp .eql 76 (.tmp 57) (.const (.int .u8 149)) t911 (.int .u8 149)) fun t934=>Ae t934 (Aa (Ac Tp 80 x1 2) fun t935=>Aa (Ad Tp X3 9 t935) fun t936=>Wc Tp Ak W0 m0 164 [t936] X3 fun t937 At938=>Aa (unA Tp .not t937) fun t939=>Ae t939 (Q (.bool false) At938) (Aa (Ac Tp 80 x1 1) fun t940=>Aa (Ad Tp At938 32 t940) fun t941=>Aa (Af Tp .neq 32 (.tmp 97) (.const (.int .u64 0)) t941 (.int .u64 0)) fun t942=>Ae t942 (Q (.bool false) At938) (AE (Er 1) (Er 1) (S 1 [x1,(.int .i64 0)] At938)))) (Aa (Af Tp .eql 76 (.tmp 57) (.const (.int .u8 168)) t911 (.int .u8 168)) fun t943=>Ae t943 (Aa (Ac Tp 80 x1 3) fun t944=>Aa (Ad Tp X3 77 t944) fun t945=>Aa (AB Tp X3 77 t945) fun t946=>Aa (Ac Tp 80 x1 4) fun t947=>Aa (Ad Tp X3 78 t947) fun t948=>Aa (AB Tp X3 78 t948) fun t949=>Aa (Af Tp .neq 3 (.tmp 85) (.tmp 88) t946 t949) fun t950=>Ae t950 (Q (.bool false) X3) (Aa (Ac Tp 80 x1 3) fun t951=>Aa (Ad Tp X3 77 t951) fun t952=>Wc Tp Ak W0 m0 165 [t952] X3 fun t953 At954=>Aa (unA Tp .not t953) fun t955=>Ae t955 (Q (.bool false) At954) (Aa (Ac Tp 80 x1 1) fun t956=>Aa (Ad Tp At954 32 t956) fun t957=>Aa (Af Tp .neq 32 (.tmp 97) (.const (.int .u64 0)) t957 (.int .u64 0)) fun t958=>Ae t958 (Q (.bool false) At954) (AE (Er 1) (Er 1) (S 1 [x1,(.int .i64 0)] At954))))) (Q (.bool false) X3)))))))))))) (Aa (Ac Tp 80 x1 2) fun t959=>Aa (Ad Tp X3 9 t959) fun t960=>Aa (AB Tp X3 9 t960) fun t961=>Aa (Af Tp .gtr 3 (.tmp 53) (.const (.int .i64 4096)) t961 (.int .i64 4096)) fun t962=>Ae t962 (Q (.bool false) X3) (Aa (Ac Tp 80 x1 0) fun t963=>Aa (Ad Tp X3 76 t963) fun t964=>Aa (Af Tp .eql 76 (.tmp 57) (.const (.int .u8 8)) t964 (.int .u8 8)) fun t965=>Ae t965 (Aa (Ac Tp 80 x1 1) fun t966=>Aa (Ad Tp X3 32 t966) fun t967=>Aa (Af Tp .leq 32 (.tmp 61) (.const (.int .u64 1)) t967 (.int .u64 1)) fun t968=>Q t968 X3) (Aa (Af Tp .eql 76 (.tmp 57) (.const (.int .u8 2)) t964 (.int .u8 2)) fun t969=>Ae t969 (Aa (Ac Tp 80 x1 1) fun t970=>Aa (Ad Tp X3 32 t970) fun t971=>Aa (Af Tp .leq 32 (.tmp 66) (.const (.int .u64 255)) t971 (.int .u64 255)) fun t972=>Q t972 X3) (Aa (Af Tp .eql 76 (.tmp 57) (.const (.int .u8 49)) t964 (.int .u8 49)) fun t973=>Ae t973 (Q (.bool true) X3) (Aa (Af Tp .eql 76 (.tmp 57) (.const (.int .u8 50)) t964 (.int .u8 50)) fun t974=>Ae t974 (Q (.bool true) X3) (Aa (Af Tp .eql 76 (.tmp 57) (.const (.int .u8 240)) t964 (.int .u8 240)) fun t975=>Ae t975 (Aa (Ac Tp 80 x1 1) fun t976=>Aa (Ad Tp X3 32 t976) fun t977=>Aa (Af Tp .neq 32 (.tmp 97) (.const (.int .u64 0)) t977 (.int .u64 0)) fun t978=>Ae t978 (Q (.bool false) X3) (AE (Er 1) (Er 1) (S 1 [x1,(.int .i64 0)] X3))) (Aa (Af Tp .eql 76 (.tmp 57) (.const (.int .u8 160)) t964 (.int .u8 160)) fun t979=>Ae t979 (Aa (Ac Tp 80 x1 1) fun t980=>Aa (Ad Tp X3 32 t980) fun t981=>Aa (Af Tp .neq 32 (.tmp 97) (.const (.int .u64 0)) t981 (.int .u64 0)) fun t982=>Ae t982 (Q (.bool false) X3) (AE (Er 1) (Er 1) (S 1 [x1,(.int .i64 0)] X3))) (Aa (Af Tp .eql 76 (.tmp 57) (.const (.int .u8 169)) t964 (.int .u8 169)) fun t983=>Ae t983 (Aa (Ac Tp 80 x1 1) fun t984=>Aa (Ad Tp X3 32 t984) fun t985=>Aa (Af Tp .neq 32 (.tmp 97) (.const (.int .u64 0)) t985 (.int .u64 0)) fun t986=>Ae t986 (Q (.bool false) X3) (AE (Er 1) (Er 1) (S 1 [x1,(.int .i64 0)] X3))) (Aa (Af Tp .eql 76 (.tmp 57) (.const (.int .u8 149)) t964 (.int .u8 149)) fun t987=>Ae t987 (Aa (Ac Tp 80 x1 2) fun t988=>Aa (Ad Tp X3 9 t988) fun t989=>Wc Tp Ak W0 m0 164 [t989] X3 fun t990 At991=>Aa (unA Tp .not t990) fun t992=>Ae t992 (Q (.bool false) At991) (Aa (Ac Tp 80 x1 1) fun t993=>Aa (Ad Tp At991 32 t993) fun t994=>Aa (Af Tp .neq 32 (.tmp 97) (.const (.int .u64 0)) t994 (.int .u64 0)) fun t995=>Ae t995 (Q (.bool false) At991) (AE (Er 1) (Er 1) (S 1 [x1,(.int .i64 0)] At991)))) (Aa (Af Tp .eql 76 (.tmp 57) (.const (.int .u8 168)) t964 (.int .u8 168)) fun t996=>Ae t996 (Aa (Ac Tp 80 x1 3) fun t997=>Aa (Ad Tp X3 77 t997) fun t998=>Aa (AB Tp X3 77 t998) fun t999=>Aa (Ac Tp 80 x1 4) fun t1000=>Aa (Ad Tp X3 78 t1000) fun t1001=>Aa (AB Tp X3 78 t1001) fun t1002=>Aa (Af Tp .neq 3 (.tmp 85) (.tmp 88) t999 t1002) fun t1003=>Ae t1003 (Q (.bool false) X3) (Aa (Ac Tp 80 x1 3) fun t1004=>Aa (Ad Tp X3 77 t1004) fun t1005=>Wc Tp Ak W0 m0 165 [t1005] X3 fun t1006 At1007=>Aa (unA Tp .not t1006) fun t1008=>Ae t1008 (Q (.bool false) At1007) (Aa (Ac Tp 80 x1 1) fun t1009=>Aa (Ad Tp At1007 32 t1009) fun t1010=>Aa (Af Tp .neq 32 (.tmp 97) (.const (.int .u64 0)) t1010 (.int .u64 0)) fun t1011=>Ae t1011 (Q (.bool false) At1007) (AE (Er 1) (Er 1) (S 1 [x1,(.int .i64 0)] At1007))))) (Q (.bool false) X3)))))))))))
abbrev Jb(x0:Value)(x1:Value)(X3:AW):Prop:=Ae x0 (Aa (Ac Tp 80 x1 4) fun t902=>Aa (Ad Tp X3 78 t902) fun t904=>Aa (AB Tp X3 78 t904) fun t905=>Aa (Af Tp .gtr 3 (.tmp 37) (.const (.int .i64 0)) t905 (.int .i64 0)) fun t906=>Ae t906 (Q (.bool false) X3) (Aa (unA Tp .not (.bool true)) fun t907=>Jc W0 m0 S Q t907 x1 X3)) (Aa (unA Tp .not (.bool true)) fun t908=>Jc W0 m0 S Q t908 x1 X3)
abbrev Ja(x0:Value)(x1:Value)(X3:AW)(x7:Value):Prop:=Ae x0 (Aa (Ac Tp 80 x1 4) fun t902=>Aa (Ad Tp X3 78 t902) fun t904=>Aa (AB Tp X3 78 t904) fun t905=>Aa (Af Tp .gtr 3 (.tmp 37) (.const (.int .i64 0)) t905 (.int .i64 0)) fun t906=>Ae t906 (Q (.bool false) X3) (Aa (unA Tp .not x7) fun t908=>Jc W0 m0 S Q t908 x1 X3)) (Aa (unA Tp .not x7) fun t909=>Jc W0 m0 S Q t909 x1 X3)
theorem Aim(a0:Value)(A:AW):gE W0 m0 S Q 157 113 Er ZI [a0] A=(Al (Bk A (Value.cells a0).toList 80) fun t0 At0=>Aa (Ac Tp 80 t0 0) fun t1=>Aa (Ad Tp At0 76 t1) fun t2=>Aa (Af Tp .eql 76 (.tmp 7) (.const (.int .u8 168)) t2 (.int .u8 168)) fun t3=>Ae t3 (Aa (Ac Tp 80 t0 0) fun t4=>Aa (Ad Tp At0 76 t4) fun t5=>Aa (Af Tp .eql 76 (.tmp 15) (.const (.int .u8 149)) t5 (.int .u8 149)) fun t6=>Ae t6 (Aa (Ac Tp 80 t0 0) fun t7=>Aa (Ad Tp At0 76 t7) fun t8=>Aa (Af Tp .neq 76 (.tmp 23) (.const (.int .u8 168)) t8 (.int .u8 168)) fun t9=>Ae t9 (Aa (Ac Tp 80 t0 3) fun t10=>Aa (Ad Tp At0 77 t10) fun t11=>Aa (AB Tp At0 77 t11) fun t12=>Aa (Af Tp .gtr 3 (.tmp 28) (.const (.int .i64 0)) t12 (.int .i64 0)) fun t13=>Ae t13 (Q (.bool false) At0) (Aa (unA Tp .not (.bool true)) fun t14=>Jb W0 m0 S Q t14 t0 At0)) (Aa (unA Tp .not (.bool true)) fun t231=>Jb W0 m0 S Q t231 t0 At0)) (Aa (Ac Tp 80 t0 0) fun t448=>Aa (Ad Tp At0 76 t448) fun t449=>Aa (Af Tp .eql 76 (.tmp 19) (.const (.int .u8 160)) t449 (.int .u8 160)) fun t450=>Aa (Ac Tp 80 t0 0) fun t451=>Aa (Ad Tp At0 76 t451) fun t452=>Aa (Af Tp .neq 76 (.tmp 23) (.const (.int .u8 168)) t452 (.int .u8 168)) fun t453=>Ae t453 (Aa (Ac Tp 80 t0 3) fun t454=>Aa (Ad Tp At0 77 t454) fun t455=>Aa (AB Tp At0 77 t455) fun t456=>Aa (Af Tp .gtr 3 (.tmp 28) (.const (.int .i64 0)) t456 (.int .i64 0)) fun t457=>Ae t457 (Q (.bool false) At0) (Aa (unA Tp .not (.bool true)) fun t458=>Ja W0 m0 S Q t458 t0 At0 t450)) (Aa (unA Tp .not (.bool true)) fun t675=>Ja W0 m0 S Q t675 t0 At0 t450))) (Aa (Ac Tp 80 t0 0) fun t892=>Aa (Ad Tp At0 76 t892) fun t893=>Aa (Af Tp .eql 76 (.tmp 11) (.const (.int .u8 169)) t893 (.int .u8 169)) fun t894=>Aa (Ac Tp 80 t0 0) fun t895=>Aa (Ad Tp At0 76 t895) fun t896=>Aa (Af Tp .eql 76 (.tmp 15) (.const (.int .u8 149)) t896 (.int .u8 149)) fun t897=>Ae t897 (Aa (Ac Tp 80 t0 0) fun t898=>Aa (Ad Tp At0 76 t898) fun t899=>Aa (Af Tp .neq 76 (.tmp 23) (.const (.int .u8 168)) t899 (.int .u8 168)) fun t900=>Ae t900 (Aa (Ac Tp 80 t0 3) fun t901=>Aa (Ad Tp At0 77 t901) fun t902=>Aa (AB Tp At0 77 t902) fun t903=>Aa (Af Tp .gtr 3 (.tmp 28) (.const (.int .i64 0)) t903 (.int .i64 0)) fun t904=>Ae t904 (Q (.bool false) At0) (Aa (unA Tp .not t894) fun t905=>Jb W0 m0 S Q t905 t0 At0)) (Aa (unA Tp .not t894) fun t1122=>Jb W0 m0 S Q t1122 t0 At0)) (Aa (Ac Tp 80 t0 0) fun t1339=>Aa (Ad Tp At0 76 t1339) fun t1340=>Aa (Af Tp .eql 76 (.tmp 19) (.const (.int .u8 160)) t1340 (.int .u8 160)) fun t1341=>Aa (Ac Tp 80 t0 0) fun t1342=>Aa (Ad Tp At0 76 t1342) fun t1343=>Aa (Af Tp .neq 76 (.tmp 23) (.const (.int .u8 168)) t1343 (.int .u8 168)) fun t1344=>Ae t1344 (Aa (Ac Tp 80 t0 3) fun t1345=>Aa (Ad Tp At0 77 t1345) fun t1346=>Aa (AB Tp At0 77 t1346) fun t1347=>Aa (Af Tp .gtr 3 (.tmp 28) (.const (.int .i64 0)) t1347 (.int .i64 0)) fun t1348=>Ae t1348 (Q (.bool false) At0) (Aa (unA Tp .not t894) fun t1349=>Ja W0 m0 S Q t1349 t0 At0 t1341)) (Aa (unA Tp .not t894) fun t1566=>Ja W0 m0 S Q t1566 t0 At0 t1341)))):=by kernel_rfl
theorem Acv(d:Nat→Value)(A:AW):gL W0 m0 S Q 157 113 Er ZI d 1 A=(Aa (Ac Tp 80 (d 1) 4) fun t0=>Aa (Ad Tp A 78 t0) fun t1=>Aa (AB Tp A 78 t1) fun t2=>Aa (Af Tp .lss 3 (.tmp 99) (.tmp 102) (d 5) t2) fun t3=>Ae t3 (Aa (Ac Tp 80 (d 1) 4) fun t4=>Aa (Ad Tp A 78 t4) fun t5=>Aa (Ag Tp 78 t5 (d 5)) fun t6=>Aa (Ad Tp A 80 t6) fun t7=>Wc Tp Ak W0 m0 157 [t7] A fun t8 At8=>Aa (unA Tp .not t8) fun t9=>Ae t9 (Q (.bool false) At8) (Aa (Af Tp .add 3 (.tmp 104) (.const (.int .i64 1)) (d 5) (.int .i64 1)) fun t10=>AE (Er 1) (Er 1) (S 1 [(d 1),t10] At8))) (Q (.bool true) A)):=by kernel_rfl
theorem Ag0:Wf1 157 113 Er ZI:=wf1 (fun _=>by kernel_rfl) (by decide) fun _=>rfl
theorem Aji:B9 157 113 Er ZI:=Ce (by decide)
noncomputable def L8:Nat→List Item:=fun i=>match i with
 |0=>[(.code (cd 165 [1,0,1,0,0])),(.inLoop (cd 165 [1,0,1,0,0])),(.inBlock 0),(.code (cd 165 [1,1]))]
 |2=>[(.code (cd 165 [1,0,1,0,0,1,0,0,1,1,0,0])),(.inLoop (cd 165 [1,0,1,0,0,1,0,0,1,1,0,0])),(.inBlock 2),(.inBlock 1),(.code (cd 165 [1,0,1,0,0,1,1])),(.inLoop (cd 165 [1,0,1,0,0])),(.inBlock 0),(.code (cd 165 [1,1]))]
 |_=>[]
def Vq:Nat→List Tmp:=fun i=>match i with
 |0=>[0,3]
 |2=>[0,3,4]
 |_=>[]
theorem Aie(a0:Value)(A:AW):gE W0 m0 S Q 165 47 L8 Vq [a0] A=(AE (L8 0) (L8 0) (S 0 [a0,(.int .i64 0)] A)):=by kernel_rfl
theorem Acp(d:Nat→Value)(A:AW):gL W0 m0 S Q 165 47 L8 Vq d 0 A=(Aa (AB Tp A 77 (d 0)) fun t0=>Aa (Af Tp .lss 3 (.tmp 5) (.tmp 7) (d 3) t0) fun t1=>Ae t1 (Aa (Ag Tp 77 (d 0) (d 3)) fun t2=>Aa (Ad Tp A 9 t2) fun t3=>Aa (AB Tp A 9 t3) fun t4=>Aa (Af Tp .lss 3 (.tmp 15) (.const (.int .i64 1)) t4 (.int .i64 1)) fun t5=>Ae t5 (Q (.bool false) A) (Aa (Ag Tp 77 (d 0) (d 3)) fun t6=>Aa (Ad Tp A 9 t6) fun t7=>Aa (AB Tp A 9 t7) fun t8=>Aa (Af Tp .gtr 3 (.tmp 22) (.const (.int .i64 255)) t8 (.int .i64 255)) fun t9=>Ae t9 (Q (.bool false) A) (Aa (Ag Tp 77 (d 0) (d 3)) fun t10=>Aa (Ad Tp A 9 t10) fun t11=>Wc Tp Ak W0 m0 164 [t11] A fun t12 At12=>Aa (unA Tp .not t12) fun t13=>Ae t13 (Q (.bool false) At12) (AE (L8 2) (L8 2) (S 2 [(d 0),(d 3),(.int .i64 0)] At12))))) (Q (.bool true) A)):=by kernel_rfl
theorem Aco(d:Nat→Value)(A:AW):gL W0 m0 S Q 165 47 L8 Vq d 2 A=(Aa (Af Tp .lss 3 (.tmp 33) (.tmp 34) (d 4) (d 3)) fun t0=>Ae t0 (Aa (Ag Tp 77 (d 0) (d 4)) fun t1=>Aa (Ad Tp A 9 t1) fun t2=>Aa (Ag Tp 77 (d 0) (d 3)) fun t3=>Aa (Ad Tp A 9 t3) fun t4=>Aa (Af Tp .eql 9 (.tmp 41) (.tmp 45) t2 t4) fun t5=>Ae t5 (Q (.bool false) A) (Aa (Af Tp .add 3 (.tmp 36) (.const (.int .i64 1)) (d 4) (.int .i64 1)) fun t6=>AE (L8 2) (L8 2) (S 2 [(d 0),(d 3),t6] A))) (Aa (Af Tp .add 3 (.tmp 9) (.const (.int .i64 1)) (d 3) (.int .i64 1)) fun t7=>AE (L8 0) (L8 0) (S 0 [(d 0),t7] A))):=by kernel_rfl
theorem AgS:Wf1 165 47 L8 Vq:=wf1 (fun _=>by kernel_rfl) (by decide) fun _=>rfl
theorem Aje:B9 165 47 L8 Vq:=Ce (by decide)
noncomputable def L9:Nat→List Item:=fun i=>match i with
 |0=>[(.code (cd 164 [1,1,0,0,0])),(.inLoop (cd 164 [1,1,0,0,0])),(.inBlock 0),(.code (cd 164 [1,1,1]))]
 |3=>[(.code (cd 164 [1,1,0,0,0,1,0,1,1,1,1,0,1,0,0])),(.inLoop (cd 164 [1,1,0,0,0,1,0,1,1,1,1,0,1,0,0])),(.inBlock 3),(.code (cd 164 [1,1,0,0,0,1,0,1,1,1,1,1])),(.inBlock 1),(.inLoop (cd 164 [1,1,0,0,0])),(.inBlock 0),(.code (cd 164 [1,1,1]))]
 |_=>[]
def Vr:Nat→List Tmp:=fun i=>match i with
 |0=>[0,3]
 |3=>[0,3,5,6,7,8]
 |_=>[]
theorem Aif(a0:Value)(A:AW):gE W0 m0 S Q 164 82 L9 Vr [a0] A=(AE (L9 0) (L9 0) (S 0 [a0,(.int .i64 0)] A)):=by kernel_rfl
abbrev Cn(X1:AW)(x2:Value)(x4:Value)(y0:Value)(y1:Value)(y2:Value):Prop:=Aa (Af Tp .eql 3 (.tmp 50) (.const (.int .i64 0)) y0 (.int .i64 0)) fun t900=>Ae t900 (Q (.bool false) X1) (Aa (Af Tp .add 3 (.tmp 53) (.tmp 54) x2 y0) fun t903=>Aa (AB Tp X1 9 x4) fun t905=>Aa (Af Tp .gtr 3 (.tmp 55) (.tmp 57) t903 t905) fun t906=>Ae t906 (Q (.bool false) X1) (AE (L9 3) (L9 3) (S 3 [x4,x2,y0,y1,y2,(.int .i64 1)] X1)))
abbrev I8(x0:Value)(X5:AW)(x6:Value)(x7:Value):Prop:=Aa (Af Tp .geq 3 (.tmp 40) (.const (.int .i64 240)) x0 (.int .i64 240)) fun t901=>Ae t901 (Aa (Af Tp .leq 3 (.tmp 43) (.const (.int .i64 244)) x0 (.int .i64 244)) fun t902=>Ae t902 (Aa (Af Tp .eql 3 (.tmp 46) (.const (.int .i64 240)) x0 (.int .i64 240)) fun t903=>Ae t903 (Aa (Af Tp .eql 3 (.tmp 48) (.const (.int .i64 244)) x0 (.int .i64 244)) fun t904=>Ae t904 (Cn S Q X5 x6 x7 (.int .i64 4) (.int .i64 144) (.int .i64 143)) (Cn S Q X5 x6 x7 (.int .i64 4) (.int .i64 144) (.int .i64 191))) (Aa (Af Tp .eql 3 (.tmp 48) (.const (.int .i64 244)) x0 (.int .i64 244)) fun t908=>Ae t908 (Cn S Q X5 x6 x7 (.int .i64 4) (.int .i64 128) (.int .i64 143)) (Cn S Q X5 x6 x7 (.int .i64 4) (.int .i64 128) (.int .i64 191)))) (Cn S Q X5 x6 x7 (.int .i64 0) (.int .i64 128) (.int .i64 191))) (Cn S Q X5 x6 x7 (.int .i64 0) (.int .i64 128) (.int .i64 191))
abbrev I7(x0:Value)(X5:AW)(x6:Value)(x7:Value):Prop:=Aa (Af Tp .geq 3 (.tmp 29) (.const (.int .i64 224)) x0 (.int .i64 224)) fun t901=>Ae t901 (Aa (Af Tp .leq 3 (.tmp 32) (.const (.int .i64 239)) x0 (.int .i64 239)) fun t902=>Ae t902 (Aa (Af Tp .eql 3 (.tmp 35) (.const (.int .i64 224)) x0 (.int .i64 224)) fun t903=>Ae t903 (Aa (Af Tp .eql 3 (.tmp 37) (.const (.int .i64 237)) x0 (.int .i64 237)) fun t904=>Ae t904 (Cn S Q X5 x6 x7 (.int .i64 3) (.int .i64 160) (.int .i64 159)) (Cn S Q X5 x6 x7 (.int .i64 3) (.int .i64 160) (.int .i64 191))) (Aa (Af Tp .eql 3 (.tmp 37) (.const (.int .i64 237)) x0 (.int .i64 237)) fun t908=>Ae t908 (Cn S Q X5 x6 x7 (.int .i64 3) (.int .i64 128) (.int .i64 159)) (Cn S Q X5 x6 x7 (.int .i64 3) (.int .i64 128) (.int .i64 191)))) (I8 S Q x0 X5 x6 x7)) (I8 S Q x0 X5 x6 x7)
theorem Acr(d:Nat→Value)(A:AW):gL W0 m0 S Q 164 82 L9 Vr d 0 A=(Aa (AB Tp A 9 (d 0)) fun t0=>Aa (Af Tp .lss 3 (.tmp 10) (.tmp 12) (d 3) t0) fun t1=>Ae t1 (Aa (BU Tp 9 (d 0) (d 3)) fun t2=>Al (AI Tp A 5 3 t2) fun t3 At3=>Aa (Af Tp .lss 3 (.tmp 19) (.const (.int .i64 128)) t3 (.int .i64 128)) fun t4=>Ae t4 (Cn S Q At3 (d 3) (d 0) (.int .i64 1) (.int .i64 128) (.int .i64 191)) (Aa (Af Tp .geq 3 (.tmp 22) (.const (.int .i64 194)) t3 (.int .i64 194)) fun t9=>Ae t9 (Aa (Af Tp .leq 3 (.tmp 25) (.const (.int .i64 223)) t3 (.int .i64 223)) fun t10=>Ae t10 (Cn S Q At3 (d 3) (d 0) (.int .i64 2) (.int .i64 128) (.int .i64 191)) (I7 S Q t3 At3 (d 3) (d 0))) (I7 S Q t3 At3 (d 3) (d 0)))) (Q (.bool true) A)):=by kernel_rfl
theorem Acq(d:Nat→Value)(A:AW):gL W0 m0 S Q 164 82 L9 Vr d 3 A=(Aa (Af Tp .lss 3 (.tmp 60) (.tmp 61) (d 8) (d 5)) fun t0=>Ae t0 (Aa (Af Tp .add 3 (.tmp 66) (.tmp 67) (d 3) (d 8)) fun t1=>Aa (BU Tp 9 (d 0) t1) fun t2=>Al (AI Tp A 5 3 t2) fun t3 At3=>Aa (Af Tp .lss 3 (.tmp 71) (.tmp 72) t3 (d 6)) fun t4=>Ae t4 (Q (.bool false) At3) (Aa (Af Tp .gtr 3 (.tmp 75) (.tmp 76) t3 (d 7)) fun t5=>Ae t5 (Q (.bool false) At3) (Aa (Af Tp .add 3 (.tmp 63) (.const (.int .i64 1)) (d 8) (.int .i64 1)) fun t6=>AE (L9 3) (L9 3) (S 3 [(d 0),(d 3),(d 5),(.int .i64 128),(.int .i64 191),t6] At3)))) (Aa (Af Tp .add 3 (.tmp 79) (.tmp 80) (d 3) (d 5)) fun t7=>AE (L9 0) (L9 0) (S 0 [(d 0),t7] A))):=by kernel_rfl
theorem AgT:Wf1 164 82 L9 Vr:=wf1 (fun _=>by kernel_rfl) (by decide) fun _=>rfl
theorem Ajf:B9 164 82 L9 Vr:=Ce (by decide)
noncomputable def M7:Nat→List Item:=fun i=>match i with
 |1=>[(.code (cd 148 [1,1,1,1,0,1,0,0])),(.inLoop (cd 148 [1,1,1,1,0,1,0,0])),(.inBlock 1),(.code (cd 148 [1,1,1,1,1]))]
 |_=>[]
def ZM:Nat→List Tmp:=fun i=>match i with
 |1=>[1,3,4,5]
 |_=>[]
abbrev Nj(x0:Value)(X2:AW)(x9:Value)(y0:Value):Prop:=Aa (Ac Tp 80 x0 2) fun t901=>Aa (Ad Tp X2 9 t901) fun t903=>Aa (AB Tp X2 9 t903) fun t904=>Al (AI Tp X2 3 32 t904) fun t905 At906=>Wc Tp Ak W0 m0 155 [t905,y0] At906 fun t907 At908=>Al (Bh Tp At908 203 203 x9 t907) fun t910 At911=>Aa (Ac Tp 80 x0 2) fun t912=>Aa (Ad Tp At911 9 t912) fun t913=>Al (Bh Tp At911 203 9 t910 t913) fun t914 At915=>Q t914 At915
abbrev Ni(x0:Value)(X2:AW)(x8:Value):Prop:=Aa (Ac Tp 80 x0 1) fun t901=>Aa (Ad Tp X2 32 t901) fun t903=>Al (AI Tp X2 32 5 t903) fun t904 At905=>Al (AG Tp At905 203 1 [(0,t904)]) fun t906 At907=>Al (Bh Tp At907 203 203 x8 t906) fun t909 At910=>Q t909 At910
abbrev Nh(x0:Value)(X2:AW)(x6:Value):Prop:=Aa (Ac Tp 80 x0 1) fun t901=>Aa (Ad Tp X2 32 t901) fun t903=>Wc Tp Ak W0 m0 155 [t903,(.int .i64 8)] X2 fun t904 At905=>Al (Bh Tp At905 203 203 x6 t904) fun t907 At908=>Q t907 At908
theorem Aiu(a0:Value)(A:AW):gE W0 m0 S Q 148 106 M7 ZM [a0] A=(Al (Bk A (Value.cells a0).toList 80) fun t0 At0=>Aa (Ac Tp 80 t0 0) fun t1=>Aa (Ad Tp At0 76 t1) fun t2=>Al (AG Tp At0 203 1 [(0,t2)]) fun t3 At3=>Aa (Ac Tp 80 t0 0) fun t4=>Aa (Ad Tp At3 76 t4) fun t5=>Aa (Af Tp .eql 76 (.tmp 10) (.const (.int .u8 8)) t5 (.int .u8 8)) fun t6=>Ae t6 (Ni Q t0 At3 t3) (Aa (Af Tp .eql 76 (.tmp 10) (.const (.int .u8 2)) t5 (.int .u8 2)) fun t12=>Ae t12 (Ni Q t0 At3 t3) (Aa (Af Tp .eql 76 (.tmp 10) (.const (.int .u8 49)) t5 (.int .u8 49)) fun t18=>Ae t18 (Nh W0 m0 Q t0 At3 t3) (Aa (Af Tp .eql 76 (.tmp 10) (.const (.int .u8 50)) t5 (.int .u8 50)) fun t23=>Ae t23 (Nh W0 m0 Q t0 At3 t3) (Aa (Af Tp .eql 76 (.tmp 10) (.const (.int .u8 149)) t5 (.int .u8 149)) fun t28=>Ae t28 (Nj W0 m0 Q t0 At3 t3 (.int .i64 2)) (Aa (Af Tp .eql 76 (.tmp 10) (.const (.int .u8 160)) t5 (.int .u8 160)) fun t38=>Ae t38 (Nj W0 m0 Q t0 At3 t3 (.int .i64 4)) (Aa (Af Tp .eql 76 (.tmp 10) (.const (.int .u8 240)) t5 (.int .u8 240)) fun t48=>Ae t48 (Q t3 At3) (Aa (Ac Tp 80 t0 4) fun t49=>Aa (Ad Tp At3 78 t49) fun t50=>Aa (AB Tp At3 78 t50) fun t51=>Al (AI Tp At3 3 32 t51) fun t52 At52=>Wc Tp Ak W0 m0 155 [t52,(.int .i64 4)] At52 fun t53 At53=>AE (M7 1) (M7 1) (S 1 [t0,t3,t53,(.int .i64 0)] At53))))))))):=by kernel_rfl
theorem AcB(d:Nat→Value)(A:AW):gL W0 m0 S Q 148 106 M7 ZM d 1 A=(Aa (Ac Tp 80 (d 1) 4) fun t0=>Aa (Ad Tp A 78 t0) fun t1=>Aa (AB Tp A 78 t1) fun t2=>Aa (Af Tp .lss 3 (.tmp 62) (.tmp 65) (d 5) t2) fun t3=>Ae t3 (Aa (Ac Tp 80 (d 1) 0) fun t4=>Aa (Ad Tp A 76 t4) fun t5=>Aa (Af Tp .eql 76 (.tmp 70) (.const (.int .u8 168)) t5 (.int .u8 168)) fun t6=>Ae t6 (Aa (Ac Tp 80 (d 1) 3) fun t7=>Aa (Ad Tp A 77 t7) fun t8=>Aa (Ag Tp 77 t8 (d 5)) fun t9=>Aa (Ad Tp A 9 t9) fun t10=>Aa (AB Tp A 9 t10) fun t11=>Al (AI Tp A 3 5 t11) fun t12 At12=>Al (AG Tp At12 203 1 [(0,t12)]) fun t13 At13=>Al (Bh Tp At13 203 203 (d 4) t13) fun t14 At14=>Aa (Ac Tp 80 (d 1) 3) fun t15=>Aa (Ad Tp At14 77 t15) fun t16=>Aa (Ag Tp 77 t16 (d 5)) fun t17=>Aa (Ad Tp At14 9 t17) fun t18=>Al (Bh Tp At14 203 9 t14 t18) fun t19 At19=>Aa (Ac Tp 80 (d 1) 4) fun t20=>Aa (Ad Tp At19 78 t20) fun t21=>Aa (Ag Tp 78 t21 (d 5)) fun t22=>Aa (Ad Tp At19 80 t22) fun t23=>Wc Tp Ak W0 m0 148 [t23] At19 fun t24 At24=>Al (Bh Tp At24 203 203 t19 t24) fun t25 At25=>Aa (Af Tp .add 3 (.tmp 67) (.const (.int .i64 1)) (d 5) (.int .i64 1)) fun t26=>AE (M7 1) (M7 1) (S 1 [(d 1),(d 3),t25,t26] At25)) (Aa (Ac Tp 80 (d 1) 4) fun t27=>Aa (Ad Tp A 78 t27) fun t28=>Aa (Ag Tp 78 t28 (d 5)) fun t29=>Aa (Ad Tp A 80 t29) fun t30=>Wc Tp Ak W0 m0 148 [t30] A fun t31 At31=>Al (Bh Tp At31 203 203 (d 4) t31) fun t32 At32=>Aa (Af Tp .add 3 (.tmp 67) (.const (.int .i64 1)) (d 5) (.int .i64 1)) fun t33=>AE (M7 1) (M7 1) (S 1 [(d 1),(d 3),t32,t33] At32))) (Aa (AB Tp A 203 (d 4)) fun t34=>Al (AI Tp A 3 32 t34) fun t35 At35=>Wc Tp Ak W0 m0 155 [t35,(.int .i64 4)] At35 fun t36 At36=>Al (Bh Tp At36 203 203 (d 3) t36) fun t37 At37=>Al (Bh Tp At37 203 203 t37 (d 4)) fun t38 At38=>Q t38 At38)):=by kernel_rfl
theorem Ag8:Wf1 148 106 M7 ZM:=wf1 (fun _=>by kernel_rfl) (by decide) fun _=>rfl
theorem Ajn:B9 148 106 M7 ZM:=Ce (by decide)
noncomputable def Ma:Nat→List Item:=fun i=>match i with
 |0=>[(.code (cd 154 [1,1,0,1,0,0])),(.inLoop (cd 154 [1,1,0,1,0,0])),(.inBlock 0),(.code (cd 154 [1,1,1]))]
 |2=>[(.code (cd 154 [1,1,1,0,1,0,0])),(.inLoop (cd 154 [1,1,1,0,1,0,0])),(.inBlock 2),(.code (cd 154 [1,1,1,1]))]
 |_=>[]
def Vs:Nat→List Tmp:=fun i=>match i with
 |0=>[2,3,5]
 |2=>[2,3,6]
 |_=>[]
theorem Aip(a0 a1:Value)(A:AW):gE W0 m0 S Q 154 81 Ma Vs [a0,a1] A=(Al (Bk A (Value.cells a0).toList 80) fun t0 At0=>Al (Bk At0 (Value.cells a1).toList 80) fun t1 At1=>Aa (Ac Tp 80 t0 0) fun t2=>Aa (Ad Tp At1 76 t2) fun t3=>Aa (Ac Tp 80 t1 0) fun t4=>Aa (Ad Tp At1 76 t4) fun t5=>Aa (Af Tp .neq 76 (.tmp 8) (.tmp 10) t3 t5) fun t6=>Ae t6 (Q (.bool false) At1) (Aa (Ac Tp 80 t0 1) fun t7=>Aa (Ad Tp At1 32 t7) fun t8=>Aa (Ac Tp 80 t1 1) fun t9=>Aa (Ad Tp At1 32 t9) fun t10=>Aa (Af Tp .neq 32 (.tmp 14) (.tmp 16) t8 t10) fun t11=>Ae t11 (Q (.bool false) At1) (Aa (Ac Tp 80 t0 2) fun t12=>Aa (Ad Tp At1 9 t12) fun t13=>Aa (Ac Tp 80 t1 2) fun t14=>Aa (Ad Tp At1 9 t14) fun t15=>Aa (Af Tp .neq 9 (.tmp 21) (.tmp 23) t13 t15) fun t16=>Ae t16 (Q (.bool false) At1) (Aa (Ac Tp 80 t0 3) fun t17=>Aa (Ad Tp At1 77 t17) fun t18=>Aa (AB Tp At1 77 t18) fun t19=>Aa (Ac Tp 80 t1 3) fun t20=>Aa (Ad Tp At1 77 t20) fun t21=>Aa (AB Tp At1 77 t21) fun t22=>Aa (Af Tp .neq 3 (.tmp 29) (.tmp 32) t19 t22) fun t23=>Ae t23 (Q (.bool false) At1) (Aa (Ac Tp 80 t0 4) fun t24=>Aa (Ad Tp At1 78 t24) fun t25=>Aa (AB Tp At1 78 t25) fun t26=>Aa (Ac Tp 80 t1 4) fun t27=>Aa (Ad Tp At1 78 t27) fun t28=>Aa (AB Tp At1 78 t28) fun t29=>Aa (Af Tp .neq 3 (.tmp 38) (.tmp 41) t26 t29) fun t30=>Ae t30 (Q (.bool false) At1) (AE (Ma 0) (Ma 0) (S 0 [t0,t1,(.int .i64 0)] At1))))))):=by kernel_rfl
theorem Acy(d:Nat→Value)(A:AW):gL W0 m0 S Q 154 81 Ma Vs d 0 A=(Aa (Ac Tp 80 (d 2) 3) fun t0=>Aa (Ad Tp A 77 t0) fun t1=>Aa (AB Tp A 77 t1) fun t2=>Aa (Af Tp .lss 3 (.tmp 44) (.tmp 47) (d 5) t2) fun t3=>Ae t3 (Aa (Ac Tp 80 (d 2) 3) fun t4=>Aa (Ad Tp A 77 t4) fun t5=>Aa (Ag Tp 77 t5 (d 5)) fun t6=>Aa (Ad Tp A 9 t6) fun t7=>Aa (Ac Tp 80 (d 3) 3) fun t8=>Aa (Ad Tp A 77 t8) fun t9=>Aa (Ag Tp 77 t9 (d 5)) fun t10=>Aa (Ad Tp A 9 t10) fun t11=>Aa (Af Tp .neq 9 (.tmp 55) (.tmp 60) t7 t11) fun t12=>Ae t12 (Q (.bool false) A) (Aa (Af Tp .add 3 (.tmp 49) (.const (.int .i64 1)) (d 5) (.int .i64 1)) fun t13=>AE (Ma 0) (Ma 0) (S 0 [(d 2),(d 3),t13] A))) (AE (Ma 2) (Ma 2) (S 2 [(d 2),(d 3),(.int .i64 0)] A))):=by kernel_rfl
theorem Acx(d:Nat→Value)(A:AW):gL W0 m0 S Q 154 81 Ma Vs d 2 A=(Aa (Ac Tp 80 (d 2) 4) fun t0=>Aa (Ad Tp A 78 t0) fun t1=>Aa (AB Tp A 78 t1) fun t2=>Aa (Af Tp .lss 3 (.tmp 62) (.tmp 65) (d 6) t2) fun t3=>Ae t3 (Aa (Ac Tp 80 (d 2) 4) fun t4=>Aa (Ad Tp A 78 t4) fun t5=>Aa (Ag Tp 78 t5 (d 6)) fun t6=>Aa (Ad Tp A 80 t6) fun t7=>Aa (Ac Tp 80 (d 3) 4) fun t8=>Aa (Ad Tp A 78 t8) fun t9=>Aa (Ag Tp 78 t9 (d 6)) fun t10=>Aa (Ad Tp A 80 t10) fun t11=>Wc Tp Ak W0 m0 154 [t7,t11] A fun t12 At12=>Aa (unA Tp .not t12) fun t13=>Ae t13 (Q (.bool false) At12) (Aa (Af Tp .add 3 (.tmp 67) (.const (.int .i64 1)) (d 6) (.int .i64 1)) fun t14=>AE (Ma 2) (Ma 2) (S 2 [(d 2),(d 3),t14] At12))) (Q (.bool true) A)):=by kernel_rfl
theorem Ag3:Wf2 154 81 Ma Vs:=wf2 (fun _ _=>by kernel_rfl) (by decide) fun _ _=>rfl
theorem Ajk:B9 154 81 Ma Vs:=Ce (by decide)
noncomputable def TA:Nat→List Item:=fun i=>match i with
 |0=>[(.code (cd 155 [1,1,0,1,0,0])),(.inLoop (cd 155 [1,1,0,1,0,0])),(.inBlock 0),(.code (cd 155 [1,1,1]))]
 |_=>[]
def ZJ:Nat→List Tmp:=fun i=>match i with
 |0=>[0,1,5,6]
 |_=>[]
theorem Aio(a0 a1:Value)(A:AW):gE W0 m0 S Q 155 21 TA ZJ [a0,a1] A=(AE (TA 0) (TA 0) (S 0 [a0,a1,(.slice none 0 0),(.int .i64 0)] A)):=by kernel_rfl
theorem Acw(d:Nat→Value)(A:AW):gL W0 m0 S Q 155 21 TA ZJ d 0 A=(Aa (Af Tp .lss 3 (.tmp 7) (.tmp 8) (d 6) (d 1)) fun t0=>Ae t0 (Aa (Af Tp .rem 32 (.tmp 12) (.const (.int .u64 256)) (d 0) (.int .u64 256)) fun t1=>Al (AI Tp A 32 5 t1) fun t2 At2=>Al (AG Tp At2 203 1 [(0,t2)]) fun t3 At3=>Al (Bh Tp At3 203 203 t3 (d 5)) fun t4 At4=>Aa (Af Tp .quo 32 (.tmp 18) (.const (.int .u64 256)) (d 0) (.int .u64 256)) fun t5=>Aa (Af Tp .add 3 (.tmp 10) (.const (.int .i64 1)) (d 6) (.int .i64 1)) fun t6=>AE (TA 0) (TA 0) (S 0 [t5,(d 1),t4,t6] At4)) (Q (d 5) A)):=by kernel_rfl
theorem Ag2:Wf2 155 21 TA ZJ:=wf2 (fun _ _=>by kernel_rfl) (by decide) fun _ _=>rfl
theorem Ajj:B9 155 21 TA ZJ:=Ce (by decide)
abbrev Nk(x0:Value)(X2:AW):Prop:=Aa (Ac Tp 82 x0 4) fun t901=>Aa (Ad Tp X2 80 t901) fun t903=>Aa (Ch Tp 80 []) fun t904=>Wc Tp Ak W0 m0 154 [t903,t904] X2 fun t905 At906=>Ae t905 (Q (.int .i64 0) At906) (Q (.int .i64 90) At906)
theorem Aiy(a0:Value)(A:AW):gE W0 m0 S Q 144 29 Tz Lz [a0] A=(Al (Bk A (Value.cells a0).toList 82) fun t0 At0=>Aa (Ac Tp 82 t0 0) fun t1=>Aa (Ad Tp At0 9 t1) fun t2=>Aa (AB Tp At0 9 t2) fun t3=>Aa (Af Tp .gtr 3 (.tmp 5) (.const (.int .i64 255)) t3 (.int .i64 255)) fun t4=>Ae t4 (Q (.int .i64 90) At0) (Aa (Ac Tp 82 t0 3) fun t5=>Aa (Ad Tp At0 9 t5) fun t6=>Aa (AB Tp At0 9 t6) fun t7=>Aa (Af Tp .gtr 3 (.tmp 10) (.const (.int .i64 255)) t7 (.int .i64 255)) fun t8=>Ae t8 (Q (.int .i64 90) At0) (Aa (Ac Tp 82 t0 4) fun t9=>Aa (Ac Tp 80 t9 0) fun t10=>Aa (Ad Tp At0 76 t10) fun t11=>Aa (Af Tp .eql 76 (.tmp 15) (.const (.int .u8 168)) t11 (.int .u8 168)) fun t12=>Ae t12 (Aa (Ac Tp 82 t0 4) fun t13=>Aa (Ad Tp At0 80 t13) fun t14=>Wc Tp Ak W0 m0 153 [t14] At0 fun t15 At15=>Aa (Af Tp .eql 3 (.tmp 20) (.const (.int .i64 0)) t15 (.int .i64 0)) fun t16=>Ae t16 (Q (.int .i64 0) At15) (Nk W0 m0 Q t0 At15)) (Nk W0 m0 Q t0 At0)))):=by kernel_rfl
theorem Ahc:Wf1 144 29 Tz Lz:=wf1 (fun _=>by kernel_rfl) (by decide) fun _=>rfl
theorem Aix(a0:Value)(A:AW):gE W0 m0 S Q 145 10 Tz Lz [a0] A=(Aa (AB Tp A 203 a0) fun t0=>Al (AI Tp A 3 32 t0) fun t1 At1=>Wc Tp Ak W0 m0 155 [t1,(.int .i64 4)] At1 fun t2 At2=>Al (Bh Tp At2 203 203 t2 a0) fun t3 At3=>Al (AI Tp At3 203 9 t3) fun t4 At4=>Q t4 At4):=by kernel_rfl
theorem Ahb:Wf1 145 10 Tz Lz:=wf1 (fun _=>by kernel_rfl) (by decide) fun _=>rfl
theorem Aiw(a0 a1:Value)(A:AW):gE W0 m0 S Q 146 17 Tz Lz [a0,a1] A=(Aa (Af Tp .eql 9 (.tmp 5) (.const (.string ⟨⟨[]⟩⟩)) a1 (.string ⟨⟨[]⟩⟩)) fun t0=>Ae t0 (Q a0 A) (Aa (AB Tp A 9 a1) fun t1=>Al (AI Tp A 3 5 t1) fun t2 At2=>Al (AG Tp At2 203 1 [(0,t2)]) fun t3 At3=>Al (Bh Tp At3 203 203 a0 t3) fun t4 At4=>Al (Bh Tp At4 203 9 t4 a1) fun t5 At5=>Q t5 At5)):=by kernel_rfl
theorem Aha:Wf2 146 17 Tz Lz:=wf2 (fun _ _=>by kernel_rfl) (by decide) fun _ _=>rfl
theorem Aiv(a0 a1:Value)(A:AW):gE W0 m0 S Q 147 7 Tz Lz [a0,a1] A=(Ae a0 (Q a1 A) (Q (.int .u8 0) A)):=by kernel_rfl
theorem Ag9:Wf2 147 7 Tz Lz:=wf2 (fun _ _=>by kernel_rfl) (by decide) fun _ _=>rfl
abbrev No(x0:Value)(X2:AW)(x11:Value)(x35:Value):Prop:=Aa (Ac Tp 82 x0 3) fun t901=>Aa (Ad Tp X2 9 t901) fun t903=>Aa (Af Tp .neq 9 (.tmp 40) (.const (.string ⟨⟨[]⟩⟩)) t903 (.string ⟨⟨[]⟩⟩)) fun t904=>Aa (Ac Tp 82 x0 3) fun t905=>Aa (Ad Tp X2 9 t905) fun t906=>Wc Tp Ak W0 m0 147 [t904,(.int .u8 1)] X2 fun t907 At908=>Aa (Ad Tp At908 9 t905) fun t909=>eqW t909 t906 (Aa (Ac Tp 82 x0 3) fun t910=>eqW t910 t905 (eqW x11 x11 (Wc Tp Ak W0 m0 147 [x11,(.int .u8 2)] At908 fun t912 At913=>Aa (Ad Tp At913 9 t905) fun t914=>eqW t914 t906 (Aa (Ac Tp 82 x0 3) fun t915=>eqW t915 t905 (Aa (Af Tp .add 5 (.tmp 42) (.tmp 44) t907 t912) fun t916=>Al (AG Tp At913 203 4 [(0,(.int .u8 4)),(1,(.int .u8 3)),(2,(.int .u8 0)),(3,t916)]) fun t917 At918=>Aa (Ad Tp At918 9 t905) fun t919=>eqW t919 t906 (Aa (Ac Tp 82 x0 3) fun t920=>eqW t920 t905 (EC (BS Tp (BI (Tm.fill ⟨4,.nil⟩ 0 [(.int .u8 4),(.int .u8 3),(.int .u8 0),t916])) (.buildSlice 203 4 #[(0,.tmp 0),(1,.tmp 1),(2,.tmp 2),(3,.tmp 3)])) At918 t917 (Aa (Af Tp .add 5 (.tmp 42) (.tmp 44) t907 t912) fun t921=>eqW t921 t916 (eqW x11 x11 (Aa (Af Tp .neq 9 (.tmp 40) (.const (.string ⟨⟨[]⟩⟩)) t903 (.string ⟨⟨[]⟩⟩)) fun t922=>eqW t922 t904 (Aa (Ad Tp At918 9 t901) fun t923=>eqW t923 t903 (Aa (Ac Tp 82 x0 3) fun t924=>eqW t924 t901 (Wc Tp Ak W0 m0 146 [t917,t906] At918 fun t925 At926=>Ae x11 (Aa (Ac Tp 82 x0 4) fun t927=>Aa (Ad Tp At926 80 t927) fun t928=>Wc Tp Ak W0 m0 148 [t928] At926 fun t929 At930=>Al (Bh Tp At930 203 203 t925 t929) fun t931 At932=>Wc Tp Ak W0 m0 145 [t931] At932 fun t933 At934=>Aa (Af Tp .add 9 (.tmp 56) (.tmp 58) x35 t933) fun t936=>Q (.tuple ⟨[t936,(.int .i64 0)]⟩) At934) (Wc Tp Ak W0 m0 145 [t925] At926 fun t937 At938=>Aa (Af Tp .add 9 (.tmp 56) (.tmp 58) x35 t937) fun t939=>Q (.tuple ⟨[t939,(.int .i64 0)]⟩) At938))))))))))))))
theorem AiJ(a0:Value)(A:AW):gE W0 m0 S Q 128 60 Tz Lz [a0] A=(Al (Bk A (Value.cells a0).toList 82) fun t0 At0=>Aa (Ad Tp At0 82 t0) fun t1=>Wc Tp Ak W0 m0 144 [t1] At0 fun t2 At2=>Aa (Af Tp .neq 3 (.tmp 8) (.const (.int .i64 0)) t2 (.int .i64 0)) fun t3=>Ae t3 (Q (.tuple ⟨[(.string ⟨⟨[]⟩⟩),(.int .i64 90)]⟩) At2) (Aa (Ac Tp 82 t0 1) fun t4=>Aa (Ad Tp At2 4 t4) fun t5=>Aa (Ac Tp 82 t0 2) fun t6=>Aa (Ad Tp At2 4 t6) fun t7=>Aa (Ac Tp 82 t0 0) fun t8=>Aa (Ad Tp At2 9 t8) fun t9=>Aa (Af Tp .neq 9 (.tmp 18) (.const (.string ⟨⟨[]⟩⟩)) t9 (.string ⟨⟨[]⟩⟩)) fun t10=>Aa (Ac Tp 82 t0 0) fun t11=>Aa (Ad Tp At2 9 t11) fun t12=>Wc Tp Ak W0 m0 147 [t5,(.int .u8 1)] At2 fun t13 At13=>Aa (Ad Tp At13 9 t11) fun t14=>eqW t14 t12 (Aa (Ac Tp 82 t0 0) fun t15=>eqW t15 t11 (Aa (Af Tp .neq 9 (.tmp 18) (.const (.string ⟨⟨[]⟩⟩)) t9 (.string ⟨⟨[]⟩⟩)) fun t16=>eqW t16 t10 (Aa (Ad Tp At13 9 t8) fun t17=>eqW t17 t9 (Aa (Ac Tp 82 t0 0) fun t18=>eqW t18 t8 (Aa (Ad Tp At13 4 t6) fun t19=>eqW t19 t7 (Aa (Ac Tp 82 t0 2) fun t20=>eqW t20 t6 (Wc Tp Ak W0 m0 147 [t7,(.int .u8 2)] At13 fun t21 At21=>Aa (Ad Tp At21 9 t11) fun t22=>eqW t22 t12 (Aa (Ac Tp 82 t0 0) fun t23=>eqW t23 t11 (Aa (Af Tp .neq 9 (.tmp 18) (.const (.string ⟨⟨[]⟩⟩)) t9 (.string ⟨⟨[]⟩⟩)) fun t24=>eqW t24 t10 (Aa (Ad Tp At21 9 t8) fun t25=>eqW t25 t9 (Aa (Ac Tp 82 t0 0) fun t26=>eqW t26 t8 (Aa (Af Tp .add 5 (.tmp 12) (.tmp 15) t13 t21) fun t27=>Wc Tp Ak W0 m0 147 [t10,(.int .u8 4)] At21 fun t28 At28=>Aa (Ad Tp At28 9 t11) fun t29=>eqW t29 t12 (Aa (Ac Tp 82 t0 0) fun t30=>eqW t30 t11 (Aa (Af Tp .add 5 (.tmp 12) (.tmp 15) t13 t21) fun t31=>eqW t31 t27 (Aa (Af Tp .add 5 (.tmp 16) (.tmp 20) t27 t28) fun t32=>Al (AG Tp At28 203 4 [(0,(.int .u8 4)),(1,(.int .u8 1)),(2,(.int .u8 0)),(3,t32)]) fun t33 At33=>Aa (Ad Tp At33 9 t11) fun t34=>eqW t34 t12 (Aa (Ac Tp 82 t0 0) fun t35=>eqW t35 t11 (EC (BS Tp (BI (Tm.fill ⟨4,.nil⟩ 0 [(.int .u8 4),(.int .u8 1),(.int .u8 0),t32])) (.buildSlice 203 4 #[(0,.tmp 0),(1,.tmp 1),(2,.tmp 2),(3,.tmp 3)])) At33 t33 (Aa (Af Tp .add 5 (.tmp 16) (.tmp 20) t27 t28) fun t36=>eqW t36 t32 (Aa (Af Tp .neq 9 (.tmp 18) (.const (.string ⟨⟨[]⟩⟩)) t9 (.string ⟨⟨[]⟩⟩)) fun t37=>eqW t37 t10 (Aa (Ad Tp At33 9 t8) fun t38=>eqW t38 t9 (Aa (Ac Tp 82 t0 0) fun t39=>eqW t39 t8 (Aa (Af Tp .add 5 (.tmp 12) (.tmp 15) t13 t21) fun t40=>eqW t40 t27 (Aa (Ad Tp At33 4 t6) fun t41=>eqW t41 t7 (Aa (Ac Tp 82 t0 2) fun t42=>eqW t42 t6 (Aa (Ad Tp At33 4 t4) fun t43=>eqW t43 t5 (Aa (Ac Tp 82 t0 1) fun t44=>eqW t44 t4 (Wc Tp Ak W0 m0 146 [t33,t12] At33 fun t45 At45=>Wc Tp Ak W0 m0 145 [t45] At45 fun t46 At46=>Aa (Ac Tp 82 t0 4) fun t47=>Aa (Ac Tp 80 t47 0) fun t48=>Aa (Ad Tp At46 76 t48) fun t49=>Aa (Af Tp .eql 76 (.tmp 29) (.const (.int .u8 168)) t49 (.int .u8 168)) fun t50=>Aa (Ac Tp 82 t0 3) fun t51=>Aa (Ad Tp At46 9 t51) fun t52=>Aa (Af Tp .eql 9 (.tmp 32) (.const (.string ⟨⟨[]⟩⟩)) t52 (.string ⟨⟨[]⟩⟩)) fun t53=>Ae t53 (Aa (unA Tp .not t50) fun t54=>Ae t54 (Q (.tuple ⟨[t46,(.int .i64 0)]⟩) At46) (No W0 m0 Q t0 At46 t50 t46)) (No W0 m0 Q t0 At46 t50 t46)))))))))))))))))))))))))))))):=by kernel_rfl
theorem Ahn:Wf1 128 60 Tz Lz:=wf1 (fun _=>by kernel_rfl) (by decide) fun _=>rfl
end
end Go.Proofs.YtdpdajpiadohjaaGreatDoor
