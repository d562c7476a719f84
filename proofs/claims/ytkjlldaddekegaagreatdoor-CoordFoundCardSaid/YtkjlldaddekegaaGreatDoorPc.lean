/-
  This text prints what the functions reached ask of their memory, and shows what they answer. Conditions: none for the last theorem, those that each theorem states for the others.
-/
import Derived.Test.YtkjlldaddekegaaGreatDoorPb
import Derived.KernelRfl
import Derived.Laws.StructEq
import Derived.Shelf.Strconv.Clone
import Derived.Shelf.Strconv.ParseUint10b64
import Derived.Shelf.Strconv.ParseUintEmpty
import Derived.Test.YtkjlldaddekegaaGreatDoorProg
set_option maxRecDepth 100000
set_option maxHeartbeats 1000000
namespace Go.Abs
variable {kt kf ku j:Nat} {b want:Bool} {d:Tmp} {x:Operand}
section
variable {P:Program} {X:Bc} {W0:World} {m0:Inj P}
theorem Tm.Y1(tm:Tm)(d:Nat)(v:Value):(tm.set d v).sz=tm.sz:=by
 unfold Tm.set;cases Nat.blt d tm.sz<;>rfl
theorem I3{tm:Tm}(h:Kn kt kf ku tm){ops:Array Oper}{o:Oper}(hw:UE kt kf ku ops o=some b):AS ops tm o=b:=by
 unfold UE at hw;unfold AS;split at hw
 ·rename_i hg;rw [hg];cases hw;rfl
 ·rename_i j want hg;rw [hg];simp only;unfold I6 at hw;split at hw
  ·cases hw
  ·rename_i d hd;split at hd
   ·rename_i o' ho';cases hu:ku.testBit d with
    |true=>
     rw [hu,Ct] at hw;cases hw;have hv:tm.get d=undef:=(h d).2.2 hu;unfold Eg;simp only [ho',hd,hv];rfl
    |false=>
     rw [hu,Cf] at hw;split at hw
     ·rename_i c hc;cases hw;have hv:tm.get d=.bool c:=Ed h hc;unfold Eg;simp only [ho',hd,hv]
     ·cases hw
   ·cases hd
theorem NV{tm:Tm}{ops:Array Oper}{o:Oper}(hg:o.guard=some (j,want))(hs:I6 ops j=some d)(hv:tm.get d=.bool b):AS ops tm o=(b==want):=by
 unfold AS Eg;unfold I6 at hs;split at hs
 ·rename_i o' ho';simp only [hg,ho',hs,hv]
 ·cases hs
theorem PC{tm:Tm}{ops:Array Oper}{o:Oper}(hg:o.guard=some (j,want))(hs:I6 ops j=some d)(hv:tm.get d=undef):AS ops tm o=false:=by
 unfold AS Eg;unfold I6 at hs;split at hs
 ·rename_i o' ho';simp only [hg,ho',hs,hv];rfl
 ·cases hs
theorem N8{op:Op}(h:Jb kt kf op=some x){tm:Tm}(hk:Kn kt kf ku tm)(P:Program)(X:Bc){o:Oper}(ho:o.op=op)(A:AW):AL P X (BJ tm) o A=.ok (.value (BJ tm x)) A:=by
 cases op<;>simp only [Jb] at h<;>try (cases h;done)
 rename_i c a b;split at h
 ·rename_i hc;cases h
  have:=Ed hk hc
  unfold AL;simp only [ho,this]
 ·rename_i hc;cases h
  have:=Ed hk hc
  unfold AL;simp only [ho,this]
 ·cases h
theorem TF{op:Op}(hp:Jb kt kf op=none)(h:TG kt kf op=some b):∃ x,(op=.move x∨op=.assign x)∧IL kt kf x=some b:=by
 cases op<;>simp only [TG] at h<;>try (cases h;done)
 ·exact ⟨_,.inl rfl,h⟩
 ·exact ⟨_,.inr rfl,h⟩
 ·simp only [Jb] at hp;split at h<;>first | (cases h;done) | skip
  ·rename_i hc;rw [hc] at hp;cases hp
  ·rename_i hc;rw [hc] at hp;cases hp
theorem Tz{ρ:Operand→Value}{o:Oper}(hx:o.op=.move x∨o.op=.assign x){A:AW}{K:Value→AW→Prop}(h:opW P X W0 m0 ρ o A K):AL P X ρ o A=.ok (.value (ρ x)) A∧K (ρ x) A:=by
 unfold opW at h;unfold AL;rcases hx with hx | hx
 ·rw [hx] at h ⊢;exact ⟨rfl,h⟩
 ·rw [hx] at h ⊢;exact ⟨rfl,h⟩
variable {fn:FuncId} {T:Nat→List Item} {L:Nat→List Tmp} {S:Nat→List Value→AW→Prop} {Q:Value→AW→Prop} {sz:Nat}
def Nq(P:Program)(X:Bc)(W0:World)(m0:Inj P)(fn:FuncId)(T:Nat→List Item)(L:Nat→List Tmp)(S:Nat→List Value→AW→Prop)(Q:Value→AW→Prop)(sz:Nat):Prop:=
 ∀ id vals A tm,S id vals A→tm.sz=sz→(L id).map tm.get=vals→WP P X W0 m0 ⟨frM fn tm (T id) false,[],A⟩ Q
theorem HH (hX:XOk P X) (hP:POk P) (hp:Plain X) (hsz:sz<Ak) {ro:Option Nat} {cs:List AFr} {Q0:Value→AW→Prop}
  (hl:∀ todo tm ds A j,Leaves todo j→H0 P fn ro ds A tm Q j→WP P X W0 m0 ⟨frC fn tm todo false ro ds,cs,A⟩ Q0)
  (hcut:∀ id vals A tm,S id vals A→tm.sz=sz→(L id).map tm.get=vals→WP P X W0 m0 ⟨frC fn tm (T id) false ro [],cs,A⟩ Q0):
  ∀ (n:Nat) (tm:Tm) (todo:List Item) (dr:Bool) (kt kf ku:Nat) (ds:List Nat) (A:AW),tm.sz=sz→Kn kt kf ku tm→AM P X W0 m0 fn T L S Q ro n tm todo dr kt kf ku ds A→WP P X W0 m0 ⟨frC fn tm todo dr ro ds,cs,A⟩ Q0:=by
 intro n
 induction n with
 |zero=>intro tm todo dr kt kf ku ds A _ _ h;exact h.elim
 |succ n ih=>
  intro tm todo dr kt kf ku ds A hs hk h;unfold AM at h;split at h
  ·cases dr with
   |true=>exact h.elim
   |false=>exact hl _ _ _ _ _ .off h
  ·cases dr with
   |true=>exact h.elim
   |false=>exact hl _ _ _ _ _ (.ret _) h
  ·
   rename_i k;cases dr with
   |true=>exact h.elim
   |false=>
    cases ro with
    |none=>exact h.elim
    |some l=>
     obtain ⟨r,h1,h2,h3⟩:=h;have e:Ba P X ⟨frC fn tm (.beginRound::k) false (some l) ds,cs,A⟩=.next ⟨frC fn tm k false (some l) ds,cs,A.put l (.loop { r with state:=.busy })⟩:=by
      have:Ba P X ⟨frC fn tm (.beginRound::k) false (some l) ds,cs,A⟩=(match A.get l with
       |some (.loop r)=>(match r.state with
        |.ready=>.next ⟨frC fn tm k false (some l) ds,cs,A.put l (.loop { r with state:=.busy })⟩
        |_=>.fail "beginRound")
       |_=>.fail "beginRound"):=by rfl
      rw [this,h1];simp only [h2]
     exact BS hX hP e (ih _ _ _ _ _ _ _ _ hs hk h3)
  ·
   rename_i f ps assign body k;cases dr with
   |true=>exact h.elim
   |false=>
    cases ro with
    |some l=>exact h.elim
    |none=>
     obtain ⟨D,A1,l,A2,hn1,hn2,g,aS,A3,hdy,hwc⟩:=h;have e:Ba P X ⟨frC fn tm (.code (.rangeFunc f ps assign body)::k) false none ds,cs,A⟩=(match BJ tm f with
       |.func fn' first captured=>AY P (frC fn tm (.inRangeFunc l::k) false none (D::ds)) cs false (BU P X A2 (.fn fn' captured) (first.toList++[.func (.yield l) #[] #[]]))
       |_=>.fail "rangeFunc"):=by
      have:Ba P X ⟨frC fn tm (.code (.rangeFunc f ps assign body)::k) false none ds,cs,A⟩=(match (match A.new (.deferred (some [])) with | some (r,w')=>some (r,([{ target:=.collected r,args:=#[] }]:List Deferred),w') | none=>none) with
       |none=>.fail "enterLoop"
       |some (d,mark,w)=>(match w.new (.loop { state:=.ready,pending:=none,fn:=fn,tm:=tm,params:=ps.toList,assign,body,defers:=d }) with
        |none=>.fail "enterLoop"
        |some (l,w)=>(match (frC fn tm (.code (.rangeFunc f ps assign body)::k) false none ds).eval f with
         |.func fn' first captured=>AY P ({ fn:=fn,tm:=tm,todo:=.inRangeFunc l::k,defers:=mark++(ds.map fun D=>{ target:=.collected D,args:=#[] }),mode:=.run,kind:=.normal,roundOf:=none,dr:=false }:AFr) cs false (BU P X w (.fn fn' captured) (first.toList++[.func (.yield l) #[] #[]]))
         |_=>.fail "rangeFunc"))):=by rfl
      rw [this,hn1];simp only [hn2];rw [BW];rfl
     unfold EL at hdy;cases hf:BJ tm f with
     |func fn' first captured=>
      rw [hf] at e hdy;simp only at e hdy;rw [hdy] at e;obtain ⟨fr',he⟩:=Option.isSome_iff_exists.1 hwc.1;have h2:=hwc.2;unfold Ly at h2;rw [he] at h2;simp only [AY,Cf,he] at e;refine BS hX hP e (Uq (Hr he).1 (Hr he).2 h2 fun v A4 hk2=>?_);obtain ⟨r,g1,g2,g3⟩:=hk2;have e5:Ba P X ⟨(frC fn tm (.inRangeFunc l::k) false none (D::ds)).finish v,cs,A4⟩=.next ⟨frC fn tm (match r.pending with | some c=>.code c::k | none=>k) false none (D::ds),cs,A4.put l (.loop { r with state:=.exhausted })⟩:=by
       have:Ba P X ⟨(frC fn tm (.inRangeFunc l::k) false none (D::ds)).finish v,cs,A4⟩=(match A4.get l with
        |some (.loop r)=>(match r.state with
         |.busy=>.fail "endLoop"
         |_=>.next ⟨frC fn tm (match r.pending with | some c=>.code c::k | none=>k) false none (D::ds),cs,A4.put l (.loop { r with state:=.exhausted })⟩)
        |_=>.fail "endLoop"):=by rfl
       rw [this,g1];simp only
      refine BS hX hP e5 ?_;rcases g3 with ⟨gp,g3⟩ | ⟨gp,g3⟩
      ·rw [show (match r.pending with | some c=>.code c::k | none=>k)=k by rw [gp]];exact ih _ _ _ _ _ _ _ _ hs hk g3
      ·rw [show (match r.pending with | some c=>.code c::k | none=>k)=.code .ret::k by rw [gp]];exact hl _ _ _ _ _ (.ret _) g3
     |_=>rw [hf] at hdy;cases hdy
  ·exact BS hX hP rfl (ih _ _ _ _ _ _ _ _ hs hk h)
  ·exact BS hX hP rfl (ih _ _ _ _ _ _ _ _ hs hk h)
  ·exact BS hX hP rfl (ih _ _ _ _ _ _ _ _ hs hk h)
  ·exact BS hX hP rfl (ih _ _ _ _ _ _ _ _ hs hk h)
  ·exact BS hX hP rfl (ih _ _ _ _ _ _ _ _ hs hk h)
  ·
   rename_i c a b k;have e:∀ t,BJ tm c=.bool t→Ba P X ⟨frC fn tm (.code (.cond c a b)::k) dr ro ds,cs,A⟩=.next ⟨frC fn tm (.code (bif t then a else b)::k) dr ro ds,cs,A⟩:=by
    intro t ht
    have:Ba P X ⟨frC fn tm (.code (.cond c a b)::k) dr ro ds,cs,A⟩=(bif Em fn X.forks then (match (frC fn tm (.code (.cond c a b)::k) dr ro ds).eval c with
     |.bool _=>.branch [⟨frC fn tm (.code a::k) dr ro ds,cs,A⟩,⟨frC fn tm (.code b::k) dr ro ds,cs,A⟩]
     |_=>.fail "cond") else (match (frC fn tm (.code (.cond c a b)::k) dr ro ds).eval c with | .bool t=>.next ⟨frC fn tm (.code (bif t then a else b)::k) dr ro ds,cs,A⟩ | _=>.fail "cond")):=rfl
    rw [this,hp.forks,BW];simp only [Em,Cf,ht]
   split at h
   ·rename_i hc;exact BS hX hP (e true (Ed hk hc)) (ih _ _ _ _ _ _ _ _ hs hk h)
   ·rename_i hc;exact BS hX hP (e false (Ed hk hc)) (ih _ _ _ _ _ _ _ _ hs hk h)
   ·obtain ⟨⟨t,ht⟩,h1,h2⟩:=h;cases t with
    |true=>
     refine BS hX hP (e true ht) (ih _ _ _ _ _ _ _ _ hs ?_ (h1 ht));cases c with
     |tmp t=>exact hk.true ht
     |_=>exact hk
    |false=>
     refine BS hX hP (e false ht) (ih _ _ _ _ _ _ _ _ hs ?_ (h2 ht));cases c with
     |tmp t=>exact hk.false ht
     |_=>exact hk
  ·exact BS hX hP rfl (ih _ _ _ _ _ _ _ _ hs hk h)
  ·exact BS hX hP rfl (ih _ _ _ _ _ _ _ _ hs hk h)
  ·
   cases dr with
   |true=>exact h.elim
   |false=>
    cases ds with
    |cons D ds=>exact h.elim
    |nil=>
    obtain ⟨h1,h2⟩:=h;refine BS hX hP rfl ?_
    have:=hcut _ _ A tm h2 hs rfl
    rw [← h1] at this;exact this
  ·cases dr with
   |true=>exact h.elim
   |false=>
    cases ds with
    |cons D ds=>exact h.elim
    |nil=>
    obtain ⟨h1,h2⟩:=h;refine BS hX hP rfl ?_
    have:=hcut _ _ A tm h2 hs rfl
    rw [← h1] at this;exact this
  ·
   rename_i id k;split at h
   ·rename_i k' hk';have e:Ba P X ⟨frC fn tm (.code (.exit id)::k) dr ro ds,cs,A⟩=.next ⟨frC fn tm k' dr ro ds,cs,A⟩:=by
     unfold Ba Dm;simp only [hk']
    exact BS hX hP e (ih _ _ _ _ _ _ _ _ hs hk h)
   ·rename_i hx;cases dr with
    |true=>exact h.elim
    |false=>exact hl _ _ _ _ _ (.exit _ _ hx) h
  ·exact BS hX hP rfl (ih _ _ _ _ _ _ _ _ hs hk h)
  ·
   rename_i id ops k;cases hin:Ie tm.sz ops.toList with
   |false=>rw [hin] at h;exact h.elim
   |true=>
    rw [hin,Ct] at h;split at h
    ·rename_i p hpl;have e:Ba P X ⟨frC fn tm (.code (.region id ops true)::k) dr ro ds,cs,A⟩=.next ⟨frC fn tm (.inRegion ops p::k) true ro ds,cs,A⟩:=by
      unfold Ba;simp only [hin,Ct,hpl]
     exact BS hX hP e (ih _ _ _ _ _ _ _ _ hs hk h)
    ·exact h.elim
  ·exact BS hX hP rfl (ih _ _ _ _ _ _ _ _ hs hk h)
  ·
   rename_i ops i rest k;cases hb:(dr&&!Nat.blt i ops.toList.length) with
   |true=>
    rw [hb,Ct] at h;simp only [Bq,Bool.not_eq_true'] at hb;obtain ⟨rfl,hb⟩:=hb;have hge:=EQ.1 hb;split at h
    ·exact h.elim
    ·rename_i o ho;split at h
     ·rename_i d hd hw;obtain ⟨h1,h2⟩:=h;refine G5 hge ?_ (ih _ _ _ _ _ _ _ _ hs hk h2);intro o' d' ho' hd';rw [ho] at ho';cases ho';rw [hd] at hd';cases hd';exact ⟨fun _=>h1.symm,fun hw'=>absurd hw' (by rw [I3 hk hw];exact Bool.noConfusion)⟩
     ·rename_i d hd hw;cases hq:Cj P o.op with
      |false=>
       rw [hq,Cf] at h;obtain ⟨⟨c,h1,h3⟩,h2⟩:=h;refine G5 hge ?_ (ih _ _ _ _ _ _ _ _ hs hk h2);intro o' d' ho' hd';rw [ho] at ho';cases ho';rw [hd] at hd';cases hd';exact ⟨fun hw'=>absurd hw' (by rw [I3 hk hw];exact Bool.noConfusion),fun _=>⟨fun hq'=>absurd hq' (by rw [hq];exact Bool.noConfusion),fun _=>⟨c,h1,h3⟩⟩⟩
      |true=>
       rw [hq,Ct] at h;have fin:∀ A',AL P X (BJ tm) o A=.ok (.value (tm.get d)) A'→Valid P X A ops tm (i-ops.toList.length):=by
        intro A' he o' d' ho' hd';rw [ho] at ho';cases ho';rw [hd] at hd';cases hd';exact ⟨fun hw'=>absurd hw' (by rw [I3 hk hw];exact Bool.noConfusion),fun _=>⟨fun _=>⟨A',he⟩,fun hq'=>absurd hq' (by rw [hq];exact Bool.noConfusion)⟩⟩
       split at h
       ·rename_i x hpk;obtain ⟨h1,h2⟩:=h;refine G5 hge (fin A ?_) (ih _ _ _ _ _ _ _ _ hs hk h2);rw [← h1];exact N8 hpk hk P X rfl A
       ·rcases P3 (P:=P) (X:=X) (fun f=>rfl) h with ⟨v,A',he,h1,h2⟩ | ⟨A',he,_⟩ | ⟨g,args,A',he,_⟩ | ⟨l,fn',tm',a,b,A',he,_⟩ | ⟨it,A',he,_⟩
        ·refine G5 hge (fin A' ?_) (ih _ _ _ _ _ _ _ _ hs hk h2);rw [← h1];exact he
        ·obtain ⟨_,v,hv⟩:=D3 hq he;cases hv
        ·obtain ⟨_,v,hv⟩:=D3 hq he;cases hv
        ·obtain ⟨_,v,hv⟩:=D3 hq he;cases hv
        ·obtain ⟨_,v,hv⟩:=D3 hq he;cases hv
     ·exact h.elim
   |false=>
    rw [hb,Cf] at h;split at h
    ·exact h.elim
    ·rename_i o ho;simp only at h;have fin:∀ {kt' kf':Nat} {r:Option Bool} {sk:Bool} {v:Value} {A':AW},Kn kt' kf' ku tm→(∀ b,r=some b→v=.bool b)→(sk=true→v=undef)→(match o.dst with
       |some d=>bif Nat.blt d tm.sz then AM P X W0 m0 fn T L S Q ro n (tm.set d v) (.inRegion ops rest::k) dr (knT kt' d r) (knF kf' d r) (knU ku d sk) ds A' else False
       |none=>AM P X W0 m0 fn T L S Q ro n tm (.inRegion ops rest::k) dr kt' kf' ku ds A')→
       WP P X W0 m0 ⟨frC fn (match o.dst with | some d=>tm.set d v | none=>tm) (.inRegion ops rest::k) dr ro ds,cs,A'⟩ Q0:=by
      intro kt' kf' r sk v A' hk' hr hu hh;cases hd:o.dst with
      |none=>
       rw [hd] at hh;exact ih _ _ _ _ _ _ _ _ hs hk' hh
      |some d=>
       rw [hd] at hh;simp only at hh ⊢;cases hlt:Nat.blt d tm.sz with
       |false=>rw [hlt] at hh;exact hh.elim
       |true=>
        rw [hlt,Ct] at hh;exact ih _ _ _ _ _ _ _ _ (by rw [Tm.Y1];exact hs) (hk'.set (by omega) (Ax.1 hlt) hr hu) hh
     have nf:∀ {v:Value},false=true→v=undef:=fun h=>Bool.noConfusion h;have nn:∀ {v:Value} (b:Bool),(none:Option Bool)=some b→v=.bool b:=fun b h=>by cases h
     have go:∀ {kt' kf':Nat},Kn kt' kf' ku tm→AS ops tm o=true→(match Jb kt' kf' o.op with
       |some x=>(match o.dst with
        |some d=>bif Nat.blt d tm.sz then AM P X W0 m0 fn T L S Q ro n (tm.set d (BJ tm x)) (.inRegion ops rest::k) dr (knT kt' d (IL kt' kf' x)) (knF kf' d (IL kt' kf' x)) (knU ku d false) ds A else False
        |none=>AM P X W0 m0 fn T L S Q ro n tm (.inRegion ops rest::k) dr kt' kf' ku ds A)
       |none=>opW P X W0 m0 (BJ tm) o A fun v A'=>(match o.dst with
        |some d=>bif Nat.blt d tm.sz then AM P X W0 m0 fn T L S Q ro n (tm.set d v) (.inRegion ops rest::k) dr (knT kt' d (TG kt' kf' o.op)) (knF kf' d (TG kt' kf' o.op)) (knU ku d false) ds A' else False
        |none=>AM P X W0 m0 fn T L S Q ro n tm (.inRegion ops rest::k) dr kt' kf' ku ds A'))→
       WP P X W0 m0 ⟨frC fn tm (.inRegion ops (i::rest)::k) dr ro ds,cs,A⟩ Q0:=by
      intro kt' kf' hk' hw hh;split at hh
      ·rename_i x hpk;exact Om hX hP hp ho hb hw (K:=fun v A'=>v=BJ tm x∧A'=A) (.inl ⟨_,A,N8 hpk hk' P X rfl A,(⟨rfl,rfl⟩:_∧_)⟩) fun v A' hvA=>by
        obtain ⟨rfl,rfl⟩:=hvA;exact fin (sk:=false) hk' (fun b hb=>Ed hk' hb) nf hh
      ·rename_i hpk;cases hkn:TG kt' kf' o.op with
       |none=>
        rw [hkn] at hh;exact Om hX hP hp ho hb hw (P3 (fun f=>rfl) hh) fun v A' hv=>fin (r:=none) (sk:=false) hk' nn nf hv
       |some b=>
        obtain ⟨x,hx,hxb⟩:=TF hpk hkn;rw [hkn] at hh;have hb2:=Ed hk' hxb;obtain ⟨h3,h4⟩:=Tz (W0:=W0) (m0:=m0) (X:=X) hx hh;rw [hb2] at h3 h4;exact Om hX hP hp ho hb hw (K:=fun v A'=>v=.bool b∧A'=A) (.inl ⟨_,A,h3,(⟨rfl,rfl⟩:_∧_)⟩) fun v A' hvA=>by
         obtain ⟨rfl,rfl⟩:=hvA;exact fin (r:=some b) (sk:=false) hk' (fun b' hb'=>by cases hb';rfl) nf h4
     split at h
     ·rename_i hg;exact go hk (by unfold AS;rw [hg]) h
     ·rename_i j want hg;split at h
      ·exact h.elim
      ·rename_i d hsl;have ff:∀ {kt' kf':Nat},Kn kt' kf' ku tm→AS ops tm o=false→(match o.dst with
         |some d=>bif Nat.blt d tm.sz then AM P X W0 m0 fn T L S Q ro n (tm.set d undef) (.inRegion ops rest::k) dr (knT kt' d none) (knF kf' d none) (knU ku d true) ds A else False
         |none=>AM P X W0 m0 fn T L S Q ro n tm (.inRegion ops rest::k) dr kt' kf' ku ds A)→WP P X W0 m0 ⟨frC fn tm (.inRegion ops (i::rest)::k) dr ro ds,cs,A⟩ Q0:=
        fun hk' hw hh=>wp_skip hX hP hp ho hb hw (fin (r:=none) (sk:=true) hk' nn (fun _=>rfl) hh)
       cases hu:ku.testBit d with
       |true=>
        rw [hu,Ct] at h;exact ff hk (PC hg hsl ((hk d).2.2 hu)) h
       |false=>
        rw [hu,Cf] at h;split at h
        ·rename_i b hkb;have hv:tm.get d=.bool b:=Ed hk hkb;have hw:=NV hg hsl hv;cases hbw:(b==want) with
         |true=>
          rw [hbw,Ct] at h;exact go hk (hw.trans hbw) h
         |false=>
          rw [hbw,Cf] at h;exact ff hk (hw.trans hbw) h
        ·obtain ⟨⟨b,hv⟩,h1,h2⟩:=h;have hw:=NV hg hsl hv;cases b with
         |true=>
          have h1:=h1 hv;cases want with
          |true=>exact go (hk.true hv) hw h1
          |false=>exact ff (hk.true hv) hw h1
         |false=>
          have h2:=h2 hv;cases want with
          |true=>exact ff (hk.false hv) hw h2
          |false=>exact go (hk.false hv) hw h2
  ·exact h.elim
theorem QT (hX:XOk P X) (hP:POk P) (hp:Plain X) (hsz:sz<Ak) (hcut:Nq P X W0 m0 fn T L S Q sz) (n:Nat) (tm:Tm) (todo:List Item) (dr:Bool) (kt kf ku:Nat) (A:AW) (hs:tm.sz=sz) (hk:Kn kt kf ku tm)
  (h:AM P X W0 m0 fn T L S Q none n tm todo dr kt kf ku [] A):WP P X W0 m0 ⟨frM fn tm todo dr,[],A⟩ Q:=
 HH hX hP hp hsz (ro:=none) (cs:=[]) (Q0:=Q) (fun _ _ _ _ _ hj h=>NU hX hP hj h) hcut n tm todo dr kt kf ku [] A hs hk h
end
variable {todo:List Item} {ro:Option Nat} {cs:List AFr} {A:AW} {I:Nat→Nat→List Value→AW→Prop} {S:Nat→List Value→AW→Prop}
def MX(d:Nat→Value):Nat→Trie Value→Trie Value
 |0,t=>t
 |n+1,t=>MX d n (t.put depth n (some (d n)))
def DD(sz:Nat)(d:Nat→Value):Tm:=⟨sz,MX d sz .nil⟩
theorem Ob(d:Nat→Value):∀ (n:Nat) (t:Trie Value) (i:Nat),n≤Ak→i<Ak→(MX d n t).get? i=if i<n then some (d i) else t.get? i
 |0,t,i,_,_=>by simp [MX]
 |n+1,t,i,hn,hi=>by
  unfold MX;rw [Ob d n _ i (by omega) hi,Trie.get?_put depth t n i (some (d n)) (by unfold depth Ak at *;omega)];by_cases h1:i<n
  ·rw [if_pos h1,if_pos (by omega)]
  ·rw [Ff h1];by_cases h2:n=i
   ·subst h2;rw [if_pos rfl,if_pos (by omega)]
   ·rw [Ff (fun e=>h2 e.symm),Ff (by omega)]
section
variable {P:Program} {X:Bc} {W0:World} {m0:Inj P}
theorem UO{sz:Nat}(hs:sz<Ak)(d:Nat→Value)(i:Nat):(DD sz d).get i=if i<sz then d i else undef:=by
 unfold DD Tm.get;simp only;by_cases hm:i<Ak
 ·rw [Ob d sz .nil i (by omega) hm];by_cases hi:i<sz
  ·rw [if_pos hi,if_pos hi]
  ·rw [Ff hi,Ff hi];rfl
 ·have key:∀ (n:Nat) (t:Trie Value),n≤Ak→t.get? i=none→(MX d n t).get? i=none:=by
   intro n
   induction n with
   |zero=>intro t _ ht;exact ht
   |succ n ih=>
    intro t hn ht;unfold MX;refine ih _ (by omega) ?_;rw [Trie.get?_put depth t n i _ (by unfold depth Ak at *;omega),Ff (by omega)];exact ht
  rw [key sz .nil (by omega) rfl,Ff (by omega)]
theorem UN{m:Inj P}{tm:Tm}{t':Array Value}(h:Db m tm t'):Db m (DD tm.sz tm.get) t':=by
 refine ⟨h.size,h.small,fun i=>?_⟩;rw [UO h.small];by_cases hi:i<tm.sz
 ·rw [if_pos hi];exact h.val i
 ·have hv:t'.getD i undef=undef:=by
   have:t'.size≤i:=by rw [h.size];omega
   simp [Array.getD,Nat.not_lt.2 this]
  rw [Ff hi,hv];exact DN m
theorem Up{fn:FuncId}{tm:Tm}{ds:List Nat}{Q:Value→AW→Prop}(h:WP P X W0 m0 ⟨frC fn (DD tm.sz tm.get) todo false ro ds,cs,A⟩ Q):WP P X W0 m0 ⟨frC fn tm todo false ro ds,cs,A⟩ Q:=by
 intro f0 base lo cs0 m f csW w hr ho;refine h f0 base lo cs0 m f csW w ⟨hr.rel,hr.glob,hr.below,⟨⟨hr.top.core.fn,hr.top.core.kind,hr.top.core.kindOk,hr.top.core.mode,hr.top.core.round,hr.top.core.defers⟩,?_⟩,hr.stk,hr.bot.top rfl rfl rfl⟩ ho;cases hr.top.body with
 |plain hd tm' todo'=>exact .plain rfl (UN tm') todo'
 |draw ops S C rl pl rest k k' hd=>cases hd
variable {fn:FuncId} {T:Nat→List Item} {L:Nat→List Tmp} {Q:Value→AW→Prop} {sz N:Nat}
theorem V9 (hX:XOk P X) (hP:POk P) (hp:Plain X) (hsz:sz<Ak) {Q0:Value→AW→Prop}
  (hl:∀ todo tm ds A j,Leaves todo j→H0 P fn ro ds A tm Q j→WP P X W0 m0 ⟨frC fn tm todo false ro ds,cs,A⟩ Q0)
  (hbody:∀ g id vals A d,I g id vals A→(L id).map d=vals→AM P X W0 m0 fn T L (fun id' v' A'=>∃ g',g'<g∧I g' id' v' A') Q ro N (DD sz d) (T id) false 0 0 0 [] A):
  ∀ id vals A tm,(∃ g,I g id vals A)→tm.sz=sz→(L id).map tm.get=vals→WP P X W0 m0 ⟨frC fn tm (T id) false ro [],cs,A⟩ Q0:=by
 have key:∀ g,∀ id vals A tm,I g id vals A→tm.sz=sz→(L id).map tm.get=vals→WP P X W0 m0 ⟨frC fn tm (T id) false ro [],cs,A⟩ Q0:=by
  intro g
  induction g using Nat.strongRecOn with
  |_ g ih=>
   intro id vals A tm hI hs hv;have hb:=hbody g id vals A tm.get hI hv;rw [← hs] at hb;refine Up (HH hX hP hp hsz (S:=fun id' v' A'=>∃ g',g'<g∧I g' id' v' A') hl ?_ N _ _ _ _ _ _ _ _ hs (fun t=>by simp) hb);rintro id' v' A' tm' ⟨g',hg,hI'⟩ hs' hv';exact ih g' hg id' v' A' tm' hI' hs' hv'
 rintro id vals A tm ⟨g,hI⟩ hs hv;exact key g id vals A tm hI hs hv
theorem Xw (hX:XOk P X) (hP:POk P) (hp:Plain X) (hsz:sz<Ak)
  (hbody:∀ g id vals A d,I g id vals A→(L id).map d=vals→AM P X W0 m0 fn T L (fun id' v' A'=>∃ g',g'<g∧I g' id' v' A') Q none N (DD sz d) (T id) false 0 0 0 [] A):
  Nq P X W0 m0 fn T L (fun id v A=>∃ g,I g id v A) Q sz:=
 V9 hX hP hp hsz (ro:=none) (cs:=[]) (Q0:=Q) (fun _ _ _ _ _ hj h=>NU hX hP hj h) hbody
theorem Px (hX:XOk P X) (hP:POk P) (hp:Plain X) (hsz:sz<Ak) (hcut:Nq P X W0 m0 fn T L S Q sz) {args:List Value} {tm:Tm}
  (he:AD P fn args .normal=some (frM fn tm todo false)) (hs:tm.sz=sz) (h:AM P X W0 m0 fn T L S Q none N tm todo false 0 0 0 [] A):Wc P X W0 m0 fn args A Q:=by
 refine ⟨by rw [he];rfl,?_⟩;unfold Ly;rw [he];exact QT hX hP hp hsz hcut N _ _ _ _ _ _ _ hs (fun t=>by simp) h
theorem TW(h:∀ id v A,¬ S id v A):Nq P X W0 m0 fn T L S Q sz:=fun id v A _ hs=>absurd hs (h id v A)
theorem U6 (hX:XOk P X) (hP:POk P) (hp:Plain X) (hsz:sz<Ak) {l:Nat} {tm:Tm} {assign body:Code} {K:Value→AW→Prop} (hs:tm.sz=sz)
  (h:AM P X W0 m0 fn T L (fun _ _ _=>False) K (some l) N (DD sz tm.get) [.code assign,.beginRound,.code body] false 0 0 0 [] A):Pp P X W0 m0 l fn tm assign body A K:=by
 intro c rest Q0 hK;have h':=h;rw [← hs] at h';exact Up (fn:=fn) (ds:=[]) (HH (T:=T) (L:=L) (S:=fun _ _ _=>False) hX hP hp (by rw [hs];exact hsz) (sz:=tm.sz) (fun _ _ _ _ _ hj h=>OB hX hP hj h hK) (fun _ _ _ _ h=>h.elim) N _ _ _ _ _ _ _ _ rfl (fun t=>by simp) h')
end
variable {v:Value} {K:Value→Prop} {A:AW} {p q:Prop} {c n e off f b0:Nat} {x y:ByteArray} {cs:List Value} {ro:Bool}
section
variable {P:Program}
theorem Ab:Aa (some v) K↔K v:=⟨fun ⟨_,h,hk⟩=>by cases h;exact hk,fun h=>⟨v,rfl,h⟩⟩
theorem GX{K:AW→Prop}:AQ (some A) K↔K A:=⟨fun ⟨_,h,hk⟩=>by cases h;exact hk,fun h=>⟨A,rfl,h⟩⟩
theorem AR{K:Value→AW→Prop}:Al (.ok v A) K↔K v A:=⟨fun ⟨_,_,h,hk⟩=>by cases h;exact hk,fun h=>⟨v,A,rfl,h⟩⟩
theorem Bx{r:Option Value}(h:r=some v)(hk:K v):Aa r K:=⟨v,h,hk⟩
theorem Ai{b:Bool}:Ae (.bool b) p q↔(b=true→p)∧(b=false→q):=
 ⟨fun h=>⟨fun e=>h.2.1 (by rw [e]),fun e=>h.2.2 (by rw [e])⟩,fun h=>⟨⟨b,rfl⟩,fun e=>h.1 (by cases e;rfl),fun e=>h.2 (by cases e;rfl)⟩⟩
theorem Ap{c:Prop}[Decidable c]:Ae (.bool (decide c)) p q↔(c→p)∧(¬ c→q):=by
 rw [Ai];simp
theorem Ay{a b:Int}:Ae (.bool (a==b)) p q↔(a=b→p)∧(a≠b→q):=by
 rw [Ai];simp
theorem AU{a b:Int}:Ae (.bool (a != b)) p q↔(a≠b→p)∧(a=b→q):=by
 rw [Ai];simp
theorem AE{a:List Item}:BX a a p↔p:=⟨fun h=>h.2,fun h=>⟨rfl,h⟩⟩
theorem BD{a:Value}:eqW a a p↔p:=⟨fun h=>h.2,fun h=>⟨rfl,h⟩⟩
section
variable {t:TypeId} {xo yo:Operand} {k:IntKind} {a b:Int}
theorem Bb:Ah P .lss t xo yo (.int k a) (.int k b)=some (.bool (decide (a<b))):=by simp [Ah,binOp,Op.intCmp,quiet,Cx,AG,pure]
theorem C6:Ah P .leq t xo yo (.int k a) (.int k b)=some (.bool (decide (a≤b))):=by simp [Ah,binOp,Op.intCmp,quiet,Cx,AG,pure]
theorem Cy:Ah P .gtr t xo yo (.int k a) (.int k b)=some (.bool (decide (b<a))):=by simp [Ah,binOp,Op.intCmp,quiet,Cx,AG,pure]
theorem Dk:Ah P .geq t xo yo (.int k a) (.int k b)=some (.bool (decide (b≤a))):=by simp [Ah,binOp,Op.intCmp,quiet,Cx,AG,pure]
theorem Bh:Ah P .eql t xo yo (.int k a) (.int k b)=some (.bool (a==b)):=by simp [Ah,binOp,Op.intCmp,quiet,Cx,AG,pure]
theorem Bn:Ah P .neq t xo yo (.int k a) (.int k b)=some (.bool (a != b)):=by simp [Ah,binOp,Op.intCmp,quiet,Cx,AG,pure]
theorem Bw:Ah P .add t xo yo (.int k a) (.int k b)=some (.int k (k.wrap (a+b))):=by simp [Ah,binOp,Op.intArith,quiet,Cx,AG,pure]
theorem Gy:Ah P .sub t xo yo (.int k a) (.int k b)=some (.int k (k.wrap (a-b))):=by simp [Ah,binOp,Op.intArith,quiet,Cx,AG,pure]
theorem BC{x:Bool}:unA P .not (.bool x)=some (.bool (!x)):=by simp [unA,AG,Op.unary,quiet,Cx,pure]
theorem Oh:Ah P .eql t xo yo (.string x) (.string y)=some (.bool (x.data.toList==y.data.toList)):=rfl
theorem Nd:Ah P .neq t xo yo (.string x) (.string y)=some (.bool !(x.data.toList==y.data.toList)):=rfl
end
theorem wrap_i64{n:Int}(h1: -9223372036854775808≤n)(h2:n<9223372036854775808):IntKind.i64.wrap n=n:=by
 unfold IntKind.wrap;have e:(2^IntKind.i64.bits:Int)=18446744073709551616:=by decide
 have e2:(2^(IntKind.i64.bits-1):Int)=9223372036854775808:=by decide
 have e3:IntKind.i64.signed=true:=rfl;simp only [e,e2,e3,Bool.true_and,decide_eq_true_eq];split<;>omega
theorem DH:∀ l:List UInt8,DQ l l=true
 |[]=>rfl
 |a::r=>by simp [DQ,DH r]
theorem Oz:∀ a:Int,JA a a=true
 |.ofNat a=>Nat.beq_refl a
 |.negSucc a=>Nat.beq_refl a
theorem Jz{k:IntKind}{a:Int}:C3 (n+1) (.int k a) (.int k a)=true:=by simp [C3,Oz]
theorem PL{s:ByteArray}:C3 (n+1) (.string s) (.string s)=true:=by simp only [C3,DH]
structure Ext (A A':AW):Prop where
 next:A.next≤A'.next
 get:∀ i,i<A.next→A'.get i=A.get i
 mem:∀ i,i<A.next→A'.members i=A.members i
def AW.push(A:AW)(o:AO):AW:={ (A.put A.next o) with next:=A.next+1 }
theorem AW.Cg(o:AO){j:Nat}(h:A.next<Ak):(A.push o).get j=if j=A.next then some o else A.get j:=AW.Cp A A.next j o h
theorem AW.Co(A:AW)(o:AO):(A.push o).next=A.next+1:=rfl
theorem AW.Cv(o:AO)(h:A.next<Ak):Ext A (A.push o):=
 ⟨Nat.le_succ _,fun i hi=>by rw [AW.Cg o h,Ff (by omega)],fun i _=>rfl⟩
theorem WV{e:TypeId}(h:A.next<Ak)(hc:cs.all AP=true):Cq A cs e=.ok (.pointer (some ⟨A.next,0,none⟩)) (A.push (.row cs e A.next 0 false)):=by
 unfold Cq AW.newRow AW.new;simp only [hc,Ct,Ax.2 h];rfl
theorem Au{k:IntKind}{n:Int}:isTuple (.int k n)=false:=rfl
theorem Bm{b:Bool}:isTuple (.bool b)=false:=rfl
theorem Av{b:ByteArray}:isTuple (.string b)=false:=rfl
theorem Ks{a:Option Addr}:isTuple (.slice a n c)=false:=rfl
theorem BG{a:Option Addr}:isTuple (.pointer a)=false:=rfl
theorem Ch{a:Option Nat}:isTuple (.map a)=false:=rfl
theorem Hi{k:IntKind}{n:Int}:AP (.int k n)=true:=rfl
theorem Vf{b:Bool}:AP (.bool b)=true:=rfl
theorem D4{b:ByteArray}:AP (.string b)=true:=rfl
theorem ZW{a:Option Addr}:AP (.slice a n c)=true:=rfl
theorem Adi{a:Option Addr}:AP (.pointer a)=true:=rfl
theorem Adj{a:Option Nat}:AP (.map a)=true:=rfl
theorem Ag{b:Nat}(h:A.get b=some (.row cs e f b0 ro)):A.cell? ⟨b,off,none⟩=cellOf cs off:=by
 unfold AW.cell?;simp only [h]
theorem BH{b:Nat}(h:A.get b=some (.row cs e f b0 ro)):A.cells? ⟨b,off,none⟩ n=AZ (cs.drop off) n:=by
 unfold AW.cells?;cases n with
 |zero=>simp [AZ]
 |succ n=>simp only [h]
theorem D8:∀ {cs:List Value} {i:Nat} {v:Value},cs[i]? =some v→isTuple v=false→cellOf cs i=some v
 |[],i,v,h,_=>by simp at h
 |x::r,0,v,h,ht=>by
  simp only [List.getElem?_cons_zero,Oi] at h;subst h;simp [cellOf,ht]
 |x::r,i+1,v,h,ht=>by
  simp only [List.getElem?_cons_succ] at h;simp only [cellOf];exact D8 h ht
end
variable {A A':AW} {i n b:Nat} {cs l:List Value} {e:TypeId} {K:Value→AW→Prop} {v:Value}
section
variable {P:Program}
structure AB (A:AW):Prop where
 fams:∀ i,A.next≤i→A.fams.get? i=none
 get:∀ i,A.next≤i→A.get i=none
theorem AB.lt(h:AB A){o:AO}(hi:A.get i=some o):i<A.next:=by
 rcases Nat.lt_or_ge i A.next with h1 | h1
 ·exact h1
 ·rw [h.get i h1] at hi;cases hi
theorem AB.alone(h:AB A)(hi:A.next≤i):A.members i=[i]:=by
 unfold AW.members;rw [h.fams i hi]
theorem AB.push(h:AB A)(o:AO)(hn:A.next<Ak):AB (A.push o):=
 ⟨fun i hi=>h.fams i (by rw [AW.Co] at hi;omega),fun i hi=>by rw [AW.Co] at hi;rw [AW.Cg o hn,Ff (by omega)];exact h.get i (by omega)⟩
structure Made (A A':AW) (cs:List Value) (e:TypeId):Prop where
 ext:Ext A A'
 next:A'.next=A.next+1
 row:A'.get A.next=some (.row cs e A.next 0 false)
 mem:A'.members A.next=[A.next]
 Ao:AB A'
theorem AH(hf:AB A)(h:A.next<Ak)(hc:cs.all AP=true)(hk:∀ A',Made A A' cs e→K (.pointer (some ⟨A.next,0,none⟩)) A'):Al (Cq A cs e) K:=by
 rw [WV h hc];exact AR.2 (hk _ ⟨AW.Cv _ h,rfl,by rw [AW.Cg _ h,if_pos rfl],hf.alone (Nl _),hf.push _ h⟩)
theorem AX {z:Value} (hz:C2 P e=some z) (hf:AB A) (h:A.next<Ak) (hc:z.cells.toList.all AP=true)
  (hk:∀ A',Made A A' z.cells.toList e→K (.pointer (some ⟨A.next,0,none⟩)) A'):Al (Cd P A e) K:=by
 unfold Cd;rw [hz];exact AH hf h hc hk
theorem Qx{o:Nat}(h:l[o]? =some v):l.drop o=v::l.drop (o+1):=by
 obtain ⟨h1,rfl⟩:=Gs.1 h;exact List.drop_eq_getElem_cons h1
theorem L0(h:isTuple v=false):AZ (v::l) (n+1)=(match AZ l n with | some r=>some (v::r) | none=>none):=by
 simp only [AZ,h,Cf];rfl
def Ee:List Value→Nat→List Value→List Value
 |cs,_,[]=>cs
 |cs,o,v::r=>Ee (cs.set o v) (o+1) r
theorem KP:∀ (new cs:List Value) (o:Nat),(Ee cs o new).length=cs.length
 |[],cs,o=>rfl
 |v::r,cs,o=>by rw [Ee,KP r];simp
structure Lm (A A':AW) (b:Nat) (o:AO):Prop where
 row:A'.get b=some o
 get:∀ i,i≠b→A'.get i=A.get i
 next:A'.next=A.next
 fams:A'.fams=A.fams
theorem Lm.Ao{o o':AO}(h:Lm A A' b o)(hf:AB A)(hb:A.get b=some o'):AB A':=
 ⟨fun i hi=>by rw [h.fams];exact hf.fams i (by rw [h.next] at hi;exact hi),fun i hi=>by
  rw [h.next] at hi;have hb:=hf.lt hb;rw [h.get i (by omega)];exact hf.get i hi⟩
theorem Lm.mem{o:AO}(h:Lm A A' b o)(f:Nat):A'.members f=A.members f:=by unfold AW.members;rw [h.fams]
theorem DP:∀ {new:List Value} {A:AW} {b off:Nat} {cs:List Value} {e f b0:Nat},A.get b=some (.row cs e f b0 false)→A.members f=[b]→off+new.length≤cs.length→new.all AP=true→b<Ak→
  ∃ A',A.setCells ⟨b,off,none⟩ new=some A'∧Lm A A' b (.row (Ee cs off new) e f b0 false)
 |[],A,b,off,cs,e,f,b0,hg,hm,hl,ho,hb=>⟨A,rfl,hg,fun _ _=>rfl,rfl,rfl⟩
 |v::r,A,b,off,cs,e,f,b0,hg,hm,hl,ho,hb=>by
  simp only [List.all_cons,Bq] at ho;simp only [Lc] at hl;have hble:Nat.ble cs.length off=false:=BA.2 (by omega);have h1:A.setCell ⟨b,off,none⟩ v=some (A.put b (.row (cs.set off v) e f b0 false)):=by
   unfold AW.setCell;simp only [hg,ho.1,Bool.not_true,Bool.false_or,hble,Cf,hm,BO,Nat.beq_refl,Ct]
  have hg':(A.put b (.row (cs.set off v) e f b0 false)).get b=some (.row (cs.set off v) e f b0 false):=by rw [AW.Cp A b b _ hb,if_pos rfl]
  obtain ⟨A',h2,h3⟩:=DP (new:=r) (A:=A.put b (.row (cs.set off v) e f b0 false)) (off:=off+1) hg' hm (by simp;omega) ho.2 hb;refine ⟨A',?_,h3.row,fun i hi=>?_,h3.next,h3.fams⟩
  ·simp only [AW.setCells,h1];exact h2
  ·rw [h3.get i hi,AW.Cp A b i _ hb,Ff hi]
theorem R6 {off:Nat} {e f b0:Nat} {r:Option AW} {K:AW→Prop} (hr:r=(bif Nat.beq v.cells.toList.length n then A.setCells ⟨b,off,none⟩ v.cells.toList else none))
  (hv:v.cells.toList.length=n) (hg:A.get b=some (.row cs e f b0 false)) (hm:A.members f=[b]) (hl:off+n≤cs.length) (ho:v.cells.toList.all AP=true) (hb:b<Ak)
  (hk:∀ A',Lm A A' b (.row (Ee cs off v.cells.toList) e f b0 false)→K A'):AQ r K:=by
 obtain ⟨A',h1,h2⟩:=DP (new:=v.cells.toList) (off:=off) hg hm (by omega) ho hb;rw [hr,hv,Nat.beq_refl,Ct,h1];exact GX.2 (hk A' h2)
end
variable {lo size n bytes m:Nat} {A:AW} {e t t2:TypeId} {v x:Value} {cs new:List Value}
section
variable {P:Program}
structure Lp (lo:Nat) (A:AW) (e:TypeId) (size:Nat) (n:Nat) (cs:List Value) (b f:Nat):Prop where
 pos:0<n
 row:A.get b=some (.row cs e f 0 false)
 len:cs.length=n*size
 lob:lo≤b
 lof:lo≤f
 ltf:f<A.next
 mem:∀ i∈A.members f,lo≤i∧i<A.next∧∃ cs' e' b' ro',A.get i=some (.row cs' e' f b' ro')
def Wp(lo:Nat)(A:AW)(e:TypeId)(size:Nat)(v:Value)(n:Nat)(cs:List Value):Prop:=
 (v=.slice none 0 0∧n=0∧cs=[])∨∃ b f,v=.slice (some ⟨b,0,none⟩) n (Bo+n)∧Lp lo A e size n cs b f
theorem Wp.one(h:Wp lo A e size v n cs):AP v=true∧isTuple v=false:=by
 rcases h with ⟨rfl,_⟩ | ⟨b,f,rfl,_⟩<;>exact ⟨rfl,rfl⟩
theorem FM(coord:Nat):∀ (l:List Nat) (A:AW),(∀ i∈l,i<Ak)→(∀ i,i∉l→(BL coord l A).get i=A.get i)∧(BL coord l A).next=A.next∧(BL coord l A).fams=A.fams
 |[],A,_=>⟨fun _ _=>rfl,rfl,rfl⟩
 |x::r,A,hl=>by
  unfold BL;split
  ·rename_i cs e fam base ro hx;obtain ⟨h1,h2,h3⟩:=FM coord r (A.put x (.row (BN cs (coord-base)) e fam base ro)) fun i hi=>hl i (by simp [hi]);refine ⟨fun i hi=>?_,h2,h3⟩;simp only [Mk,not_or] at hi;rw [h1 i hi.2,AW.Cp A x i _ (hl x (by simp)),Ff hi.1]
  ·obtain ⟨h1,h2,h3⟩:=FM coord r A fun i hi=>hl i (by simp [hi]);exact ⟨fun i hi=>h1 i (fun h=>hi (by simp [h])),h2,h3⟩
theorem HM:∀ (l:List Value),DO l l.length=some l
 |[]=>rfl
 |v::r=>by simp [DO,HM r]
structure Wy (lo:Nat) (A A':AW) (e:TypeId) (size:Nat) (v v':Value) (n m:Nat) (cs new:List Value):Prop where
 own:Wp lo A' e size v' (n+m) (cs++new)
 next:A'.next=A.next+1
 Ao:AB A'
 get:∀ i,i<A.next→(∀ b f,v=.slice (some ⟨b,0,none⟩) n (Bo+n)→Lp lo A e size n cs b f→i∉A.members f)→A'.get i=A.get i
 mem:∀ g,g<A.next→(∀ b f,v=.slice (some ⟨b,0,none⟩) n (Bo+n)→Lp lo A e size n cs b f→g≠f)→A'.members g=A.members g
 fam:∀ b' f',v'=.slice (some ⟨b',0,none⟩) (n+m) (Bo+(n+m))→Lp lo A' e size (n+m) (cs++new) b' f'→f'=A.next∨∃ b,v=.slice (some ⟨b,0,none⟩) n (Bo+n)∧Lp lo A e size n cs b f'
theorem Ii (ht:Bt P t=some e) (hs:szT P e=some (size+1)) (hb:Ex P e=some bytes)
  (hx:BF P A e t2 (size+1) x=some (m+1,new)) (hroom:(Nat.blt (0+(m+1)) room&&Nat.blt ((0+(m+1))*bytes) room&&CE P e (size+1))=true) (hmax:A.next<Ak):
  AT P A t t2 (.slice none 0 0) x=.ok (.slice (some ⟨A.next,0,none⟩) (0+(m+1)) (Bo+(0+(m+1)))) (A.push (.row new e A.next 0 false)):=by
 unfold AT;simp only [ht,hs,hb,hx];rw [hroom];simp only [Bool.not_true,Cf];have h1:Nat.ble Bo 0=false:=rfl;have h2:Nat.ble (0+(m+1)) 0=false:=BA.2 (by omega);simp only [h1,Cf,h2,List.nil_append];unfold AW.new;simp only [Ax.2 hmax,Ct];rfl
theorem Pe {B:AW} {c b f:Nat} {a':Addr} (ht:Bt P t=some e) (hs:szT P e=some (size+1)) (hb:Ex P e=some bytes)
  (hx:BF P A e t2 (size+1) x=some (m+1,new)) (hroom:(Nat.blt (n+(m+1)) room&&Nat.blt ((n+(m+1))*bytes) room&&CE P e (size+1))=true) (h1:Nat.ble Bo c=true) (h2:Nat.ble (n+(m+1)) (c-Bo)=false)
  (hrow:A.get b=some (.row cs e f 0 false)) (hone:new.all AP=true) (hold:A.CS ⟨b,0,none⟩ (n*(size+1))=some cs)
  (hni:(BL (n*(size+1)) (A.members f) A).HY (cs++new) e f 0=some (a',B)):
  AT P A t t2 (.slice (some ⟨b,0,none⟩) n c) x=.ok (.slice (some a') (n+(m+1)) (Bo+(n+(m+1)))) B:=by
 unfold AT;simp only [ht,hs,hb,hx];rw [hroom];simp only [Bool.not_true,Cf];generalize hlb:(bif Nat.ble Bo c then c-Bo else c)=lb;have hz:Nat.ble (n+(m+1)) lb=false:=by
  rw [h1,Ct] at hlb;rw [← hlb];exact h2
 clear hlb h2;have hbe:Nat.beq e e=true:=Nat.beq_refl e;simp only [hz,h1,Cf,Ct,hrow,hbe,hone,Bool.and_self,Bool.not_true];rw [hold];have hc:(0+0+n*(size+1))=n*(size+1):=by omega
 simp only [hc,Nat.add_zero,hni]
theorem Sl (ht:Bt P t=some e) (hs:szT P e=some (size+1)) (hb:Ex P e=some bytes)
  (hz:CE P e (size+1)=true) (hx:BF P A e t2 (size+1) x=some (m+1,new)) (hnew:new.length=(m+1)*(size+1)) (hone:new.all AP=true) (h:Wp lo A e (size+1) v n cs) (hf:AB A) (hlo:lo≤A.next)
  (hmax:A.next<Ak) (hr1:n+(m+1)<room) (hr2:(n+(m+1))*bytes<room):∃ v' A',AT P A t t2 v x=.ok v' A'∧Wy lo A A' e (size+1) v v' n (m+1) cs new:=by
 have hroom:(Nat.blt (n+(m+1)) room&&Nat.blt ((n+(m+1))*bytes) room&&CE P e (size+1))=true:=by rw [Ax.2 hr1,Ax.2 hr2,hz];rfl
 rcases h with ⟨rfl,rfl,rfl⟩ | ⟨b,f,rfl,h⟩
 ·refine ⟨.slice (some ⟨A.next,0,none⟩) (0+(m+1)) (Bo+(0+(m+1))),A.push (.row new e A.next 0 false),?_,?_⟩
  ·exact Ii ht hs hb hx hroom hmax
  ·have hfp:=hf.push (.row new e A.next 0 false) hmax;have hrow:(A.push (.row new e A.next 0 false)).get A.next=some (.row new e A.next 0 false):=by rw [AW.Cg _ hmax,if_pos rfl]
   refine ⟨.inr ⟨A.next,A.next,rfl,by omega,by rw [hrow];rfl,by simp only [List.nil_append,hnew,Nat.zero_add],hlo,hlo,by rw [AW.Co];omega,fun i hi=>?_⟩,rfl,hfp,fun i hi _=>by rw [AW.Cg _ hmax,Ff (by omega)],fun g hg _=>rfl,fun b' f' hv ho=>?_⟩
   ·have:(A.push (.row new e A.next 0 false)).members A.next=[A.next]:=hf.alone (Nl _)
    rw [this] at hi;obtain rfl:i=A.next:=by simpa using hi
    exact ⟨hlo,by rw [AW.Co];omega,_,_,_,_,hrow⟩
   ·simp only [Value.slice.injEq,Oi,Addr.mk.injEq] at hv;obtain ⟨⟨rfl,_⟩,_⟩:=hv
    have:=ho.row
    rw [hrow] at this;simp only [Oi,AO.row.injEq] at this;exact .inl this.2.2.1.symm
 ·have hmemlt:∀ i∈A.members f,i<Ak:=fun i hi=>by have:=(h.mem i hi).2.1;omega
  obtain ⟨p1,p2,p3⟩:=FM (n*(size+1)) (A.members f) A hmemlt;let A1:=BL (n*(size+1)) (A.members f) A;have hA1:A1.next=A.next:=p2;let A2:AW:={ (A1.push (.row (cs++new) e f 0 false)) with fams:=(A1.push (.row (cs++new) e f 0 false)).fams.put depth f (some (A1.next::A1.members f)) };have hm1:∀ g,A1.members g=A.members g:=fun g=>by unfold AW.members;rw [show A1.fams=A.fams from p3]
  have hget2:∀ i,A2.get i=if i=A.next then some (.row (cs++new) e f 0 false) else A1.get i:=by
   intro i;show (A1.push _).get i=_;rw [AW.Cg _ (by rw [hA1];exact hmax),hA1]
  have hltf:=h.ltf;have hmem2:∀ g,g<Ak→A2.members g=if g=f then A.next::A.members f else A.members g:=by
   intro g hg;show (match ((A1.push (.row (cs++new) e f 0 false)).fams.put depth f (some (A1.next::A1.members f))).get? g with | some l=>l | none=>[g])=_;rw [Trie.get?_put depth _ f g _ (by unfold depth Ak at *;omega)];by_cases hgf:g=f
   ·rw [if_pos hgf,if_pos hgf,hm1,hA1]
   ·rw [Ff hgf,Ff hgf,← hm1 g];rfl
  have hnext2:A2.next=A.next+1:=by show A1.next+1=_;rw [hA1]
  refine ⟨.slice (some ⟨A.next,0,none⟩) (n+(m+1)) (Bo+(n+(m+1))),A2,?_,?_⟩
  ·have hold:A.CS ⟨b,0,none⟩ (n*(size+1))=some cs:=by
    unfold AW.CS;obtain ⟨k,hk⟩:∃ k,n*(size+1)=k+1:=⟨n*(size+1)-1,by have:0<n*(size+1):=Nat.mul_pos h.pos (by omega);omega⟩;rw [hk];simp only [h.row,List.drop_zero];rw [← hk,← h.len];exact HM cs
   have hni:(BL (n*(size+1)) (A.members f) A).HY (cs++new) e f 0=some (⟨A1.next,0,none⟩,A2):=by
    unfold AW.HY AW.new
    have:Nat.blt (BL (n*(size+1)) (A.members f) A).next Ak=true:=Ax.2 (by rw [p2];exact hmax)
    simp only [this,Ct];rfl
   rw [hA1] at hni;exact Pe ht hs hb hx hroom (Bj.2 (Nat.le_add_right _ _)) (BA.2 (by rw [Nat.add_sub_cancel_left];omega)) h.row hone hold hni
  ·have hnot:A.next∉A.members f:=fun hi=>by have:=(h.mem _ hi).2.1;omega
   have hrow:A2.get A.next=some (.row (cs++new) e f 0 false):=by rw [hget2,if_pos rfl]
   have hfam:∀ i∈A.members f,∃ cs' e' b' ro',A1.get i=some (.row cs' e' f b' ro'):=by
    have key:∀ (l:List Nat) (B:AW),(∀ i∈l,i<Ak)→∀ i,(∃ cs' e' b' ro',B.get i=some (.row cs' e' f b' ro'))→∃ cs' e' b' ro',(BL (n*(size+1)) l B).get i=some (.row cs' e' f b' ro'):=by
     intro l
     induction l with
     |nil=>intro B _ i hi;exact hi
     |cons x r ih=>
      intro B hl i hi;unfold BL;refine ih _ (fun j hj=>hl j (by simp [hj])) i ?_;split
      ·rename_i cs2 e2 f2 b2 ro2 hx2;rw [AW.Cp B x i _ (hl x (by simp))];by_cases hix:i=x
       ·subst hix;obtain ⟨cs',e',b',ro',hi⟩:=hi;rw [hx2] at hi;simp only [Oi,AO.row.injEq] at hi;rw [if_pos rfl];exact ⟨_,_,_,_,by rw [hi.2.2.1]⟩
       ·rw [Ff hix];exact hi
      ·exact hi
    intro i hi;obtain ⟨_,_,h3⟩:=h.mem i hi;exact key _ _ hmemlt i h3
   refine ⟨.inr ⟨A.next,f,rfl,by omega,hrow,by rw [Lq,h.len,hnew,← Nat.add_mul],hlo,h.lof,by rw [hnext2];omega,fun i hi=>?_⟩,hnext2,⟨fun i hi=>?_,fun i hi=>?_⟩,fun i hi hnf=>?_,fun g hg hgf=>?_,fun b' f' hv ho=>?_⟩
   ·rw [hmem2 f (by omega),if_pos rfl,Mk] at hi;rcases hi with rfl | hi
    ·exact ⟨hlo,by rw [hnext2];omega,_,_,_,_,hrow⟩
    ·obtain ⟨g1,g2,_⟩:=h.mem i hi;obtain ⟨cs',e',b',ro',g3⟩:=hfam i hi;exact ⟨g1,by rw [hnext2];omega,cs',e',b',ro',by rw [hget2,Ff (by omega)];exact g3⟩
   ·rw [hnext2] at hi;show ((A1.push (.row (cs++new) e f 0 false)).fams.put depth f (some (A1.next::A1.members f))).get? i=none;rw [Trie.get?_put depth _ f i _ (by unfold depth Ak at *;omega),Ff (by omega)];show A1.fams.get? i=none;rw [show A1.fams=A.fams from p3];exact hf.fams i (by omega)
   ·rw [hnext2] at hi;rw [hget2,Ff (by omega)];show (BL _ _ A).get i=none;rw [p1 i (fun hm=>by have:=(h.mem i hm).2.1;omega)];exact hf.get i (by omega)
   ·rw [hget2,Ff (by omega)];exact p1 i (hnf b f rfl h)
   ·rw [hmem2 g (by omega),Ff (hgf b f rfl h)]
   ·simp only [Value.slice.injEq,Oi,Addr.mk.injEq] at hv;obtain ⟨⟨rfl,_⟩,_⟩:=hv
    have:=ho.row
    rw [hrow] at this;simp only [Oi,AO.row.injEq] at this;obtain ⟨_,_,rfl,_⟩:=this;exact .inr ⟨b,rfl,h⟩
end
section
variable {P:Program}
theorem C0{α β:Type}(k:α→Sem β):∀ s:Sem α,quiet P (s.bind k)=(quiet P s).bind fun a=>quiet P (k a)
 |.pure a=>rfl
 |.program f=>C0 k (f P)
 |.mark _ f=>by
  show quiet P (f.bind k)=_;exact C0 k f
 |.load .. =>rfl
 |.store .. =>rfl
 |.new .. =>rfl
 |.shape .. =>rfl
 |.freeze .. =>rfl
 |.frozen .. =>rfl
 |.getObj .. =>rfl
 |.setObj .. =>rfl
 |.choose .. =>rfl
 |.sys .. =>rfl
 |.halt _=>rfl
theorem PW{α β:Type}(s:Sem α)(k:α→Sem β):quiet P (s >>=k)=(quiet P s).bind fun a=>quiet P (k a):=C0 k s
theorem JG(d:Nat)(t:TypeId)(xs ys:Array Value)(ht:quiet P (underlying t)=some (.struct (P.fieldsOf t)))(hp:P.stoodInHeld t=false):
  quiet P (Op.equalIn (d+1) t (.agg xs) (.agg ys))=quiet P (Op.eqFields d xs ys (P.fieldsOf t).toList):=by
 simp only [Op.equalIn];show quiet P (Sem.bind _ _)=_;rw [C0,ht];simp only [Option.bind_some];show quiet P (Sem.bind _ _)=_;rw [C0];show (some P).bind _=_;simp only [Option.bind_some,hp,Bool.false_eq_true,if_false];rw [← Array.forIn_toList];generalize (P.fieldsOf t).toList=fs;clear ht
 induction fs with
 |nil=>simp [Op.eqFields]
 |cons f fs ih=>
  simp only [List.forIn_cons,Op.eqFields];split
  ·simp only [PW,Option.bind_assoc] at ih ⊢
   congr 1
   funext a
   congr 1
   funext b
   congr 1
   funext r
   cases r
   ·rfl
   ·exact ih
  ·exact ih
theorem He(d:Nat)(t:TypeId)(k k':IntKind)(a b:Int)(h:quiet P (underlying t)=some (.int k')):quiet P (Op.equalIn (d+1) t (.int k a) (.int k b))=some (a==b):=by
 simp only [Op.equalIn];show quiet P (Sem.bind _ _)=_;rw [C0,h];simp only [Option.bind_some,if_true];rfl
theorem Ls(d:Nat)(t:TypeId)(a b:ByteArray)(h:quiet P (underlying t)=some .string):quiet P (Op.equalIn (d+1) t (.string a) (.string b))=some (a==b):=by
 simp only [Op.equalIn];show quiet P (Sem.bind _ _)=_;rw [C0,h];rfl
end
variable {A B A':AW} {S T F:List Nat} {cs:List Value} {e:TypeId} {b off n size c:Nat} {v:Value} {r:Option AW} {K:AW→Prop} {es:List MapEntry}
section
variable {P:Program}
def SV(i:Nat):AO→Nat
 |.row _ _ f _ _=>f
 |_=>i
structure AA (A A':AW) (S:List Nat):Prop where
 next:A.next≤A'.next
 get:∀ i o,A.get i=some o→SV i o<A.next→SV i o∉S→A'.get i=some o
 mem:∀ f,f<A.next→f∉S→A'.members f=A.members f
theorem AA.refl(A:AW)(S:List Nat):AA A A S:=⟨Nl _,fun _ _ h _ _=>h,fun _ _ _=>rfl⟩
theorem AA.trans{C:AW}(h:AA A B S)(k:AA B C T)(hT:∀ x∈T,x∈S∨A.next≤x):AA A C S:=
 ⟨Nat.le_trans h.next k.next,fun i o hi hlt hn=>k.get i o (h.get i o hi hlt hn) (Nat.lt_of_lt_of_le hlt h.next) (fun hm=>by
  rcases hT _ hm with h1 | h1
  ·exact hn h1
  ·omega),fun f hf hn=>by
  rw [k.mem f (Nat.lt_of_lt_of_le hf h.next) (fun hm=>by
   rcases hT _ hm with h1 | h1
   ·exact hn h1
   ·omega),h.mem f hf hn]⟩
theorem AA.more(h:AA A B S)(hs:∀ x∈S,x∈T∨A.next≤x):AA A B T:=
 ⟨h.next,fun i o hi hlt hn=>h.get i o hi hlt (fun hm=>by
  rcases hs _ hm with h1 | h1
  ·exact hn h1
  ·omega),fun f hf hn=>h.mem f hf (fun hm=>by
  rcases hs _ hm with h1 | h1
  ·exact hn h1
  ·omega)⟩
theorem Ext.keeps(h:Ext A A')(hf:AB A):AA A A' []:=
 ⟨h.next,fun i o hi _ _=>by rw [h.get i (hf.lt hi)];exact hi,fun f hf _=>h.mem f hf⟩
theorem Made.keeps(m:Made A A' cs e)(hf:AB A):AA A A' []:=m.ext.keeps hf
structure AF (A:AW) (b:Nat) (cs:List Value) (e:TypeId):Prop where
 row:A.get b=some (.row cs e b 0 false)
 mem:A.members b=[b]
 lt:b<A.next
theorem Made.Bk(m:Made A A' cs e):AF A' A.next cs e:=⟨m.row,m.mem,by rw [m.next];omega⟩
theorem AF.keeps(h:AF A b cs e)(k:AA A A' S)(hn:b∉S):AF A' b cs e:=
 ⟨k.get b _ h.row h.lt hn,by rw [k.mem b h.lt hn];exact h.mem,Nat.lt_of_lt_of_le h.lt k.next⟩
theorem Lm.keeps{f:Nat}{o:AO}{e b0:Nat}{ro:Bool}(w:Lm A A' b o)(h:A.get b=some (.row cs e f b0 ro)):AA A A' [f]:=
 ⟨by rw [w.next];exact Nl _,fun i o hi _ hn=>by
  by_cases hib:i=b
  ·subst hib;rw [h] at hi;cases hi;exact absurd (Ms.2 rfl) hn
  ·rw [w.get i hib];exact hi,fun f _ _=>w.mem f⟩
theorem AF.store (h:AF A b cs e) (hf:AB A) (hb:A.next≤Ak)
  (hr:r=(bif Nat.beq v.cells.toList.length n then A.setCells ⟨b,off,none⟩ v.cells.toList else none)) (hv:v.cells.toList.length=n) (hl:off+n≤cs.length) (ho:v.cells.toList.all AP=true)
  (hk:∀ A',AF A' b (Ee cs off v.cells.toList) e→AA A A' [b]→A'.next=A.next→AB A'→K A'):AQ r K:=by
 have hlt:=h.lt;refine R6 hr hv h.row h.mem hl ho (by omega) fun A' w=>?_;exact hk A' ⟨w.row,by rw [w.mem];exact h.mem,by rw [w.next];exact h.lt⟩ (w.keeps h.row) w.next (w.Ao hf h.row)
def EA(A:AW)(e:TypeId)(size:Nat)(v:Value)(n:Nat)(cs:List Value)(F:List Nat):Prop:=
 (v=.slice none 0 0∧n=0∧cs=[]∧F=[])∨∃ b f,v=.slice (some ⟨b,0,none⟩) n (Bo+n)∧Lp 0 A e size n cs b f∧F=[f]
theorem EA.nil(A:AW)(e:TypeId)(size:Nat):EA A e size (.slice none 0 0) 0 [] []:=.inl ⟨rfl,rfl,rfl,rfl⟩
theorem EA.AaX(h:EA A e size v n cs F):Wp 0 A e size v n cs:=by
 rcases h with ⟨h1,h2,h3,_⟩ | ⟨b,f,h1,h2,_⟩
 ·exact .inl ⟨h1,h2,h3⟩
 ·exact .inr ⟨b,f,h1,h2⟩
theorem EA.one(h:EA A e size v n cs F):AP v=true∧isTuple v=false:=h.AaX.one
theorem EA.lt(h:EA A e size v n cs F):∀ x∈F,x<A.next:=by
 rcases h with ⟨_,_,_,rfl⟩ | ⟨b,f,_,h2,rfl⟩
 ·intro x hx;simp at hx
 ·intro x hx;obtain rfl:x=f:=by simpa using hx
  exact h2.ltf
theorem EA.keeps(h:EA A e size v n cs F)(k:AA A A' S)(hd:∀ x∈F,x∉S):EA A' e size v n cs F:=by
 rcases h with h | ⟨b,f,rfl,h,rfl⟩
 ·exact .inl h
 ·have hfs:f∉S:=hd f (by simp);refine .inr ⟨b,f,rfl,⟨h.pos,k.get b _ h.row h.ltf hfs,h.len,Nat.zero_le _,Nat.zero_le _,Nat.lt_of_lt_of_le h.ltf k.next,fun i hi=>?_⟩,rfl⟩;rw [k.mem f h.ltf hfs] at hi;obtain ⟨_,h2,cs',e',b',ro',h3⟩:=h.mem i hi;exact ⟨Nat.zero_le _,Nat.lt_of_lt_of_le h2 k.next,cs',e',b',ro',k.get i _ h3 h.ltf hfs⟩
theorem J6 {t t2:TypeId} {bytes:Nat} {x:Value} {m:Nat} {new:List Value} (ht:Bt P t=some e) (hs:szT P e=some (size+1)) (hb:Ex P e=some bytes)
  (hz:CE P e (size+1)=true) (hx:BF P A e t2 (size+1) x=some (m+1,new)) (hnew:new.length=(m+1)*(size+1)) (hone:new.all AP=true) (h:EA A e (size+1) v n cs F) (hf:AB A)
  (hmax:A.next<Ak) (hr1:n+(m+1)<room) (hr2:(n+(m+1))*bytes<room) {K:Value→AW→Prop}
  (hk:∀ v' A' F',EA A' e (size+1) v' (n+(m+1)) (cs++new) F'→AA A A' F→(∀ x∈F',x∈F∨x=A.next)→A'.next=A.next+1→AB A'→K v' A'):Al (AT P A t t2 v x) K:=by
 obtain ⟨v',A',h1,a⟩:=Sl (P:=P) ht hs hb hz hx hnew hone h.AaX hf (Nat.zero_le _) hmax hr1 hr2;rw [h1];refine AR.2 ?_;have hfam:∀ b f,v=.slice (some ⟨b,0,none⟩) n (Bo+n)→Lp 0 A e (size+1) n cs b f→f∈F:=by
  intro b f hv ho;rcases h with ⟨h1,_⟩ | ⟨b',f',h1,h2,rfl⟩
  ·rw [h1] at hv;cases hv
  ·rw [h1] at hv;simp only [Value.slice.injEq,Oi,Addr.mk.injEq] at hv;obtain ⟨⟨rfl,_⟩,_⟩:=hv
   have:=ho.row
   rw [h2.row] at this;simp only [Oi,AO.row.injEq] at this;simp [this.2.2.1]
 have hkeep:AA A A' F:=⟨by rw [a.next];omega,fun i o hi hlt hn=>by
   rw [a.get i (hf.lt hi) (fun b f hv ho him=>?_)]
   ·exact hi
   ·obtain ⟨_,_,cs',e',b',ro',h3⟩:=ho.mem i him;rw [hi] at h3;cases h3;exact hn (hfam b f hv ho),fun g hg hn=>a.mem g hg fun b f hv ho hgf=>hn (hgf▸hfam b f hv ho)⟩
 rcases a.own with ⟨_,h2,_⟩ | ⟨b,f,h2,h3⟩
 ·omega
 ·refine hk v' A' [f] (.inr ⟨b,f,h2,h3,rfl⟩) hkeep (fun x hx=>?_) a.next a.Ao;obtain rfl:x=f:=by simpa using hx
  rcases a.fam b x h2 h3 with h4 | ⟨b',h4,h5⟩
  ·exact .inr h4
  ·exact .inl (hfam b' x h4 h5)
theorem KV(h:A'.fams=A.fams)(g:Nat):A'.members g=A.members g:=by unfold AW.members;rw [h]
theorem Hg(De coord:Nat):∀ (l:List Nat) (A:AW),(∀ i∈l,i<Ak)→(∀ i,i∉l∨i=De→(BO De coord l A).get i=A.get i)∧
  (∀ i cs e f b ro,A.get i=some (.row cs e f b ro)→∃ cs',(BO De coord l A).get i=some (.row cs' e f b ro))∧(BO De coord l A).next=A.next∧(BO De coord l A).fams=A.fams
 |[],A,_=>⟨fun _ _=>rfl,fun i cs e f b ro h=>⟨cs,h⟩,rfl,rfl⟩
 |x::r,A,hl=>by
  unfold BO;cases hxs:Nat.beq x De with
  |true=>
   have hx:x=De:=Nb hxs;obtain ⟨h1,h2,h3,h4⟩:=Hg De coord r A (fun i hi=>hl i (by simp [hi]));refine ⟨fun i hi=>h1 i ?_,h2,h3,h4⟩;rcases hi with hi | hi
   ·exact .inl (fun hm=>hi (by simp [hm]))
   ·exact .inr hi
  |false=>
   have hx:x≠De:=fun e=>by rw [e,Nat.beq_refl] at hxs;cases hxs
   simp only [Cf];have same:∀ B:AW,(∀ i,i≠x→B.get i=A.get i)→(∀ i cs e f b ro,A.get i=some (.row cs e f b ro)→∃ cs',B.get i=some (.row cs' e f b ro))→B.next=A.next→B.fams=A.fams→
     (∀ i,i∉x::r∨i=De→(BO De coord r B).get i=A.get i)∧(∀ i cs e f b ro,A.get i=some (.row cs e f b ro)→∃ cs',(BO De coord r B).get i=some (.row cs' e f b ro))∧(BO De coord r B).next=A.next∧(BO De coord r B).fams=A.fams:=by
    intro B g1 g2 g3 g4;obtain ⟨h1,h2,h3,h4⟩:=Hg De coord r B (fun i hi=>hl i (by simp [hi]));refine ⟨fun i hi=>?_,fun i cs e f b ro hi=>?_,by rw [h3,g3],by rw [h4,g4]⟩
    ·rw [h1 i (by
      rcases hi with hi | hi
      ·exact .inl (fun hm=>hi (by simp [hm]))
      ·exact .inr hi),g1 i (by
      rcases hi with hi | hi
      ·exact fun e=>hi (by simp [e])
      ·subst hi;exact fun e=>hx e.symm)]
    ·obtain ⟨cs',hb⟩:=g2 i cs e f b ro hi;exact h2 i cs' e f b ro hb
   split
   ·rename_i cs2 e2 f2 b2 ro2 hx2;cases hble:Nat.ble b2 coord with
    |false=>exact same A (fun _ _=>rfl) (fun i cs e f b ro h=>⟨cs,h⟩) rfl rfl
    |true=>
     simp only [Ct];refine same _ (fun i hi=>by rw [AW.Cp A x i _ (hl x (by simp)),Ff hi]) (fun i cs e f b ro hi=>?_) rfl rfl;rw [AW.Cp A x i _ (hl x (by simp))];by_cases hix:i=x
     ·subst hix;rw [hx2] at hi;cases hi;exact ⟨_,by rw [if_pos rfl]⟩
     ·exact ⟨cs,by rw [Ff hix];exact hi⟩
   ·exact same A (fun _ _=>rfl) (fun i cs e f b ro h=>⟨cs,h⟩) rfl rfl
theorem Jx:∀ {new:List Value} {A:AW} {b off:Nat} {cs:List Value} {e f:Nat},A.get b=some (.row cs e f 0 false)→(∀ i∈A.members f,i<Ak)→off+new.length≤cs.length→new.all AP=true→b<Ak→
  ∃ A',A.setCells ⟨b,off,none⟩ new=some A'∧A'.get b=some (.row (Ee cs off new) e f 0 false)∧(∀ i,i≠b→i∉A.members f→A'.get i=A.get i)∧
   (∀ i cs e f b ro,A.get i=some (.row cs e f b ro)→∃ cs',A'.get i=some (.row cs' e f b ro))∧A'.next=A.next∧A'.fams=A.fams
 |[],A,b,off,cs,e,f,hg,hm,hl,ho,hb=>⟨A,rfl,hg,fun _ _ _=>rfl,fun i cs e f b ro h=>⟨cs,h⟩,rfl,rfl⟩
 |v::r,A,b,off,cs,e,f,hg,hm,hl,ho,hb=>by
  simp only [List.all_cons,Bq] at ho;simp only [Lc] at hl;have hble:Nat.ble cs.length off=false:=BA.2 (by omega);obtain ⟨p1,p2,p3,p4⟩:=Hg b (0+off) (A.members f) (A.put b (.row (cs.set off v) e f 0 false)) hm;have h1:A.setCell ⟨b,off,none⟩ v=some (BO b (0+off) (A.members f) (A.put b (.row (cs.set off v) e f 0 false))):=by
   unfold AW.setCell;simp only [hg,ho.1,Bool.not_true,Bool.false_or,hble,Cf]
  have hmem:∀ g,(BO b (0+off) (A.members f) (A.put b (.row (cs.set off v) e f 0 false))).members g=A.members g:=KV p4;have hg':(BO b (0+off) (A.members f) (A.put b (.row (cs.set off v) e f 0 false))).get b=some (.row (cs.set off v) e f 0 false):=by
   rw [p1 b (.inr rfl),AW.Cp A b b _ hb,if_pos rfl]
  obtain ⟨A',h2,h3,h4,h5,h6,h7⟩:=Jx (new:=r) (off:=off+1) hg' (by rw [hmem];exact hm) (by simp;omega) ho.2 hb;refine ⟨A',?_,h3,fun i hi hn=>?_,fun i cs2 e2 f2 b2 ro2 hi=>?_,by rw [h6,p3];rfl,by rw [h7,p4];rfl⟩
  ·simp only [AW.setCells,h1];exact h2
  ·rw [h4 i hi (by rw [hmem];exact hn),p1 i (.inl hn),AW.Cp A b i _ hb,Ff hi]
  ·have:∃ cs',(A.put b (.row (cs.set off v) e f 0 false)).get i=some (.row cs' e2 f2 b2 ro2):=by
    rw [AW.Cp A b i _ hb];by_cases hib:i=b
    ·subst hib;rw [hg] at hi;cases hi;exact ⟨_,by rw [if_pos rfl]⟩
    ·exact ⟨cs2,by rw [Ff hib];exact hi⟩
   obtain ⟨cs3,h8⟩:=this;obtain ⟨cs4,h9⟩:=p2 i cs3 e2 f2 b2 ro2 h8;exact h5 i cs4 e2 f2 b2 ro2 h9
theorem UR {k:Nat} {w:Value} (h:EA A e size (.slice (some ⟨b,0,none⟩) n (Bo+n)) n cs F) (hf:AB A) (hmax:A.next≤Ak)
  (hr:r=(bif Nat.beq w.cells.toList.length k then A.setCells ⟨b,off,none⟩ w.cells.toList else none)) (hv:w.cells.toList.length=k) (hl:off+k≤cs.length) (ho:w.cells.toList.all AP=true)
  (hk:∀ A',EA A' e size (.slice (some ⟨b,0,none⟩) n (Bo+n)) n (Ee cs off w.cells.toList) F→AA A A' F→A'.next=A.next→AB A'→K A'):AQ r K:=by
 rcases h with ⟨h1,_⟩ | ⟨b',f,h1,h,rfl⟩
 ·cases h1
 simp only [Value.slice.injEq,Oi,Addr.mk.injEq,and_true] at h1;subst h1;have hbl:=hf.lt h.row;have hml:∀ i∈A.members f,i<Ak:=fun i hi=>by have:=(h.mem i hi).2.1;omega
 obtain ⟨A',g1,g2,g3,g4,g5,g6⟩:=Jx (new:=w.cells.toList) (off:=off) h.row hml (by omega) ho (by omega);have hmem:∀ g,A'.members g=A.members g:=KV g6;rw [hr,hv,Nat.beq_refl,Ct,g1];refine GX.2 (hk A' (.inr ⟨b,f,rfl,⟨h.pos,g2,by rw [KP];exact h.len,Nat.zero_le _,Nat.zero_le _,by rw [g5];exact h.ltf,fun i hi=>?_⟩,rfl⟩) ⟨by rw [g5];exact Nl _,fun i o hi _ hn=>?_,fun g _ _=>hmem g⟩ g5 ⟨fun i hi=>?_,fun i hi=>?_⟩)
 ·rw [hmem] at hi;obtain ⟨_,h2,cs',e',b',ro',h3⟩:=h.mem i hi;obtain ⟨cs2,h4⟩:=g4 i _ _ _ _ _ h3;exact ⟨Nat.zero_le _,by rw [g5];exact h2,cs2,e',b',ro',h4⟩
 ·rw [g3 i (fun e=>?_) (fun hm=>?_)]
  ·exact hi
  ·subst e;rw [h.row] at hi;cases hi;exact hn (Ms.2 rfl)
  ·obtain ⟨_,_,cs',e',b',ro',h3⟩:=h.mem i hm;rw [hi] at h3;cases h3;exact hn (Ms.2 rfl)
 ·rw [g6];exact hf.fams i (by rw [g5] at hi;exact hi)
 ·rw [g5] at hi;rw [g3 i (fun e=>by omega) (fun hm=>by have:=(h.mem i hm).2.1;omega)];exact hf.get i hi
structure Sp (A:AW) (r:Nat) (es:List MapEntry) (c:Nat):Prop where
 row:A.get r=some (.map es c false)
 lt:r<A.next
theorem Sp.keeps{r:Nat}(h:Sp A r es c)(k:AA A A' S)(hn:r∉S):Sp A' r es c:=
 ⟨k.get r _ h.row h.lt hn,Nat.lt_of_lt_of_le h.lt k.next⟩
theorem Sp.put{r:Nat}{es':List MapEntry}{c':Nat}(h:Sp A r es c)(hf:AB A)(hb:A.next≤Ak):Sp (A.put r (.map es' c' false)) r es' c'∧AA A (A.put r (.map es' c' false)) [r]∧(A.put r (.map es' c' false)).next=A.next∧AB (A.put r (.map es' c' false)):=by
 have hlt:=h.lt;have hg:∀ i,(A.put r (.map es' c' false)).get i=if i=r then some (.map es' c' false) else A.get i:=fun i=>AW.Cp A r i _ (by omega)
 refine ⟨⟨by rw [hg,if_pos rfl],hlt⟩,⟨Nl _,fun i o hi _ hn=>?_,fun f _ _=>rfl⟩,rfl,⟨hf.fams,fun i hi=>?_⟩⟩
 ·rw [hg,Ff (fun e=>?_)]
  ·exact hi
  ·subst e;rw [h.row] at hi;cases hi;exact hn (Ms.2 rfl)
 ·have hi:A.next≤i:=hi;rw [hg,Ff (by omega)];exact hf.get i hi
end
def R4(w:AW)(it:Value):R AN:=match KE w it with | some v=>.ok (.value v) w | none=>.fail "entry"
def Ri(P:Program)(w:AW)(t:TypeId)(x:Value):R AN:=match P.underlying t,x with
  |some .string,.string s=>(match w.new (.sit s 0) with | some (b,w)=>.ok (.value (.pointer (some ⟨b,0,none⟩))) w | none=>.fail "range")
  |some (.map _ _),.map none=>(match w.new (.mit none 0 [] 0) with | some (b,w)=>.ok (.value (.pointer (some ⟨b,0,none⟩))) w | none=>.fail "range")
  |some (.map _ _),.map (some m)=>(match w.get m with
   |some (.map _ clock _)=>(match w.new (.mit (some m) clock [] clock) with | some (b,w)=>.ok (.value (.pointer (some ⟨b,0,none⟩))) w | none=>.fail "range")
   |_=>.fail "range")
  |_,_=>.fail "range"
def Vd(w:AW)(x:Value):R AN:=match x with | .iface t v=>.panic (.iface t v) w | _=>.fail "panic"
variable {A:AW} {mg:List FuncId} {kn:FuncId→List Value} {n:Nat} {s:ASt} {Q:Value→AW→Prop}
def Trie.ltB{α:Type}:Trie α→Nat→Bool
 |.nil,_=>true
 |.node v l r,n=>(v.isNone || Nat.blt 0 n)&&(l.ltB (n/2)&&r.ltB ((n-1)/2))
theorem Trie.LJ{α:Type}:∀ (t:Trie α) (n:Nat),t.ltB n=true→∀ i,n≤i→t.get? i=none
 |.nil,_,_,_,_=>rfl
 |.node v l r,n,h,i,hi=>by
  simp only [Trie.ltB,Bq,Bool.or_eq_true] at h;obtain ⟨hv,hl,hr⟩:=h;unfold Trie.get?;cases h0:Nat.beq i 0 with
  |true=>
   rw [Ct];obtain rfl:i=0:=Nb h0;rcases hv with hv | hv
   ·cases v with
    |none=>rfl
    |some _=>cases hv
   ·rw [show n=0 by omega] at hv;cases hv
  |false=>
   rw [Cf];have hne:i≠0:=fun e=>by subst e;cases h0
   cases h1:Nat.beq (i%2) 1 with
   |true=>
    rw [Ct]
    have:=Nb h1
    exact Trie.LJ l _ hl _ (by omega)
   |false=>
    rw [Cf]
    have:i%2≠1:=fun e=>by rw [e] at h1;cases h1
    exact Trie.LJ r _ hr _ (by omega)
theorem Xc(h:(A.heap.ltB A.next&&A.fams.ltB A.next)=true):AB A:=by
 rw [Bq] at h;exact ⟨Trie.LJ _ _ h.2,Trie.LJ _ _ h.1⟩
section
variable {P:Program} {X:Bc} {W0:World} {m0:Inj P}
theorem LY(hX:XOk P X)(hP:POk P){v:Value}(h:JD P X mg kn n s=some ([(v,A)],[]))(hq:Q v A):WP P X W0 m0 s Q:=
 (Df hX hP n h (fun k hk=>by cases hk)).wp fun x hx=>by
  obtain rfl:x=(v,A):=by simpa using hx
  exact hq
theorem Pw(hX:XOk P X)(hP:POk P){fuel:Nat}{ids:List Nat}{s':ASt}(h:chunk P X mg kn fuel n ids s=some (s',[]))(hq:WP P X W0 m0 s' Q):WP P X W0 m0 s Q:=
 (E3 hX hP h (fun k hk=>by cases hk)).wp1 hq
end
end Go.Abs
namespace Go.Proofs.YtkjlldaddekegaaGreatDoor
open Go.Abs
variable {f sz:Nat} {T:Nat→List Item} {L:Nat→List Tmp}
def Af:Bc:={ clone:=[105],noEscape:=[310],noZero:=[311],known:=[10,212] }
def sub:Code→List Nat→Code
 |c,[]=>c
 |.seq a _,0::p=>sub a p
 |.seq _ b,_::p=>sub b p
 |.cond _ a _,0::p=>sub a p
 |.cond _ _ b,_::p=>sub b p
 |.block _ b,_::p=>sub b p
 |.loop b,_::p=>sub b p
 |.rangeFunc _ _ a _,0::p=>sub a p
 |.rangeFunc _ _ _ b,_::p=>sub b p
 |.scope b,_::p=>sub b p
 |c,_=>c
noncomputable def cd(f:FuncId)(p:List Nat):Code:=match Tryz.prog.funcs[f]? with
 |some fn=>(match fn.body with | some c=>sub c p | none=>.skip)
 |none=>.skip
theorem gX:XOk Tryz.prog Af:=by
 refine ⟨fun f h=>?_,fun f h=>?_,fun f h=>?_⟩
 ·obtain rfl:f=105:=by simpa [Af] using FO h
  exact ⟨Tryz.f105,Tryz.func105,by kernel_rfl,by kernel_rfl,by kernel_rfl,by kernel_rfl⟩
 ·obtain rfl:f=310:=by simpa [Af] using FO h
  exact ⟨Tryz.f310,Tryz.func310,by kernel_rfl,by kernel_rfl,by kernel_rfl,by kernel_rfl⟩
 ·obtain rfl:f=311:=by simpa [Af] using FO h
  exact ⟨Tryz.f311,Tryz.func311,by kernel_rfl,by kernel_rfl,by kernel_rfl,by kernel_rfl,by kernel_rfl⟩
theorem gP:POk Tryz.prog:=Vc (by kernel_rfl) (by kernel_rfl)
theorem Ji:Plain Af:=⟨rfl,rfl,rfl⟩
def Wf0(f sz:Nat)(T:Nat→List Item)(L:Nat→List Tmp):Prop:=∀ {W0:World} {m0:Inj Tryz.prog} {S:Nat→List Value→AW→Prop} {Q:Value→AW→Prop} (A:AW),Nq Tryz.prog Af W0 m0 f T L S Q sz→AM Tryz.prog Af W0 m0 f T L S Q none 4000 (Tm.fill ⟨sz,.nil⟩ 0 []) [.code (cd f [])] false 0 0 0 [] A→Wc Tryz.prog Af W0 m0 f [] A Q
theorem wf0(n:AD Tryz.prog f [] .normal=some (frM f (Tm.fill ⟨sz,.nil⟩ 0 []) [.code (cd f [])] false))(hs:sz<Ak)(hz:(Tm.fill ⟨sz,.nil⟩ 0 []).sz=sz):Wf0 f sz T L:=fun _ hc h=>Px gX gP Ji hs hc (n) (hz) h
def Wf1(f sz:Nat)(T:Nat→List Item)(L:Nat→List Tmp):Prop:=∀ {W0:World} {m0:Inj Tryz.prog} {S:Nat→List Value→AW→Prop} {Q:Value→AW→Prop} (a0:Value) (A:AW),Nq Tryz.prog Af W0 m0 f T L S Q sz→AM Tryz.prog Af W0 m0 f T L S Q none 4000 (Tm.fill ⟨sz,.nil⟩ 0 [a0]) [.code (cd f [])] false 0 0 0 [] A→Wc Tryz.prog Af W0 m0 f [a0] A Q
theorem wf1(n:∀ (a0:Value),AD Tryz.prog f [a0] .normal=some (frM f (Tm.fill ⟨sz,.nil⟩ 0 [a0]) [.code (cd f [])] false))(hs:sz<Ak)(hz:∀ (a0:Value),(Tm.fill ⟨sz,.nil⟩ 0 [a0]).sz=sz):Wf1 f sz T L:=fun a0 _ hc h=>Px gX gP Ji hs hc (n a0) (hz a0) h
def Wf2(f sz:Nat)(T:Nat→List Item)(L:Nat→List Tmp):Prop:=∀ {W0:World} {m0:Inj Tryz.prog} {S:Nat→List Value→AW→Prop} {Q:Value→AW→Prop} (a0 a1:Value) (A:AW),Nq Tryz.prog Af W0 m0 f T L S Q sz→AM Tryz.prog Af W0 m0 f T L S Q none 4000 (Tm.fill ⟨sz,.nil⟩ 0 [a0,a1]) [.code (cd f [])] false 0 0 0 [] A→Wc Tryz.prog Af W0 m0 f [a0,a1] A Q
theorem wf2(n:∀ (a0 a1:Value),AD Tryz.prog f [a0,a1] .normal=some (frM f (Tm.fill ⟨sz,.nil⟩ 0 [a0,a1]) [.code (cd f [])] false))(hs:sz<Ak)(hz:∀ (a0 a1:Value),(Tm.fill ⟨sz,.nil⟩ 0 [a0,a1]).sz=sz):Wf2 f sz T L:=fun a0 a1 _ hc h=>Px gX gP Ji hs hc (n a0 a1) (hz a0 a1) h
def Wf3(f sz:Nat)(T:Nat→List Item)(L:Nat→List Tmp):Prop:=∀ {W0:World} {m0:Inj Tryz.prog} {S:Nat→List Value→AW→Prop} {Q:Value→AW→Prop} (a0 a1 a2:Value) (A:AW),Nq Tryz.prog Af W0 m0 f T L S Q sz→AM Tryz.prog Af W0 m0 f T L S Q none 4000 (Tm.fill ⟨sz,.nil⟩ 0 [a0,a1,a2]) [.code (cd f [])] false 0 0 0 [] A→Wc Tryz.prog Af W0 m0 f [a0,a1,a2] A Q
theorem wf3(n:∀ (a0 a1 a2:Value),AD Tryz.prog f [a0,a1,a2] .normal=some (frM f (Tm.fill ⟨sz,.nil⟩ 0 [a0,a1,a2]) [.code (cd f [])] false))(hs:sz<Ak)(hz:∀ (a0 a1 a2:Value),(Tm.fill ⟨sz,.nil⟩ 0 [a0,a1,a2]).sz=sz):Wf3 f sz T L:=fun a0 a1 a2 _ hc h=>Px gX gP Ji hs hc (n a0 a1 a2) (hz a0 a1 a2) h
def Wf5(f sz:Nat)(T:Nat→List Item)(L:Nat→List Tmp):Prop:=∀ {W0:World} {m0:Inj Tryz.prog} {S:Nat→List Value→AW→Prop} {Q:Value→AW→Prop} (a0 a1 a2 a3 a4:Value) (A:AW),Nq Tryz.prog Af W0 m0 f T L S Q sz→AM Tryz.prog Af W0 m0 f T L S Q none 4000 (Tm.fill ⟨sz,.nil⟩ 0 [a0,a1,a2,a3,a4]) [.code (cd f [])] false 0 0 0 [] A→Wc Tryz.prog Af W0 m0 f [a0,a1,a2,a3,a4] A Q
theorem wf5(n:∀ (a0 a1 a2 a3 a4:Value),AD Tryz.prog f [a0,a1,a2,a3,a4] .normal=some (frM f (Tm.fill ⟨sz,.nil⟩ 0 [a0,a1,a2,a3,a4]) [.code (cd f [])] false))(hs:sz<Ak)(hz:∀ (a0 a1 a2 a3 a4:Value),(Tm.fill ⟨sz,.nil⟩ 0 [a0,a1,a2,a3,a4]).sz=sz):Wf5 f sz T L:=fun a0 a1 a2 a3 a4 _ hc h=>Px gX gP Ji hs hc (n a0 a1 a2 a3 a4) (hz a0 a1 a2 a3 a4) h
def Fy(f sz:Nat)(T:Nat→List Item)(L:Nat→List Tmp):Prop:=∀ {W0:World} {m0:Inj Tryz.prog} {Q:Value→AW→Prop} {I:Nat→Nat→List Value→AW→Prop},(∀ g id vals A d,I g id vals A→(L id).map d=vals→AM Tryz.prog Af W0 m0 f T L (fun id v A=>∃ g2,g2<g∧I g2 id v A) Q none 4000 (DD sz d) (T id) false 0 0 0 [] A)→Nq Tryz.prog Af W0 m0 f T L (fun id v A=>∃ g,I g id v A) Q sz
theorem Ga(hs:sz<Ak):Fy f sz T L:=fun h=>Xw gX gP Ji hs h
noncomputable def T4:Nat→List Item:=fun i=>match i with
 |0=>[(.code (cd 4 [1,1,1,1,1,1,1,0,1,0,0])),(.inLoop (cd 4 [1,1,1,1,1,1,1,0,1,0,0])),(.inBlock 0),(.code (cd 4 [1,1,1,1,1,1,1,1]))]
 |2=>[(.code (cd 4 [1,1,1,1,1,1,1,0,1,0,0,1,0,0,1,1,1,0,1,0,0])),(.inLoop (cd 4 [1,1,1,1,1,1,1,0,1,0,0,1,0,0,1,1,1,0,1,0,0])),(.inBlock 2),(.code (cd 4 [1,1,1,1,1,1,1,0,1,0,0,1,0,0,1,1,1,1])),(.inBlock 1),(.code (cd 4 [1,1,1,1,1,1,1,0,1,0,0,1,1])),(.inLoop (cd 4 [1,1,1,1,1,1,1,0,1,0,0])),(.inBlock 0),(.code (cd 4 [1,1,1,1,1,1,1,1]))]
 |_=>[]
noncomputable def T8:Nat→List Item:=fun i=>match i with
 |_=>[]
def L8:Nat→List Tmp:=fun i=>match i with
 |_=>[]
theorem e8(W0:World)(m0:Inj Tryz.prog)(S:Nat→List Value→AW→Prop)(Q:Value→AW→Prop)(a0:Value)(A:AW):AM Tryz.prog Af W0 m0 8 T8 L8 S Q none 4000 (Tm.fill ⟨11,.nil⟩ 0 [a0]) [.code (cd 8 [])] false 0 0 0 [] A=(Wc Tryz.prog Af W0 m0 26 [a0] A fun t0 At0=>Aa (unA Tryz.prog .not t0) fun t1=>Ae t1 (Q (.int .u32 0) At0) (Aa (BQ a0) fun t2=>Aa (Ac Tryz.prog 79 t2 0) fun t3=>Aa (Ad Tryz.prog At0 72 t3) fun t4=>Wc Tryz.prog Af W0 m0 27 [t4] At0 fun t5 At5=>Q t5 At5)):=by kernel_rfl
theorem n8(a0:Value):AD Tryz.prog 8 [a0] .normal=some (frM 8 (Tm.fill ⟨11,.nil⟩ 0 [a0]) [.code (cd 8 [])] false):=by kernel_rfl
theorem w8:Wf1 8 11 T8 L8:=wf1 n8 (by decide) fun _=>rfl
noncomputable def T27:Nat→List Item:=fun i=>match i with
 |_=>[]
def L27:Nat→List Tmp:=fun i=>match i with
 |_=>[]
theorem e27(W0:World)(m0:Inj Tryz.prog)(S:Nat→List Value→AW→Prop)(Q:Value→AW→Prop)(a0:Value)(A:AW):AM Tryz.prog Af W0 m0 27 T27 L27 S Q none 4000 (Tm.fill ⟨10,.nil⟩ 0 [a0]) [.code (cd 27 [])] false 0 0 0 [] A=(Wc Tryz.prog Af W0 m0 63 [a0] A fun t0 At0=>Aa (unA Tryz.prog .not t0) fun t1=>Ae t1 (Q (.int .u32 0) At0) (Aa (BQ a0) fun t2=>Aa (Ac Tryz.prog 121 t2 1) fun t3=>Aa (Ad Tryz.prog At0 22 t3) fun t4=>Q t4 At0)):=by kernel_rfl
theorem n27(a0:Value):AD Tryz.prog 27 [a0] .normal=some (frM 27 (Tm.fill ⟨10,.nil⟩ 0 [a0]) [.code (cd 27 [])] false):=by kernel_rfl
theorem w27:Wf1 27 10 T27 L27:=wf1 n27 (by decide) fun _=>rfl
noncomputable def T63:Nat→List Item:=fun i=>match i with
 |_=>[]
def L63:Nat→List Tmp:=fun i=>match i with
 |_=>[]
theorem e63(W0:World)(m0:Inj Tryz.prog)(S:Nat→List Value→AW→Prop)(Q:Value→AW→Prop)(a0:Value)(A:AW):AM Tryz.prog Af W0 m0 63 T63 L63 S Q none 4000 (Tm.fill ⟨12,.nil⟩ 0 [a0]) [.code (cd 63 [])] false 0 0 0 [] A=(Aa (Ah Tryz.prog .neq 72 (.tmp 3) (.const (.pointer none)) a0 (.pointer none)) fun t0=>Ae t0 (Aa (BQ a0) fun t1=>Aa (Ac Tryz.prog 121 t1 2) fun t2=>Aa (Ad Tryz.prog A 119 t2) fun t3=>Aa (Ah Tryz.prog .neq 119 (.tmp 9) (.const (.map none)) t3 (.map none)) fun t4=>Q t4 A) (Q (.bool false) A)):=by kernel_rfl
theorem n63(a0:Value):AD Tryz.prog 63 [a0] .normal=some (frM 63 (Tm.fill ⟨12,.nil⟩ 0 [a0]) [.code (cd 63 [])] false):=by kernel_rfl
theorem w63:Wf1 63 12 T63 L63:=wf1 n63 (by decide) fun _=>rfl
noncomputable def T12:Nat→List Item:=fun i=>match i with
 |_=>[]
def L12:Nat→List Tmp:=fun i=>match i with
 |_=>[]
theorem e12(W0:World)(m0:Inj Tryz.prog)(S:Nat→List Value→AW→Prop)(Q:Value→AW→Prop)(a0:Value)(A:AW):AM Tryz.prog Af W0 m0 12 T12 L12 S Q none 4000 (Tm.fill ⟨15,.nil⟩ 0 [a0]) [.code (cd 12 [])] false 0 0 0 [] A=(Wc Tryz.prog Af W0 m0 26 [a0] A fun t0 At0=>Aa (unA Tryz.prog .not t0) fun t1=>Ae t1 (Q (.slice none 0 0) At0) (Aa (BQ a0) fun t2=>Aa (Ac Tryz.prog 79 t2 6) fun t3=>Aa (Ad Tryz.prog At0 41 t3) fun t4=>Aa (BQ a0) fun t5=>Aa (Ac Tryz.prog 79 t5 6) fun t6=>AQ (Am Tryz.prog At0 41 t6 (.slice none 0 0)) fun At7=>Q t4 At7)):=by kernel_rfl
theorem n12(a0:Value):AD Tryz.prog 12 [a0] .normal=some (frM 12 (Tm.fill ⟨15,.nil⟩ 0 [a0]) [.code (cd 12 [])] false):=by kernel_rfl
theorem w12:Wf1 12 15 T12 L12:=wf1 n12 (by decide) fun _=>rfl
noncomputable def T26:Nat→List Item:=fun i=>match i with
 |_=>[]
def L26:Nat→List Tmp:=fun i=>match i with
 |_=>[]
theorem e26(W0:World)(m0:Inj Tryz.prog)(S:Nat→List Value→AW→Prop)(Q:Value→AW→Prop)(a0:Value)(A:AW):AM Tryz.prog Af W0 m0 26 T26 L26 S Q none 4000 (Tm.fill ⟨12,.nil⟩ 0 [a0]) [.code (cd 26 [])] false 0 0 0 [] A=(Aa (Ah Tryz.prog .neq 27 (.tmp 3) (.const (.pointer none)) a0 (.pointer none)) fun t0=>Ae t0 (Aa (BQ a0) fun t1=>Aa (Ac Tryz.prog 79 t1 3) fun t2=>Aa (Ad Tryz.prog A 75 t2) fun t3=>Aa (Ah Tryz.prog .neq 75 (.tmp 9) (.const (.map none)) t3 (.map none)) fun t4=>Q t4 A) (Q (.bool false) A)):=by kernel_rfl
theorem n26(a0:Value):AD Tryz.prog 26 [a0] .normal=some (frM 26 (Tm.fill ⟨12,.nil⟩ 0 [a0]) [.code (cd 26 [])] false):=by kernel_rfl
theorem w26:Wf1 26 12 T26 L26:=wf1 n26 (by decide) fun _=>rfl
noncomputable def T71:Nat→List Item:=fun i=>match i with
 |_=>[]
def L71:Nat→List Tmp:=fun i=>match i with
 |_=>[]
theorem e71(W0:World)(m0:Inj Tryz.prog)(S:Nat→List Value→AW→Prop)(Q:Value→AW→Prop)(a0:Value)(A:AW):AM Tryz.prog Af W0 m0 71 T71 L71 S Q none 4000 (Tm.fill ⟨19,.nil⟩ 0 [a0]) [.code (cd 71 [])] false 0 0 0 [] A=(Wc Tryz.prog Af W0 m0 26 [a0] A fun t0 At0=>Aa (unA Tryz.prog .not t0) fun t1=>Ae t1 (Q (.bool true) At0) (Aa (BQ a0) fun t2=>Aa (Ac Tryz.prog 79 t2 7) fun t3=>Aa (Ad Tryz.prog At0 4 t3) fun t4=>Ae t4 (Q (.bool true) At0) (Aa (BQ a0) fun t5=>Aa (Ac Tryz.prog 79 t5 1) fun t6=>Aa (Ad Tryz.prog At0 25 t6) fun t7=>Wc Tryz.prog Af W0 m0 106 [t7] At0 fun t8 At8=>Q t8 At8))):=by kernel_rfl
theorem n71(a0:Value):AD Tryz.prog 71 [a0] .normal=some (frM 71 (Tm.fill ⟨19,.nil⟩ 0 [a0]) [.code (cd 71 [])] false):=by kernel_rfl
theorem w71:Wf1 71 19 T71 L71:=wf1 n71 (by decide) fun _=>rfl
noncomputable def AcB:Nat→List Item:=fun i=>match i with
 |_=>[]
def Adc:Nat→List Tmp:=fun i=>match i with
 |_=>[]
theorem Afk(W0:World)(m0:Inj Tryz.prog)(S:Nat→List Value→AW→Prop)(Q:Value→AW→Prop)(a0:Value)(A:AW):AM Tryz.prog Af W0 m0 106 AcB Adc S Q none 4000 (Tm.fill ⟨12,.nil⟩ 0 [a0]) [.code (cd 106 [])] false 0 0 0 [] A=(Wc Tryz.prog Af W0 m0 51 [a0] A fun t0 At0=>Aa (unA Tryz.prog .not t0) fun t1=>Ae t1 (Q (.bool true) At0) (Aa (BQ a0) fun t2=>Aa (Ac Tryz.prog 70 t2 3) fun t3=>Aa (Ad Tryz.prog At0 4 t3) fun t4=>Q t4 At0)):=by kernel_rfl
theorem n106(a0:Value):AD Tryz.prog 106 [a0] .normal=some (frM 106 (Tm.fill ⟨12,.nil⟩ 0 [a0]) [.code (cd 106 [])] false):=by kernel_rfl
theorem Aek:Wf1 106 12 AcB Adc:=wf1 n106 (by decide) fun _=>rfl
noncomputable def T51:Nat→List Item:=fun i=>match i with
 |_=>[]
def L51:Nat→List Tmp:=fun i=>match i with
 |_=>[]
theorem e51(W0:World)(m0:Inj Tryz.prog)(S:Nat→List Value→AW→Prop)(Q:Value→AW→Prop)(a0:Value)(A:AW):AM Tryz.prog Af W0 m0 51 T51 L51 S Q none 4000 (Tm.fill ⟨12,.nil⟩ 0 [a0]) [.code (cd 51 [])] false 0 0 0 [] A=(Aa (Ah Tryz.prog .neq 25 (.tmp 3) (.const (.pointer none)) a0 (.pointer none)) fun t0=>Ae t0 (Aa (BQ a0) fun t1=>Aa (Ac Tryz.prog 70 t1 0) fun t2=>Aa (Ad Tryz.prog A 68 t2) fun t3=>Aa (Ah Tryz.prog .neq 68 (.tmp 9) (.const (.map none)) t3 (.map none)) fun t4=>Q t4 A) (Q (.bool false) A)):=by kernel_rfl
theorem n51(a0:Value):AD Tryz.prog 51 [a0] .normal=some (frM 51 (Tm.fill ⟨12,.nil⟩ 0 [a0]) [.code (cd 51 [])] false):=by kernel_rfl
theorem w51:Wf1 51 12 T51 L51:=wf1 n51 (by decide) fun _=>rfl
noncomputable def T32:Nat→List Item:=fun i=>match i with
 |_=>[]
def L32:Nat→List Tmp:=fun i=>match i with
 |_=>[]
theorem e32(W0:World)(m0:Inj Tryz.prog)(S:Nat→List Value→AW→Prop)(Q:Value→AW→Prop)(a0 a1:Value)(A:AW):AM Tryz.prog Af W0 m0 32 T32 L32 S Q none 4000 (Tm.fill ⟨14,.nil⟩ 0 [a0,a1]) [.code (cd 32 [])] false 0 0 0 [] A=(Wc Tryz.prog Af W0 m0 26 [a0] A fun t0 At0=>Aa (unA Tryz.prog .not t0) fun t1=>Ae t1 (Q (.int .i64 1) At0) (Wc Tryz.prog Af W0 m0 71 [a0] At0 fun t2 At2=>Ae t2 (Q (.int .i64 100) At2) (anW Tryz.prog Af W0 m0 (EL Tryz.prog Af At2 a1 []) fun t3 At3=>Q t3 At3))):=by kernel_rfl
theorem n32(a0 a1:Value):AD Tryz.prog 32 [a0,a1] .normal=some (frM 32 (Tm.fill ⟨14,.nil⟩ 0 [a0,a1]) [.code (cd 32 [])] false):=by kernel_rfl
theorem w32:Wf2 32 14 T32 L32:=wf2 n32 (by decide) fun _ _=>rfl
noncomputable def T42:Nat→List Item:=fun i=>match i with
 |0=>[(.code (cd 42 [1,1,1,0,1,0,0])),(.inLoop (cd 42 [1,1,1,0,1,0,0])),(.inBlock 0),(.code (cd 42 [1,1,1,1]))]
 |_=>[]
noncomputable def T97:Nat→List Item:=fun i=>match i with
 |_=>[]
def L97:Nat→List Tmp:=fun i=>match i with
 |_=>[]
theorem e97(W0:World)(m0:Inj Tryz.prog)(S:Nat→List Value→AW→Prop)(Q:Value→AW→Prop)(a0:Value)(A:AW):AM Tryz.prog Af W0 m0 97 T97 L97 S Q none 4000 (Tm.fill ⟨18,.nil⟩ 0 [a0]) [.code (cd 97 [])] false 0 0 0 [] A=(Al (Cq A (Value.cells a0).toList 24) fun t0 At0=>Aa (Ac Tryz.prog 24 t0 1) fun t1=>Aa (Ad Tryz.prog At0 9 t1) fun t2=>Aa (Ah Tryz.prog .eql 9 (.tmp 4) (.const (.string ⟨⟨[]⟩⟩)) t2 (.string ⟨⟨[]⟩⟩)) fun t3=>Ae t3 (Q (.int .i64 40) At0) (Aa (Ac Tryz.prog 24 t0 1) fun t4=>Aa (Ad Tryz.prog At0 9 t4) fun t5=>Aa (Br Tryz.prog At0 9 t5) fun t6=>Aa (Ah Tryz.prog .gtr 3 (.tmp 9) (.const (.int .i64 64)) t6 (.int .i64 64)) fun t7=>Ae t7 (Q (.int .i64 40) At0) (Aa (Ac Tryz.prog 24 t0 2) fun t8=>Aa (Ad Tryz.prog At0 9 t8) fun t9=>Aa (Br Tryz.prog At0 9 t9) fun t10=>Aa (Ah Tryz.prog .gtr 3 (.tmp 15) (.const (.int .i64 64)) t10 (.int .i64 64)) fun t11=>Ae t11 (Q (.int .i64 40) At0) (Q (.int .i64 0) At0)))):=by kernel_rfl
theorem n97(a0:Value):AD Tryz.prog 97 [a0] .normal=some (frM 97 (Tm.fill ⟨18,.nil⟩ 0 [a0]) [.code (cd 97 [])] false):=by kernel_rfl
theorem w97:Wf1 97 18 T97 L97:=wf1 n97 (by decide) fun _=>rfl
noncomputable def T81:Nat→List Item:=fun i=>match i with
 |_=>[]
def L81:Nat→List Tmp:=fun i=>match i with
 |_=>[]
theorem e81(W0:World)(m0:Inj Tryz.prog)(S:Nat→List Value→AW→Prop)(Q:Value→AW→Prop)(a0:Value)(A:AW):AM Tryz.prog Af W0 m0 81 T81 L81 S Q none 4000 (Tm.fill ⟨104,.nil⟩ 0 [a0]) [.code (cd 81 [])] false 0 0 0 [] A=(Al (Cq A (Value.cells a0).toList 50) fun t0 At0=>Aa (Ac Tryz.prog 50 t0 0) fun t1=>Aa (Ad Tryz.prog At0 24 t1) fun t2=>Aa (Ac Tryz.prog 50 t0 3) fun t3=>Aa (Ad Tryz.prog At0 48 t3) fun t4=>Wc Tryz.prog Af W0 m0 149 [t4] At0 fun t5 At5=>Aa (Ad Tryz.prog At5 24 t1) fun t6=>eqW t6 t2 (Aa (Ac Tryz.prog 50 t0 0) fun t7=>eqW t7 t1 (Aa (Aw Tryz.prog 83 [(0,t2),(1,t5)]) fun t8=>Wc Tryz.prog Af W0 m0 65 [t8] At5 fun t9 At9=>Aa (Ah Tryz.prog .eql 28 (.tmp 10) (.const (.int .i64 0)) t9 (.int .i64 0)) fun t10=>Ae t10 (Al (Aq Tryz.prog At9 223 5 [(0,(.int .u8 0)),(1,(.int .u8 1)),(2,(.int .u8 2)),(3,(.int .u8 3)),(4,(.int .u8 4))]) fun t11 At11=>Cm (Bi Tryz.prog (BJ (Tm.fill ⟨5,.nil⟩ 0 [(.int .u8 0),(.int .u8 1),(.int .u8 2),(.int .u8 3),(.int .u8 4)])) (.buildSlice 223 5 #[(0,.tmp 0),(1,.tmp 1),(2,.tmp 2),(3,.tmp 3),(4,.tmp 4)])) At11 t11 (eqW t10 t10 (Aa (Ah Tryz.prog .eql 28 (.tmp 10) (.const (.int .i64 0)) t9 (.int .i64 0)) fun t12=>eqW t12 t10 (Aa (Aw Tryz.prog 83 [(0,t2),(1,t5)]) fun t13=>eqW t13 t8 (Aa (Ad Tryz.prog At11 48 t3) fun t14=>eqW t14 t4 (Aa (Ac Tryz.prog 50 t0 3) fun t15=>eqW t15 t3 (Aa (Ad Tryz.prog At11 24 t1) fun t16=>eqW t16 t2 (Aa (Ac Tryz.prog 50 t0 0) fun t17=>eqW t17 t1 (Aa (Ac Tryz.prog 50 t0 3) fun t18=>Aa (Ad Tryz.prog At11 48 t18) fun t19=>Wc Tryz.prog Af W0 m0 150 [t19,t11] At11 fun t20 At20=>Ae t20 (Aa (Ac Tryz.prog 50 t0 4) fun t21=>Aa (Ad Tryz.prog At20 22 t21) fun t22=>Aa (Ah Tryz.prog .leq 22 (.tmp 20) (.const (.int .u32 3)) t22 (.int .u32 3)) fun t23=>Ae t23 (Aa (Ac Tryz.prog 50 t0 5) fun t24=>Aa (Ad Tryz.prog At20 22 t24) fun t25=>Aa (Ah Tryz.prog .leq 22 (.tmp 25) (.const (.int .u32 5)) t25 (.int .u32 5)) fun t26=>Aa (Ac Tryz.prog 50 t0 1) fun t27=>Aa (Ad Tryz.prog At20 47 t27) fun t28=>Aa (Ah Tryz.prog .eql 47 (.tmp 29) (.const (.int .u8 1)) t28 (.int .u8 1)) fun t29=>Ae t29 (Ae t26 (Aa (Ac Tryz.prog 50 t0 2) fun t30=>Aa (Ad Tryz.prog At20 4 t30) fun t31=>Aa (unA Tryz.prog .not t31) fun t32=>Ae t32 (Aa (Ac Tryz.prog 50 t0 3) fun t33=>Aa (Ad Tryz.prog At20 48 t33) fun t34=>Al (Aq Tryz.prog At20 223 1 [(0,(.int .u8 0))]) fun t35 At35=>Wc Tryz.prog Af W0 m0 150 [t34,t35] At35 fun t36 At36=>Aa (unA Tryz.prog .not t36) fun t37=>Ae t37 (Q (.int .i64 270) At36) (Q (.int .i64 0) At36)) (Aa (unA Tryz.prog .not (.bool false)) fun t38=>Ae t38 (Q (.int .i64 270) At20) (Q (.int .i64 0) At20))) (Aa (unA Tryz.prog .not (.bool false)) fun t39=>Ae t39 (Q (.int .i64 270) At20) (Q (.int .i64 0) At20))) (Aa (Ah Tryz.prog .eql 47 (.tmp 29) (.const (.int .u8 2)) t28 (.int .u8 2)) fun t40=>Ae t40 (Ae t26 (Aa (Ac Tryz.prog 50 t0 2) fun t41=>Aa (Ad Tryz.prog At20 4 t41) fun t42=>Aa (unA Tryz.prog .not t42) fun t43=>Ae t43 (Aa (Ac Tryz.prog 50 t0 3) fun t44=>Aa (Ad Tryz.prog At20 48 t44) fun t45=>Al (Aq Tryz.prog At20 223 3 [(0,(.int .u8 0)),(1,(.int .u8 1)),(2,(.int .u8 2))]) fun t46 At46=>Wc Tryz.prog Af W0 m0 150 [t45,t46] At46 fun t47 At47=>Aa (unA Tryz.prog .not t47) fun t48=>Ae t48 (Q (.int .i64 270) At47) (Q (.int .i64 0) At47)) (Aa (unA Tryz.prog .not (.bool false)) fun t49=>Ae t49 (Q (.int .i64 270) At20) (Q (.int .i64 0) At20))) (Aa (unA Tryz.prog .not (.bool false)) fun t50=>Ae t50 (Q (.int .i64 270) At20) (Q (.int .i64 0) At20))) (Aa (Ah Tryz.prog .eql 47 (.tmp 29) (.const (.int .u8 3)) t28 (.int .u8 3)) fun t51=>Ae t51 (Ae t26 (Aa (Ac Tryz.prog 50 t0 2) fun t52=>Aa (Ad Tryz.prog At20 4 t52) fun t53=>Ae t53 (Aa (Ac Tryz.prog 50 t0 3) fun t54=>Aa (Ad Tryz.prog At20 48 t54) fun t55=>Al (Aq Tryz.prog At20 223 1 [(0,(.int .u8 0))]) fun t56 At56=>Wc Tryz.prog Af W0 m0 151 [t55,t56] At56 fun t57 At57=>Aa (unA Tryz.prog .not t57) fun t58=>Ae t58 (Aa (Ac Tryz.prog 50 t0 3) fun t59=>Aa (Ad Tryz.prog At57 48 t59) fun t60=>Al (Aq Tryz.prog At57 223 1 [(0,(.int .u8 1))]) fun t61 At61=>Wc Tryz.prog Af W0 m0 151 [t60,t61] At61 fun t62 At62=>Aa (unA Tryz.prog .not t62) fun t63=>Ae t63 (Q (.int .i64 270) At62) (Q (.int .i64 0) At62)) (Aa (unA Tryz.prog .not (.bool false)) fun t64=>Ae t64 (Q (.int .i64 270) At57) (Q (.int .i64 0) At57))) (Aa (unA Tryz.prog .not (.bool false)) fun t65=>Ae t65 (Q (.int .i64 270) At20) (Q (.int .i64 0) At20))) (Aa (unA Tryz.prog .not (.bool false)) fun t66=>Ae t66 (Q (.int .i64 270) At20) (Q (.int .i64 0) At20))) (Aa (Ah Tryz.prog .eql 47 (.tmp 29) (.const (.int .u8 4)) t28 (.int .u8 4)) fun t67=>Ae t67 (Ae t26 (Aa (Ac Tryz.prog 50 t0 2) fun t68=>Aa (Ad Tryz.prog At20 4 t68) fun t69=>Aa (unA Tryz.prog .not t69) fun t70=>Ae t70 (Aa (Ac Tryz.prog 50 t0 3) fun t71=>Aa (Ad Tryz.prog At20 48 t71) fun t72=>Al (Aq Tryz.prog At20 223 2 [(0,(.int .u8 0)),(1,(.int .u8 1))]) fun t73 At73=>Wc Tryz.prog Af W0 m0 151 [t72,t73] At73 fun t74 At74=>Aa (unA Tryz.prog .not t74) fun t75=>Ae t75 (Q (.int .i64 270) At74) (Q (.int .i64 0) At74)) (Aa (unA Tryz.prog .not (.bool false)) fun t76=>Ae t76 (Q (.int .i64 270) At20) (Q (.int .i64 0) At20))) (Aa (unA Tryz.prog .not (.bool false)) fun t77=>Ae t77 (Q (.int .i64 270) At20) (Q (.int .i64 0) At20))) (Aa (Ah Tryz.prog .eql 47 (.tmp 29) (.const (.int .u8 5)) t28 (.int .u8 5)) fun t78=>Ae t78 (Ae t26 (Aa (Ac Tryz.prog 50 t0 3) fun t79=>Aa (Ad Tryz.prog At20 48 t79) fun t80=>Al (Aq Tryz.prog At20 223 2 [(0,(.int .u8 0)),(1,(.int .u8 1))]) fun t81 At81=>Wc Tryz.prog Af W0 m0 151 [t80,t81] At81 fun t82 At82=>Aa (unA Tryz.prog .not t82) fun t83=>Aa (unA Tryz.prog .not t83) fun t84=>Ae t84 (Q (.int .i64 270) At82) (Q (.int .i64 0) At82)) (Aa (unA Tryz.prog .not (.bool false)) fun t85=>Ae t85 (Q (.int .i64 270) At20) (Q (.int .i64 0) At20))) (Aa (unA Tryz.prog .not (.bool false)) fun t86=>Ae t86 (Q (.int .i64 270) At20) (Q (.int .i64 0) At20))))))) (Aa (Ac Tryz.prog 50 t0 1) fun t87=>Aa (Ad Tryz.prog At20 47 t87) fun t88=>Aa (Ah Tryz.prog .eql 47 (.tmp 29) (.const (.int .u8 1)) t88 (.int .u8 1)) fun t89=>Ae t89 (Aa (unA Tryz.prog .not (.bool false)) fun t90=>Ae t90 (Q (.int .i64 270) At20) (Q (.int .i64 0) At20)) (Aa (Ah Tryz.prog .eql 47 (.tmp 29) (.const (.int .u8 2)) t88 (.int .u8 2)) fun t91=>Ae t91 (Aa (unA Tryz.prog .not (.bool false)) fun t92=>Ae t92 (Q (.int .i64 270) At20) (Q (.int .i64 0) At20)) (Aa (Ah Tryz.prog .eql 47 (.tmp 29) (.const (.int .u8 3)) t88 (.int .u8 3)) fun t93=>Ae t93 (Aa (unA Tryz.prog .not (.bool false)) fun t94=>Ae t94 (Q (.int .i64 270) At20) (Q (.int .i64 0) At20)) (Aa (Ah Tryz.prog .eql 47 (.tmp 29) (.const (.int .u8 4)) t88 (.int .u8 4)) fun t95=>Ae t95 (Aa (unA Tryz.prog .not (.bool false)) fun t96=>Ae t96 (Q (.int .i64 270) At20) (Q (.int .i64 0) At20)) (Aa (Ah Tryz.prog .eql 47 (.tmp 29) (.const (.int .u8 5)) t88 (.int .u8 5)) fun t97=>Ae t97 (Aa (unA Tryz.prog .not (.bool false)) fun t98=>Ae t98 (Q (.int .i64 270) At20) (Q (.int .i64 0) At20)) (Aa (unA Tryz.prog .not (.bool false)) fun t99=>Ae t99 (Q (.int .i64 270) At20) (Q (.int .i64 0) At20)))))))) (Aa (Ac Tryz.prog 50 t0 1) fun t100=>Aa (Ad Tryz.prog At20 47 t100) fun t101=>Aa (Ah Tryz.prog .eql 47 (.tmp 29) (.const (.int .u8 1)) t101 (.int .u8 1)) fun t102=>Ae t102 (Aa (unA Tryz.prog .not (.bool false)) fun t103=>Ae t103 (Q (.int .i64 270) At20) (Q (.int .i64 0) At20)) (Aa (Ah Tryz.prog .eql 47 (.tmp 29) (.const (.int .u8 2)) t101 (.int .u8 2)) fun t104=>Ae t104 (Aa (unA Tryz.prog .not (.bool false)) fun t105=>Ae t105 (Q (.int .i64 270) At20) (Q (.int .i64 0) At20)) (Aa (Ah Tryz.prog .eql 47 (.tmp 29) (.const (.int .u8 3)) t101 (.int .u8 3)) fun t106=>Ae t106 (Aa (unA Tryz.prog .not (.bool false)) fun t107=>Ae t107 (Q (.int .i64 270) At20) (Q (.int .i64 0) At20)) (Aa (Ah Tryz.prog .eql 47 (.tmp 29) (.const (.int .u8 4)) t101 (.int .u8 4)) fun t108=>Ae t108 (Aa (unA Tryz.prog .not (.bool false)) fun t109=>Ae t109 (Q (.int .i64 270) At20) (Q (.int .i64 0) At20)) (Aa (Ah Tryz.prog .eql 47 (.tmp 29) (.const (.int .u8 5)) t101 (.int .u8 5)) fun t110=>Ae t110 (Aa (unA Tryz.prog .not (.bool false)) fun t111=>Ae t111 (Q (.int .i64 270) At20) (Q (.int .i64 0) At20)) (Aa (unA Tryz.prog .not (.bool false)) fun t112=>Ae t112 (Q (.int .i64 270) At20) (Q (.int .i64 0) At20)))))))))))))))) (eqW undef undef (eqW t10 t10 (Aa (Ah Tryz.prog .eql 28 (.tmp 10) (.const (.int .i64 0)) t9 (.int .i64 0)) fun t113=>eqW t113 t10 (Aa (Aw Tryz.prog 83 [(0,t2),(1,t5)]) fun t114=>eqW t114 t8 (Aa (Ad Tryz.prog At9 48 t3) fun t115=>eqW t115 t4 (Aa (Ac Tryz.prog 50 t0 3) fun t116=>eqW t116 t3 (Aa (Ad Tryz.prog At9 24 t1) fun t117=>eqW t117 t2 (Aa (Ac Tryz.prog 50 t0 0) fun t118=>eqW t118 t1 (Aa (Ac Tryz.prog 50 t0 1) fun t119=>Aa (Ad Tryz.prog At9 47 t119) fun t120=>Aa (Ah Tryz.prog .eql 47 (.tmp 29) (.const (.int .u8 1)) t120 (.int .u8 1)) fun t121=>Ae t121 (Aa (unA Tryz.prog .not (.bool false)) fun t122=>Ae t122 (Q (.int .i64 270) At9) (Q (.int .i64 0) At9)) (Aa (Ah Tryz.prog .eql 47 (.tmp 29) (.const (.int .u8 2)) t120 (.int .u8 2)) fun t123=>Ae t123 (Aa (unA Tryz.prog .not (.bool false)) fun t124=>Ae t124 (Q (.int .i64 270) At9) (Q (.int .i64 0) At9)) (Aa (Ah Tryz.prog .eql 47 (.tmp 29) (.const (.int .u8 3)) t120 (.int .u8 3)) fun t125=>Ae t125 (Aa (unA Tryz.prog .not (.bool false)) fun t126=>Ae t126 (Q (.int .i64 270) At9) (Q (.int .i64 0) At9)) (Aa (Ah Tryz.prog .eql 47 (.tmp 29) (.const (.int .u8 4)) t120 (.int .u8 4)) fun t127=>Ae t127 (Aa (unA Tryz.prog .not (.bool false)) fun t128=>Ae t128 (Q (.int .i64 270) At9) (Q (.int .i64 0) At9)) (Aa (Ah Tryz.prog .eql 47 (.tmp 29) (.const (.int .u8 5)) t120 (.int .u8 5)) fun t129=>Ae t129 (Aa (unA Tryz.prog .not (.bool false)) fun t130=>Ae t130 (Q (.int .i64 270) At9) (Q (.int .i64 0) At9)) (Aa (unA Tryz.prog .not (.bool false)) fun t131=>Ae t131 (Q (.int .i64 270) At9) (Q (.int .i64 0) At9)))))))))))))))))):=by kernel_rfl
theorem n81(a0:Value):AD Tryz.prog 81 [a0] .normal=some (frM 81 (Tm.fill ⟨104,.nil⟩ 0 [a0]) [.code (cd 81 [])] false):=by kernel_rfl
theorem w81:Wf1 81 104 T81 L81:=wf1 n81 (by decide) fun _=>rfl
noncomputable def KK:Nat→List Item:=fun i=>match i with
 |0=>[(.code (cd 149 [1,1,0,1,0,0])),(.inLoop (cd 149 [1,1,0,1,0,0])),(.inBlock 0),(.code (cd 149 [1,1,1]))]
 |_=>[]
def Uh:Nat→List Tmp:=fun i=>match i with
 |0=>[3,8,9]
 |_=>[]
theorem AbD(W0:World)(m0:Inj Tryz.prog)(S:Nat→List Value→AW→Prop)(Q:Value→AW→Prop)(a0:Value)(A:AW):AM Tryz.prog Af W0 m0 149 KK Uh S Q none 4000 (Tm.fill ⟨18,.nil⟩ 0 [a0]) [.code (cd 149 [])] false 0 0 0 [] A=(Wc Tryz.prog Af W0 m0 66 [a0] A fun t0 At0=>Aa (Br Tryz.prog At0 48 t0) fun t1=>BX (KK 0) (KK 0) (S 0 [t0,t1,(.int .i64 0)] At0)):=by kernel_rfl
theorem VG(W0:World)(m0:Inj Tryz.prog)(S:Nat→List Value→AW→Prop)(Q:Value→AW→Prop)(d:Nat→Value)(A:AW):AM Tryz.prog Af W0 m0 149 KK Uh S Q none 4000 (DD 18 d) (KK 0) false 0 0 0 [] A=(Aa (Ah Tryz.prog .lss 3 (.tmp 9) (.tmp 8) (d 9) (d 8)) fun t0=>Ae t0 (Aa (Aj Tryz.prog 48 (d 3) (d 9)) fun t1=>Aa (Ac Tryz.prog 135 t1 2) fun t2=>AQ (Am Tryz.prog A 133 t2 (.int .u8 0)) fun At3=>Aa (Ah Tryz.prog .add 3 (.tmp 9) (.const (.int .i64 1)) (d 9) (.int .i64 1)) fun t4=>BX (KK 0) (KK 0) (S 0 [(d 3),(d 8),t4] At3)) (Q (d 3) A)):=by kernel_rfl
theorem n149(a0:Value):AD Tryz.prog 149 [a0] .normal=some (frM 149 (Tm.fill ⟨18,.nil⟩ 0 [a0]) [.code (cd 149 [])] false):=by kernel_rfl
theorem AaI:Wf1 149 18 KK Uh:=wf1 n149 (by decide) fun _=>rfl
theorem AbL:Fy 149 18 KK Uh:=Ga (by decide)
noncomputable def T66:Nat→List Item:=fun i=>match i with
 |_=>[]
def L66:Nat→List Tmp:=fun i=>match i with
 |_=>[]
theorem e66(W0:World)(m0:Inj Tryz.prog)(S:Nat→List Value→AW→Prop)(Q:Value→AW→Prop)(a0:Value)(A:AW):AM Tryz.prog Af W0 m0 66 T66 L66 S Q none 4000 (Tm.fill ⟨8,.nil⟩ 0 [a0]) [.code (cd 66 [])] false 0 0 0 [] A=(Aa (Ah Tryz.prog .eql 48 (.tmp 3) (.const (.slice none 0 0)) a0 (.slice none 0 0)) fun t0=>Ae t0 (Q (.slice none 0 0) A) (Al (Aq Tryz.prog A 48 0 []) fun t1 At1=>Al (AT Tryz.prog At1 48 48 t1 a0) fun t2 At2=>Q t2 At2)):=by kernel_rfl
theorem n66(a0:Value):AD Tryz.prog 66 [a0] .normal=some (frM 66 (Tm.fill ⟨8,.nil⟩ 0 [a0]) [.code (cd 66 [])] false):=by kernel_rfl
theorem w66:Wf1 66 8 T66 L66:=wf1 n66 (by decide) fun _=>rfl
noncomputable def T65:Nat→List Item:=fun i=>match i with
 |0=>[(.code (cd 65 [1,1,1,0,1,0,0])),(.inLoop (cd 65 [1,1,1,0,1,0,0])),(.inBlock 0),(.code (cd 65 [1,1,1,1]))]
 |_=>[]
def L65:Nat→List Tmp:=fun i=>match i with
 |0=>[1,3,29,30,31]
 |_=>[]
theorem e65(W0:World)(m0:Inj Tryz.prog)(S:Nat→List Value→AW→Prop)(Q:Value→AW→Prop)(a0:Value)(A:AW):AM Tryz.prog Af W0 m0 65 T65 L65 S Q none 4000 (Tm.fill ⟨66,.nil⟩ 0 [a0]) [.code (cd 65 [])] false 0 0 0 [] A=(Al (Cq A (Value.cells a0).toList 83) fun t0 At0=>Aa (Ac Tryz.prog 83 t0 0) fun t1=>Aa (Ad Tryz.prog At0 24 t1) fun t2=>Wc Tryz.prog Af W0 m0 97 [t2] At0 fun t3 At3=>Aa (Ah Tryz.prog .neq 28 (.tmp 8) (.const (.int .i64 0)) t3 (.int .i64 0)) fun t4=>Ae t4 (Q (.int .i64 260) At3) (Aa (Ac Tryz.prog 83 t0 0) fun t5=>Aa (Ac Tryz.prog 24 t5 2) fun t6=>Aa (Ad Tryz.prog At3 9 t6) fun t7=>Aa (Ah Tryz.prog .neq 9 (.tmp 13) (.const (.string ⟨⟨[]⟩⟩)) t7 (.string ⟨⟨[]⟩⟩)) fun t8=>Ae t8 (Q (.int .i64 260) At3) (Aa (Ac Tryz.prog 83 t0 1) fun t9=>Aa (Ad Tryz.prog At3 48 t9) fun t10=>Aa (Br Tryz.prog At3 48 t10) fun t11=>Aa (Ah Tryz.prog .lss 3 (.tmp 19) (.const (.int .i64 1)) t11 (.int .i64 1)) fun t12=>Ae t12 (Q (.int .i64 260) At3) (Aa (Ac Tryz.prog 83 t0 1) fun t13=>Aa (Ad Tryz.prog At3 48 t13) fun t14=>Aa (Br Tryz.prog At3 48 t14) fun t15=>Aa (Ah Tryz.prog .gtr 3 (.tmp 25) (.const (.int .i64 8)) t15 (.int .i64 8)) fun t16=>Ae t16 (Q (.int .i64 260) At3) (Aa (Ac Tryz.prog 83 t0 1) fun t17=>Aa (Ad Tryz.prog At3 48 t17) fun t18=>Aa (Br Tryz.prog At3 48 t18) fun t19=>BX (T65 0) (T65 0) (S 0 [t0,(.int .u8 0),t18,t19,(.int .i64 0)] At3)))))):=by kernel_rfl
theorem Abl(W0:World)(m0:Inj Tryz.prog)(S:Nat→List Value→AW→Prop)(Q:Value→AW→Prop)(d:Nat→Value)(A:AW):AM Tryz.prog Af W0 m0 65 T65 L65 S Q none 4000 (DD 66 d) (T65 0) false 0 0 0 [] A=(Aa (Ah Tryz.prog .lss 3 (.tmp 31) (.tmp 30) (d 31) (d 30)) fun t0=>Ae t0 (Aa (Aj Tryz.prog 48 (d 29) (d 31)) fun t1=>Aa (Ad Tryz.prog A 135 t1) fun t2=>Al (Cd Tryz.prog A 135) fun t3 At3=>AQ (Am Tryz.prog At3 135 t3 t2) fun At4=>Aa (Ac Tryz.prog 135 t3 0) fun t5=>Aa (Ad Tryz.prog At4 5 t5) fun t6=>Aa (Ah Tryz.prog .leq 5 (.tmp 36) (.tmp 37) t6 (d 3)) fun t7=>Ae t7 (Q (.int .i64 260) At4) (Aa (Ac Tryz.prog 135 t3 0) fun t8=>Aa (Ad Tryz.prog At4 5 t8) fun t9=>Aa (Ah Tryz.prog .gtr 5 (.tmp 41) (.const (.int .u8 8)) t9 (.int .u8 8)) fun t10=>Ae t10 (Q (.int .i64 260) At4) (Aa (Ac Tryz.prog 135 t3 2) fun t11=>Aa (Ad Tryz.prog At4 133 t11) fun t12=>Aa (Ah Tryz.prog .neq 133 (.tmp 46) (.const (.int .u8 0)) t12 (.int .u8 0)) fun t13=>Ae t13 (Q (.int .i64 260) At4) (Aa (Ac Tryz.prog 135 t3 1) fun t14=>Aa (Ad Tryz.prog At4 24 t14) fun t15=>Wc Tryz.prog Af W0 m0 97 [t15] At4 fun t16 At16=>Aa (Ah Tryz.prog .neq 28 (.tmp 52) (.const (.int .i64 0)) t16 (.int .i64 0)) fun t17=>Ae t17 (Q (.int .i64 260) At16) (Aa (Ac Tryz.prog 135 t3 1) fun t18=>Aa (Ad Tryz.prog At16 24 t18) fun t19=>Aa (Ac Tryz.prog 83 (d 1) 0) fun t20=>Aa (Ad Tryz.prog At16 24 t20) fun t21=>Wc Tryz.prog Af W0 m0 138 [t19,t21] At16 fun t22 At22=>Aa (unA Tryz.prog .not t22) fun t23=>Ae t23 (Q (.int .i64 260) At22) (Aa (Ac Tryz.prog 135 t3 0) fun t24=>Aa (Ad Tryz.prog At22 5 t24) fun t25=>Aa (Ah Tryz.prog .add 3 (.tmp 31) (.const (.int .i64 1)) (d 31) (.int .i64 1)) fun t26=>BX (T65 0) (T65 0) (S 0 [(d 1),t25,(d 29),(d 30),t26] At22))))))) (Q (.int .i64 0) A)):=by kernel_rfl
theorem n65(a0:Value):AD Tryz.prog 65 [a0] .normal=some (frM 65 (Tm.fill ⟨66,.nil⟩ 0 [a0]) [.code (cd 65 [])] false):=by kernel_rfl
theorem w65:Wf1 65 66 T65 L65:=wf1 n65 (by decide) fun _=>rfl
theorem c65:Fy 65 66 T65 L65:=Ga (by decide)
noncomputable def Acx:Nat→List Item:=fun i=>match i with
 |_=>[]
def Ac8:Nat→List Tmp:=fun i=>match i with
 |_=>[]
theorem Aff(W0:World)(m0:Inj Tryz.prog)(S:Nat→List Value→AW→Prop)(Q:Value→AW→Prop)(a0 a1:Value)(A:AW):AM Tryz.prog Af W0 m0 138 Acx Ac8 S Q none 4000 (Tm.fill ⟨10,.nil⟩ 0 [a0,a1]) [.code (cd 138 [])] false 0 0 0 [] A=(Al (Cq A (Value.cells a0).toList 24) fun t0 At0=>Al (Cq At0 (Value.cells a1).toList 24) fun t1 At1=>Aa (Ac Tryz.prog 24 t0 2) fun t2=>AQ (Am Tryz.prog At1 9 t2 (.string ⟨⟨[]⟩⟩)) fun At3=>Aa (Ac Tryz.prog 24 t1 2) fun t4=>AQ (Am Tryz.prog At3 9 t4 (.string ⟨⟨[]⟩⟩)) fun At5=>Aa (Ad Tryz.prog At5 24 t0) fun t6=>Aa (Ad Tryz.prog At5 24 t1) fun t7=>Aa (Ah Tryz.prog .eql 24 (.tmp 7) (.tmp 8) t6 t7) fun t8=>Q t8 At5):=by kernel_rfl
theorem n138(a0 a1:Value):AD Tryz.prog 138 [a0,a1] .normal=some (frM 138 (Tm.fill ⟨10,.nil⟩ 0 [a0,a1]) [.code (cd 138 [])] false):=by kernel_rfl
theorem Aef:Wf2 138 10 Acx Ac8:=wf2 n138 (by decide) fun _ _=>rfl
noncomputable def Acp:Nat→List Item:=fun i=>match i with
 |_=>[]
def Ac1:Nat→List Tmp:=fun i=>match i with
 |_=>[]
theorem AbC(W0:World)(m0:Inj Tryz.prog)(S:Nat→List Value→AW→Prop)(Q:Value→AW→Prop)(a0 a1:Value)(A:AW):AM Tryz.prog Af W0 m0 150 Acp Ac1 S Q none 4000 (Tm.fill ⟨9,.nil⟩ 0 [a0,a1]) [.code (cd 150 [])] false 0 0 0 [] A=(Al (Cq A (Value.cells a1).toList 223) fun t0 At0=>Wc Tryz.prog Af W0 m0 162 [a0,(.func (.func 216) ⟨[]⟩ ⟨[t0]⟩)] At0 fun t1 At1=>Aa (unA Tryz.prog .not t1) fun t2=>Q t2 At1):=by kernel_rfl
theorem n150(a0 a1:Value):AD Tryz.prog 150 [a0,a1] .normal=some (frM 150 (Tm.fill ⟨9,.nil⟩ 0 [a0,a1]) [.code (cd 150 [])] false):=by kernel_rfl
theorem AaH:Wf2 150 9 Acp Ac1:=wf2 n150 (by decide) fun _ _=>rfl
noncomputable def Acl:Nat→List Item:=fun i=>match i with
 |_=>[]
def AcX:Nat→List Tmp:=fun i=>match i with
 |_=>[]
theorem ZC(W0:World)(m0:Inj Tryz.prog)(S:Nat→List Value→AW→Prop)(Q:Value→AW→Prop)(a0 a1:Value)(A:AW):AM Tryz.prog Af W0 m0 162 Acl AcX S Q none 4000 (Tm.fill ⟨9,.nil⟩ 0 [a0,a1]) [.code (cd 162 [])] false 0 0 0 [] A=(Wc Tryz.prog Af W0 m0 78 [a0,a1] A fun t0 At0=>Aa (Ah Tryz.prog .geq 3 (.tmp 7) (.const (.int .i64 0)) t0 (.int .i64 0)) fun t1=>Q t1 At0):=by kernel_rfl
theorem n162(a0 a1:Value):AD Tryz.prog 162 [a0,a1] .normal=some (frM 162 (Tm.fill ⟨9,.nil⟩ 0 [a0,a1]) [.code (cd 162 [])] false):=by kernel_rfl
theorem YW:Wf2 162 9 Acl AcX:=wf2 n162 (by decide) fun _ _=>rfl
noncomputable def T78:Nat→List Item:=fun i=>match i with
 |0=>[(.code (cd 78 [1,0,1,0,0])),(.inLoop (cd 78 [1,0,1,0,0])),(.inBlock 0),(.code (cd 78 [1,1]))]
 |_=>[]
def L78:Nat→List Tmp:=fun i=>match i with
 |0=>[0,1,7,8]
 |_=>[]
theorem e78(W0:World)(m0:Inj Tryz.prog)(S:Nat→List Value→AW→Prop)(Q:Value→AW→Prop)(a0 a1:Value)(A:AW):AM Tryz.prog Af W0 m0 78 T78 L78 S Q none 4000 (Tm.fill ⟨19,.nil⟩ 0 [a0,a1]) [.code (cd 78 [])] false 0 0 0 [] A=(Aa (Br Tryz.prog A 48 a0) fun t0=>BX (T78 0) (T78 0) (S 0 [a0,a1,t0,(.int .i64 0)] A)):=by kernel_rfl
theorem SQ(W0:World)(m0:Inj Tryz.prog)(S:Nat→List Value→AW→Prop)(Q:Value→AW→Prop)(d:Nat→Value)(A:AW):AM Tryz.prog Af W0 m0 78 T78 L78 S Q none 4000 (DD 19 d) (T78 0) false 0 0 0 [] A=(Aa (Ah Tryz.prog .lss 3 (.tmp 8) (.tmp 7) (d 8) (d 7)) fun t0=>Ae t0 (Aa (Aj Tryz.prog 48 (d 0) (d 8)) fun t1=>Aa (Ad Tryz.prog A 135 t1) fun t2=>anW Tryz.prog Af W0 m0 (EL Tryz.prog Af A (d 1) [t2]) fun t3 At3=>Ae t3 (Q (d 8) At3) (Aa (Ah Tryz.prog .add 3 (.tmp 8) (.const (.int .i64 1)) (d 8) (.int .i64 1)) fun t4=>BX (T78 0) (T78 0) (S 0 [(d 0),(d 1),(d 7),t4] At3))) (Q (.int .i64 (-1)) A)):=by kernel_rfl
theorem n78(a0 a1:Value):AD Tryz.prog 78 [a0,a1] .normal=some (frM 78 (Tm.fill ⟨19,.nil⟩ 0 [a0,a1]) [.code (cd 78 [])] false):=by kernel_rfl
theorem w78:Wf2 78 19 T78 L78:=wf2 n78 (by decide) fun _ _=>rfl
theorem c78:Fy 78 19 T78 L78:=Ga (by decide)
noncomputable def Ab7:Nat→List Item:=fun i=>match i with
 |_=>[]
def AcK:Nat→List Tmp:=fun i=>match i with
 |_=>[]
theorem Aby(W0:World)(m0:Inj Tryz.prog)(S:Nat→List Value→AW→Prop)(Q:Value→AW→Prop)(a0 a1:Value)(A:AW):AM Tryz.prog Af W0 m0 216 Ab7 AcK S Q none 4000 (Tm.fill ⟨9,.nil⟩ 0 [a0,a1]) [.code (cd 216 [])] false 0 0 0 [] A=(Al (Cq A (Value.cells a0).toList 135) fun t0 At0=>Aa (Ad Tryz.prog At0 223 a1) fun t1=>Aa (Ac Tryz.prog 135 t0 2) fun t2=>Aa (Ad Tryz.prog At0 133 t2) fun t3=>Wc Tryz.prog Af W0 m0 164 [t1,t3] At0 fun t4 At4=>Aa (unA Tryz.prog .not t4) fun t5=>Q t5 At4):=by kernel_rfl
theorem n216(a0 a1:Value):AD Tryz.prog 216 [a0,a1] .normal=some (frM 216 (Tm.fill ⟨9,.nil⟩ 0 [a0,a1]) [.code (cd 216 [])] false):=by kernel_rfl
theorem AaD:Wf2 216 9 Ab7 AcK:=wf2 n216 (by decide) fun _ _=>rfl
noncomputable def Acj:Nat→List Item:=fun i=>match i with
 |_=>[]
def AcV:Nat→List Tmp:=fun i=>match i with
 |_=>[]
theorem AbA(W0:World)(m0:Inj Tryz.prog)(S:Nat→List Value→AW→Prop)(Q:Value→AW→Prop)(a0 a1:Value)(A:AW):AM Tryz.prog Af W0 m0 164 Acj AcV S Q none 4000 (Tm.fill ⟨9,.nil⟩ 0 [a0,a1]) [.code (cd 164 [])] false 0 0 0 [] A=(Wc Tryz.prog Af W0 m0 222 [a0,a1] A fun t0 At0=>Aa (Ah Tryz.prog .geq 3 (.tmp 7) (.const (.int .i64 0)) t0 (.int .i64 0)) fun t1=>Q t1 At0):=by kernel_rfl
theorem n164(a0 a1:Value):AD Tryz.prog 164 [a0,a1] .normal=some (frM 164 (Tm.fill ⟨9,.nil⟩ 0 [a0,a1]) [.code (cd 164 [])] false):=by kernel_rfl
theorem AaF:Wf2 164 9 Acj AcV:=wf2 n164 (by decide) fun _ _=>rfl
noncomputable def Pf:Nat→List Item:=fun i=>match i with
 |0=>[(.code (cd 222 [1,0,1,0,0])),(.inLoop (cd 222 [1,0,1,0,0])),(.inBlock 0),(.code (cd 222 [1,1]))]
 |_=>[]
def Ug:Nat→List Tmp:=fun i=>match i with
 |0=>[0,1,7,8]
 |_=>[]
theorem Abw(W0:World)(m0:Inj Tryz.prog)(S:Nat→List Value→AW→Prop)(Q:Value→AW→Prop)(a0 a1:Value)(A:AW):AM Tryz.prog Af W0 m0 222 Pf Ug S Q none 4000 (Tm.fill ⟨19,.nil⟩ 0 [a0,a1]) [.code (cd 222 [])] false 0 0 0 [] A=(Aa (Br Tryz.prog A 223 a0) fun t0=>BX (Pf 0) (Pf 0) (S 0 [a0,a1,t0,(.int .i64 0)] A)):=by kernel_rfl
theorem VF(W0:World)(m0:Inj Tryz.prog)(S:Nat→List Value→AW→Prop)(Q:Value→AW→Prop)(d:Nat→Value)(A:AW):AM Tryz.prog Af W0 m0 222 Pf Ug S Q none 4000 (DD 19 d) (Pf 0) false 0 0 0 [] A=(Aa (Ah Tryz.prog .lss 3 (.tmp 8) (.tmp 7) (d 8) (d 7)) fun t0=>Ae t0 (Aa (Aj Tryz.prog 223 (d 0) (d 8)) fun t1=>Aa (Ad Tryz.prog A 133 t1) fun t2=>Aa (Ah Tryz.prog .eql 133 (.tmp 11) (.tmp 15) (d 1) t2) fun t3=>Ae t3 (Q (d 8) A) (Aa (Ah Tryz.prog .add 3 (.tmp 8) (.const (.int .i64 1)) (d 8) (.int .i64 1)) fun t4=>BX (Pf 0) (Pf 0) (S 0 [(d 0),(d 1),(d 7),t4] A))) (Q (.int .i64 (-1)) A)):=by kernel_rfl
theorem n222(a0 a1:Value):AD Tryz.prog 222 [a0,a1] .normal=some (frM 222 (Tm.fill ⟨19,.nil⟩ 0 [a0,a1]) [.code (cd 222 [])] false):=by kernel_rfl
theorem AaB:Wf2 222 19 Pf Ug:=wf2 n222 (by decide) fun _ _=>rfl
theorem c222:Fy 222 19 Pf Ug:=Ga (by decide)
noncomputable def Aco:Nat→List Item:=fun i=>match i with
 |_=>[]
def Ac0:Nat→List Tmp:=fun i=>match i with
 |_=>[]
theorem AbB(W0:World)(m0:Inj Tryz.prog)(S:Nat→List Value→AW→Prop)(Q:Value→AW→Prop)(a0 a1:Value)(A:AW):AM Tryz.prog Af W0 m0 151 Aco Ac0 S Q none 4000 (Tm.fill ⟨8,.nil⟩ 0 [a0,a1]) [.code (cd 151 [])] false 0 0 0 [] A=(Al (Cq A (Value.cells a1).toList 223) fun t0 At0=>Wc Tryz.prog Af W0 m0 162 [a0,(.func (.func 217) ⟨[]⟩ ⟨[t0]⟩)] At0 fun t1 At1=>Q t1 At1):=by kernel_rfl
theorem n151(a0 a1:Value):AD Tryz.prog 151 [a0,a1] .normal=some (frM 151 (Tm.fill ⟨8,.nil⟩ 0 [a0,a1]) [.code (cd 151 [])] false):=by kernel_rfl
theorem AaG:Wf2 151 8 Aco Ac0:=wf2 n151 (by decide) fun _ _=>rfl
noncomputable def Ab6:Nat→List Item:=fun i=>match i with
 |_=>[]
def AcJ:Nat→List Tmp:=fun i=>match i with
 |_=>[]
theorem Abx(W0:World)(m0:Inj Tryz.prog)(S:Nat→List Value→AW→Prop)(Q:Value→AW→Prop)(a0 a1:Value)(A:AW):AM Tryz.prog Af W0 m0 217 Ab6 AcJ S Q none 4000 (Tm.fill ⟨8,.nil⟩ 0 [a0,a1]) [.code (cd 217 [])] false 0 0 0 [] A=(Al (Cq A (Value.cells a0).toList 135) fun t0 At0=>Aa (Ad Tryz.prog At0 223 a1) fun t1=>Aa (Ac Tryz.prog 135 t0 2) fun t2=>Aa (Ad Tryz.prog At0 133 t2) fun t3=>Wc Tryz.prog Af W0 m0 164 [t1,t3] At0 fun t4 At4=>Q t4 At4):=by kernel_rfl
theorem n217(a0 a1:Value):AD Tryz.prog 217 [a0,a1] .normal=some (frM 217 (Tm.fill ⟨8,.nil⟩ 0 [a0,a1]) [.code (cd 217 [])] false):=by kernel_rfl
theorem AaC:Wf2 217 8 Ab6 AcJ:=wf2 n217 (by decide) fun _ _=>rfl
noncomputable def T86:Nat→List Item:=fun i=>match i with
 |_=>[]
def L86:Nat→List Tmp:=fun i=>match i with
 |_=>[]
theorem e86(W0:World)(m0:Inj Tryz.prog)(S:Nat→List Value→AW→Prop)(Q:Value→AW→Prop)(a0 a1:Value)(A:AW):AM Tryz.prog Af W0 m0 86 T86 L86 S Q none 4000 (Tm.fill ⟨16,.nil⟩ 0 [a0,a1]) [.code (cd 86 [])] false 0 0 0 [] A=(Al (Cq A (Value.cells a0).toList 50) fun t0 At0=>Al (Cd Tryz.prog At0 50) fun t1 At1=>Aa (Ad Tryz.prog At1 50 t0) fun t2=>Wc Tryz.prog Af W0 m0 83 [t2] At1 fun t3 At3=>AQ (Am Tryz.prog At3 50 t0 t3) fun At4=>Aa (Ac Tryz.prog 50 t0 1) fun t5=>AQ (Am Tryz.prog At4 47 t5 a1) fun At6=>Aa (Ac Tryz.prog 50 t0 4) fun t7=>AQ (Am Tryz.prog At6 22 t7 (.int .u32 0)) fun At8=>Aa (Ac Tryz.prog 50 t0 5) fun t9=>AQ (Am Tryz.prog At8 22 t9 (.int .u32 0)) fun At10=>Aa (Ah Tryz.prog .eql 47 (.tmp 11) (.const (.int .u8 3)) a1 (.int .u8 3)) fun t11=>Aa (Ac Tryz.prog 50 t0 2) fun t12=>AQ (Am Tryz.prog At10 4 t12 t11) fun At13=>Aa (Ad Tryz.prog At13 50 t0) fun t14=>Wc Tryz.prog Af W0 m0 87 [t14] At13 fun t15 At15=>AQ (Am Tryz.prog At15 50 t1 t15) fun At16=>Aa (Ad Tryz.prog At16 50 t1) fun t17=>Q t17 At16):=by kernel_rfl
theorem n86(a0 a1:Value):AD Tryz.prog 86 [a0,a1] .normal=some (frM 86 (Tm.fill ⟨16,.nil⟩ 0 [a0,a1]) [.code (cd 86 [])] false):=by kernel_rfl
theorem w86:Wf2 86 16 T86 L86:=wf2 n86 (by decide) fun _ _=>rfl
noncomputable def T83:Nat→List Item:=fun i=>match i with
 |_=>[]
def L83:Nat→List Tmp:=fun i=>match i with
 |_=>[]
theorem e83(W0:World)(m0:Inj Tryz.prog)(S:Nat→List Value→AW→Prop)(Q:Value→AW→Prop)(a0:Value)(A:AW):AM Tryz.prog Af W0 m0 83 T83 L83 S Q none 4000 (Tm.fill ⟨8,.nil⟩ 0 [a0]) [.code (cd 83 [])] false 0 0 0 [] A=(Al (Cq A (Value.cells a0).toList 50) fun t0 At0=>Al (Cd Tryz.prog At0 50) fun t1 At1=>Aa (Ac Tryz.prog 50 t0 3) fun t2=>Aa (Ad Tryz.prog At1 48 t2) fun t3=>Wc Tryz.prog Af W0 m0 66 [t3] At1 fun t4 At4=>Aa (Ac Tryz.prog 50 t0 3) fun t5=>AQ (Am Tryz.prog At4 48 t5 t4) fun At6=>Aa (Ad Tryz.prog At6 50 t0) fun t7=>AQ (Am Tryz.prog At6 50 t1 t7) fun At8=>Aa (Ad Tryz.prog At8 50 t1) fun t9=>Q t9 At8):=by kernel_rfl
theorem n83(a0:Value):AD Tryz.prog 83 [a0] .normal=some (frM 83 (Tm.fill ⟨8,.nil⟩ 0 [a0]) [.code (cd 83 [])] false):=by kernel_rfl
theorem w83:Wf1 83 8 T83 L83:=wf1 n83 (by decide) fun _=>rfl
noncomputable def T87:Nat→List Item:=fun i=>match i with
 |_=>[]
def L87:Nat→List Tmp:=fun i=>match i with
 |_=>[]
theorem e87(W0:World)(m0:Inj Tryz.prog)(S:Nat→List Value→AW→Prop)(Q:Value→AW→Prop)(a0:Value)(A:AW):AM Tryz.prog Af W0 m0 87 T87 L87 S Q none 4000 (Tm.fill ⟨22,.nil⟩ 0 [a0]) [.code (cd 87 [])] false 0 0 0 [] A=(Al (Cq A (Value.cells a0).toList 50) fun t0 At0=>Al (Cd Tryz.prog At0 50) fun t1 At1=>Aa (Ac Tryz.prog 50 t0 1) fun t2=>Aa (Ad Tryz.prog At1 47 t2) fun t3=>Aa (Ah Tryz.prog .eql 47 (.tmp 4) (.const (.int .u8 3)) t3 (.int .u8 3)) fun t4=>Ae t4 (Aa (Ac Tryz.prog 50 t0 3) fun t5=>Aa (Ad Tryz.prog At1 48 t5) fun t6=>Al (Aq Tryz.prog At1 223 2 [(0,(.int .u8 0)),(1,(.int .u8 1))]) fun t7 At7=>Wc Tryz.prog Af W0 m0 151 [t6,t7] At7 fun t8 At8=>Aa (unA Tryz.prog .not t8) fun t9=>Ae t9 (Aa (Ac Tryz.prog 50 t0 1) fun t10=>AQ (Am Tryz.prog At8 47 t10 (.int .u8 5)) fun At11=>Aa (Ac Tryz.prog 50 t0 4) fun t12=>AQ (Am Tryz.prog At11 22 t12 (.int .u32 0)) fun At13=>Aa (Ac Tryz.prog 50 t0 5) fun t14=>AQ (Am Tryz.prog At13 22 t14 (.int .u32 0)) fun At15=>Aa (Ad Tryz.prog At15 50 t0) fun t16=>AQ (Am Tryz.prog At15 50 t1 t16) fun At17=>Aa (Ad Tryz.prog At17 50 t1) fun t18=>Q t18 At17) (Aa (Ad Tryz.prog At8 50 t0) fun t19=>AQ (Am Tryz.prog At8 50 t1 t19) fun At20=>Aa (Ad Tryz.prog At20 50 t1) fun t21=>Q t21 At20)) (Aa (Ac Tryz.prog 50 t0 1) fun t22=>Aa (Ad Tryz.prog At1 47 t22) fun t23=>Aa (Ah Tryz.prog .eql 47 (.tmp 8) (.const (.int .u8 4)) t23 (.int .u8 4)) fun t24=>Ae t24 (Aa (Ac Tryz.prog 50 t0 3) fun t25=>Aa (Ad Tryz.prog At1 48 t25) fun t26=>Al (Aq Tryz.prog At1 223 2 [(0,(.int .u8 0)),(1,(.int .u8 1))]) fun t27 At27=>Wc Tryz.prog Af W0 m0 151 [t26,t27] At27 fun t28 At28=>Aa (unA Tryz.prog .not t28) fun t29=>Ae t29 (Aa (Ac Tryz.prog 50 t0 1) fun t30=>AQ (Am Tryz.prog At28 47 t30 (.int .u8 5)) fun At31=>Aa (Ac Tryz.prog 50 t0 4) fun t32=>AQ (Am Tryz.prog At31 22 t32 (.int .u32 0)) fun At33=>Aa (Ac Tryz.prog 50 t0 5) fun t34=>AQ (Am Tryz.prog At33 22 t34 (.int .u32 0)) fun At35=>Aa (Ad Tryz.prog At35 50 t0) fun t36=>AQ (Am Tryz.prog At35 50 t1 t36) fun At37=>Aa (Ad Tryz.prog At37 50 t1) fun t38=>Q t38 At37) (Aa (Ad Tryz.prog At28 50 t0) fun t39=>AQ (Am Tryz.prog At28 50 t1 t39) fun At40=>Aa (Ad Tryz.prog At40 50 t1) fun t41=>Q t41 At40)) (Aa (Ad Tryz.prog At1 50 t0) fun t42=>AQ (Am Tryz.prog At1 50 t1 t42) fun At43=>Aa (Ad Tryz.prog At43 50 t1) fun t44=>Q t44 At43))):=by kernel_rfl
theorem n87(a0:Value):AD Tryz.prog 87 [a0] .normal=some (frM 87 (Tm.fill ⟨22,.nil⟩ 0 [a0]) [.code (cd 87 [])] false):=by kernel_rfl
theorem w87:Wf1 87 22 T87 L87:=wf1 n87 (by decide) fun _=>rfl
noncomputable def T37:Nat→List Item:=fun i=>match i with
 |_=>[]
def L37:Nat→List Tmp:=fun i=>match i with
 |_=>[]
theorem e37(W0:World)(m0:Inj Tryz.prog)(S:Nat→List Value→AW→Prop)(Q:Value→AW→Prop)(a0 a1 a2:Value)(A:AW):AM Tryz.prog Af W0 m0 37 T37 L37 S Q none 4000 (Tm.fill ⟨72,.nil⟩ 0 [a0,a1,a2]) [.code (cd 37 [])] false 0 0 0 [] A=(Al (Cq A (Value.cells a1).toList 50) fun t0 At0=>Aa (Ad Tryz.prog At0 50 t0) fun t1=>Wc Tryz.prog Af W0 m0 88 [t1] At0 fun t2 At2=>Ae t2 (Aa (Ad Tryz.prog At2 50 t0) fun t3=>Wc Tryz.prog Af W0 m0 89 [a0,t3] At2 fun t4 At4=>Aa (Ar t4 0) fun t5=>Aa (Ar t4 1) fun t6=>AQ (Am Tryz.prog At4 50 t0 t5) fun At7=>Aa (Ah Tryz.prog .neq 28 (.tmp 16) (.const (.int .i64 0)) t6 (.int .i64 0)) fun t8=>Ae t8 (Wc Tryz.prog Af W0 m0 90 [a0] At7 fun t9 At9=>Q t9 At9) (Aa (BQ a0) fun t10=>Aa (Ac Tryz.prog 79 t10 3) fun t11=>Aa (Ad Tryz.prog At7 75 t11) fun t12=>Aa (Ac Tryz.prog 50 t0 0) fun t13=>Aa (Ad Tryz.prog At7 24 t13) fun t14=>Aa (Ad Tryz.prog At7 50 t0) fun t15=>AQ (BV Tryz.prog At7 75 t12 t14 t15) fun At16=>Aa (Ac Tryz.prog 50 t0 1) fun t17=>Aa (Ad Tryz.prog At16 47 t17) fun t18=>Aa (Ah Tryz.prog .eql 47 (.tmp 29) (.const (.int .u8 5)) t18 (.int .u8 5)) fun t19=>Ae t19 (Aa (BQ a0) fun t20=>Aa (Ac Tryz.prog 79 t20 0) fun t21=>Aa (Ad Tryz.prog At16 72 t21) fun t22=>Aa (Ac Tryz.prog 50 t0 0) fun t23=>Aa (Ad Tryz.prog At16 24 t23) fun t24=>Wc Tryz.prog Af W0 m0 91 [t22,t24] At16 fun t25 At25=>Aa (Ah Tryz.prog .eql 28 (.tmp 37) (.const (.int .i64 100)) t25 (.int .i64 100)) fun t26=>Ae t26 (Wc Tryz.prog Af W0 m0 90 [a0] At25 fun t27 At27=>Q t27 At27) (Aa (Ad Tryz.prog At25 50 t0) fun t28=>Al (Aq Tryz.prog At25 223 2 [(0,(.int .u8 3)),(1,(.int .u8 4))]) fun t29 At29=>Wc Tryz.prog Af W0 m0 92 [t28,t29] At29 fun t30 At30=>Aa (unA Tryz.prog .not t30) fun t31=>Ae t31 (Aa (BQ a0) fun t32=>Aa (Ac Tryz.prog 79 t32 3) fun t33=>Aa (Ad Tryz.prog At30 75 t33) fun t34=>Aa (Ac Tryz.prog 50 t0 0) fun t35=>Aa (Ad Tryz.prog At30 24 t35) fun t36=>AQ (Fw Tryz.prog At30 75 t34 t36) fun At37=>Q (.int .i64 0) At37) (Q (.int .i64 0) At30))) (Aa (Ac Tryz.prog 50 t0 1) fun t38=>Aa (Ad Tryz.prog At16 47 t38) fun t39=>Aa (Ah Tryz.prog .neq 47 (.tmp 53) (.tmp 54) t39 a2) fun t40=>Ae t40 (Aa (Ad Tryz.prog At16 50 t0) fun t41=>Wc Tryz.prog Af W0 m0 46 [t41] At16 fun t42 At42=>Aa (Ar t42 0) fun t43=>Aa (Ar t42 1) fun _=>Aa (Ar t42 2) fun _=>AQ (Am Tryz.prog At42 50 t0 t43) fun At46=>Aa (BQ a0) fun t47=>Aa (Ac Tryz.prog 79 t47 3) fun t48=>Aa (Ad Tryz.prog At46 75 t48) fun t49=>Aa (Ac Tryz.prog 50 t0 0) fun t50=>Aa (Ad Tryz.prog At46 24 t50) fun t51=>Aa (Ad Tryz.prog At46 50 t0) fun t52=>AQ (BV Tryz.prog At46 75 t49 t51 t52) fun At53=>Aa (Ad Tryz.prog At53 50 t0) fun t54=>Wc Tryz.prog Af W0 m0 47 [a0,t54] At53 fun _ At55=>Q (.int .i64 0) At55) (Q (.int .i64 0) At16)))) (Aa (BQ a0) fun t56=>Aa (Ac Tryz.prog 79 t56 3) fun t57=>Aa (Ad Tryz.prog At2 75 t57) fun t58=>Aa (Ac Tryz.prog 50 t0 0) fun t59=>Aa (Ad Tryz.prog At2 24 t59) fun t60=>Aa (Ad Tryz.prog At2 50 t0) fun t61=>AQ (BV Tryz.prog At2 75 t58 t60 t61) fun At62=>Aa (Ac Tryz.prog 50 t0 1) fun t63=>Aa (Ad Tryz.prog At62 47 t63) fun t64=>Aa (Ah Tryz.prog .eql 47 (.tmp 29) (.const (.int .u8 5)) t64 (.int .u8 5)) fun t65=>Ae t65 (Aa (BQ a0) fun t66=>Aa (Ac Tryz.prog 79 t66 0) fun t67=>Aa (Ad Tryz.prog At62 72 t67) fun t68=>Aa (Ac Tryz.prog 50 t0 0) fun t69=>Aa (Ad Tryz.prog At62 24 t69) fun t70=>Wc Tryz.prog Af W0 m0 91 [t68,t70] At62 fun t71 At71=>Aa (Ah Tryz.prog .eql 28 (.tmp 37) (.const (.int .i64 100)) t71 (.int .i64 100)) fun t72=>Ae t72 (Wc Tryz.prog Af W0 m0 90 [a0] At71 fun t73 At73=>Q t73 At73) (Aa (Ad Tryz.prog At71 50 t0) fun t74=>Al (Aq Tryz.prog At71 223 2 [(0,(.int .u8 3)),(1,(.int .u8 4))]) fun t75 At75=>Wc Tryz.prog Af W0 m0 92 [t74,t75] At75 fun t76 At76=>Aa (unA Tryz.prog .not t76) fun t77=>Ae t77 (Aa (BQ a0) fun t78=>Aa (Ac Tryz.prog 79 t78 3) fun t79=>Aa (Ad Tryz.prog At76 75 t79) fun t80=>Aa (Ac Tryz.prog 50 t0 0) fun t81=>Aa (Ad Tryz.prog At76 24 t81) fun t82=>AQ (Fw Tryz.prog At76 75 t80 t82) fun At83=>Q (.int .i64 0) At83) (Q (.int .i64 0) At76))) (Aa (Ac Tryz.prog 50 t0 1) fun t84=>Aa (Ad Tryz.prog At62 47 t84) fun t85=>Aa (Ah Tryz.prog .neq 47 (.tmp 53) (.tmp 54) t85 a2) fun t86=>Ae t86 (Aa (Ad Tryz.prog At62 50 t0) fun t87=>Wc Tryz.prog Af W0 m0 46 [t87] At62 fun t88 At88=>Aa (Ar t88 0) fun t89=>Aa (Ar t88 1) fun _=>Aa (Ar t88 2) fun _=>AQ (Am Tryz.prog At88 50 t0 t89) fun At92=>Aa (BQ a0) fun t93=>Aa (Ac Tryz.prog 79 t93 3) fun t94=>Aa (Ad Tryz.prog At92 75 t94) fun t95=>Aa (Ac Tryz.prog 50 t0 0) fun t96=>Aa (Ad Tryz.prog At92 24 t96) fun t97=>Aa (Ad Tryz.prog At92 50 t0) fun t98=>AQ (BV Tryz.prog At92 75 t95 t97 t98) fun At99=>Aa (Ad Tryz.prog At99 50 t0) fun t100=>Wc Tryz.prog Af W0 m0 47 [a0,t100] At99 fun _ At101=>Q (.int .i64 0) At101) (Q (.int .i64 0) At62)))):=by kernel_rfl
theorem n37(a0 a1 a2:Value):AD Tryz.prog 37 [a0,a1,a2] .normal=some (frM 37 (Tm.fill ⟨72,.nil⟩ 0 [a0,a1,a2]) [.code (cd 37 [])] false):=by kernel_rfl
theorem w37:Wf3 37 72 T37 L37:=wf3 n37 (by decide) fun _ _ _=>rfl
noncomputable def T88:Nat→List Item:=fun i=>match i with
 |_=>[]
def L88:Nat→List Tmp:=fun i=>match i with
 |_=>[]
theorem e88(W0:World)(m0:Inj Tryz.prog)(S:Nat→List Value→AW→Prop)(Q:Value→AW→Prop)(a0:Value)(A:AW):AM Tryz.prog Af W0 m0 88 T88 L88 S Q none 4000 (Tm.fill ⟨18,.nil⟩ 0 [a0]) [.code (cd 88 [])] false 0 0 0 [] A=(Al (Cq A (Value.cells a0).toList 50) fun t0 At0=>Aa (Ad Tryz.prog At0 50 t0) fun t1=>Wc Tryz.prog Af W0 m0 81 [t1] At0 fun t2 At2=>Aa (Ah Tryz.prog .eql 28 (.tmp 4) (.const (.int .i64 0)) t2 (.int .i64 0)) fun t3=>Ae t3 (Aa (Ac Tryz.prog 50 t0 1) fun t4=>Aa (Ad Tryz.prog At2 47 t4) fun t5=>Aa (Ah Tryz.prog .eql 47 (.tmp 8) (.const (.int .u8 2)) t5 (.int .u8 2)) fun t6=>Ae t6 (Aa (Ac Tryz.prog 50 t0 3) fun t7=>Aa (Ad Tryz.prog At2 48 t7) fun t8=>Al (Aq Tryz.prog At2 223 1 [(0,(.int .u8 0))]) fun t9 At9=>Wc Tryz.prog Af W0 m0 151 [t8,t9] At9 fun t10 At10=>Aa (unA Tryz.prog .not t10) fun t11=>Q t11 At10) (Q (.bool false) At2)) (Q (.bool false) At2)):=by kernel_rfl
theorem n88(a0:Value):AD Tryz.prog 88 [a0] .normal=some (frM 88 (Tm.fill ⟨18,.nil⟩ 0 [a0]) [.code (cd 88 [])] false):=by kernel_rfl
theorem w88:Wf1 88 18 T88 L88:=wf1 n88 (by decide) fun _=>rfl
noncomputable def T46:Nat→List Item:=fun i=>match i with
 |_=>[]
def L46:Nat→List Tmp:=fun i=>match i with
 |_=>[]
theorem e46(W0:World)(m0:Inj Tryz.prog)(S:Nat→List Value→AW→Prop)(Q:Value→AW→Prop)(a0:Value)(A:AW):AM Tryz.prog Af W0 m0 46 T46 L46 S Q none 4000 (Tm.fill ⟨52,.nil⟩ 0 [a0]) [.code (cd 46 [])] false 0 0 0 [] A=(Al (Cq A (Value.cells a0).toList 50) fun t0 At0=>Al (Cd Tryz.prog At0 50) fun t1 At1=>Aa (Ad Tryz.prog At1 50 t0) fun t2=>Wc Tryz.prog Af W0 m0 81 [t2] At1 fun t3 At3=>Aa (Ah Tryz.prog .neq 28 (.tmp 6) (.const (.int .i64 0)) t3 (.int .i64 0)) fun t4=>Ae t4 (Aa (Aw Tryz.prog 50 []) fun t5=>AQ (Am Tryz.prog At3 50 t1 t5) fun At6=>Aa (Ad Tryz.prog At6 50 t1) fun t7=>Q (.tuple ⟨[t7,(.bool false),(.int .i64 270)]⟩) At6) (Aa (Ad Tryz.prog At3 50 t0) fun t8=>Wc Tryz.prog Af W0 m0 83 [t8] At3 fun t9 At9=>AQ (Am Tryz.prog At9 50 t0 t9) fun At10=>Aa (Ac Tryz.prog 50 t0 1) fun t11=>Aa (Ad Tryz.prog At10 47 t11) fun t12=>Aa (Ah Tryz.prog .eql 47 (.tmp 13) (.const (.int .u8 1)) t12 (.int .u8 1)) fun t13=>Ae t13 (Aa (Ad Tryz.prog At10 50 t0) fun t14=>AQ (Am Tryz.prog At10 50 t1 t14) fun At15=>Aa (Ad Tryz.prog At15 50 t1) fun t16=>Q (.tuple ⟨[t16,(.bool false),(.int .i64 0)]⟩) At15) (Aa (Ac Tryz.prog 50 t0 1) fun t17=>Aa (Ad Tryz.prog At10 47 t17) fun t18=>Aa (Ah Tryz.prog .eql 47 (.tmp 17) (.const (.int .u8 5)) t18 (.int .u8 5)) fun t19=>Ae t19 (Aa (Ad Tryz.prog At10 50 t0) fun t20=>AQ (Am Tryz.prog At10 50 t1 t20) fun At21=>Aa (Ad Tryz.prog At21 50 t1) fun t22=>Q (.tuple ⟨[t22,(.bool false),(.int .i64 0)]⟩) At21) (Aa (Ac Tryz.prog 50 t0 4) fun t23=>Aa (Ad Tryz.prog At10 22 t23) fun t24=>Aa (Ah Tryz.prog .gtr 22 (.tmp 23) (.const (.int .u32 0)) t24 (.int .u32 0)) fun t25=>Ae t25 (Aa (Ac Tryz.prog 50 t0 4) fun t26=>Aa (Ad Tryz.prog At10 22 t26) fun t27=>Aa (Ah Tryz.prog .sub 22 (.tmp 26) (.const (.int .u32 1)) t27 (.int .u32 1)) fun t28=>Aa (Ac Tryz.prog 50 t0 4) fun t29=>AQ (Am Tryz.prog At10 22 t29 t28) fun At30=>Aa (Ad Tryz.prog At30 50 t0) fun t31=>AQ (Am Tryz.prog At30 50 t1 t31) fun At32=>Aa (Ad Tryz.prog At32 50 t1) fun t33=>Q (.tuple ⟨[t33,(.bool false),(.int .i64 0)]⟩) At32) (Aa (Ac Tryz.prog 50 t0 1) fun t34=>Aa (Ad Tryz.prog At10 47 t34) fun t35=>Aa (Ah Tryz.prog .eql 47 (.tmp 32) (.const (.int .u8 2)) t35 (.int .u8 2)) fun t36=>Ae t36 (Aa (Ac Tryz.prog 50 t0 5) fun t37=>Aa (Ad Tryz.prog At10 22 t37) fun t38=>Aa (Ah Tryz.prog .eql 22 (.tmp 36) (.const (.int .u32 5)) t38 (.int .u32 5)) fun t39=>Ae t39 (Aa (Ad Tryz.prog At10 50 t0) fun t40=>Wc Tryz.prog Af W0 m0 86 [t40,(.int .u8 4)] At10 fun t41 At41=>AQ (Am Tryz.prog At41 50 t0 t41) fun At42=>Aa (Ac Tryz.prog 50 t0 1) fun t43=>Aa (Ad Tryz.prog At42 47 t43) fun t44=>Aa (Ah Tryz.prog .eql 47 (.tmp 42) (.const (.int .u8 5)) t44 (.int .u8 5)) fun t45=>Ae t45 (Aa (Ad Tryz.prog At42 50 t0) fun t46=>AQ (Am Tryz.prog At42 50 t1 t46) fun At47=>Aa (Ad Tryz.prog At47 50 t1) fun t48=>Q (.tuple ⟨[t48,(.bool true),(.int .i64 0)]⟩) At47) (Aa (Ac Tryz.prog 50 t0 5) fun t49=>Aa (Ad Tryz.prog At42 22 t49) fun t50=>Aa (Ah Tryz.prog .add 22 (.tmp 46) (.const (.int .u32 1)) t50 (.int .u32 1)) fun t51=>Aa (P6 t51 [(.int .u32 5)]) fun t52=>Aa (Ac Tryz.prog 50 t0 4) fun t53=>AQ (Am Tryz.prog At42 22 t53 (.int .u32 2)) fun At54=>Aa (Ac Tryz.prog 50 t0 5) fun t55=>AQ (Am Tryz.prog At54 22 t55 t52) fun At56=>Aa (Ad Tryz.prog At56 50 t0) fun t57=>AQ (Am Tryz.prog At56 50 t1 t57) fun At58=>Aa (Ad Tryz.prog At58 50 t1) fun t59=>Q (.tuple ⟨[t59,(.bool true),(.int .i64 0)]⟩) At58)) (Aa (Ac Tryz.prog 50 t0 5) fun t60=>Aa (Ad Tryz.prog At10 22 t60) fun t61=>Aa (Ah Tryz.prog .add 22 (.tmp 46) (.const (.int .u32 1)) t61 (.int .u32 1)) fun t62=>Aa (P6 t62 [(.int .u32 5)]) fun t63=>Aa (Ac Tryz.prog 50 t0 4) fun t64=>AQ (Am Tryz.prog At10 22 t64 (.int .u32 2)) fun At65=>Aa (Ac Tryz.prog 50 t0 5) fun t66=>AQ (Am Tryz.prog At65 22 t66 t63) fun At67=>Aa (Ad Tryz.prog At67 50 t0) fun t68=>AQ (Am Tryz.prog At67 50 t1 t68) fun At69=>Aa (Ad Tryz.prog At69 50 t1) fun t70=>Q (.tuple ⟨[t70,(.bool true),(.int .i64 0)]⟩) At69)) (Aa (Ac Tryz.prog 50 t0 5) fun t71=>Aa (Ad Tryz.prog At10 22 t71) fun t72=>Aa (Ah Tryz.prog .add 22 (.tmp 46) (.const (.int .u32 1)) t72 (.int .u32 1)) fun t73=>Aa (P6 t73 [(.int .u32 5)]) fun t74=>Aa (Ac Tryz.prog 50 t0 4) fun t75=>AQ (Am Tryz.prog At10 22 t75 (.int .u32 2)) fun At76=>Aa (Ac Tryz.prog 50 t0 5) fun t77=>AQ (Am Tryz.prog At76 22 t77 t74) fun At78=>Aa (Ad Tryz.prog At78 50 t0) fun t79=>AQ (Am Tryz.prog At78 50 t1 t79) fun At80=>Aa (Ad Tryz.prog At80 50 t1) fun t81=>Q (.tuple ⟨[t81,(.bool true),(.int .i64 0)]⟩) At80)))))):=by kernel_rfl
theorem n46(a0:Value):AD Tryz.prog 46 [a0] .normal=some (frM 46 (Tm.fill ⟨52,.nil⟩ 0 [a0]) [.code (cd 46 [])] false):=by kernel_rfl
theorem w46:Wf1 46 52 T46 L46:=wf1 n46 (by decide) fun _=>rfl
noncomputable def T47:Nat→List Item:=fun i=>match i with
 |_=>[]
def L47:Nat→List Tmp:=fun i=>match i with
 |_=>[]
theorem e47(W0:World)(m0:Inj Tryz.prog)(S:Nat→List Value→AW→Prop)(Q:Value→AW→Prop)(a0 a1:Value)(A:AW):AM Tryz.prog Af W0 m0 47 T47 L47 S Q none 4000 (Tm.fill ⟨14,.nil⟩ 0 [a0,a1]) [.code (cd 47 [])] false 0 0 0 [] A=(Al (Cq A (Value.cells a1).toList 50) fun t0 At0=>Aa (BQ a0) fun t1=>Aa (Ac Tryz.prog 79 t1 6) fun t2=>Aa (Ad Tryz.prog At0 41 t2) fun t3=>Aa (Ad Tryz.prog At0 50 t0) fun t4=>Wc Tryz.prog Af W0 m0 98 [t4] At0 fun t5 At5=>Aa (Ad Tryz.prog At5 41 t2) fun t6=>eqW t6 t3 (Aa (Ac Tryz.prog 79 t1 6) fun t7=>eqW t7 t2 (Aa (BQ a0) fun t8=>eqW t8 t1 (eqW a0 a0 (eqW a0 a0 (Al (AT Tryz.prog At5 41 41 t3 t5) fun t9 At9=>eqW a0 a0 (Aa (BQ a0) fun t10=>Aa (Ac Tryz.prog 79 t10 6) fun t11=>AQ (Am Tryz.prog At9 41 t11 t9) fun At12=>Q (.tuple ⟨[]⟩) At12))))))):=by kernel_rfl
theorem n47(a0 a1:Value):AD Tryz.prog 47 [a0,a1] .normal=some (frM 47 (Tm.fill ⟨14,.nil⟩ 0 [a0,a1]) [.code (cd 47 [])] false):=by kernel_rfl
theorem w47:Wf2 47 14 T47 L47:=wf2 n47 (by decide) fun _ _=>rfl
noncomputable def T98:Nat→List Item:=fun i=>match i with
 |0=>[(.code (cd 98 [1,1,1,0,1,0,0])),(.inLoop (cd 98 [1,1,1,0,1,0,0])),(.inBlock 0),(.code (cd 98 [1,1,1,1]))]
 |2=>[(.code (cd 98 [1,1,1,0,1,0,0,1,1,0,0,1,1,0,0])),(.inLoop (cd 98 [1,1,1,0,1,0,0,1,1,0,0,1,1,0,0])),(.inBlock 2),(.inBlock 1),(.code (cd 98 [1,1,1,0,1,0,0,1,1,1])),(.inLoop (cd 98 [1,1,1,0,1,0,0])),(.inBlock 0),(.code (cd 98 [1,1,1,1]))]
 |_=>[]
def L98:Nat→List Tmp:=fun i=>match i with
 |0=>[1,3,12,13,14]
 |2=>[1,3,5,12,13,14,18,19,20]
 |_=>[]
theorem e98(W0:World)(m0:Inj Tryz.prog)(S:Nat→List Value→AW→Prop)(Q:Value→AW→Prop)(a0:Value)(A:AW):AM Tryz.prog Af W0 m0 98 T98 L98 S Q none 4000 (Tm.fill ⟨50,.nil⟩ 0 [a0]) [.code (cd 98 [])] false 0 0 0 [] A=(Al (Cq A (Value.cells a0).toList 50) fun t0 At0=>Aa (Ad Tryz.prog At0 50 t0) fun t1=>Wc Tryz.prog Af W0 m0 81 [t1] At0 fun t2 At2=>Aa (Ah Tryz.prog .neq 28 (.tmp 9) (.const (.int .i64 0)) t2 (.int .i64 0)) fun t3=>Ae t3 (Q (.slice none 0 0) At2) (Aa (Ac Tryz.prog 50 t0 3) fun t4=>Aa (Ad Tryz.prog At2 48 t4) fun t5=>Aa (Br Tryz.prog At2 48 t5) fun t6=>BX (T98 0) (T98 0) (S 0 [t0,(.slice none 0 0),t5,t6,(.int .i64 0)] At2))):=by kernel_rfl
theorem Abh(W0:World)(m0:Inj Tryz.prog)(S:Nat→List Value→AW→Prop)(Q:Value→AW→Prop)(d:Nat→Value)(A:AW):AM Tryz.prog Af W0 m0 98 T98 L98 S Q none 4000 (DD 50 d) (T98 0) false 0 0 0 [] A=(Aa (Ah Tryz.prog .lss 3 (.tmp 14) (.tmp 13) (d 14) (d 13)) fun t0=>Ae t0 (Aa (Aj Tryz.prog 48 (d 12) (d 14)) fun t1=>Aa (Ad Tryz.prog A 135 t1) fun t2=>Al (Cd Tryz.prog A 135) fun t3 At3=>AQ (Am Tryz.prog At3 135 t3 t2) fun At4=>Wc Tryz.prog Af W0 m0 85 [] At4 fun t5 At5=>Aa (Br Tryz.prog At5 155 t5) fun t6=>BX (T98 2) (T98 2) (S 2 [(d 1),(d 3),t3,(d 12),(d 13),(d 14),t5,t6,(.int .i64 0)] At5)) (Q (d 3) A)):=by kernel_rfl
theorem Abg(W0:World)(m0:Inj Tryz.prog)(S:Nat→List Value→AW→Prop)(Q:Value→AW→Prop)(d:Nat→Value)(A:AW):AM Tryz.prog Af W0 m0 98 T98 L98 S Q none 4000 (DD 50 d) (T98 2) false 0 0 0 [] A=(Aa (Ah Tryz.prog .lss 3 (.tmp 20) (.tmp 19) (d 20) (d 19)) fun t0=>Ae t0 (Aa (Aj Tryz.prog 155 (d 18) (d 20)) fun t1=>Aa (Ad Tryz.prog A 159 t1) fun t2=>Al (Cd Tryz.prog A 159) fun t3 At3=>AQ (Am Tryz.prog At3 159 t3 t2) fun At4=>Aa (Ac Tryz.prog 159 t3 0) fun t5=>Aa (Ad Tryz.prog At4 47 t5) fun t6=>Aa (Ac Tryz.prog 50 (d 1) 1) fun t7=>Aa (Ad Tryz.prog At4 47 t7) fun t8=>Aa (Ah Tryz.prog .eql 47 (.tmp 25) (.tmp 27) t6 t8) fun t9=>Ae t9 (Aa (Ac Tryz.prog 159 t3 1) fun t10=>Aa (Ad Tryz.prog At4 133 t10) fun t11=>Aa (Ac Tryz.prog 135 (d 5) 2) fun t12=>Aa (Ad Tryz.prog At4 133 t12) fun t13=>Aa (Ah Tryz.prog .eql 133 (.tmp 31) (.tmp 33) t11 t13) fun t14=>Ae t14 (Aa (Ac Tryz.prog 135 (d 5) 0) fun t15=>Aa (Ad Tryz.prog At4 5 t15) fun t16=>Aa (Ac Tryz.prog 159 t3 2) fun t17=>Aa (Ad Tryz.prog At4 5 t17) fun t18=>Aa (Ac Tryz.prog 135 (d 5) 1) fun t19=>Aa (Ad Tryz.prog At4 24 t19) fun t20=>Aa (Aw Tryz.prog 38 [(0,t18),(1,t20)]) fun t21=>Aa (Aw Tryz.prog 46 [(0,t16),(1,t21)]) fun t22=>Al (Aq Tryz.prog At4 41 1 [(0,t22)]) fun t23 At23=>Al (AT Tryz.prog At23 41 41 (d 3) t23) fun t24 At24=>Aa (Ah Tryz.prog .add 3 (.tmp 20) (.const (.int .i64 1)) (d 20) (.int .i64 1)) fun t25=>BX (T98 2) (T98 2) (S 2 [(d 1),t24,(d 5),(d 12),(d 13),(d 14),(d 18),(d 19),t25] At24)) (Aa (Ah Tryz.prog .add 3 (.tmp 20) (.const (.int .i64 1)) (d 20) (.int .i64 1)) fun t26=>BX (T98 2) (T98 2) (S 2 [(d 1),(d 3),(d 5),(d 12),(d 13),(d 14),(d 18),(d 19),t26] At4))) (Aa (Ah Tryz.prog .add 3 (.tmp 20) (.const (.int .i64 1)) (d 20) (.int .i64 1)) fun t27=>BX (T98 2) (T98 2) (S 2 [(d 1),(d 3),(d 5),(d 12),(d 13),(d 14),(d 18),(d 19),t27] At4))) (Aa (Ah Tryz.prog .add 3 (.tmp 14) (.const (.int .i64 1)) (d 14) (.int .i64 1)) fun t28=>BX (T98 0) (T98 0) (S 0 [(d 1),(d 3),(d 12),(d 13),t28] A))):=by kernel_rfl
theorem n98(a0:Value):AD Tryz.prog 98 [a0] .normal=some (frM 98 (Tm.fill ⟨50,.nil⟩ 0 [a0]) [.code (cd 98 [])] false):=by kernel_rfl
theorem w98:Wf1 98 50 T98 L98:=wf1 n98 (by decide) fun _=>rfl
theorem c98:Fy 98 50 T98 L98:=Ga (by decide)
noncomputable def T85:Nat→List Item:=fun i=>match i with
 |_=>[]
def L85:Nat→List Tmp:=fun i=>match i with
 |_=>[]
theorem e85(W0:World)(m0:Inj Tryz.prog)(S:Nat→List Value→AW→Prop)(Q:Value→AW→Prop)(A:AW):AM Tryz.prog Af W0 m0 85 T85 L85 S Q none 4000 (Tm.fill ⟨6,.nil⟩ 0 []) [.code (cd 85 [])] false 0 0 0 [] A=(Aa (Aw Tryz.prog 159 [(0,(.int .u8 2)),(1,(.int .u8 0)),(2,(.int .u8 1)),(3,(.func (.func 153) #[] #[]))]) fun t0=>Aa (Aw Tryz.prog 159 [(0,(.int .u8 3)),(1,(.int .u8 1)),(2,(.int .u8 2)),(3,(.func (.func 154) #[] #[]))]) fun t1=>Aa (Aw Tryz.prog 159 [(0,(.int .u8 4)),(1,(.int .u8 0)),(2,(.int .u8 3)),(3,(.func (.func 154) #[] #[]))]) fun t2=>Aa (Aw Tryz.prog 159 [(0,(.int .u8 4)),(1,(.int .u8 1)),(2,(.int .u8 3)),(3,(.func (.func 154) #[] #[]))]) fun t3=>Al (Aq Tryz.prog A 155 4 [(0,t0),(1,t1),(2,t2),(3,t3)]) fun t4 At4=>Q t4 At4):=by kernel_rfl
theorem n85:AD Tryz.prog 85 [] .normal=some (frM 85 (Tm.fill ⟨6,.nil⟩ 0 []) [.code (cd 85 [])] false):=by kernel_rfl
theorem w85:Wf0 85 6 T85 L85:=wf0 n85 (by decide) rfl
noncomputable def T38:Nat→List Item:=fun i=>match i with
 |_=>[]
def L38:Nat→List Tmp:=fun i=>match i with
 |_=>[]
theorem e38(W0:World)(m0:Inj Tryz.prog)(S:Nat→List Value→AW→Prop)(Q:Value→AW→Prop)(a0:Value)(A:AW):AM Tryz.prog Af W0 m0 38 T38 L38 S Q none 4000 (Tm.fill ⟨9,.nil⟩ 0 [a0]) [.code (cd 38 [])] false 0 0 0 [] A=(Aa (BQ a0) fun t0=>Aa (Ac Tryz.prog 79 t0 3) fun t1=>Aa (Ad Tryz.prog A 75 t1) fun t2=>Wc Tryz.prog Af W0 m0 94 [t2] A fun t3 At3=>Wc Tryz.prog Af W0 m0 93 [t3,(.func (.func 95) #[] #[])] At3 fun t4 At4=>Q t4 At4):=by kernel_rfl
theorem n38(a0:Value):AD Tryz.prog 38 [a0] .normal=some (frM 38 (Tm.fill ⟨9,.nil⟩ 0 [a0]) [.code (cd 38 [])] false):=by kernel_rfl
theorem w38:Wf1 38 9 T38 L38:=wf1 n38 (by decide) fun _=>rfl
noncomputable def T94:Nat→List Item:=fun i=>match i with
 |_=>[]
def L94:Nat→List Tmp:=fun i=>match i with
 |_=>[]
theorem e94(W0:World)(m0:Inj Tryz.prog)(S:Nat→List Value→AW→Prop)(Q:Value→AW→Prop)(a0:Value)(A:AW):AM Tryz.prog Af W0 m0 94 T94 L94 S Q none 4000 (Tm.fill ⟨4,.nil⟩ 0 [a0]) [.code (cd 94 [])] false 0 0 0 [] A=(Al (Cq A (Value.cells a0).toList 75) fun t0 At0=>Q (.func (.func 167) ⟨[]⟩ ⟨[t0]⟩) At0):=by kernel_rfl
theorem n94(a0:Value):AD Tryz.prog 94 [a0] .normal=some (frM 94 (Tm.fill ⟨4,.nil⟩ 0 [a0]) [.code (cd 94 [])] false):=by kernel_rfl
theorem w94:Wf1 94 4 T94 L94:=wf1 n94 (by decide) fun _=>rfl
noncomputable def T93:Nat→List Item:=fun i=>match i with
 |_=>[]
def L93:Nat→List Tmp:=fun i=>match i with
 |_=>[]
theorem e93(W0:World)(m0:Inj Tryz.prog)(S:Nat→List Value→AW→Prop)(Q:Value→AW→Prop)(a0 a1:Value)(A:AW):AM Tryz.prog Af W0 m0 93 T93 L93 S Q none 4000 (Tm.fill ⟨12,.nil⟩ 0 [a0,a1]) [.code (cd 93 [])] false 0 0 0 [] A=(Wc Tryz.prog Af W0 m0 165 [a0] A fun t0 At0=>Wc Tryz.prog Af W0 m0 166 [t0,a1] At0 fun _ At1=>Q t0 At1):=by kernel_rfl
theorem n93(a0 a1:Value):AD Tryz.prog 93 [a0,a1] .normal=some (frM 93 (Tm.fill ⟨12,.nil⟩ 0 [a0,a1]) [.code (cd 93 [])] false):=by kernel_rfl
theorem w93:Wf2 93 12 T93 L93:=wf2 n93 (by decide) fun _ _=>rfl
noncomputable def Aci:Nat→List Item:=fun i=>match i with
 |_=>[]
def AcU:Nat→List Tmp:=fun i=>match i with
 |_=>[]
theorem Abz(W0:World)(m0:Inj Tryz.prog)(S:Nat→List Value→AW→Prop)(Q:Value→AW→Prop)(a0:Value)(A:AW):AM Tryz.prog Af W0 m0 165 Aci AcU S Q none 4000 (Tm.fill ⟨5,.nil⟩ 0 [a0]) [.code (cd 165 [])] false 0 0 0 [] A=(Wc Tryz.prog Af W0 m0 223 [(.slice none 0 0),a0] A fun t0 At0=>Q t0 At0):=by kernel_rfl
theorem n165(a0:Value):AD Tryz.prog 165 [a0] .normal=some (frM 165 (Tm.fill ⟨5,.nil⟩ 0 [a0]) [.code (cd 165 [])] false):=by kernel_rfl
theorem AaE:Wf1 165 5 Aci AcU:=wf1 n165 (by decide) fun _=>rfl
noncomputable def XL:Nat→List Item:=fun i=>match i with
 |_=>[]
def XM:Nat→List Tmp:=fun i=>match i with
 |_=>[]
theorem AeN(W0:World)(m0:Inj Tryz.prog)(S:Nat→List Value→AW→Prop)(Q:Value→AW→Prop)(a0 a1:Value)(A:AW):AM Tryz.prog Af W0 m0 223 XL XM S Q none 4000 (Tm.fill ⟨13,.nil⟩ 0 [a0,a1]) [.code (cd 223 [])] false 0 0 0 [] A=(Al (Cq A (Value.cells a0).toList 34) fun t0 At0=>Vv At0 223 (SB ⟨13,.nil⟩ [(0,a0),(1,a1),(2,t0),(4,(.slice none 0 0)),(6,a1)]) [7] (cd 223 [1,0,1,0,0]) (cd 223 [1,0,1,0,1]) fun Dt1 Lt1 Abt1=>AbE Tryz.prog Af W0 m0 Abt1 a1 [.func (.yield Lt1) #[] #[]] fun _ Act1=>M7 Act1 Lt1 (fun Adt1=>Aa (Ad Tryz.prog Adt1 34 t0) fun t2=>G8 [Dt1] Adt1 fun At3=>Q t2 At3) (fun Aet1=>G8 [Dt1] Aet1 fun At4=>Q (.slice none 0 0) At4)):=by kernel_rfl
theorem Y6(W0:World)(m0:Inj Tryz.prog)(S:Nat→List Value→AW→Prop)(Q:Value→AW→Prop)(l:Nat)(d:Nat→Value)(A:AW):AM Tryz.prog Af W0 m0 223 XL XM S Q (some l) 4000 (DD 13 d) [.code (cd 223 [1,0,1,0,0]),.beginRound,.code (cd 223 [1,0,1,0,1])] false 0 0 0 [] A=(Al (Cd Tryz.prog A 24) fun t0 At0=>AQ (Am Tryz.prog At0 24 t0 (d 7)) fun At1=>Sh At1 l fun At2=>Aa (Ad Tryz.prog At2 34 (d 2)) fun t3=>Aa (Ad Tryz.prog At2 24 t0) fun t4=>Al (Aq Tryz.prog At2 34 1 [(0,t4)]) fun t5 At5=>Al (AT Tryz.prog At5 34 34 t3 t5) fun t6 At6=>AQ (Am Tryz.prog At6 34 (d 2) t6) fun At7=>RJ At7 l none Q):=by kernel_rfl
theorem n223(a0 a1:Value):AD Tryz.prog 223 [a0,a1] .normal=some (frM 223 (Tm.fill ⟨13,.nil⟩ 0 [a0,a1]) [.code (cd 223 [])] false):=by kernel_rfl
theorem AdN:Wf2 223 13 XL XM:=wf2 n223 (by decide) fun _ _=>rfl
noncomputable def Pl:Nat→List Item:=fun i=>match i with
 |0=>[(.code (cd 167 [1,0,0])),(.inLoop (cd 167 [1,0,0])),(.inBlock 0)]
 |_=>[]
def Wu:Nat→List Tmp:=fun i=>match i with
 |0=>[0,5]
 |_=>[]
theorem Ae3(W0:World)(m0:Inj Tryz.prog)(S:Nat→List Value→AW→Prop)(Q:Value→AW→Prop)(a0 a1:Value)(A:AW):AM Tryz.prog Af W0 m0 167 Pl Wu S Q none 4000 (Tm.fill ⟨14,.nil⟩ 0 [a0,a1]) [.code (cd 167 [])] false 0 0 0 [] A=(Aa (Ad Tryz.prog A 75 a1) fun t0=>anW Tryz.prog Af W0 m0 (Ri Tryz.prog A 75 t0) fun t1 At1=>BX (Pl 0) (Pl 0) (S 0 [a0,t1] At1)):=by kernel_rfl
theorem Zq(W0:World)(m0:Inj Tryz.prog)(S:Nat→List Value→AW→Prop)(Q:Value→AW→Prop)(d:Nat→Value)(A:AW):AM Tryz.prog Af W0 m0 167 Pl Wu S Q none 4000 (DD 14 d) (Pl 0) false 0 0 0 [] A=(anW Tryz.prog Af W0 m0 (MA A (d 5) false) fun t0 At0=>Aa (Ar t0 0) fun t1=>Ae t1 (anW Tryz.prog Af W0 m0 (R4 At0 (d 5)) fun t2 At2=>Aa (Ar t2 0) fun t3=>Al (Cd Tryz.prog At2 24) fun t4 At4=>AQ (Am Tryz.prog At4 24 t4 t3) fun At5=>Aa (Ad Tryz.prog At5 24 t4) fun t6=>anW Tryz.prog Af W0 m0 (EL Tryz.prog Af At5 (d 0) [t6]) fun t7 At7=>Aa (unA Tryz.prog .not t7) fun t8=>Ae t8 (Q (.tuple ⟨[]⟩) At7) (BX (Pl 0) (Pl 0) (S 0 [(d 0),(d 5)] At7))) (Q (.tuple ⟨[]⟩) At0)):=by kernel_rfl
theorem n167(a0 a1:Value):AD Tryz.prog 167 [a0,a1] .normal=some (frM 167 (Tm.fill ⟨14,.nil⟩ 0 [a0,a1]) [.code (cd 167 [])] false):=by kernel_rfl
theorem Ad3:Wf2 167 14 Pl Wu:=wf2 n167 (by decide) fun _ _=>rfl
theorem c167:Fy 167 14 Pl Wu:=Ga (by decide)
section
variable (W0:World) (m0:Inj Tryz.prog) (S:Nat→List Value→AW→Prop) (Q:Value→AW→Prop)
noncomputable def T76:Nat→List Item:=fun i=>match i with
 |1=>[(.code (cd 76 [1,1,1,0,1,0,1,1,1,0,1,1,0,0])),(.inLoop (cd 76 [1,1,1,0,1,0,1,1,1,0,1,1,0,0])),(.inBlock 1),(.inBlock 0),(.code (cd 76 [1,1,1,1]))]
 |_=>[]
def L76:Nat→List Tmp:=fun i=>match i with
 |1=>[4,55,56,57]
 |_=>[]
theorem e76(a0:Value)(A:AW):AM Tryz.prog Af W0 m0 76 T76 L76 S Q none 4000 (Tm.fill ⟨74,.nil⟩ 0 [a0]) [.code (cd 76 [])] false 0 0 0 [] A=(Al (Cq A (Value.cells a0).toList 38) fun t0 At0=>Aa (Ad Tryz.prog At0 38 t0) fun t1=>Wc Tryz.prog Af W0 m0 82 [t1] At0 fun t2 At2=>Aa (Ah Tryz.prog .neq 28 (.tmp 14) (.const (.int .i64 0)) t2 (.int .i64 0)) fun t3=>Ae t3 (Q (.tuple ⟨[(.string ⟨⟨[]⟩⟩),(.int .i64 250)]⟩) At2) (Aa (Ac Tryz.prog 38 t0 0) fun t4=>Aa (Ad Tryz.prog At2 5 t4) fun t5=>Aa (Ac Tryz.prog 38 t0 2) fun t6=>Aa (Ad Tryz.prog At2 35 t6) fun t7=>Al (Aq Tryz.prog At2 52 2 [(0,t5),(1,t7)]) fun t8 At8=>Cm (Bi Tryz.prog (BJ (Tm.fill ⟨2,.nil⟩ 0 [t5,t7])) (.buildSlice 52 2 #[(0,.tmp 0),(1,.tmp 1)])) At8 t8 (Aa (Ad Tryz.prog At8 35 t6) fun t9=>eqW t9 t7 (Aa (Ac Tryz.prog 38 t0 2) fun t10=>eqW t10 t6 (Aa (Ad Tryz.prog At8 5 t4) fun t11=>eqW t11 t5 (Aa (Ac Tryz.prog 38 t0 0) fun t12=>eqW t12 t4 (Aa (Ac Tryz.prog 38 t0 3) fun t13=>Aa (Ad Tryz.prog At8 36 t13) fun t14=>Al (AK Tryz.prog At8 36 76 t14) fun t15 At15=>Wc Tryz.prog Af W0 m0 135 [(.slice none 0 0),t15,(.int .i64 2)] At15 fun t16 At16=>Cm (Bi Tryz.prog (BJ (Tm.fill ⟨2,.nil⟩ 0 [t5,t7])) (.buildSlice 52 2 #[(0,.tmp 0),(1,.tmp 1)])) At16 t8 (Aa (Ad Tryz.prog At16 35 t6) fun t17=>eqW t17 t7 (Aa (Ac Tryz.prog 38 t0 2) fun t18=>eqW t18 t6 (Aa (Ad Tryz.prog At16 5 t4) fun t19=>eqW t19 t5 (Aa (Ac Tryz.prog 38 t0 0) fun t20=>eqW t20 t4 (Al (Aq Tryz.prog At16 261 2 [(0,t8),(1,t16)]) fun t21 At21=>Cm (Bi Tryz.prog (BJ (Tm.fill ⟨2,.nil⟩ 0 [t8,t16])) (.buildSlice 261 2 #[(0,.tmp 0),(1,.tmp 1)])) At21 t21 (Al (AK Tryz.prog At21 36 76 t14) fun t22 _=>eqW t22 t15 (Aa (Ad Tryz.prog At21 36 t13) fun t23=>eqW t23 t14 (Aa (Ac Tryz.prog 38 t0 3) fun t24=>eqW t24 t13 (Cm (Bi Tryz.prog (BJ (Tm.fill ⟨2,.nil⟩ 0 [t5,t7])) (.buildSlice 52 2 #[(0,.tmp 0),(1,.tmp 1)])) At21 t8 (Aa (Ad Tryz.prog At21 35 t6) fun t25=>eqW t25 t7 (Aa (Ac Tryz.prog 38 t0 2) fun t26=>eqW t26 t6 (Aa (Ad Tryz.prog At21 5 t4) fun t27=>eqW t27 t5 (Aa (Ac Tryz.prog 38 t0 0) fun t28=>eqW t28 t4 (Wc Tryz.prog Af W0 m0 144 [t21] At21 fun t29 At29=>Aa (Ac Tryz.prog 38 t0 0) fun t30=>Aa (Ad Tryz.prog At29 5 t30) fun t31=>Wc Tryz.prog Af W0 m0 75 [t31] At29 fun t32 At32=>Aa (Ar t32 0) fun t33=>Aa (Ar t32 1) fun t34=>Aa (Ah Tryz.prog .neq 5 (.tmp 34) (.const (.int .u8 5)) t33 (.int .u8 5)) fun t35=>Ae t35 (Aa (Ac Tryz.prog 38 t0 1) fun t36=>Aa (Ad Tryz.prog At32 24 t36) fun t37=>Wc Tryz.prog Af W0 m0 145 [t37] At32 fun t38 At38=>Aa (Ar t38 0) fun t39=>Aa (Ar t38 1) fun _=>Al (Aq Tryz.prog At38 261 2 [(0,t29),(1,t39)]) fun t41 At41=>Wc Tryz.prog Af W0 m0 144 [t41] At41 fun t42 At42=>Wc Tryz.prog Af W0 m0 146 [t42] At42 fun t43 At43=>Al (AK Tryz.prog At43 52 9 t43) fun t44 At44=>Q (.tuple ⟨[t44,(.int .i64 0)]⟩) At44) (Ae t34 (Aa (Ac Tryz.prog 38 t0 4) fun t45=>Aa (Ad Tryz.prog At32 34 t45) fun t46=>Aa (Br Tryz.prog At32 34 t46) fun t47=>Al (AK Tryz.prog At32 3 76 t47) fun t48 At48=>Wc Tryz.prog Af W0 m0 135 [t29,t48,(.int .i64 2)] At48 fun t49 At49=>Aa (Ac Tryz.prog 38 t0 4) fun t50=>Aa (Ad Tryz.prog At49 34 t50) fun t51=>Aa (Br Tryz.prog At49 34 t51) fun t52=>BX (T76 1) (T76 1) (S 1 [t49,t51,t52,(.int .i64 0)] At49)) (Wc Tryz.prog Af W0 m0 146 [t29] At32 fun t53 At53=>Al (AK Tryz.prog At53 52 9 t53) fun t54 At54=>Q (.tuple ⟨[t54,(.int .i64 0)]⟩) At54))))))))))))))))))))))):=by kernel_rfl
theorem Abi(d:Nat→Value)(A:AW):AM Tryz.prog Af W0 m0 76 T76 L76 S Q none 4000 (DD 74 d) (T76 1) false 0 0 0 [] A=(Aa (Ah Tryz.prog .lss 3 (.tmp 57) (.tmp 56) (d 57) (d 56)) fun t0=>Ae t0 (Aa (Aj Tryz.prog 34 (d 55) (d 57)) fun t1=>Aa (Ad Tryz.prog A 24 t1) fun t2=>Al (Cd Tryz.prog A 24) fun t3 At3=>AQ (Am Tryz.prog At3 24 t3 t2) fun At4=>Aa (Ad Tryz.prog At4 24 t3) fun t5=>Wc Tryz.prog Af W0 m0 145 [t5] At4 fun t6 At6=>Aa (Ar t6 0) fun t7=>Aa (Ar t6 1) fun _=>Al (Aq Tryz.prog At6 261 2 [(0,(d 4)),(1,t7)]) fun t9 At9=>Wc Tryz.prog Af W0 m0 144 [t9] At9 fun t10 At10=>Aa (Ah Tryz.prog .add 3 (.tmp 57) (.const (.int .i64 1)) (d 57) (.int .i64 1)) fun t11=>BX (T76 1) (T76 1) (S 1 [t10,(d 55),(d 56),t11] At10)) (Wc Tryz.prog Af W0 m0 146 [(d 4)] A fun t12 At12=>Al (AK Tryz.prog At12 52 9 t12) fun t13 At13=>Q (.tuple ⟨[t13,(.int .i64 0)]⟩) At13)):=by kernel_rfl
theorem n76(a0:Value):AD Tryz.prog 76 [a0] .normal=some (frM 76 (Tm.fill ⟨74,.nil⟩ 0 [a0]) [.code (cd 76 [])] false):=by kernel_rfl
theorem w76:Wf1 76 74 T76 L76:=wf1 n76 (by decide) fun _=>rfl
theorem c76:Fy 76 74 T76 L76:=Ga (by decide)
noncomputable def T9:Nat→List Item:=fun i=>match i with
 |0=>[(.code (cd 9 [1,1,1,1,0,1,0,1,1,0,0])),(.inLoop (cd 9 [1,1,1,1,0,1,0,1,1,0,0])),(.inBlock 0),(.code (cd 9 [1,1,1,1,1]))]
 |_=>[]
def L9:Nat→List Tmp:=fun i=>match i with
 |0=>[1,4,7]
 |_=>[]
noncomputable def SI(S:Nat→List Value→AW→Prop)(x0:Value)(X2:AW)(x16:Value):Prop:=Aa (Ac Tryz.prog 38 x0 4) fun b1=>Aa (Ad Tryz.prog X2 34 b1) fun b3=>Aa (Br Tryz.prog X2 34 b3) fun b4=>Aa (Ah Tryz.prog .quo 3 (.tmp 49) (.const (.int .i64 256)) b4 (.int .i64 256)) fun b5=>Al (AK Tryz.prog X2 3 5 b5) fun b6 B7=>Aa (Ac Tryz.prog 38 x0 4) fun b8=>Aa (Ad Tryz.prog B7 34 b8) fun b9=>Aa (Br Tryz.prog B7 34 b9) fun b10=>Aa (Ah Tryz.prog .rem 3 (.tmp 54) (.const (.int .i64 256)) b10 (.int .i64 256)) fun b11=>Al (AK Tryz.prog B7 3 5 b11) fun b12 B13=>Al (Aq Tryz.prog B13 52 2 [(0,b6),(1,b12)]) fun b14 B15=>Al (AT Tryz.prog B15 52 52 x16 b14) fun b17 B18=>BX (T9 0) (T9 0) (S 0 [x0,b17,(.int .i64 0)] B18)
noncomputable def SG(W0:World)(m0:Inj Tryz.prog)(S:Nat→List Value→AW→Prop)(Q:Value→AW→Prop)(x0:Value)(X2:AW)(x5:Value):Prop:=Aa (Ac Tryz.prog 38 x0 0) fun b1=>Aa (Ad Tryz.prog X2 5 b1) fun b3=>Aa (Ah Tryz.prog .eql 5 (.tmp 44) (.const (.int .u8 21)) b3 (.int .u8 21)) fun b4=>Ae b4 (SI S x0 X2 x5) (Wc Tryz.prog Af W0 m0 30 [x5] X2 fun b6 B7=>Al (AK Tryz.prog B7 52 9 b6) fun b8 B9=>Q (.tuple ⟨[b8,(.int .i64 0)]⟩) B9)
theorem e9(a0:Value)(A:AW):AM Tryz.prog Af W0 m0 9 T9 L9 S Q none 4000 (Tm.fill ⟨81,.nil⟩ 0 [a0]) [.code (cd 9 [])] false 0 0 0 [] A=(Al (Cq A (Value.cells a0).toList 38) fun t0 At0=>Aa (Ad Tryz.prog At0 38 t0) fun t1=>Wc Tryz.prog Af W0 m0 28 [t1] At0 fun t2 At2=>Aa (Ah Tryz.prog .neq 3 (.tmp 11) (.const (.int .i64 0)) t2 (.int .i64 0)) fun t3=>Ae t3 (Q (.tuple ⟨[(.string ⟨⟨[]⟩⟩),(.int .i64 250)]⟩) At2) (Aa (Ac Tryz.prog 38 t0 0) fun t4=>Aa (Ad Tryz.prog At2 5 t4) fun t5=>Aa (Ac Tryz.prog 38 t0 2) fun t6=>Aa (Ad Tryz.prog At2 35 t6) fun t7=>Aa (Ac Tryz.prog 38 t0 3) fun t8=>Aa (Ad Tryz.prog At2 36 t8) fun t9=>Aa (Ah Tryz.prog .quo 36 (.tmp 18) (.const (.int .u16 256)) t9 (.int .u16 256)) fun t10=>Al (AK Tryz.prog At2 36 5 t10) fun t11 At11=>Aa (Ac Tryz.prog 38 t0 3) fun t12=>Aa (Ad Tryz.prog At11 36 t12) fun t13=>Aa (Ah Tryz.prog .rem 36 (.tmp 22) (.const (.int .u16 256)) t13 (.int .u16 256)) fun t14=>Al (AK Tryz.prog At11 36 5 t14) fun t15 At15=>Al (Aq Tryz.prog At15 52 4 [(0,t5),(1,t7),(2,t11),(3,t15)]) fun t16 At16=>Aa (Ac Tryz.prog 38 t0 0) fun t17=>Aa (Ad Tryz.prog At16 5 t17) fun t18=>Aa (Ah Tryz.prog .neq 5 (.tmp 27) (.const (.int .u8 5)) t18 (.int .u8 5)) fun t19=>Ae t19 (Aa (Ac Tryz.prog 38 t0 0) fun t20=>Aa (Ad Tryz.prog At16 5 t20) fun t21=>Aa (Ah Tryz.prog .neq 5 (.tmp 31) (.const (.int .u8 21)) t21 (.int .u8 21)) fun t22=>Ae t22 (Aa (Ac Tryz.prog 38 t0 1) fun t23=>Aa (Ad Tryz.prog At16 24 t23) fun t24=>Wc Tryz.prog Af W0 m0 29 [t24] At16 fun t25 At25=>Aa (Ar t25 0) fun t26=>Aa (Ar t25 1) fun _=>Al (AT Tryz.prog At25 52 52 t16 t26) fun t28 At28=>Aa (Ac Tryz.prog 38 t0 0) fun t29=>Aa (Ad Tryz.prog At28 5 t29) fun t30=>Aa (Ah Tryz.prog .eql 5 (.tmp 44) (.const (.int .u8 21)) t30 (.int .u8 21)) fun t31=>Ae t31 (SI S t0 At28 t28) (Wc Tryz.prog Af W0 m0 30 [t28] At28 fun t44 At44=>Al (AK Tryz.prog At44 52 9 t44) fun t45 At45=>Q (.tuple ⟨[t45,(.int .i64 0)]⟩) At45)) (SG W0 m0 S Q t0 At16 t16)) (SG W0 m0 S Q t0 At16 t16))):=by kernel_rfl
theorem AeD(d:Nat→Value)(A:AW):AM Tryz.prog Af W0 m0 9 T9 L9 S Q none 4000 (DD 81 d) (T9 0) false 0 0 0 [] A=(Aa (Ac Tryz.prog 38 (d 1) 4) fun t0=>Aa (Ad Tryz.prog A 34 t0) fun t1=>Aa (Br Tryz.prog A 34 t1) fun t2=>Aa (Ah Tryz.prog .lss 3 (.tmp 59) (.tmp 62) (d 7) t2) fun t3=>Ae t3 (Aa (Ac Tryz.prog 38 (d 1) 4) fun t4=>Aa (Ad Tryz.prog A 34 t4) fun t5=>Aa (Aj Tryz.prog 34 t5 (d 7)) fun t6=>Aa (Ad Tryz.prog A 24 t6) fun t7=>Wc Tryz.prog Af W0 m0 29 [t7] A fun t8 At8=>Aa (Ar t8 0) fun t9=>Aa (Ar t8 1) fun _=>Al (AT Tryz.prog At8 52 52 (d 4) t9) fun t11 At11=>Aa (Ah Tryz.prog .add 3 (.tmp 64) (.const (.int .i64 1)) (d 7) (.int .i64 1)) fun t12=>BX (T9 0) (T9 0) (S 0 [(d 1),t11,t12] At11)) (Wc Tryz.prog Af W0 m0 30 [(d 4)] A fun t13 At13=>Al (AK Tryz.prog At13 52 9 t13) fun t14 At14=>Q (.tuple ⟨[t14,(.int .i64 0)]⟩) At14)):=by kernel_rfl
theorem n9(a0:Value):AD Tryz.prog 9 [a0] .normal=some (frM 9 (Tm.fill ⟨81,.nil⟩ 0 [a0]) [.code (cd 9 [])] false):=by kernel_rfl
theorem w9:Wf1 9 81 T9 L9:=wf1 n9 (by decide) fun _=>rfl
theorem c9:Fy 9 81 T9 L9:=Ga (by decide)
noncomputable def T82:Nat→List Item:=fun i=>match i with
 |_=>[]
def L82:Nat→List Tmp:=fun i=>match i with
 |_=>[]
noncomputable def Rm(W0:World)(m0:Inj Tryz.prog)(Q:Value→AW→Prop)(x0:Value)(x2:Value)(X4:AW)(x14:Value):Prop:=Aa (unA Tryz.prog .not x0) fun b1=>Ae b1 (Aa (Ac Tryz.prog 38 x2 2) fun b3=>Aa (Ad Tryz.prog X4 35 b3) fun b5=>Aa (Ah Tryz.prog .neq 35 (.tmp 59) (.const (.int .u8 0)) b5 (.int .u8 0)) fun b6=>Ae b6 (Q (.int .i64 250) X4) (Aa (Ac Tryz.prog 38 x2 3) fun b7=>Aa (Ad Tryz.prog X4 36 b7) fun b8=>Aa (Ah Tryz.prog .neq 36 (.tmp 63) (.const (.int .u16 0)) b8 (.int .u16 0)) fun b9=>Ae b9 (Q (.int .i64 250) X4) (Aa (Ac Tryz.prog 38 x2 4) fun b10=>Aa (Ad Tryz.prog X4 34 b10) fun b11=>Aa (Br Tryz.prog X4 34 b11) fun b12=>Aa (Ah Tryz.prog .gtr 3 (.tmp 69) (.const (.int .i64 0)) b12 (.int .i64 0)) fun b13=>Ae b13 (Ae x14 (Aa (unA Tryz.prog .not x0) fun b15=>Ae b15 (Q (.int .i64 250) X4) (Aa (Ac Tryz.prog 38 x2 4) fun b16=>Aa (Ad Tryz.prog X4 34 b16) fun b17=>Wc Tryz.prog Af W0 m0 152 [b17] X4 fun b18 B19=>Aa (unA Tryz.prog .not b18) fun b20=>Ae b20 (Q (.int .i64 250) B19) (Q (.int .i64 0) B19))) (Aa (unA Tryz.prog .not (.bool false)) fun b21=>Ae b21 (Q (.int .i64 250) X4) (Aa (Ac Tryz.prog 38 x2 4) fun b22=>Aa (Ad Tryz.prog X4 34 b22) fun b23=>Wc Tryz.prog Af W0 m0 152 [b23] X4 fun b24 B25=>Aa (unA Tryz.prog .not b24) fun b26=>Ae b26 (Q (.int .i64 250) B25) (Q (.int .i64 0) B25)))) (Aa (Ac Tryz.prog 38 x2 4) fun b27=>Aa (Ad Tryz.prog X4 34 b27) fun b28=>Wc Tryz.prog Af W0 m0 152 [b28] X4 fun b29 B30=>Aa (unA Tryz.prog .not b29) fun b31=>Ae b31 (Q (.int .i64 250) B30) (Q (.int .i64 0) B30))))) (Ae x14 (Aa (Ac Tryz.prog 38 x2 2) fun b32=>Aa (Ad Tryz.prog X4 35 b32) fun b33=>Aa (Ah Tryz.prog .neq 35 (.tmp 59) (.const (.int .u8 0)) b33 (.int .u8 0)) fun b34=>Ae b34 (Q (.int .i64 250) X4) (Aa (Ac Tryz.prog 38 x2 3) fun b35=>Aa (Ad Tryz.prog X4 36 b35) fun b36=>Aa (Ah Tryz.prog .neq 36 (.tmp 63) (.const (.int .u16 0)) b36 (.int .u16 0)) fun b37=>Ae b37 (Q (.int .i64 250) X4) (Aa (Ac Tryz.prog 38 x2 4) fun b38=>Aa (Ad Tryz.prog X4 34 b38) fun b39=>Aa (Br Tryz.prog X4 34 b39) fun b40=>Aa (Ah Tryz.prog .gtr 3 (.tmp 69) (.const (.int .i64 0)) b40 (.int .i64 0)) fun b41=>Ae b41 (Ae x14 (Aa (unA Tryz.prog .not x0) fun b42=>Ae b42 (Q (.int .i64 250) X4) (Aa (Ac Tryz.prog 38 x2 4) fun b43=>Aa (Ad Tryz.prog X4 34 b43) fun b44=>Wc Tryz.prog Af W0 m0 152 [b44] X4 fun b45 B46=>Aa (unA Tryz.prog .not b45) fun b47=>Ae b47 (Q (.int .i64 250) B46) (Q (.int .i64 0) B46))) (Aa (unA Tryz.prog .not (.bool false)) fun b48=>Ae b48 (Q (.int .i64 250) X4) (Aa (Ac Tryz.prog 38 x2 4) fun b49=>Aa (Ad Tryz.prog X4 34 b49) fun b50=>Wc Tryz.prog Af W0 m0 152 [b50] X4 fun b51 B52=>Aa (unA Tryz.prog .not b51) fun b53=>Ae b53 (Q (.int .i64 250) B52) (Q (.int .i64 0) B52)))) (Aa (Ac Tryz.prog 38 x2 4) fun b54=>Aa (Ad Tryz.prog X4 34 b54) fun b55=>Wc Tryz.prog Af W0 m0 152 [b55] X4 fun b56 B57=>Aa (unA Tryz.prog .not b56) fun b58=>Ae b58 (Q (.int .i64 250) B57) (Q (.int .i64 0) B57))))) (Aa (Ac Tryz.prog 38 x2 4) fun b59=>Aa (Ad Tryz.prog X4 34 b59) fun b60=>Aa (Br Tryz.prog X4 34 b60) fun b61=>Aa (Ah Tryz.prog .gtr 3 (.tmp 69) (.const (.int .i64 0)) b61 (.int .i64 0)) fun b62=>Ae b62 (Ae x14 (Aa (unA Tryz.prog .not x0) fun b63=>Ae b63 (Q (.int .i64 250) X4) (Aa (Ac Tryz.prog 38 x2 4) fun b64=>Aa (Ad Tryz.prog X4 34 b64) fun b65=>Wc Tryz.prog Af W0 m0 152 [b65] X4 fun b66 B67=>Aa (unA Tryz.prog .not b66) fun b68=>Ae b68 (Q (.int .i64 250) B67) (Q (.int .i64 0) B67))) (Aa (unA Tryz.prog .not (.bool false)) fun b69=>Ae b69 (Q (.int .i64 250) X4) (Aa (Ac Tryz.prog 38 x2 4) fun b70=>Aa (Ad Tryz.prog X4 34 b70) fun b71=>Wc Tryz.prog Af W0 m0 152 [b71] X4 fun b72 B73=>Aa (unA Tryz.prog .not b72) fun b74=>Ae b74 (Q (.int .i64 250) B73) (Q (.int .i64 0) B73)))) (Aa (Ac Tryz.prog 38 x2 4) fun b75=>Aa (Ad Tryz.prog X4 34 b75) fun b76=>Wc Tryz.prog Af W0 m0 152 [b76] X4 fun b77 B78=>Aa (unA Tryz.prog .not b77) fun b79=>Ae b79 (Q (.int .i64 250) B78) (Q (.int .i64 0) B78))))
noncomputable def Rl(W0:World)(m0:Inj Tryz.prog)(Q:Value→AW→Prop)(x0:Value)(X2:AW)(x14:Value)(x15:Value):Prop:=Aa (Ac Tryz.prog 38 x0 2) fun b1=>Aa (Ad Tryz.prog X2 35 b1) fun b3=>Aa (Ah Tryz.prog .gtr 35 (.tmp 35) (.const (.int .u8 7)) b3 (.int .u8 7)) fun b4=>Ae b4 (Q (.int .i64 250) X2) (Aa (Ac Tryz.prog 38 x0 3) fun b5=>Aa (Ad Tryz.prog X2 36 b5) fun b6=>Aa (Ah Tryz.prog .gtr 36 (.tmp 39) (.const (.int .u16 999)) b6 (.int .u16 999)) fun b7=>Ae b7 (Q (.int .i64 250) X2) (Aa (Ac Tryz.prog 38 x0 2) fun b8=>Aa (Ad Tryz.prog X2 35 b8) fun b9=>Aa (Ah Tryz.prog .neq 35 (.tmp 44) (.const (.int .u8 0)) b9 (.int .u8 0)) fun b10=>Ae b10 (Aa (Ac Tryz.prog 38 x0 3) fun b11=>Aa (Ad Tryz.prog X2 36 b11) fun b12=>Aa (Ah Tryz.prog .neq 36 (.tmp 48) (.const (.int .u16 0)) b12 (.int .u16 0)) fun b13=>Ae b13 (Q (.int .i64 250) X2) (Rm W0 m0 Q x14 x0 X2 x15)) (Rm W0 m0 Q x14 x0 X2 x15)))
noncomputable def Rk(W0:World)(m0:Inj Tryz.prog)(Q:Value→AW→Prop)(x0:Value)(x2:Value)(X4:AW)(x9:Value):Prop:=Aa (unA Tryz.prog .not x0) fun b1=>Ae b1 (Aa (Ac Tryz.prog 38 x2 1) fun b3=>Aa (Ad Tryz.prog X4 24 b3) fun b5=>Wc Tryz.prog Af W0 m0 97 [b5] X4 fun b6 B7=>Aa (Ah Tryz.prog .neq 28 (.tmp 30) (.const (.int .i64 0)) b6 (.int .i64 0)) fun b8=>Ae b8 (Q (.int .i64 250) B7) (Rl W0 m0 Q x2 B7 x9 x0)) (Rl W0 m0 Q x2 X4 x9 x0)
theorem e82(a0:Value)(A:AW):AM Tryz.prog Af W0 m0 82 T82 L82 S Q none 4000 (Tm.fill ⟨84,.nil⟩ 0 [a0]) [.code (cd 82 [])] false 0 0 0 [] A=(Al (Cq A (Value.cells a0).toList 38) fun t0 At0=>Aa (Ac Tryz.prog 38 t0 0) fun t1=>Aa (Ad Tryz.prog At0 5 t1) fun t2=>Wc Tryz.prog Af W0 m0 75 [t2] At0 fun t3 At3=>Aa (Ar t3 0) fun t4=>Aa (Ar t3 1) fun t5=>Aa (Ah Tryz.prog .eql 5 (.tmp 12) (.const (.int .u8 5)) t4 (.int .u8 5)) fun t6=>Aa (Ah Tryz.prog .eql 5 (.tmp 15) (.const (.int .u8 0)) t4 (.int .u8 0)) fun t7=>Ae t7 (Q (.int .i64 250) At3) (Ae t6 (Aa (Ac Tryz.prog 38 t0 1) fun t8=>Aa (Ad Tryz.prog At3 24 t8) fun t9=>Aa (Aw Tryz.prog 24 []) fun t10=>Aa (Ah Tryz.prog .neq 24 (.tmp 20) (.tmp 21) t9 t10) fun t11=>Ae t11 (Q (.int .i64 250) At3) (Rk W0 m0 Q t6 t0 At3 t5)) (Rk W0 m0 Q t6 t0 At3 t5))):=by kernel_rfl
theorem n82(a0:Value):AD Tryz.prog 82 [a0] .normal=some (frM 82 (Tm.fill ⟨84,.nil⟩ 0 [a0]) [.code (cd 82 [])] false):=by kernel_rfl
theorem w82:Wf1 82 84 T82 L82:=wf1 n82 (by decide) fun _=>rfl
noncomputable def Acs:Nat→List Item:=fun i=>match i with
 |_=>[]
def Ac4:Nat→List Tmp:=fun i=>match i with
 |_=>[]
theorem Afa(a0:Value)(A:AW):AM Tryz.prog Af W0 m0 144 Acs Ac4 S Q none 4000 (Tm.fill ⟨5,.nil⟩ 0 [a0]) [.code (cd 144 [])] false 0 0 0 [] A=(Wc Tryz.prog Af W0 m0 210 [a0] A fun t0 At0=>Q t0 At0):=by kernel_rfl
theorem n144(a0:Value):AD Tryz.prog 144 [a0] .normal=some (frM 144 (Tm.fill ⟨5,.nil⟩ 0 [a0]) [.code (cd 144 [])] false):=by kernel_rfl
theorem Aea:Wf1 144 5 Acs Ac4:=wf1 n144 (by decide) fun _=>rfl
noncomputable def Acy:Nat→List Item:=fun i=>match i with
 |_=>[]
def Ac9:Nat→List Tmp:=fun i=>match i with
 |_=>[]
theorem Afg(a0 a1 a2:Value)(A:AW):AM Tryz.prog Af W0 m0 135 Acy Ac9 S Q none 4000 (Tm.fill ⟨17,.nil⟩ 0 [a0,a1,a2]) [.code (cd 135 [])] false 0 0 0 [] A=(Wc Tryz.prog Af W0 m0 200 [a2] A fun t0 At0=>Aa (unA Tryz.prog .not t0) fun t1=>Ae t1 (Wc Tryz.prog Af W0 m0 205 [a0,(.slice none 0 0)] At0 fun t2 At2=>Q t2 At2) (Wc Tryz.prog Af W0 m0 206 [a1,a2] At0 fun t3 At3=>Wc Tryz.prog Af W0 m0 205 [a0,t3] At3 fun t4 At4=>Q t4 At4)):=by kernel_rfl
theorem n135(a0 a1 a2:Value):AD Tryz.prog 135 [a0,a1,a2] .normal=some (frM 135 (Tm.fill ⟨17,.nil⟩ 0 [a0,a1,a2]) [.code (cd 135 [])] false):=by kernel_rfl
theorem Aeg:Wf3 135 17 Acy Ac9:=wf3 n135 (by decide) fun _ _ _=>rfl
noncomputable def T75:Nat→List Item:=fun i=>match i with
 |_=>[]
def L75:Nat→List Tmp:=fun i=>match i with
 |_=>[]
theorem e75(a0:Value)(A:AW):AM Tryz.prog Af W0 m0 75 T75 L75 S Q none 4000 (Tm.fill ⟨18,.nil⟩ 0 [a0]) [.code (cd 75 [])] false 0 0 0 [] A=(Aa (Ah Tryz.prog .gtr 5 (.tmp 5) (.const (.int .u8 16)) a0 (.int .u8 16)) fun t0=>Ae t0 (Aa (Ah Tryz.prog .sub 5 (.tmp 8) (.const (.int .u8 16)) a0 (.int .u8 16)) fun t1=>Aa (Ah Tryz.prog .lss 5 (.tmp 10) (.const (.int .u8 1)) t1 (.int .u8 1)) fun t2=>Ae t2 (Q (.tuple ⟨[(.int .u8 0),(.bool false)]⟩) A) (Aa (Ah Tryz.prog .gtr 5 (.tmp 13) (.const (.int .u8 5)) t1 (.int .u8 5)) fun t3=>Ae t3 (Q (.tuple ⟨[(.int .u8 0),(.bool false)]⟩) A) (Q (.tuple ⟨[t1,t0]⟩) A))) (Aa (Ah Tryz.prog .lss 5 (.tmp 10) (.const (.int .u8 1)) a0 (.int .u8 1)) fun t4=>Ae t4 (Q (.tuple ⟨[(.int .u8 0),(.bool false)]⟩) A) (Aa (Ah Tryz.prog .gtr 5 (.tmp 13) (.const (.int .u8 5)) a0 (.int .u8 5)) fun t5=>Ae t5 (Q (.tuple ⟨[(.int .u8 0),(.bool false)]⟩) A) (Q (.tuple ⟨[a0,t0]⟩) A)))):=by kernel_rfl
theorem n75(a0:Value):AD Tryz.prog 75 [a0] .normal=some (frM 75 (Tm.fill ⟨18,.nil⟩ 0 [a0]) [.code (cd 75 [])] false):=by kernel_rfl
theorem w75:Wf1 75 18 T75 L75:=wf1 n75 (by decide) fun _=>rfl
noncomputable def Acr:Nat→List Item:=fun i=>match i with
 |_=>[]
def Ac3:Nat→List Tmp:=fun i=>match i with
 |_=>[]
theorem Ae9(a0:Value)(A:AW):AM Tryz.prog Af W0 m0 145 Acr Ac3 S Q none 4000 (Tm.fill ⟨30,.nil⟩ 0 [a0]) [.code (cd 145 [])] false 0 0 0 [] A=(Al (Cq A (Value.cells a0).toList 24) fun t0 At0=>Aa (Ad Tryz.prog At0 24 t0) fun t1=>Wc Tryz.prog Af W0 m0 97 [t1] At0 fun t2 At2=>Aa (Ah Tryz.prog .neq 28 (.tmp 8) (.const (.int .i64 0)) t2 (.int .i64 0)) fun t3=>Ae t3 (Q (.tuple ⟨[(.slice none 0 0),t2]⟩) At2) (Aa (Ac Tryz.prog 24 t0 0) fun t4=>Aa (Ad Tryz.prog At2 22 t4) fun t5=>Al (AK Tryz.prog At2 22 76 t5) fun t6 At6=>Wc Tryz.prog Af W0 m0 135 [(.slice none 0 0),t6,(.int .i64 4)] At6 fun t7 At7=>Aa (Ac Tryz.prog 24 t0 1) fun t8=>Aa (Ad Tryz.prog At7 9 t8) fun t9=>Wc Tryz.prog Af W0 m0 211 [t7,t9,(.int .i64 1)] At7 fun t10 At10=>Aa (Ar t10 0) fun t11=>Aa (Ar t10 1) fun _=>Aa (Ac Tryz.prog 24 t0 2) fun t13=>Aa (Ad Tryz.prog At10 9 t13) fun t14=>Wc Tryz.prog Af W0 m0 211 [t11,t14,(.int .i64 1)] At10 fun t15 At15=>Aa (Ar t15 0) fun t16=>Aa (Ar t15 1) fun _=>Q (.tuple ⟨[t16,(.int .i64 0)]⟩) At15)):=by kernel_rfl
theorem n145(a0:Value):AD Tryz.prog 145 [a0] .normal=some (frM 145 (Tm.fill ⟨30,.nil⟩ 0 [a0]) [.code (cd 145 [])] false):=by kernel_rfl
theorem Ad9:Wf1 145 30 Acr Ac3:=wf1 n145 (by decide) fun _=>rfl
noncomputable def Pm:Nat→List Item:=fun i=>match i with
 |0=>[(.code (cd 146 [1,1,1,1,0,1,0,0])),(.inLoop (cd 146 [1,1,1,1,0,1,0,0])),(.inBlock 0),(.code (cd 146 [1,1,1,1,1]))]
 |_=>[]
def Wv:Nat→List Tmp:=fun i=>match i with
 |0=>[0,3,4,15]
 |_=>[]
theorem Ae8(a0:Value)(A:AW):AM Tryz.prog Af W0 m0 146 Pm Wv S Q none 4000 (Tm.fill ⟨31,.nil⟩ 0 [a0]) [.code (cd 146 [])] false 0 0 0 [] A=(Aa (Br Tryz.prog A 52 a0) fun t0=>Aa (Ah Tryz.prog .add 3 (.tmp 7) (.const (.int .i64 4)) t0 (.int .i64 4)) fun t1=>Al (Cs Tryz.prog A 52 t1 t1) fun t2 At2=>Al (G0 Tryz.prog At2 52 t2 a0) fun _ At3=>Wc Tryz.prog Af W0 m0 141 [a0] At3 fun t4 At4=>BX (Pm 0) (Pm 0) (S 0 [a0,t2,t4,(.int .i64 0)] At4)):=by kernel_rfl
theorem Zr(d:Nat→Value)(A:AW):AM Tryz.prog Af W0 m0 146 Pm Wv S Q none 4000 (DD 31 d) (Pm 0) false 0 0 0 [] A=(Aa (Ah Tryz.prog .lss 3 (.tmp 15) (.const (.int .i64 4)) (d 15) (.int .i64 4)) fun t0=>Ae t0 (Aa (Br Tryz.prog A 52 (d 0)) fun t1=>Aa (Ah Tryz.prog .add 3 (.tmp 20) (.tmp 21) t1 (d 15)) fun t2=>Aa (Ah Tryz.prog .mul 3 (.const (.int .i64 8)) (.tmp 24) (.int .i64 8) (d 15)) fun t3=>Aa (Ah Tryz.prog .shr 22 (.tmp 23) (.tmp 25) (d 4) t3) fun t4=>Al (AK Tryz.prog A 22 5 t4) fun t5 At5=>Aa (Aj Tryz.prog 52 (d 3) t2) fun t6=>AQ (Am Tryz.prog At5 5 t6 t5) fun At7=>Aa (Ah Tryz.prog .add 3 (.tmp 15) (.const (.int .i64 1)) (d 15) (.int .i64 1)) fun t8=>BX (Pm 0) (Pm 0) (S 0 [(d 0),(d 3),(d 4),t8] At7)) (Q (d 3) A)):=by kernel_rfl
theorem n146(a0:Value):AD Tryz.prog 146 [a0] .normal=some (frM 146 (Tm.fill ⟨31,.nil⟩ 0 [a0]) [.code (cd 146 [])] false):=by kernel_rfl
theorem Ad8:Wf1 146 31 Pm Wv:=wf1 n146 (by decide) fun _=>rfl
theorem c146:Fy 146 31 Pm Wv:=Ga (by decide)
noncomputable def T28:Nat→List Item:=fun i=>match i with
 |0=>[(.code (cd 28 [1,1,1,1,1,1,0,1,0,0])),(.inLoop (cd 28 [1,1,1,1,1,1,0,1,0,0])),(.inBlock 0),(.code (cd 28 [1,1,1,1,1,1,1]))]
 |_=>[]
def L28:Nat→List Tmp:=fun i=>match i with
 |0=>[1,5]
 |_=>[]
noncomputable def DI(S:Nat→List Value→AW→Prop)(Q:Value→AW→Prop)(x0:Value)(X2:AW):Prop:=Aa (Ac Tryz.prog 38 x0 2) fun b1=>Aa (Ad Tryz.prog X2 35 b1) fun b3=>Aa (Ah Tryz.prog .gtr 35 (.tmp 83) (.const (.int .u8 0)) b3 (.int .u8 0)) fun b4=>Ae b4 (Q (.int .i64 250) X2) (Aa (Ac Tryz.prog 38 x0 3) fun b5=>Aa (Ad Tryz.prog X2 36 b5) fun b6=>Aa (Ah Tryz.prog .gtr 36 (.tmp 87) (.const (.int .u16 0)) b6 (.int .u16 0)) fun b7=>Ae b7 (Q (.int .i64 250) X2) (BX (T28 0) (T28 0) (S 0 [x0,(.int .i64 0)] X2)))
noncomputable def Mm(S:Nat→List Value→AW→Prop)(Q:Value→AW→Prop)(x0:Value)(X2:AW)(x15:Value):Prop:=Aa (Ac Tryz.prog 38 x0 2) fun b1=>Aa (Ad Tryz.prog X2 35 b1) fun b3=>Aa (Ah Tryz.prog .gtr 35 (.tmp 58) (.const (.int .u8 7)) b3 (.int .u8 7)) fun b4=>Ae b4 (Q (.int .i64 250) X2) (Aa (Ac Tryz.prog 38 x0 3) fun b5=>Aa (Ad Tryz.prog X2 36 b5) fun b6=>Aa (Ah Tryz.prog .gtr 36 (.tmp 62) (.const (.int .u16 999)) b6 (.int .u16 999)) fun b7=>Ae b7 (Q (.int .i64 250) X2) (Aa (Ac Tryz.prog 38 x0 2) fun b8=>Aa (Ad Tryz.prog X2 35 b8) fun b9=>Aa (Ah Tryz.prog .gtr 35 (.tmp 67) (.const (.int .u8 0)) b9 (.int .u8 0)) fun b10=>Ae b10 (Aa (Ac Tryz.prog 38 x0 3) fun b11=>Aa (Ad Tryz.prog X2 36 b11) fun b12=>Aa (Ah Tryz.prog .gtr 36 (.tmp 71) (.const (.int .u16 0)) b12 (.int .u16 0)) fun b13=>Ae b13 (Q (.int .i64 250) X2) (Aa (unA Tryz.prog .not (.bool false)) fun b14=>Ae b14 (DI S Q x0 X2) (Ae x15 (DI S Q x0 X2) (BX (T28 0) (T28 0) (S 0 [x0,(.int .i64 0)] X2))))) (Aa (unA Tryz.prog .not (.bool false)) fun b16=>Ae b16 (DI S Q x0 X2) (Ae x15 (DI S Q x0 X2) (BX (T28 0) (T28 0) (S 0 [x0,(.int .i64 0)] X2))))))
noncomputable def Mj(S:Nat→List Value→AW→Prop)(Q:Value→AW→Prop)(x0:Value)(X2:AW)(x14:Value)(x16:Value):Prop:=Aa (Ac Tryz.prog 38 x0 2) fun b1=>Aa (Ad Tryz.prog X2 35 b1) fun b3=>Aa (Ah Tryz.prog .gtr 35 (.tmp 58) (.const (.int .u8 7)) b3 (.int .u8 7)) fun b4=>Ae b4 (Q (.int .i64 250) X2) (Aa (Ac Tryz.prog 38 x0 3) fun b5=>Aa (Ad Tryz.prog X2 36 b5) fun b6=>Aa (Ah Tryz.prog .gtr 36 (.tmp 62) (.const (.int .u16 999)) b6 (.int .u16 999)) fun b7=>Ae b7 (Q (.int .i64 250) X2) (Aa (Ac Tryz.prog 38 x0 2) fun b8=>Aa (Ad Tryz.prog X2 35 b8) fun b9=>Aa (Ah Tryz.prog .gtr 35 (.tmp 67) (.const (.int .u8 0)) b9 (.int .u8 0)) fun b10=>Ae b10 (Aa (Ac Tryz.prog 38 x0 3) fun b11=>Aa (Ad Tryz.prog X2 36 b11) fun b12=>Aa (Ah Tryz.prog .gtr 36 (.tmp 71) (.const (.int .u16 0)) b12 (.int .u16 0)) fun b13=>Ae b13 (Q (.int .i64 250) X2) (Aa (unA Tryz.prog .not x14) fun b15=>Ae b15 (DI S Q x0 X2) (Ae x16 (DI S Q x0 X2) (BX (T28 0) (T28 0) (S 0 [x0,(.int .i64 0)] X2))))) (Aa (unA Tryz.prog .not x14) fun b17=>Ae b17 (DI S Q x0 X2) (Ae x16 (DI S Q x0 X2) (BX (T28 0) (T28 0) (S 0 [x0,(.int .i64 0)] X2))))))
noncomputable def Ru(S:Nat→List Value→AW→Prop)(Q:Value→AW→Prop)(x0:Value)(X2:AW):Prop:=Aa (Ac Tryz.prog 38 x0 2) fun b1=>Aa (Ad Tryz.prog X2 35 b1) fun b3=>Aa (Ah Tryz.prog .gtr 35 (.tmp 58) (.const (.int .u8 7)) b3 (.int .u8 7)) fun b4=>Ae b4 (Q (.int .i64 250) X2) (Aa (Ac Tryz.prog 38 x0 3) fun b5=>Aa (Ad Tryz.prog X2 36 b5) fun b6=>Aa (Ah Tryz.prog .gtr 36 (.tmp 62) (.const (.int .u16 999)) b6 (.int .u16 999)) fun b7=>Ae b7 (Q (.int .i64 250) X2) (Aa (Ac Tryz.prog 38 x0 2) fun b8=>Aa (Ad Tryz.prog X2 35 b8) fun b9=>Aa (Ah Tryz.prog .gtr 35 (.tmp 67) (.const (.int .u8 0)) b9 (.int .u8 0)) fun b10=>Ae b10 (Aa (Ac Tryz.prog 38 x0 3) fun b11=>Aa (Ad Tryz.prog X2 36 b11) fun b12=>Aa (Ah Tryz.prog .gtr 36 (.tmp 71) (.const (.int .u16 0)) b12 (.int .u16 0)) fun b13=>Ae b13 (Q (.int .i64 250) X2) (Aa (unA Tryz.prog .not (.bool false)) fun b14=>Ae b14 (DI S Q x0 X2) (DI S Q x0 X2))) (Aa (unA Tryz.prog .not (.bool false)) fun b15=>Ae b15 (DI S Q x0 X2) (DI S Q x0 X2))))
noncomputable def Rt(S:Nat→List Value→AW→Prop)(Q:Value→AW→Prop)(x0:Value)(X2:AW)(x14:Value):Prop:=Aa (Ac Tryz.prog 38 x0 2) fun b1=>Aa (Ad Tryz.prog X2 35 b1) fun b3=>Aa (Ah Tryz.prog .gtr 35 (.tmp 58) (.const (.int .u8 7)) b3 (.int .u8 7)) fun b4=>Ae b4 (Q (.int .i64 250) X2) (Aa (Ac Tryz.prog 38 x0 3) fun b5=>Aa (Ad Tryz.prog X2 36 b5) fun b6=>Aa (Ah Tryz.prog .gtr 36 (.tmp 62) (.const (.int .u16 999)) b6 (.int .u16 999)) fun b7=>Ae b7 (Q (.int .i64 250) X2) (Aa (Ac Tryz.prog 38 x0 2) fun b8=>Aa (Ad Tryz.prog X2 35 b8) fun b9=>Aa (Ah Tryz.prog .gtr 35 (.tmp 67) (.const (.int .u8 0)) b9 (.int .u8 0)) fun b10=>Ae b10 (Aa (Ac Tryz.prog 38 x0 3) fun b11=>Aa (Ad Tryz.prog X2 36 b11) fun b12=>Aa (Ah Tryz.prog .gtr 36 (.tmp 71) (.const (.int .u16 0)) b12 (.int .u16 0)) fun b13=>Ae b13 (Q (.int .i64 250) X2) (Aa (unA Tryz.prog .not x14) fun b15=>Ae b15 (DI S Q x0 X2) (DI S Q x0 X2))) (Aa (unA Tryz.prog .not x14) fun b16=>Ae b16 (DI S Q x0 X2) (DI S Q x0 X2))))
noncomputable def Rs(W0:World)(m0:Inj Tryz.prog)(S:Nat→List Value→AW→Prop)(Q:Value→AW→Prop)(x0:Value)(X2:AW)(x6:Value)(x17:Value):Prop:=Aa (Ac Tryz.prog 38 x0 4) fun b1=>Aa (Ad Tryz.prog X2 34 b1) fun b3=>Aa (Br Tryz.prog X2 34 b3) fun b4=>Aa (Ah Tryz.prog .gtr 3 (.tmp 37) (.const (.int .i64 200)) b4 (.int .i64 200)) fun b5=>Ae b5 (Q (.int .i64 250) X2) (Ae x6 (Aa (Ac Tryz.prog 38 x0 1) fun b7=>Aa (Ad Tryz.prog X2 24 b7) fun b8=>Aa (Aw Tryz.prog 24 []) fun b9=>Aa (Ah Tryz.prog .neq 24 (.tmp 43) (.tmp 44) b8 b9) fun b10=>Ae b10 (Q (.int .i64 250) X2) (Aa (unA Tryz.prog .not x6) fun b11=>Ae b11 (Aa (Ac Tryz.prog 38 x0 1) fun b12=>Aa (Ad Tryz.prog X2 24 b12) fun b13=>Wc Tryz.prog Af W0 m0 67 [b13] X2 fun b14 B15=>Aa (Ah Tryz.prog .neq 3 (.tmp 53) (.const (.int .i64 0)) b14 (.int .i64 0)) fun b16=>Ae b16 (Q (.int .i64 250) B15) (Mj S Q x0 B15 x17 x6)) (Mj S Q x0 X2 x17 x6))) (Aa (unA Tryz.prog .not x6) fun b18=>Ae b18 (Aa (Ac Tryz.prog 38 x0 1) fun b19=>Aa (Ad Tryz.prog X2 24 b19) fun b20=>Wc Tryz.prog Af W0 m0 67 [b20] X2 fun b21 B22=>Aa (Ah Tryz.prog .neq 3 (.tmp 53) (.const (.int .i64 0)) b21 (.int .i64 0)) fun b23=>Ae b23 (Q (.int .i64 250) B22) (Mj S Q x0 B22 x17 x6)) (Mj S Q x0 X2 x17 x6)))
noncomputable def Rr(W0:World)(m0:Inj Tryz.prog)(S:Nat→List Value→AW→Prop)(Q:Value→AW→Prop)(x0:Value)(X2:AW)(x6:Value):Prop:=Aa (Ac Tryz.prog 38 x0 4) fun b1=>Aa (Ad Tryz.prog X2 34 b1) fun b3=>Aa (Br Tryz.prog X2 34 b3) fun b4=>Aa (Ah Tryz.prog .gtr 3 (.tmp 37) (.const (.int .i64 200)) b4 (.int .i64 200)) fun b5=>Ae b5 (Q (.int .i64 250) X2) (Ae x6 (Aa (Ac Tryz.prog 38 x0 1) fun b7=>Aa (Ad Tryz.prog X2 24 b7) fun b8=>Aa (Aw Tryz.prog 24 []) fun b9=>Aa (Ah Tryz.prog .neq 24 (.tmp 43) (.tmp 44) b8 b9) fun b10=>Ae b10 (Q (.int .i64 250) X2) (Aa (unA Tryz.prog .not x6) fun b11=>Ae b11 (Aa (Ac Tryz.prog 38 x0 1) fun b12=>Aa (Ad Tryz.prog X2 24 b12) fun b13=>Wc Tryz.prog Af W0 m0 67 [b13] X2 fun b14 B15=>Aa (Ah Tryz.prog .neq 3 (.tmp 53) (.const (.int .i64 0)) b14 (.int .i64 0)) fun b16=>Ae b16 (Q (.int .i64 250) B15) (Mm S Q x0 B15 x6)) (Mm S Q x0 X2 x6))) (Aa (unA Tryz.prog .not x6) fun b17=>Ae b17 (Aa (Ac Tryz.prog 38 x0 1) fun b18=>Aa (Ad Tryz.prog X2 24 b18) fun b19=>Wc Tryz.prog Af W0 m0 67 [b19] X2 fun b20 B21=>Aa (Ah Tryz.prog .neq 3 (.tmp 53) (.const (.int .i64 0)) b20 (.int .i64 0)) fun b22=>Ae b22 (Q (.int .i64 250) B21) (Mm S Q x0 B21 x6)) (Mm S Q x0 X2 x6)))
noncomputable def Rq(W0:World)(m0:Inj Tryz.prog)(S:Nat→List Value→AW→Prop)(Q:Value→AW→Prop)(x0:Value)(X2:AW)(x16:Value):Prop:=Aa (Ac Tryz.prog 38 x0 4) fun b1=>Aa (Ad Tryz.prog X2 34 b1) fun b3=>Aa (Br Tryz.prog X2 34 b3) fun b4=>Aa (Ah Tryz.prog .gtr 3 (.tmp 37) (.const (.int .i64 200)) b4 (.int .i64 200)) fun b5=>Ae b5 (Q (.int .i64 250) X2) (Aa (Ac Tryz.prog 38 x0 1) fun b6=>Aa (Ad Tryz.prog X2 24 b6) fun b7=>Aa (Aw Tryz.prog 24 []) fun b8=>Aa (Ah Tryz.prog .neq 24 (.tmp 43) (.tmp 44) b7 b8) fun b9=>Ae b9 (Q (.int .i64 250) X2) (Aa (unA Tryz.prog .not (.bool true)) fun b10=>Ae b10 (Aa (Ac Tryz.prog 38 x0 1) fun b11=>Aa (Ad Tryz.prog X2 24 b11) fun b12=>Wc Tryz.prog Af W0 m0 67 [b12] X2 fun b13 B14=>Aa (Ah Tryz.prog .neq 3 (.tmp 53) (.const (.int .i64 0)) b13 (.int .i64 0)) fun b15=>Ae b15 (Q (.int .i64 250) B14) (Rt S Q x0 B14 x16)) (Rt S Q x0 X2 x16)))
noncomputable def Rp(W0:World)(m0:Inj Tryz.prog)(S:Nat→List Value→AW→Prop)(Q:Value→AW→Prop)(x0:Value)(X2:AW):Prop:=Aa (Ac Tryz.prog 38 x0 4) fun b1=>Aa (Ad Tryz.prog X2 34 b1) fun b3=>Aa (Br Tryz.prog X2 34 b3) fun b4=>Aa (Ah Tryz.prog .gtr 3 (.tmp 37) (.const (.int .i64 200)) b4 (.int .i64 200)) fun b5=>Ae b5 (Q (.int .i64 250) X2) (Aa (Ac Tryz.prog 38 x0 1) fun b6=>Aa (Ad Tryz.prog X2 24 b6) fun b7=>Aa (Aw Tryz.prog 24 []) fun b8=>Aa (Ah Tryz.prog .neq 24 (.tmp 43) (.tmp 44) b7 b8) fun b9=>Ae b9 (Q (.int .i64 250) X2) (Aa (unA Tryz.prog .not (.bool true)) fun b10=>Ae b10 (Aa (Ac Tryz.prog 38 x0 1) fun b11=>Aa (Ad Tryz.prog X2 24 b11) fun b12=>Wc Tryz.prog Af W0 m0 67 [b12] X2 fun b13 B14=>Aa (Ah Tryz.prog .neq 3 (.tmp 53) (.const (.int .i64 0)) b13 (.int .i64 0)) fun b15=>Ae b15 (Q (.int .i64 250) B14) (Ru S Q x0 B14)) (Ru S Q x0 X2)))
theorem e28(a0:Value)(A:AW):AM Tryz.prog Af W0 m0 28 T28 L28 S Q none 4000 (Tm.fill ⟨130,.nil⟩ 0 [a0]) [.code (cd 28 [])] false 0 0 0 [] A=(Al (Cq A (Value.cells a0).toList 38) fun t0 At0=>Aa (Ac Tryz.prog 38 t0 0) fun t1=>Aa (Ad Tryz.prog At0 5 t1) fun t2=>Aa (Ah Tryz.prog .eql 5 (.tmp 7) (.const (.int .u8 5)) t2 (.int .u8 5)) fun t3=>Ae t3 (Aa (Ac Tryz.prog 38 t0 0) fun t4=>Aa (Ad Tryz.prog At0 5 t4) fun t5=>Aa (Ah Tryz.prog .geq 5 (.tmp 15) (.const (.int .u8 17)) t5 (.int .u8 17)) fun t6=>Ae t6 (Aa (Ac Tryz.prog 38 t0 0) fun t7=>Aa (Ad Tryz.prog At0 5 t7) fun t8=>Aa (Ah Tryz.prog .leq 5 (.tmp 19) (.const (.int .u8 21)) t8 (.int .u8 21)) fun t9=>Aa (unA Tryz.prog .not t9) fun t10=>Ae t10 (Aa (Ac Tryz.prog 38 t0 0) fun t11=>Aa (Ad Tryz.prog At0 5 t11) fun t12=>Aa (Ah Tryz.prog .lss 5 (.tmp 26) (.const (.int .u8 1)) t12 (.int .u8 1)) fun t13=>Ae t13 (Q (.int .i64 250) At0) (Aa (Ac Tryz.prog 38 t0 0) fun t14=>Aa (Ad Tryz.prog At0 5 t14) fun t15=>Aa (Ah Tryz.prog .gtr 5 (.tmp 30) (.const (.int .u8 5)) t15 (.int .u8 5)) fun t16=>Ae t16 (Q (.int .i64 250) At0) (Rq W0 m0 S Q t0 At0 t9))) (Rq W0 m0 S Q t0 At0 t9)) (Aa (unA Tryz.prog .not (.bool false)) fun t195=>Ae t195 (Aa (Ac Tryz.prog 38 t0 0) fun t196=>Aa (Ad Tryz.prog At0 5 t196) fun t197=>Aa (Ah Tryz.prog .lss 5 (.tmp 26) (.const (.int .u8 1)) t197 (.int .u8 1)) fun t198=>Ae t198 (Q (.int .i64 250) At0) (Aa (Ac Tryz.prog 38 t0 0) fun t199=>Aa (Ad Tryz.prog At0 5 t199) fun t200=>Aa (Ah Tryz.prog .gtr 5 (.tmp 30) (.const (.int .u8 5)) t200 (.int .u8 5)) fun t201=>Ae t201 (Q (.int .i64 250) At0) (Rp W0 m0 S Q t0 At0))) (Rp W0 m0 S Q t0 At0))) (Aa (Ac Tryz.prog 38 t0 0) fun t380=>Aa (Ad Tryz.prog At0 5 t380) fun t381=>Aa (Ah Tryz.prog .eql 5 (.tmp 11) (.const (.int .u8 21)) t381 (.int .u8 21)) fun t382=>Aa (Ac Tryz.prog 38 t0 0) fun t383=>Aa (Ad Tryz.prog At0 5 t383) fun t384=>Aa (Ah Tryz.prog .geq 5 (.tmp 15) (.const (.int .u8 17)) t384 (.int .u8 17)) fun t385=>Ae t385 (Aa (Ac Tryz.prog 38 t0 0) fun t386=>Aa (Ad Tryz.prog At0 5 t386) fun t387=>Aa (Ah Tryz.prog .leq 5 (.tmp 19) (.const (.int .u8 21)) t387 (.int .u8 21)) fun t388=>Aa (unA Tryz.prog .not t388) fun t389=>Ae t389 (Aa (Ac Tryz.prog 38 t0 0) fun t390=>Aa (Ad Tryz.prog At0 5 t390) fun t391=>Aa (Ah Tryz.prog .lss 5 (.tmp 26) (.const (.int .u8 1)) t391 (.int .u8 1)) fun t392=>Ae t392 (Q (.int .i64 250) At0) (Aa (Ac Tryz.prog 38 t0 0) fun t393=>Aa (Ad Tryz.prog At0 5 t393) fun t394=>Aa (Ah Tryz.prog .gtr 5 (.tmp 30) (.const (.int .u8 5)) t394 (.int .u8 5)) fun t395=>Ae t395 (Q (.int .i64 250) At0) (Rs W0 m0 S Q t0 At0 t382 t388))) (Rs W0 m0 S Q t0 At0 t382 t388)) (Aa (unA Tryz.prog .not (.bool false)) fun t736=>Ae t736 (Aa (Ac Tryz.prog 38 t0 0) fun t737=>Aa (Ad Tryz.prog At0 5 t737) fun t738=>Aa (Ah Tryz.prog .lss 5 (.tmp 26) (.const (.int .u8 1)) t738 (.int .u8 1)) fun t739=>Ae t739 (Q (.int .i64 250) At0) (Aa (Ac Tryz.prog 38 t0 0) fun t740=>Aa (Ad Tryz.prog At0 5 t740) fun t741=>Aa (Ah Tryz.prog .gtr 5 (.tmp 30) (.const (.int .u8 5)) t741 (.int .u8 5)) fun t742=>Ae t742 (Q (.int .i64 250) At0) (Rr W0 m0 S Q t0 At0 t382))) (Rr W0 m0 S Q t0 At0 t382)))):=by kernel_rfl
theorem Abp(d:Nat→Value)(A:AW):AM Tryz.prog Af W0 m0 28 T28 L28 S Q none 4000 (DD 130 d) (T28 0) false 0 0 0 [] A=(Aa (Ac Tryz.prog 38 (d 1) 4) fun t0=>Aa (Ad Tryz.prog A 34 t0) fun t1=>Aa (Br Tryz.prog A 34 t1) fun t2=>Aa (Ah Tryz.prog .lss 3 (.tmp 92) (.tmp 95) (d 5) t2) fun t3=>Ae t3 (Aa (Ac Tryz.prog 38 (d 1) 0) fun t4=>Aa (Ad Tryz.prog A 5 t4) fun t5=>Aa (Ah Tryz.prog .neq 5 (.tmp 100) (.const (.int .u8 21)) t5 (.int .u8 21)) fun t6=>Ae t6 (Q (.int .i64 250) A) (Aa (Ac Tryz.prog 38 (d 1) 4) fun t7=>Aa (Ad Tryz.prog A 34 t7) fun t8=>Aa (Aj Tryz.prog 34 t8 (d 5)) fun t9=>Aa (Ad Tryz.prog A 24 t9) fun t10=>Wc Tryz.prog Af W0 m0 67 [t10] A fun t11 At11=>Aa (Ah Tryz.prog .neq 3 (.tmp 108) (.const (.int .i64 0)) t11 (.int .i64 0)) fun t12=>Ae t12 (Q (.int .i64 250) At11) (Aa (Ah Tryz.prog .gtr 3 (.tmp 112) (.const (.int .i64 0)) (d 5) (.int .i64 0)) fun t13=>Ae t13 (Aa (Ac Tryz.prog 38 (d 1) 4) fun t14=>Aa (Ad Tryz.prog At11 34 t14) fun t15=>Aa (Ah Tryz.prog .sub 3 (.tmp 117) (.const (.int .i64 1)) (d 5) (.int .i64 1)) fun t16=>Aa (Aj Tryz.prog 34 t15 t16) fun t17=>Aa (Ad Tryz.prog At11 24 t17) fun t18=>Aa (Ac Tryz.prog 38 (d 1) 4) fun t19=>Aa (Ad Tryz.prog At11 34 t19) fun t20=>Aa (Aj Tryz.prog 34 t20 (d 5)) fun t21=>Aa (Ad Tryz.prog At11 24 t21) fun t22=>Wc Tryz.prog Af W0 m0 68 [t18,t22] At11 fun t23 At23=>Aa (Ah Tryz.prog .geq 3 (.tmp 126) (.const (.int .i64 0)) t23 (.int .i64 0)) fun t24=>Ae t24 (Q (.int .i64 250) At23) (Aa (Ah Tryz.prog .add 3 (.tmp 97) (.const (.int .i64 1)) (d 5) (.int .i64 1)) fun t25=>BX (T28 0) (T28 0) (S 0 [(d 1),t25] At23))) (Aa (Ah Tryz.prog .add 3 (.tmp 97) (.const (.int .i64 1)) (d 5) (.int .i64 1)) fun t26=>BX (T28 0) (T28 0) (S 0 [(d 1),t26] At11))))) (Q (.int .i64 0) A)):=by kernel_rfl
theorem n28(a0:Value):AD Tryz.prog 28 [a0] .normal=some (frM 28 (Tm.fill ⟨130,.nil⟩ 0 [a0]) [.code (cd 28 [])] false):=by kernel_rfl
theorem w28:Wf1 28 130 T28 L28:=wf1 n28 (by decide) fun _=>rfl
theorem c28:Fy 28 130 T28 L28:=Ga (by decide)
noncomputable def T29:Nat→List Item:=fun i=>match i with
 |_=>[]
def L29:Nat→List Tmp:=fun i=>match i with
 |_=>[]
theorem e29(a0:Value)(A:AW):AM Tryz.prog Af W0 m0 29 T29 L29 S Q none 4000 (Tm.fill ⟨34,.nil⟩ 0 [a0]) [.code (cd 29 [])] false 0 0 0 [] A=(Al (Cq A (Value.cells a0).toList 24) fun t0 At0=>Aa (Ad Tryz.prog At0 24 t0) fun t1=>Wc Tryz.prog Af W0 m0 67 [t1] At0 fun t2 At2=>Aa (Ah Tryz.prog .neq 3 (.tmp 6) (.const (.int .i64 0)) t2 (.int .i64 0)) fun t3=>Ae t3 (Q (.tuple ⟨[(.slice none 0 0),(.int .i64 40)]⟩) At2) (Aa (Ac Tryz.prog 24 t0 0) fun t4=>Aa (Ad Tryz.prog At2 22 t4) fun t5=>Al (AK Tryz.prog At2 22 76 t5) fun t6 At6=>Wc Tryz.prog Af W0 m0 69 [t6,(.int .i64 4)] At6 fun t7 At7=>Aa (Ac Tryz.prog 24 t0 1) fun t8=>Aa (Ad Tryz.prog At7 9 t8) fun t9=>Aa (Br Tryz.prog At7 9 t9) fun t10=>Al (AK Tryz.prog At7 3 5 t10) fun t11 At11=>Al (Aq Tryz.prog At11 52 1 [(0,t11)]) fun t12 At12=>Al (AT Tryz.prog At12 52 52 t7 t12) fun t13 At13=>Aa (Ac Tryz.prog 24 t0 1) fun t14=>Aa (Ad Tryz.prog At13 9 t14) fun t15=>Al (AT Tryz.prog At13 52 9 t13 t15) fun t16 At16=>Aa (Ac Tryz.prog 24 t0 2) fun t17=>Aa (Ad Tryz.prog At16 9 t17) fun t18=>Aa (Br Tryz.prog At16 9 t18) fun t19=>Al (AK Tryz.prog At16 3 5 t19) fun t20 At20=>Al (Aq Tryz.prog At20 52 1 [(0,t20)]) fun t21 At21=>Al (AT Tryz.prog At21 52 52 t16 t21) fun t22 At22=>Aa (Ac Tryz.prog 24 t0 2) fun t23=>Aa (Ad Tryz.prog At22 9 t23) fun t24=>Al (AT Tryz.prog At22 52 9 t22 t24) fun t25 At25=>Q (.tuple ⟨[t25,(.int .i64 0)]⟩) At25)):=by kernel_rfl
theorem n29(a0:Value):AD Tryz.prog 29 [a0] .normal=some (frM 29 (Tm.fill ⟨34,.nil⟩ 0 [a0]) [.code (cd 29 [])] false):=by kernel_rfl
theorem w29:Wf1 29 34 T29 L29:=wf1 n29 (by decide) fun _=>rfl
noncomputable def T30:Nat→List Item:=fun i=>match i with
 |_=>[]
def L30:Nat→List Tmp:=fun i=>match i with
 |_=>[]
theorem e30(a0:Value)(A:AW):AM Tryz.prog Af W0 m0 30 T30 L30 S Q none 4000 (Tm.fill ⟨24,.nil⟩ 0 [a0]) [.code (cd 30 [])] false 0 0 0 [] A=(Wc Tryz.prog Af W0 m0 70 [a0] A fun t0 At0=>Al (AT Tryz.prog At0 52 52 (.slice none 0 0) a0) fun t1 At1=>Al (AK Tryz.prog At1 22 5 t0) fun t2 At2=>Aa (Ah Tryz.prog .shr 22 (.tmp 13) (.const (.int .u64 8)) t0 (.int .u64 8)) fun t3=>Al (AK Tryz.prog At2 22 5 t3) fun t4 At4=>Aa (Ah Tryz.prog .shr 22 (.tmp 16) (.const (.int .u64 16)) t0 (.int .u64 16)) fun t5=>Al (AK Tryz.prog At4 22 5 t5) fun t6 At6=>Aa (Ah Tryz.prog .shr 22 (.tmp 19) (.const (.int .u64 24)) t0 (.int .u64 24)) fun t7=>Al (AK Tryz.prog At6 22 5 t7) fun t8 At8=>Al (Aq Tryz.prog At8 52 4 [(0,t2),(1,t4),(2,t6),(3,t8)]) fun t9 At9=>Al (AT Tryz.prog At9 52 52 t1 t9) fun t10 At10=>Q t10 At10):=by kernel_rfl
theorem n30(a0:Value):AD Tryz.prog 30 [a0] .normal=some (frM 30 (Tm.fill ⟨24,.nil⟩ 0 [a0]) [.code (cd 30 [])] false):=by kernel_rfl
theorem w30:Wf1 30 24 T30 L30:=wf1 n30 (by decide) fun _=>rfl
noncomputable def Acn:Nat→List Item:=fun i=>match i with
 |_=>[]
def AcZ:Nat→List Tmp:=fun i=>match i with
 |_=>[]
theorem Ae6(a0:Value)(A:AW):AM Tryz.prog Af W0 m0 152 Acn AcZ S Q none 4000 (Tm.fill ⟨12,.nil⟩ 0 [a0]) [.code (cd 152 [])] false 0 0 0 [] A=(Aa (Br Tryz.prog A 34 a0) fun t0=>Aa (Ah Tryz.prog .leq 3 (.tmp 4) (.const (.int .i64 200)) t0 (.int .i64 200)) fun t1=>Ae t1 (Wc Tryz.prog Af W0 m0 219 [a0] A fun t2 At2=>Wc Tryz.prog Af W0 m0 218 [a0,t2] At2 fun t3 At3=>Q t3 At3) (Q (.bool false) A)):=by kernel_rfl
theorem n152(a0:Value):AD Tryz.prog 152 [a0] .normal=some (frM 152 (Tm.fill ⟨12,.nil⟩ 0 [a0]) [.code (cd 152 [])] false):=by kernel_rfl
theorem Ad6:Wf1 152 12 Acn AcZ:=wf1 n152 (by decide) fun _=>rfl
noncomputable def Pg:Nat→List Item:=fun i=>match i with
 |0=>[(.code (cd 218 [1,1,0,1,0,0])),(.inLoop (cd 218 [1,1,0,1,0,0])),(.inBlock 0),(.code (cd 218 [1,1,1]))]
 |_=>[]
def Ws:Nat→List Tmp:=fun i=>match i with
 |0=>[0,1,12,13]
 |_=>[]
theorem AeQ(a0 a1:Value)(A:AW):AM Tryz.prog Af W0 m0 218 Pg Ws S Q none 4000 (Tm.fill ⟨26,.nil⟩ 0 [a0,a1]) [.code (cd 218 [])] false 0 0 0 [] A=(Aa (Br Tryz.prog A 34 a0) fun t0=>Aa (Br Tryz.prog A 34 a1) fun t1=>Aa (Ah Tryz.prog .neq 3 (.tmp 7) (.tmp 9) t0 t1) fun t2=>Ae t2 (Q (.bool false) A) (Aa (Br Tryz.prog A 34 a0) fun t3=>BX (Pg 0) (Pg 0) (S 0 [a0,a1,t3,(.int .i64 0)] A))):=by kernel_rfl
theorem Zl(d:Nat→Value)(A:AW):AM Tryz.prog Af W0 m0 218 Pg Ws S Q none 4000 (DD 26 d) (Pg 0) false 0 0 0 [] A=(Aa (Ah Tryz.prog .lss 3 (.tmp 13) (.tmp 12) (d 13) (d 12)) fun t0=>Ae t0 (Aa (Aj Tryz.prog 34 (d 0) (d 13)) fun t1=>Aa (Ad Tryz.prog A 24 t1) fun t2=>Aa (Aj Tryz.prog 34 (d 1) (d 13)) fun t3=>Aa (Ad Tryz.prog A 24 t3) fun t4=>Aa (Ah Tryz.prog .neq 24 (.tmp 19) (.tmp 23) t2 t4) fun t5=>Ae t5 (Q (.bool false) A) (Aa (Ah Tryz.prog .add 3 (.tmp 13) (.const (.int .i64 1)) (d 13) (.int .i64 1)) fun t6=>BX (Pg 0) (Pg 0) (S 0 [(d 0),(d 1),(d 12),t6] A))) (Q (.bool true) A)):=by kernel_rfl
theorem n218(a0 a1:Value):AD Tryz.prog 218 [a0,a1] .normal=some (frM 218 (Tm.fill ⟨26,.nil⟩ 0 [a0,a1]) [.code (cd 218 [])] false):=by kernel_rfl
theorem AdQ:Wf2 218 26 Pg Ws:=wf2 n218 (by decide) fun _ _=>rfl
theorem c218:Fy 218 26 Pg Ws:=Ga (by decide)
noncomputable def Il:Nat→List Item:=fun i=>match i with
 |0=>[(.code (cd 210 [1,1,0,1,0,0])),(.inLoop (cd 210 [1,1,0,1,0,0])),(.inBlock 0),(.code (cd 210 [1,1,1]))]
 |2=>[(.code (cd 210 [1,1,1,1,0,1,0,0])),(.inLoop (cd 210 [1,1,1,1,0,1,0,0])),(.inBlock 2),(.code (cd 210 [1,1,1,1,1]))]
 |_=>[]
def Sq:Nat→List Tmp:=fun i=>match i with
 |0=>[0,3,9,10,11]
 |2=>[6,25,26,27]
 |_=>[]
theorem AeT(a0:Value)(A:AW):AM Tryz.prog Af W0 m0 210 Il Sq S Q none 4000 (Tm.fill ⟨36,.nil⟩ 0 [a0]) [.code (cd 210 [])] false 0 0 0 [] A=(Aa (Br Tryz.prog A 261 a0) fun t0=>BX (Il 0) (Il 0) (S 0 [a0,(.int .i64 0),a0,t0,(.int .i64 0)] A)):=by kernel_rfl
theorem Zn(d:Nat→Value)(A:AW):AM Tryz.prog Af W0 m0 210 Il Sq S Q none 4000 (DD 36 d) (Il 0) false 0 0 0 [] A=(Aa (Ah Tryz.prog .lss 3 (.tmp 11) (.tmp 10) (d 11) (d 10)) fun t0=>Ae t0 (Aa (Aj Tryz.prog 261 (d 9) (d 11)) fun t1=>Aa (Ad Tryz.prog A 52 t1) fun t2=>Aa (Br Tryz.prog A 52 t2) fun t3=>Aa (Ah Tryz.prog .add 3 (.tmp 15) (.tmp 17) (d 3) t3) fun t4=>Aa (Ah Tryz.prog .lss 3 (.tmp 19) (.const (.int .i64 0)) t4 (.int .i64 0)) fun t5=>Ae t5 (Aa (Eo Tryz.prog 9 (.string ⟨⟨[108,101,110,32,111,117,116,32,111,102,32,114,97,110,103,101]⟩⟩)) fun t6=>anW Tryz.prog Af W0 m0 (Vd A t6) fun _ At7=>Aa (Ah Tryz.prog .add 3 (.tmp 11) (.const (.int .i64 1)) (d 11) (.int .i64 1)) fun t8=>BX (Il 0) (Il 0) (S 0 [(d 0),t4,(d 9),(d 10),t8] At7)) (Aa (Ah Tryz.prog .add 3 (.tmp 11) (.const (.int .i64 1)) (d 11) (.int .i64 1)) fun t9=>BX (Il 0) (Il 0) (S 0 [(d 0),t4,(d 9),(d 10),t9] A))) (Wc Tryz.prog Af W0 m0 255 [(.slice none 0 0),(d 3)] A fun t10 At10=>Aa (Br Tryz.prog At10 261 (d 0)) fun t11=>BX (Il 2) (Il 2) (S 2 [t10,(d 0),t11,(.int .i64 0)] At10))):=by kernel_rfl
theorem Zm(d:Nat→Value)(A:AW):AM Tryz.prog Af W0 m0 210 Il Sq S Q none 4000 (DD 36 d) (Il 2) false 0 0 0 [] A=(Aa (Ah Tryz.prog .lss 3 (.tmp 27) (.tmp 26) (d 27) (d 26)) fun t0=>Ae t0 (Aa (Aj Tryz.prog 261 (d 25) (d 27)) fun t1=>Aa (Ad Tryz.prog A 52 t1) fun t2=>Al (AT Tryz.prog A 52 52 (d 6) t2) fun t3 At3=>Aa (Ah Tryz.prog .add 3 (.tmp 27) (.const (.int .i64 1)) (d 27) (.int .i64 1)) fun t4=>BX (Il 2) (Il 2) (S 2 [t3,(d 25),(d 26),t4] At3)) (Q (d 6) A)):=by kernel_rfl
theorem n210(a0:Value):AD Tryz.prog 210 [a0] .normal=some (frM 210 (Tm.fill ⟨36,.nil⟩ 0 [a0]) [.code (cd 210 [])] false):=by kernel_rfl
theorem AdT:Wf1 210 36 Il Sq:=wf1 n210 (by decide) fun _=>rfl
theorem c210:Fy 210 36 Il Sq:=Ga (by decide)
noncomputable def Acg:Nat→List Item:=fun i=>match i with
 |_=>[]
def AcS:Nat→List Tmp:=fun i=>match i with
 |_=>[]
theorem Ae1(a0:Value)(A:AW):AM Tryz.prog Af W0 m0 200 Acg AcS S Q none 4000 (Tm.fill ⟨12,.nil⟩ 0 [a0]) [.code (cd 200 [])] false 0 0 0 [] A=(Aa (Ah Tryz.prog .eql 3 (.tmp 3) (.const (.int .i64 1)) a0 (.int .i64 1)) fun t0=>Ae t0 (Q (.bool true) A) (Aa (Ah Tryz.prog .eql 3 (.tmp 3) (.const (.int .i64 2)) a0 (.int .i64 2)) fun t1=>Ae t1 (Q (.bool true) A) (Aa (Ah Tryz.prog .eql 3 (.tmp 3) (.const (.int .i64 4)) a0 (.int .i64 4)) fun t2=>Ae t2 (Q (.bool true) A) (Aa (Ah Tryz.prog .eql 3 (.tmp 3) (.const (.int .i64 8)) a0 (.int .i64 8)) fun t3=>Ae t3 (Q (.bool true) A) (Q (.bool false) A))))):=by kernel_rfl
theorem n200(a0:Value):AD Tryz.prog 200 [a0] .normal=some (frM 200 (Tm.fill ⟨12,.nil⟩ 0 [a0]) [.code (cd 200 [])] false):=by kernel_rfl
theorem Ad1:Wf1 200 12 Acg AcS:=wf1 n200 (by decide) fun _=>rfl
noncomputable def Acb:Nat→List Item:=fun i=>match i with
 |_=>[]
def AcO:Nat→List Tmp:=fun i=>match i with
 |_=>[]
theorem AeX(a0 a1:Value)(A:AW):AM Tryz.prog Af W0 m0 205 Acb AcO S Q none 4000 (Tm.fill ⟨15,.nil⟩ 0 [a0,a1]) [.code (cd 205 [])] false 0 0 0 [] A=(Aa (Br Tryz.prog A 52 a0) fun t0=>Aa (Br Tryz.prog A 52 a1) fun t1=>Aa (Ah Tryz.prog .add 3 (.tmp 6) (.tmp 8) t0 t1) fun t2=>Al (Cs Tryz.prog A 52 (.int .i64 0) t2) fun t3 At3=>Al (AT Tryz.prog At3 52 52 t3 a0) fun t4 At4=>Al (AT Tryz.prog At4 52 52 t4 a1) fun t5 At5=>Q t5 At5):=by kernel_rfl
theorem n205(a0 a1:Value):AD Tryz.prog 205 [a0,a1] .normal=some (frM 205 (Tm.fill ⟨15,.nil⟩ 0 [a0,a1]) [.code (cd 205 [])] false):=by kernel_rfl
theorem AdX:Wf2 205 15 Acb AcO:=wf2 n205 (by decide) fun _ _=>rfl
noncomputable def Pk:Nat→List Item:=fun i=>match i with
 |0=>[(.code (cd 206 [1,1,0,1,0,0])),(.inLoop (cd 206 [1,1,0,1,0,0])),(.inBlock 0),(.code (cd 206 [1,1,1]))]
 |_=>[]
def Pq:Nat→List Tmp:=fun i=>match i with
 |0=>[0,1,5,10,11]
 |_=>[]
theorem AeW(a0 a1:Value)(A:AW):AM Tryz.prog Af W0 m0 206 Pk Pq S Q none 4000 (Tm.fill ⟨27,.nil⟩ 0 [a0,a1]) [.code (cd 206 [])] false 0 0 0 [] A=(Al (Cs Tryz.prog A 52 a1 a1) fun t0 At0=>Aa (Br Tryz.prog At0 52 t0) fun t1=>BX (Pk 0) (Pk 0) (S 0 [a0,a1,t0,t1,(.int .i64 0)] At0)):=by kernel_rfl
theorem Zp(d:Nat→Value)(A:AW):AM Tryz.prog Af W0 m0 206 Pk Pq S Q none 4000 (DD 27 d) (Pk 0) false 0 0 0 [] A=(Aa (Ah Tryz.prog .lss 3 (.tmp 11) (.tmp 10) (d 11) (d 10)) fun t0=>Ae t0 (Aa (Ah Tryz.prog .sub 3 (.tmp 15) (.const (.int .i64 1)) (d 1) (.int .i64 1)) fun t1=>Aa (Ah Tryz.prog .sub 3 (.tmp 16) (.tmp 17) t1 (d 11)) fun t2=>Aa (Ah Tryz.prog .mul 3 (.const (.int .i64 8)) (.tmp 20) (.int .i64 8) (d 11)) fun t3=>Aa (Ah Tryz.prog .shr 76 (.tmp 19) (.tmp 21) (d 0) t3) fun t4=>Al (AK Tryz.prog A 76 5 t4) fun t5 At5=>Aa (Aj Tryz.prog 52 (d 5) t2) fun t6=>AQ (Am Tryz.prog At5 5 t6 t5) fun At7=>Aa (Ah Tryz.prog .add 3 (.tmp 11) (.const (.int .i64 1)) (d 11) (.int .i64 1)) fun t8=>BX (Pk 0) (Pk 0) (S 0 [(d 0),(d 1),(d 5),(d 10),t8] At7)) (Q (d 5) A)):=by kernel_rfl
theorem n206(a0 a1:Value):AD Tryz.prog 206 [a0,a1] .normal=some (frM 206 (Tm.fill ⟨27,.nil⟩ 0 [a0,a1]) [.code (cd 206 [])] false):=by kernel_rfl
theorem AdW:Wf2 206 27 Pk Pq:=wf2 n206 (by decide) fun _ _=>rfl
theorem c206:Fy 206 27 Pk Pq:=Ga (by decide)
noncomputable def Ab9:Nat→List Item:=fun i=>match i with
 |_=>[]
def AcM:Nat→List Tmp:=fun i=>match i with
 |_=>[]
theorem AeS(a0 a1 a2:Value)(A:AW):AM Tryz.prog Af W0 m0 211 Ab9 AcM S Q none 4000 (Tm.fill ⟨31,.nil⟩ 0 [a0,a1,a2]) [.code (cd 211 [])] false 0 0 0 [] A=(Aa (Ah Tryz.prog .eql 3 (.tmp 8) (.const (.int .i64 8)) a2 (.int .i64 8)) fun t0=>Ae t0 (Q (.tuple ⟨[(.slice none 0 0),(.int .i64 2)]⟩) A) (Wc Tryz.prog Af W0 m0 200 [a2] A fun t1 At1=>Aa (unA Tryz.prog .not t1) fun t2=>Ae t2 (Q (.tuple ⟨[(.slice none 0 0),(.int .i64 2)]⟩) At1) (Aa (Br Tryz.prog At1 9 a1) fun t3=>Al (AK Tryz.prog At1 3 76 t3) fun t4 At4=>Aa (Ah Tryz.prog .mul 3 (.const (.int .i64 8)) (.tmp 18) (.int .i64 8) a2) fun t5=>Aa (Ah Tryz.prog .shr 76 (.tmp 17) (.tmp 19) t4 t5) fun t6=>Aa (Ah Tryz.prog .neq 76 (.tmp 20) (.const (.int .u64 0)) t6 (.int .u64 0)) fun t7=>Ae t7 (Q (.tuple ⟨[(.slice none 0 0),(.int .i64 3)]⟩) At4) (Aa (Br Tryz.prog At4 9 a1) fun t8=>Al (AK Tryz.prog At4 3 76 t8) fun t9 At9=>Wc Tryz.prog Af W0 m0 206 [t9,a2] At9 fun t10 At10=>Al (AT Tryz.prog At10 52 9 t10 a1) fun t11 At11=>Wc Tryz.prog Af W0 m0 205 [a0,t11] At11 fun t12 At12=>Q (.tuple ⟨[t12,(.int .i64 0)]⟩) At12)))):=by kernel_rfl
theorem n211(a0 a1 a2:Value):AD Tryz.prog 211 [a0,a1,a2] .normal=some (frM 211 (Tm.fill ⟨31,.nil⟩ 0 [a0,a1,a2]) [.code (cd 211 [])] false):=by kernel_rfl
theorem AdS:Wf3 211 31 Ab9 AcM:=wf3 n211 (by decide) fun _ _ _=>rfl
noncomputable def Acw:Nat→List Item:=fun i=>match i with
 |_=>[]
def Ac7:Nat→List Tmp:=fun i=>match i with
 |_=>[]
theorem Afd(a0:Value)(A:AW):AM Tryz.prog Af W0 m0 141 Acw Ac7 S Q none 4000 (Tm.fill ⟨5,.nil⟩ 0 [a0]) [.code (cd 141 [])] false 0 0 0 [] A=(Wc Tryz.prog Af W0 m0 208 [(.int .u32 0),a0] A fun t0 At0=>Q t0 At0):=by kernel_rfl
theorem n141(a0:Value):AD Tryz.prog 141 [a0] .normal=some (frM 141 (Tm.fill ⟨5,.nil⟩ 0 [a0]) [.code (cd 141 [])] false):=by kernel_rfl
theorem Aed:Wf1 141 5 Acw Ac7:=wf1 n141 (by decide) fun _=>rfl
noncomputable def T67:Nat→List Item:=fun i=>match i with
 |_=>[]
def L67:Nat→List Tmp:=fun i=>match i with
 |_=>[]
theorem e67(a0:Value)(A:AW):AM Tryz.prog Af W0 m0 67 T67 L67 S Q none 4000 (Tm.fill ⟨19,.nil⟩ 0 [a0]) [.code (cd 67 [])] false 0 0 0 [] A=(Al (Cq A (Value.cells a0).toList 24) fun t0 At0=>Aa (Ac Tryz.prog 24 t0 1) fun t1=>Aa (Ad Tryz.prog At0 9 t1) fun t2=>Aa (Br Tryz.prog At0 9 t2) fun t3=>Aa (Ah Tryz.prog .lss 3 (.tmp 5) (.const (.int .i64 1)) t3 (.int .i64 1)) fun t4=>Ae t4 (Q (.int .i64 40) At0) (Aa (Ac Tryz.prog 24 t0 1) fun t5=>Aa (Ad Tryz.prog At0 9 t5) fun t6=>Aa (Br Tryz.prog At0 9 t6) fun t7=>Aa (Ah Tryz.prog .gtr 3 (.tmp 10) (.const (.int .i64 64)) t7 (.int .i64 64)) fun t8=>Ae t8 (Q (.int .i64 40) At0) (Aa (Ac Tryz.prog 24 t0 2) fun t9=>Aa (Ad Tryz.prog At0 9 t9) fun t10=>Aa (Br Tryz.prog At0 9 t10) fun t11=>Aa (Ah Tryz.prog .gtr 3 (.tmp 16) (.const (.int .i64 64)) t11 (.int .i64 64)) fun t12=>Ae t12 (Q (.int .i64 40) At0) (Q (.int .i64 0) At0)))):=by kernel_rfl
theorem n67(a0:Value):AD Tryz.prog 67 [a0] .normal=some (frM 67 (Tm.fill ⟨19,.nil⟩ 0 [a0]) [.code (cd 67 [])] false):=by kernel_rfl
theorem w67:Wf1 67 19 T67 L67:=wf1 n67 (by decide) fun _=>rfl
noncomputable def T69:Nat→List Item:=fun i=>match i with
 |0=>[(.code (cd 69 [1,1,0,1,0,0])),(.inLoop (cd 69 [1,1,0,1,0,0])),(.inBlock 0),(.code (cd 69 [1,1,1]))]
 |_=>[]
def L69:Nat→List Tmp:=fun i=>match i with
 |0=>[0,1,5,6]
 |_=>[]
theorem e69(a0 a1:Value)(A:AW):AM Tryz.prog Af W0 m0 69 T69 L69 S Q none 4000 (Tm.fill ⟨21,.nil⟩ 0 [a0,a1]) [.code (cd 69 [])] false 0 0 0 [] A=(BX (T69 0) (T69 0) (S 0 [a0,a1,(.slice none 0 0),(.int .i64 0)] A)):=by kernel_rfl
theorem Abk(d:Nat→Value)(A:AW):AM Tryz.prog Af W0 m0 69 T69 L69 S Q none 4000 (DD 21 d) (T69 0) false 0 0 0 [] A=(Aa (Ah Tryz.prog .lss 3 (.tmp 7) (.tmp 8) (d 6) (d 1)) fun t0=>Ae t0 (Aa (Ah Tryz.prog .rem 76 (.tmp 12) (.const (.int .u64 256)) (d 0) (.int .u64 256)) fun t1=>Al (AK Tryz.prog A 76 5 t1) fun t2 At2=>Al (Aq Tryz.prog At2 52 1 [(0,t2)]) fun t3 At3=>Al (AT Tryz.prog At3 52 52 t3 (d 5)) fun t4 At4=>Aa (Ah Tryz.prog .quo 76 (.tmp 18) (.const (.int .u64 256)) (d 0) (.int .u64 256)) fun t5=>Aa (Ah Tryz.prog .add 3 (.tmp 10) (.const (.int .i64 1)) (d 6) (.int .i64 1)) fun t6=>BX (T69 0) (T69 0) (S 0 [t5,(d 1),t4,t6] At4)) (Q (d 5) A)):=by kernel_rfl
theorem n69(a0 a1:Value):AD Tryz.prog 69 [a0,a1] .normal=some (frM 69 (Tm.fill ⟨21,.nil⟩ 0 [a0,a1]) [.code (cd 69 [])] false):=by kernel_rfl
theorem w69:Wf2 69 21 T69 L69:=wf2 n69 (by decide) fun _ _=>rfl
theorem c69:Fy 69 21 T69 L69:=Ga (by decide)
noncomputable def T70:Nat→List Item:=fun i=>match i with
 |_=>[]
def L70:Nat→List Tmp:=fun i=>match i with
 |_=>[]
theorem e70(a0:Value)(A:AW):AM Tryz.prog Af W0 m0 70 T70 L70 S Q none 4000 (Tm.fill ⟨5,.nil⟩ 0 [a0]) [.code (cd 70 [])] false 0 0 0 [] A=(Wc Tryz.prog Af W0 m0 140 [(.int .u32 0),a0] A fun t0 At0=>Q t0 At0):=by kernel_rfl
theorem n70(a0:Value):AD Tryz.prog 70 [a0] .normal=some (frM 70 (Tm.fill ⟨5,.nil⟩ 0 [a0]) [.code (cd 70 [])] false):=by kernel_rfl
theorem w70:Wf1 70 5 T70 L70:=wf1 n70 (by decide) fun _=>rfl
noncomputable def Nk:Nat→List Item:=fun i=>match i with
 |0=>[(.code (cd 219 [1,1,0,1,0,0])),(.inLoop (cd 219 [1,1,0,1,0,0])),(.inBlock 0),(.code (cd 219 [1,1,1]))]
 |_=>[]
def Wr:Nat→List Tmp:=fun i=>match i with
 |0=>[3,6,7,8]
 |_=>[]
theorem AeP(a0:Value)(A:AW):AM Tryz.prog Af W0 m0 219 Nk Wr S Q none 4000 (Tm.fill ⟨24,.nil⟩ 0 [a0]) [.code (cd 219 [])] false 0 0 0 [] A=(Aa (Br Tryz.prog A 34 a0) fun t0=>BX (Nk 0) (Nk 0) (S 0 [(.slice none 0 0),a0,t0,(.int .i64 0)] A)):=by kernel_rfl
theorem Zk(d:Nat→Value)(A:AW):AM Tryz.prog Af W0 m0 219 Nk Wr S Q none 4000 (DD 24 d) (Nk 0) false 0 0 0 [] A=(Aa (Ah Tryz.prog .lss 3 (.tmp 8) (.tmp 7) (d 8) (d 7)) fun t0=>Ae t0 (Aa (Aj Tryz.prog 34 (d 6) (d 8)) fun t1=>Aa (Ad Tryz.prog A 24 t1) fun t2=>Al (Cd Tryz.prog A 24) fun t3 At3=>AQ (Am Tryz.prog At3 24 t3 t2) fun At4=>Aa (Ad Tryz.prog At4 24 t3) fun t5=>Wc Tryz.prog Af W0 m0 97 [t5] At4 fun t6 At6=>Aa (Ah Tryz.prog .eql 28 (.tmp 13) (.const (.int .i64 0)) t6 (.int .i64 0)) fun t7=>Ae t7 (Aa (Ad Tryz.prog At6 24 t3) fun t8=>Al (Aq Tryz.prog At6 34 1 [(0,t8)]) fun t9 At9=>Al (AT Tryz.prog At9 34 34 (d 3) t9) fun t10 At10=>Aa (Ah Tryz.prog .add 3 (.tmp 8) (.const (.int .i64 1)) (d 8) (.int .i64 1)) fun t11=>BX (Nk 0) (Nk 0) (S 0 [t10,(d 6),(d 7),t11] At10)) (Aa (Ah Tryz.prog .add 3 (.tmp 8) (.const (.int .i64 1)) (d 8) (.int .i64 1)) fun t12=>BX (Nk 0) (Nk 0) (S 0 [(d 3),(d 6),(d 7),t12] At6))) (Wc Tryz.prog Af W0 m0 166 [(d 3),(.func (.func 95) #[] #[])] A fun _ At13=>Wc Tryz.prog Af W0 m0 263 [(d 3)] At13 fun t14 At14=>Q t14 At14)):=by kernel_rfl
theorem n219(a0:Value):AD Tryz.prog 219 [a0] .normal=some (frM 219 (Tm.fill ⟨24,.nil⟩ 0 [a0]) [.code (cd 219 [])] false):=by kernel_rfl
theorem AdP:Wf1 219 24 Nk Wr:=wf1 n219 (by decide) fun _=>rfl
theorem Afn:Fy 219 24 Nk Wr:=Ga (by decide)
noncomputable def Ab4:Nat→List Item:=fun i=>match i with
 |_=>[]
def AcH:Nat→List Tmp:=fun i=>match i with
 |_=>[]
noncomputable def OI(W0:World)(m0:Inj Tryz.prog)(Q:Value→AW→Prop)(a0:Value)(X0:AW)(x4:Value):Prop:=anW Tryz.prog Af W0 m0 (Ca Tryz.prog X0 .cap [52] 3 [a0]) fun b1 B2=>Aa (Cc Tryz.prog B2 52 a0 none (some b1) none) fun b3=>Al (AT Tryz.prog B2 52 3 b3 x4) fun b5 B6=>Aa (Br Tryz.prog B6 52 a0) fun b7=>Aa (Cc Tryz.prog B6 52 b5 none (some b7) none) fun b8=>Q b8 B6
theorem AeM(a0 a1:Value)(A:AW):AM Tryz.prog Af W0 m0 255 Ab4 AcH S Q none 4000 (Tm.fill ⟨27,.nil⟩ 0 [a0,a1]) [.code (cd 255 [])] false 0 0 0 [] A=(Aa (Ah Tryz.prog .lss 3 (.tmp 5) (.const (.int .i64 0)) a1 (.int .i64 0)) fun t0=>Ae t0 (Aa (Eo Tryz.prog 9 (.string ⟨⟨[99,97,110,110,111,116,32,98,101,32,110,101,103,97,116,105,118,101]⟩⟩)) fun t1=>anW Tryz.prog Af W0 m0 (Vd A t1) fun _ At2=>anW Tryz.prog Af W0 m0 (Ca Tryz.prog At2 .cap [52] 3 [a0]) fun t3 At3=>Aa (Br Tryz.prog At3 52 a0) fun t4=>Aa (Ah Tryz.prog .sub 3 (.tmp 10) (.tmp 12) t3 t4) fun t5=>Aa (Ah Tryz.prog .sub 3 (.tmp 8) (.tmp 13) a1 t5) fun t6=>Aa (Ah Tryz.prog .gtr 3 (.tmp 15) (.const (.int .i64 0)) t6 (.int .i64 0)) fun t7=>Ae t7 (OI W0 m0 Q a0 At3 t6) (Q a0 At3)) (anW Tryz.prog Af W0 m0 (Ca Tryz.prog A .cap [52] 3 [a0]) fun t13 At13=>Aa (Br Tryz.prog At13 52 a0) fun t14=>Aa (Ah Tryz.prog .sub 3 (.tmp 10) (.tmp 12) t13 t14) fun t15=>Aa (Ah Tryz.prog .sub 3 (.tmp 8) (.tmp 13) a1 t15) fun t16=>Aa (Ah Tryz.prog .gtr 3 (.tmp 15) (.const (.int .i64 0)) t16 (.int .i64 0)) fun t17=>Ae t17 (OI W0 m0 Q a0 At13 t16) (Q a0 At13))):=by kernel_rfl
theorem n255(a0 a1:Value):AD Tryz.prog 255 [a0,a1] .normal=some (frM 255 (Tm.fill ⟨27,.nil⟩ 0 [a0,a1]) [.code (cd 255 [])] false):=by kernel_rfl
theorem AdM:Wf2 255 27 Ab4 AcH:=wf2 n255 (by decide) fun _ _=>rfl
noncomputable def Ph:Nat→List Item:=fun i=>match i with
 |0=>[(.code (cd 208 [1,1,0,1,0,0])),(.inLoop (cd 208 [1,1,0,1,0,0])),(.inBlock 0),(.code (cd 208 [1,1,1]))]
 |_=>[]
def Wt:Nat→List Tmp:=fun i=>match i with
 |0=>[1,5,10,11]
 |_=>[]
theorem AeV(a0 a1:Value)(A:AW):AM Tryz.prog Af W0 m0 208 Ph Wt S Q none 4000 (Tm.fill ⟨38,.nil⟩ 0 [a0,a1]) [.code (cd 208 [])] false 0 0 0 [] A=(Aa (unA Tryz.prog .xor a0) fun t0=>Aa (Br Tryz.prog A 52 a1) fun t1=>BX (Ph 0) (Ph 0) (S 0 [a1,t0,t1,(.int .i64 0)] A)):=by kernel_rfl
theorem Zo(d:Nat→Value)(A:AW):AM Tryz.prog Af W0 m0 208 Ph Wt S Q none 4000 (DD 38 d) (Ph 0) false 0 0 0 [] A=(Aa (Ah Tryz.prog .lss 3 (.tmp 11) (.tmp 10) (d 11) (d 10)) fun t0=>Ae t0 (Aa (Aj Tryz.prog 52 (d 1) (d 11)) fun t1=>Aa (Ad Tryz.prog A 5 t1) fun t2=>Al (AK Tryz.prog A 5 22 t2) fun t3 At3=>Aa (Ah Tryz.prog .xor 22 (.tmp 14) (.tmp 19) (d 5) t3) fun t4=>Aa (Ah Tryz.prog .shr 22 (.tmp 21) (.const (.int .u64 4)) t4 (.int .u64 4)) fun t5=>Aa (Ah Tryz.prog .and 22 (.tmp 23) (.const (.int .u32 15)) t4 (.int .u32 15)) fun t6=>Aa (Aj Tryz.prog 302 (.pointer (some ⟨1,0,none⟩)) t6) fun t7=>Aa (Ad Tryz.prog At3 22 t7) fun t8=>Aa (Ah Tryz.prog .xor 22 (.tmp 22) (.tmp 26) t5 t8) fun t9=>Aa (Ah Tryz.prog .shr 22 (.tmp 28) (.const (.int .u64 4)) t9 (.int .u64 4)) fun t10=>Aa (Ah Tryz.prog .and 22 (.tmp 30) (.const (.int .u32 15)) t9 (.int .u32 15)) fun t11=>Aa (Aj Tryz.prog 302 (.pointer (some ⟨1,0,none⟩)) t11) fun t12=>Aa (Ad Tryz.prog At3 22 t12) fun t13=>Aa (Ah Tryz.prog .xor 22 (.tmp 29) (.tmp 33) t10 t13) fun t14=>Aa (Ah Tryz.prog .add 3 (.tmp 11) (.const (.int .i64 1)) (d 11) (.int .i64 1)) fun t15=>BX (Ph 0) (Ph 0) (S 0 [(d 1),t14,(d 10),t15] At3)) (Aa (unA Tryz.prog .xor (d 5)) fun t16=>Q t16 A)):=by kernel_rfl
theorem n208(a0 a1:Value):AD Tryz.prog 208 [a0,a1] .normal=some (frM 208 (Tm.fill ⟨38,.nil⟩ 0 [a0,a1]) [.code (cd 208 [])] false):=by kernel_rfl
theorem AdV:Wf2 208 38 Ph Wt:=wf2 n208 (by decide) fun _ _=>rfl
theorem c208:Fy 208 38 Ph Wt:=Ga (by decide)
noncomputable def Im:Nat→List Item:=fun i=>match i with
 |0=>[(.code (cd 140 [1,1,0,1,0,0])),(.inLoop (cd 140 [1,1,0,1,0,0])),(.inBlock 0),(.code (cd 140 [1,1,1]))]
 |2=>[(.code (cd 140 [1,1,0,1,0,0,1,0,0,1,1,0,0])),(.inLoop (cd 140 [1,1,0,1,0,0,1,0,0,1,1,0,0])),(.inBlock 2),(.inBlock 1),(.code (cd 140 [1,1,0,1,0,0,1,1])),(.inLoop (cd 140 [1,1,0,1,0,0])),(.inBlock 0),(.code (cd 140 [1,1,1]))]
 |_=>[]
def Sr:Nat→List Tmp:=fun i=>match i with
 |0=>[1,5,6]
 |2=>[1,5,6,7]
 |_=>[]
theorem Afe(a0 a1:Value)(A:AW):AM Tryz.prog Af W0 m0 140 Im Sr S Q none 4000 (Tm.fill ⟨38,.nil⟩ 0 [a0,a1]) [.code (cd 140 [])] false 0 0 0 [] A=(Aa (unA Tryz.prog .xor a0) fun t0=>BX (Im 0) (Im 0) (S 0 [a1,t0,(.int .i64 0)] A)):=by kernel_rfl
theorem Zt(d:Nat→Value)(A:AW):AM Tryz.prog Af W0 m0 140 Im Sr S Q none 4000 (DD 38 d) (Im 0) false 0 0 0 [] A=(Aa (Br Tryz.prog A 52 (d 1)) fun t0=>Aa (Ah Tryz.prog .lss 3 (.tmp 11) (.tmp 13) (d 6) t0) fun t1=>Ae t1 (Aa (Aj Tryz.prog 52 (d 1) (d 6)) fun t2=>Aa (Ad Tryz.prog A 5 t2) fun t3=>Al (AK Tryz.prog A 5 22 t3) fun t4 At4=>Aa (Ah Tryz.prog .xor 22 (.tmp 17) (.tmp 22) (d 5) t4) fun t5=>BX (Im 2) (Im 2) (S 2 [(d 1),t5,(d 6),(.int .i64 0)] At4)) (Aa (unA Tryz.prog .xor (d 5)) fun t6=>Q t6 A)):=by kernel_rfl
theorem Zs(d:Nat→Value)(A:AW):AM Tryz.prog Af W0 m0 140 Im Sr S Q none 4000 (DD 38 d) (Im 2) false 0 0 0 [] A=(Aa (Ah Tryz.prog .lss 3 (.tmp 24) (.const (.int .i64 8)) (d 7) (.int .i64 8)) fun t0=>Ae t0 (Aa (Ah Tryz.prog .rem 22 (.tmp 28) (.const (.int .u32 2)) (d 5) (.int .u32 2)) fun t1=>Aa (Ah Tryz.prog .quo 22 (.tmp 30) (.const (.int .u32 2)) (d 5) (.int .u32 2)) fun t2=>Aa (Ah Tryz.prog .eql 22 (.tmp 32) (.const (.int .u32 1)) t1 (.int .u32 1)) fun t3=>Ae t3 (Aa (Ah Tryz.prog .xor 22 (.tmp 34) (.const (.int .u32 2197175160)) t2 (.int .u32 2197175160)) fun t4=>Aa (Ah Tryz.prog .add 3 (.tmp 26) (.const (.int .i64 1)) (d 7) (.int .i64 1)) fun t5=>BX (Im 2) (Im 2) (S 2 [(d 1),t4,(d 6),t5] A)) (Aa (Ah Tryz.prog .add 3 (.tmp 26) (.const (.int .i64 1)) (d 7) (.int .i64 1)) fun t6=>BX (Im 2) (Im 2) (S 2 [(d 1),t2,(d 6),t6] A))) (Aa (Ah Tryz.prog .add 3 (.tmp 15) (.const (.int .i64 1)) (d 6) (.int .i64 1)) fun t7=>BX (Im 0) (Im 0) (S 0 [(d 1),(d 5),t7] A))):=by kernel_rfl
theorem n140(a0 a1:Value):AD Tryz.prog 140 [a0,a1] .normal=some (frM 140 (Tm.fill ⟨38,.nil⟩ 0 [a0,a1]) [.code (cd 140 [])] false):=by kernel_rfl
theorem Aee:Wf2 140 38 Im Sr:=wf2 n140 (by decide) fun _ _=>rfl
theorem Afo:Fy 140 38 Im Sr:=Ga (by decide)
noncomputable def XK:Nat→List Item:=fun i=>match i with
 |0=>[(.code (cd 263 [1,1,0,1,0,0])),(.inLoop (cd 263 [1,1,0,1,0,0])),(.inBlock 0),(.code (cd 263 [1,1,1]))]
 |2=>[(.code (cd 263 [1,1,0,1,0,0,1,0,0,1,0,1,0,1,0,0])),(.inLoop (cd 263 [1,1,0,1,0,0,1,0,0,1,0,1,0,1,0,0])),(.inBlock 2),(.code (cd 263 [1,1,0,1,0,0,1,0,0,1,0,1,1])),(.inBlock 1),(.code (cd 263 [1,1,0,1,0,0,1,1])),(.inLoop (cd 263 [1,1,0,1,0,0])),(.inBlock 0),(.code (cd 263 [1,1,1]))]
 |_=>[]
def AcE:Nat→List Tmp:=fun i=>match i with
 |0=>[0,3]
 |2=>[0,3,4,5]
 |_=>[]
theorem AeJ(a0:Value)(A:AW):AM Tryz.prog Af W0 m0 263 XK AcE S Q none 4000 (Tm.fill ⟨61,.nil⟩ 0 [a0]) [.code (cd 263 [])] false 0 0 0 [] A=(Aa (Br Tryz.prog A 34 a0) fun t0=>Aa (Ah Tryz.prog .lss 3 (.tmp 7) (.const (.int .i64 2)) t0 (.int .i64 2)) fun t1=>Ae t1 (Q a0 A) (BX (XK 0) (XK 0) (S 0 [a0,(.int .i64 1)] A))):=by kernel_rfl
theorem n263(a0:Value):AD Tryz.prog 263 [a0] .normal=some (frM 263 (Tm.fill ⟨61,.nil⟩ 0 [a0]) [.code (cd 263 [])] false):=by kernel_rfl
theorem AdJ:Wf1 263 61 XK AcE:=wf1 n263 (by decide) fun _=>rfl
noncomputable def T34:Nat→List Item:=fun i=>match i with
 |0=>[(.code (cd 34 [1,1,1,1,1,1,0,1,1,1,1,0,1,1,0,0])),(.inLoop (cd 34 [1,1,1,1,1,1,0,1,1,1,1,0,1,1,0,0])),(.inBlock 0),(.code (cd 34 [1,1,1,1,1,1,1]))]
 |_=>[]
def L34:Nat→List Tmp:=fun i=>match i with
 |0=>[0,2,6,7,8,11]
 |_=>[]
noncomputable def Ro(W0:World)(m0:Inj Tryz.prog)(Q:Value→AW→Prop)(a0:Value)(X0:AW)(x1:Value)(x9:Value):Prop:=Aa (Ad Tryz.prog X0 38 x1) fun b2=>Wc Tryz.prog Af W0 m0 76 [b2] X0 fun b3 B4=>Aa (Ar b3 0) fun b5=>Aa (Ar b3 1) fun b6=>Aa (Ah Tryz.prog .neq 28 (.tmp 111) (.const (.int .i64 0)) b6 (.int .i64 0)) fun b7=>Ae b7 (Aa (Aw Tryz.prog 38 []) fun b8=>AQ (Am Tryz.prog B4 38 x9 b8) fun B10=>Aa (Ad Tryz.prog B10 38 x9) fun b11=>Q (.tuple ⟨[b11,(.int .i64 250)]⟩) B10) (Aa (Ah Tryz.prog .neq 9 (.tmp 114) (.tmp 115) b5 a0) fun b12=>Ae b12 (Aa (Aw Tryz.prog 38 []) fun b13=>AQ (Am Tryz.prog B4 38 x9 b13) fun B14=>Aa (Ad Tryz.prog B14 38 x9) fun b15=>Q (.tuple ⟨[b15,(.int .i64 250)]⟩) B14) (Aa (Ad Tryz.prog B4 38 x1) fun b16=>AQ (Am Tryz.prog B4 38 x9 b16) fun B17=>Aa (Ad Tryz.prog B17 38 x9) fun b18=>Q (.tuple ⟨[b18,(.int .i64 0)]⟩) B17))
theorem e34(a0:Value)(A:AW):AM Tryz.prog Af W0 m0 34 T34 L34 S Q none 4000 (Tm.fill ⟨120,.nil⟩ 0 [a0]) [.code (cd 34 [])] false 0 0 0 [] A=(Al (Cd Tryz.prog A 38) fun t0 At0=>Al (AK Tryz.prog At0 9 52 a0) fun t1 At1=>Wc Tryz.prog Af W0 m0 72 [t1] At1 fun t2 At2=>Aa (Ar t2 0) fun t3=>Aa (Ar t2 1) fun t4=>Aa (unA Tryz.prog .not t4) fun t5=>Ae t5 (Aa (Aw Tryz.prog 38 []) fun t6=>AQ (Am Tryz.prog At2 38 t0 t6) fun At7=>Aa (Ad Tryz.prog At7 38 t0) fun t8=>Q (.tuple ⟨[t8,(.int .i64 250)]⟩) At7) (Aa (Br Tryz.prog At2 52 t3) fun t9=>Aa (Ah Tryz.prog .lss 3 (.tmp 25) (.const (.int .i64 4)) t9 (.int .i64 4)) fun t10=>Ae t10 (Aa (Aw Tryz.prog 38 []) fun t11=>AQ (Am Tryz.prog At2 38 t0 t11) fun At12=>Aa (Ad Tryz.prog At12 38 t0) fun t13=>Q (.tuple ⟨[t13,(.int .i64 250)]⟩) At12) (Al (Cd Tryz.prog At2 38) fun t14 At14=>Cm (Bi Tryz.prog (fun _=>undef) (.alloc 38)) At14 t14 (Aa (Aj Tryz.prog 52 t3 (.int .i64 0)) fun t15=>Aa (Ad Tryz.prog At14 5 t15) fun t16=>Aa (Aj Tryz.prog 52 t3 (.int .i64 1)) fun t17=>Aa (Ad Tryz.prog At14 5 t17) fun t18=>Aa (Aj Tryz.prog 52 t3 (.int .i64 2)) fun t19=>Aa (Ad Tryz.prog At14 5 t19) fun t20=>Al (AK Tryz.prog At14 5 36 t20) fun t21 At21=>Aa (Ah Tryz.prog .shl 36 (.tmp 38) (.const (.int .u64 8)) t21 (.int .u64 8)) fun t22=>Aa (Aj Tryz.prog 52 t3 (.int .i64 3)) fun t23=>Aa (Ad Tryz.prog At21 5 t23) fun t24=>Al (AK Tryz.prog At21 5 36 t24) fun t25 At25=>Aa (Ah Tryz.prog .or 36 (.tmp 39) (.tmp 43) t22 t25) fun t26=>Aa (Aw Tryz.prog 38 [(0,t16),(2,t18),(3,t26)]) fun t27=>AQ (Am Tryz.prog At25 38 t14 t27) fun At28=>Aa (Cc Tryz.prog At28 52 t3 (some (.int .i64 4)) none none) fun t29=>Al (Cd Tryz.prog At28 52) fun t30 At30=>AQ (Am Tryz.prog At30 52 t30 t29) fun At31=>Aa (Ac Tryz.prog 38 t14 0) fun t32=>Aa (Ad Tryz.prog At31 5 t32) fun t33=>Wc Tryz.prog Af W0 m0 75 [t33] At31 fun t34 At34=>Aa (Ar t34 0) fun t35=>Aa (Ar t34 1) fun t36=>Aa (Ah Tryz.prog .neq 5 (.tmp 55) (.const (.int .u8 5)) t35 (.int .u8 5)) fun t37=>Ae t37 (anW Tryz.prog Af W0 m0 (EL Tryz.prog Af At34 (.func (.func 73) ⟨[]⟩ ⟨[t30]⟩) []) fun t38 At38=>Aa (Ac Tryz.prog 38 t14 1) fun t39=>AQ (Am Tryz.prog At38 24 t39 t38) fun At40=>Aa (Ad Tryz.prog At40 38 t14) fun t41=>Wc Tryz.prog Af W0 m0 76 [t41] At40 fun t42 At42=>Aa (Ar t42 0) fun t43=>Aa (Ar t42 1) fun t44=>Aa (Ah Tryz.prog .neq 28 (.tmp 111) (.const (.int .i64 0)) t44 (.int .i64 0)) fun t45=>Ae t45 (Aa (Aw Tryz.prog 38 []) fun t46=>AQ (Am Tryz.prog At42 38 t0 t46) fun At47=>Aa (Ad Tryz.prog At47 38 t0) fun t48=>Q (.tuple ⟨[t48,(.int .i64 250)]⟩) At47) (Aa (Ah Tryz.prog .neq 9 (.tmp 114) (.tmp 115) t43 a0) fun t49=>Ae t49 (Aa (Aw Tryz.prog 38 []) fun t50=>AQ (Am Tryz.prog At42 38 t0 t50) fun At51=>Aa (Ad Tryz.prog At51 38 t0) fun t52=>Q (.tuple ⟨[t52,(.int .i64 250)]⟩) At51) (Aa (Ad Tryz.prog At42 38 t14) fun t53=>AQ (Am Tryz.prog At42 38 t0 t53) fun At54=>Aa (Ad Tryz.prog At54 38 t0) fun t55=>Q (.tuple ⟨[t55,(.int .i64 0)]⟩) At54))) (Ae t36 (Aa (Ad Tryz.prog At34 52 t30) fun t56=>Aa (Br Tryz.prog At34 52 t56) fun t57=>Aa (Ah Tryz.prog .geq 3 (.tmp 63) (.const (.int .i64 2)) t57 (.int .i64 2)) fun t58=>Ae t58 (Aa (Ad Tryz.prog At34 52 t30) fun t59=>Aa (Aj Tryz.prog 52 t59 (.int .i64 0)) fun t60=>Aa (Ad Tryz.prog At34 5 t60) fun t61=>Al (AK Tryz.prog At34 5 3 t61) fun t62 At62=>Aa (Ah Tryz.prog .shl 3 (.tmp 69) (.const (.int .u64 8)) t62 (.int .u64 8)) fun t63=>Aa (Ad Tryz.prog At62 52 t30) fun t64=>Aa (Aj Tryz.prog 52 t64 (.int .i64 1)) fun t65=>Aa (Ad Tryz.prog At62 5 t65) fun t66=>Al (AK Tryz.prog At62 5 3 t66) fun t67 At67=>Aa (Ah Tryz.prog .or 3 (.tmp 70) (.tmp 74) t63 t67) fun t68=>Aa (Ad Tryz.prog At67 52 t30) fun t69=>Aa (Cc Tryz.prog At67 52 t69 (some (.int .i64 2)) none none) fun t70=>AQ (Am Tryz.prog At67 52 t30 t70) fun At71=>BX (T34 0) (T34 0) (S 0 [a0,t0,t14,t30,(.func (.func 73) ⟨[]⟩ ⟨[t30]⟩),t68] At71)) (Ro W0 m0 Q a0 At34 t14 t0)) (Ro W0 m0 Q a0 At34 t14 t0)))))):=by kernel_rfl
noncomputable def JH(W0:World)(m0:Inj Tryz.prog)(Q:Value→AW→Prop)(d:Nat→Value)(A:AW):Prop:=Aa (Ad Tryz.prog A 38 (d 6)) fun b0=>Wc Tryz.prog Af W0 m0 76 [b0] A fun b1 B2=>Aa (Ar b1 0) fun b3=>Aa (Ar b1 1) fun b4=>Aa (Ah Tryz.prog .neq 28 (.tmp 111) (.const (.int .i64 0)) b4 (.int .i64 0)) fun b5=>Ae b5 (Aa (Aw Tryz.prog 38 []) fun b6=>AQ (Am Tryz.prog B2 38 (d 2) b6) fun B7=>Aa (Ad Tryz.prog B7 38 (d 2)) fun b8=>Q (.tuple ⟨[b8,(.int .i64 250)]⟩) B7) (Aa (Ah Tryz.prog .neq 9 (.tmp 114) (.tmp 115) b3 (d 0)) fun b9=>Ae b9 (Aa (Aw Tryz.prog 38 []) fun b10=>AQ (Am Tryz.prog B2 38 (d 2) b10) fun B11=>Aa (Ad Tryz.prog B11 38 (d 2)) fun b12=>Q (.tuple ⟨[b12,(.int .i64 250)]⟩) B11) (Aa (Ad Tryz.prog B2 38 (d 6)) fun b13=>AQ (Am Tryz.prog B2 38 (d 2) b13) fun B14=>Aa (Ad Tryz.prog B14 38 (d 2)) fun b15=>Q (.tuple ⟨[b15,(.int .i64 0)]⟩) B14))
theorem Abn(d:Nat→Value)(A:AW):AM Tryz.prog Af W0 m0 34 T34 L34 S Q none 4000 (DD 120 d) (T34 0) false 0 0 0 [] A=(Aa (Ah Tryz.prog .gtr 3 (.tmp 78) (.const (.int .i64 0)) (d 11) (.int .i64 0)) fun t0=>Ae t0 (Aa (Ad Tryz.prog A 52 (d 7)) fun t1=>Aa (Br Tryz.prog A 52 t1) fun t2=>Aa (Ah Tryz.prog .gtr 3 (.tmp 82) (.const (.int .i64 0)) t2 (.int .i64 0)) fun t3=>Ae t3 (Aa (Ac Tryz.prog 38 (d 6) 4) fun t4=>Aa (Ad Tryz.prog A 34 t4) fun t5=>Aa (Br Tryz.prog A 34 t5) fun t6=>Aa (Ah Tryz.prog .leq 3 (.tmp 88) (.const (.int .i64 200)) t6 (.int .i64 200)) fun t7=>Ae t7 (Aa (Ad Tryz.prog A 52 (d 7)) fun t8=>Aa (Br Tryz.prog A 52 t8) fun t9=>Aa (Ac Tryz.prog 38 (d 6) 4) fun t10=>Aa (Ad Tryz.prog A 34 t10) fun t11=>anW Tryz.prog Af W0 m0 (EL Tryz.prog Af A (d 8) []) fun t12 At12=>Aa (Ad Tryz.prog At12 34 t10) fun t13=>eqW t13 t11 (Aa (Ac Tryz.prog 38 (d 6) 4) fun t14=>eqW t14 t10 (Al (Aq Tryz.prog At12 34 1 [(0,t12)]) fun t15 At15=>Cm (Bi Tryz.prog (BJ (Tm.fill ⟨1,.nil⟩ 0 [t12])) (.buildSlice 34 1 #[(0,.tmp 0)])) At15 t15 (eqW (d 8) (d 8) (Aa (Ad Tryz.prog At15 34 t10) fun t16=>eqW t16 t11 (Aa (Ac Tryz.prog 38 (d 6) 4) fun t17=>eqW t17 t10 (Al (AT Tryz.prog At15 34 34 t11 t15) fun t18 At18=>Aa (Ac Tryz.prog 38 (d 6) 4) fun t19=>AQ (Am Tryz.prog At18 34 t19 t18) fun At20=>Aa (Ad Tryz.prog At20 52 (d 7)) fun t21=>Aa (Br Tryz.prog At20 52 t21) fun t22=>Aa (Ah Tryz.prog .eql 3 (.tmp 103) (.tmp 104) t22 t9) fun t23=>Ae t23 (Aa (Ad Tryz.prog At20 38 (d 6)) fun t24=>Wc Tryz.prog Af W0 m0 76 [t24] At20 fun t25 At25=>Aa (Ar t25 0) fun t26=>Aa (Ar t25 1) fun t27=>Aa (Ah Tryz.prog .neq 28 (.tmp 111) (.const (.int .i64 0)) t27 (.int .i64 0)) fun t28=>Ae t28 (Aa (Aw Tryz.prog 38 []) fun t29=>AQ (Am Tryz.prog At25 38 (d 2) t29) fun At30=>Aa (Ad Tryz.prog At30 38 (d 2)) fun t31=>Q (.tuple ⟨[t31,(.int .i64 250)]⟩) At30) (Aa (Ah Tryz.prog .neq 9 (.tmp 114) (.tmp 115) t26 (d 0)) fun t32=>Ae t32 (Aa (Aw Tryz.prog 38 []) fun t33=>AQ (Am Tryz.prog At25 38 (d 2) t33) fun At34=>Aa (Ad Tryz.prog At34 38 (d 2)) fun t35=>Q (.tuple ⟨[t35,(.int .i64 250)]⟩) At34) (Aa (Ad Tryz.prog At25 38 (d 6)) fun t36=>AQ (Am Tryz.prog At25 38 (d 2) t36) fun At37=>Aa (Ad Tryz.prog At37 38 (d 2)) fun t38=>Q (.tuple ⟨[t38,(.int .i64 0)]⟩) At37))) (Aa (Ah Tryz.prog .sub 3 (.tmp 91) (.const (.int .i64 1)) (d 11) (.int .i64 1)) fun t39=>BX (T34 0) (T34 0) (S 0 [(d 0),(d 2),(d 6),(d 7),(d 8),t39] At20))))))))) (JH W0 m0 Q d A)) (JH W0 m0 Q d A)) (JH W0 m0 Q d A)):=by kernel_rfl
theorem n34(a0:Value):AD Tryz.prog 34 [a0] .normal=some (frM 34 (Tm.fill ⟨120,.nil⟩ 0 [a0]) [.code (cd 34 [])] false):=by kernel_rfl
theorem w34:Wf1 34 120 T34 L34:=wf1 n34 (by decide) fun _=>rfl
theorem c34:Fy 34 120 T34 L34:=Ga (by decide)
noncomputable def T72:Nat→List Item:=fun i=>match i with
 |0=>[(.code (cd 72 [1,1,1,1,0,1,0,0])),(.inLoop (cd 72 [1,1,1,1,0,1,0,0])),(.inBlock 0),(.code (cd 72 [1,1,1,1,1]))]
 |_=>[]
def L72:Nat→List Tmp:=fun i=>match i with
 |0=>[0,4,5,18]
 |_=>[]
theorem e72(a0:Value)(A:AW):AM Tryz.prog Af W0 m0 72 T72 L72 S Q none 4000 (Tm.fill ⟨40,.nil⟩ 0 [a0]) [.code (cd 72 [])] false 0 0 0 [] A=(Aa (Br Tryz.prog A 52 a0) fun t0=>Aa (Ah Tryz.prog .sub 3 (.tmp 9) (.const (.int .i64 4)) t0 (.int .i64 4)) fun t1=>Aa (Ah Tryz.prog .lss 3 (.tmp 11) (.const (.int .i64 0)) t1 (.int .i64 0)) fun t2=>Ae t2 (Q (.tuple ⟨[(.slice none 0 0),(.bool false)]⟩) A) (Aa (Cc Tryz.prog A 52 a0 none (some t1) (some t1)) fun t3=>Wc Tryz.prog Af W0 m0 141 [t3] A fun t4 At4=>BX (T72 0) (T72 0) (S 0 [a0,t1,t4,(.int .i64 0)] At4))):=by kernel_rfl
theorem Abj(d:Nat→Value)(A:AW):AM Tryz.prog Af W0 m0 72 T72 L72 S Q none 4000 (DD 40 d) (T72 0) false 0 0 0 [] A=(Aa (Ah Tryz.prog .lss 3 (.tmp 18) (.const (.int .i64 4)) (d 18) (.int .i64 4)) fun t0=>Ae t0 (Aa (Ah Tryz.prog .add 3 (.tmp 22) (.tmp 23) (d 4) (d 18)) fun t1=>Aa (Aj Tryz.prog 52 (d 0) t1) fun t2=>Aa (Ad Tryz.prog A 5 t2) fun t3=>Aa (Ah Tryz.prog .mul 3 (.const (.int .i64 8)) (.tmp 28) (.int .i64 8) (d 18)) fun t4=>Aa (Ah Tryz.prog .shr 22 (.tmp 27) (.tmp 29) (d 5) t4) fun t5=>Al (AK Tryz.prog A 22 5 t5) fun t6 At6=>Aa (Ah Tryz.prog .neq 5 (.tmp 26) (.tmp 31) t3 t6) fun t7=>Ae t7 (Q (.tuple ⟨[(.slice none 0 0),(.bool false)]⟩) At6) (Aa (Ah Tryz.prog .add 3 (.tmp 18) (.const (.int .i64 1)) (d 18) (.int .i64 1)) fun t8=>BX (T72 0) (T72 0) (S 0 [(d 0),(d 4),(d 5),t8] At6))) (Al (Cs Tryz.prog A 52 (d 4) (d 4)) fun t9 At9=>Al (G0 Tryz.prog At9 52 t9 (d 0)) fun _ At10=>Q (.tuple ⟨[t9,(.bool true)]⟩) At10)):=by kernel_rfl
theorem n72(a0:Value):AD Tryz.prog 72 [a0] .normal=some (frM 72 (Tm.fill ⟨40,.nil⟩ 0 [a0]) [.code (cd 72 [])] false):=by kernel_rfl
theorem w72:Wf1 72 40 T72 L72:=wf1 n72 (by decide) fun _=>rfl
theorem c72:Fy 72 40 T72 L72:=Ga (by decide)
noncomputable def T73:Nat→List Item:=fun i=>match i with
 |_=>[]
def L73:Nat→List Tmp:=fun i=>match i with
 |_=>[]
theorem e73(a0:Value)(A:AW):AM Tryz.prog Af W0 m0 73 T73 L73 S Q none 4000 (Tm.fill ⟨15,.nil⟩ 0 [a0]) [.code (cd 73 [])] false 0 0 0 [] A=(Al (Cd Tryz.prog A 24) fun t0 At0=>Aa (Ad Tryz.prog At0 52 a0) fun t1=>Wc Tryz.prog Af W0 m0 74 [t1] At0 fun t2 At2=>Aa (Ar t2 0) fun t3=>Aa (Ar t2 1) fun t4=>Aa (Ar t2 2) fun _=>Al (Cd Tryz.prog At2 24) fun t6 At6=>AQ (Am Tryz.prog At6 24 t6 t3) fun At7=>Aa (Ad Tryz.prog At7 52 a0) fun t8=>Aa (Cc Tryz.prog At7 52 t8 (some t4) none none) fun t9=>AQ (Am Tryz.prog At7 52 a0 t9) fun At10=>Aa (Ad Tryz.prog At10 24 t6) fun t11=>AQ (Am Tryz.prog At10 24 t0 t11) fun At12=>Aa (Ad Tryz.prog At12 24 t0) fun t13=>Q t13 At12):=by kernel_rfl
theorem n73(a0:Value):AD Tryz.prog 73 [a0] .normal=some (frM 73 (Tm.fill ⟨15,.nil⟩ 0 [a0]) [.code (cd 73 [])] false):=by kernel_rfl
theorem w73:Wf1 73 15 T73 L73:=wf1 n73 (by decide) fun _=>rfl
noncomputable def T74:Nat→List Item:=fun i=>match i with
 |_=>[]
def L74:Nat→List Tmp:=fun i=>match i with
 |_=>[]
theorem e74(a0:Value)(A:AW):AM Tryz.prog Af W0 m0 74 T74 L74 S Q none 4000 (Tm.fill ⟨35,.nil⟩ 0 [a0]) [.code (cd 74 [])] false 0 0 0 [] A=(Al (Cd Tryz.prog A 24) fun t0 At0=>Wc Tryz.prog Af W0 m0 125 [a0] At0 fun t1 At1=>Wc Tryz.prog Af W0 m0 126 [t1,(.int .i64 4)] At1 fun t2 At2=>Al (AK Tryz.prog At2 76 22 t2) fun t3 At3=>Aa (Aw Tryz.prog 24 [(0,t3)]) fun t4=>Al (Cd Tryz.prog At3 24) fun t5 At5=>AQ (Am Tryz.prog At5 24 t5 t4) fun At6=>Wc Tryz.prog Af W0 m0 142 [t1,(.int .i64 1),(.int .i64 255)] At6 fun t7 At7=>Aa (Ac Tryz.prog 24 t5 1) fun t8=>AQ (Am Tryz.prog At7 9 t8 t7) fun At9=>Wc Tryz.prog Af W0 m0 142 [t1,(.int .i64 1),(.int .i64 255)] At9 fun t10 At10=>Aa (Ac Tryz.prog 24 t5 2) fun t11=>AQ (Am Tryz.prog At10 9 t11 t10) fun At12=>Wc Tryz.prog Af W0 m0 129 [t1] At12 fun t13 At13=>Ae t13 (Aa (Aw Tryz.prog 24 []) fun t14=>AQ (Am Tryz.prog At13 24 t0 t14) fun At15=>Aa (Ad Tryz.prog At15 24 t0) fun t16=>Q (.tuple ⟨[t16,(.int .i64 0),(.int .i64 4)]⟩) At15) (Aa (Ad Tryz.prog At13 24 t5) fun t17=>Wc Tryz.prog Af W0 m0 97 [t17] At13 fun t18 At18=>Aa (Ah Tryz.prog .neq 28 (.tmp 25) (.const (.int .i64 0)) t18 (.int .i64 0)) fun t19=>Ae t19 (Aa (Aw Tryz.prog 24 []) fun t20=>AQ (Am Tryz.prog At18 24 t0 t20) fun At21=>Aa (Ad Tryz.prog At21 24 t0) fun t22=>Q (.tuple ⟨[t22,(.int .i64 0),t18]⟩) At21) (Aa (Ad Tryz.prog At18 24 t5) fun t23=>Aa (Br Tryz.prog At18 52 a0) fun t24=>Wc Tryz.prog Af W0 m0 143 [t1] At18 fun t25 At25=>Aa (Br Tryz.prog At25 52 a0) fun t26=>eqW t26 t24 (eqW a0 a0 (Aa (Ad Tryz.prog At25 24 t5) fun t27=>eqW t27 t23 (Aa (Ah Tryz.prog .sub 3 (.tmp 31) (.tmp 33) t24 t25) fun t28=>AQ (Am Tryz.prog At25 24 t0 t23) fun At29=>Aa (Ah Tryz.prog .sub 3 (.tmp 31) (.tmp 33) t24 t25) fun t30=>eqW t30 t28 (Aa (Br Tryz.prog At29 52 a0) fun t31=>eqW t31 t24 (eqW a0 a0 (Aa (Ad Tryz.prog At29 24 t0) fun t32=>Q (.tuple ⟨[t32,t28,(.int .i64 0)]⟩) At29))))))))):=by kernel_rfl
theorem n74(a0:Value):AD Tryz.prog 74 [a0] .normal=some (frM 74 (Tm.fill ⟨35,.nil⟩ 0 [a0]) [.code (cd 74 [])] false):=by kernel_rfl
theorem w74:Wf1 74 35 T74 L74:=wf1 n74 (by decide) fun _=>rfl
noncomputable def AcA:Nat→List Item:=fun i=>match i with
 |_=>[]
def Adb:Nat→List Tmp:=fun i=>match i with
 |_=>[]
theorem Afj(a0:Value)(A:AW):AM Tryz.prog Af W0 m0 125 AcA Adb S Q none 4000 (Tm.fill ⟨9,.nil⟩ 0 [a0]) [.code (cd 125 [])] false 0 0 0 [] A=(Wc Tryz.prog Af W0 m0 199 [a0] A fun t0 At0=>Aa (Aw Tryz.prog 254 [(0,t0),(1,(.bool true))]) fun t1=>Al (Cq At0 (Value.cells t1).toList 254) fun t2 At2=>Aa (Aw Tryz.prog 256 [(0,t2)]) fun t3=>Al (Cq At2 (Value.cells t3).toList 256) fun t4 At4=>Q t4 At4):=by kernel_rfl
theorem n125(a0:Value):AD Tryz.prog 125 [a0] .normal=some (frM 125 (Tm.fill ⟨9,.nil⟩ 0 [a0]) [.code (cd 125 [])] false):=by kernel_rfl
theorem Aej:Wf1 125 9 AcA Adb:=wf1 n125 (by decide) fun _=>rfl
noncomputable def Pn:Nat→List Item:=fun i=>match i with
 |0=>[(.code (cd 126 [1,1,1,0,1,0,0])),(.inLoop (cd 126 [1,1,1,0,1,0,0])),(.inBlock 0),(.code (cd 126 [1,1,1,1]))]
 |_=>[]
def Ww:Nat→List Tmp:=fun i=>match i with
 |0=>[5,15,16,17]
 |_=>[]
theorem Afi(a0 a1:Value)(A:AW):AM Tryz.prog Af W0 m0 126 Pn Ww S Q none 4000 (Tm.fill ⟨28,.nil⟩ 0 [a0,a1]) [.code (cd 126 [])] false 0 0 0 [] A=(Wc Tryz.prog Af W0 m0 200 [a1] A fun t0 At0=>Aa (unA Tryz.prog .not t0) fun t1=>Ae t1 (Wc Tryz.prog Af W0 m0 201 [a0] At0 fun _ At2=>Q (.int .u64 0) At2) (Wc Tryz.prog Af W0 m0 202 [a0,a1] At0 fun t3 At3=>Aa (Br Tryz.prog At3 52 t3) fun t4=>BX (Pn 0) (Pn 0) (S 0 [(.int .u64 0),t3,t4,(.int .i64 0)] At3))):=by kernel_rfl
theorem Zu(d:Nat→Value)(A:AW):AM Tryz.prog Af W0 m0 126 Pn Ww S Q none 4000 (DD 28 d) (Pn 0) false 0 0 0 [] A=(Aa (Ah Tryz.prog .lss 3 (.tmp 17) (.tmp 16) (d 17) (d 16)) fun t0=>Ae t0 (Aa (Aj Tryz.prog 52 (d 15) (d 17)) fun t1=>Aa (Ad Tryz.prog A 5 t1) fun t2=>Aa (Ah Tryz.prog .shl 76 (.tmp 21) (.const (.int .u64 8)) (d 5) (.int .u64 8)) fun t3=>Al (AK Tryz.prog A 5 76 t2) fun t4 At4=>Aa (Ah Tryz.prog .or 76 (.tmp 22) (.tmp 24) t3 t4) fun t5=>Aa (Ah Tryz.prog .add 3 (.tmp 17) (.const (.int .i64 1)) (d 17) (.int .i64 1)) fun t6=>BX (Pn 0) (Pn 0) (S 0 [t5,(d 15),(d 16),t6] At4)) (Q (d 5) A)):=by kernel_rfl
theorem n126(a0 a1:Value):AD Tryz.prog 126 [a0,a1] .normal=some (frM 126 (Tm.fill ⟨28,.nil⟩ 0 [a0,a1]) [.code (cd 126 [])] false):=by kernel_rfl
theorem Aei:Wf2 126 28 Pn Ww:=wf2 n126 (by decide) fun _ _=>rfl
theorem Afp:Fy 126 28 Pn Ww:=Ga (by decide)
noncomputable def Acv:Nat→List Item:=fun i=>match i with
 |_=>[]
def Ac6:Nat→List Tmp:=fun i=>match i with
 |_=>[]
theorem Afc(a0 a1 a2:Value)(A:AW):AM Tryz.prog Af W0 m0 142 Acv Ac6 S Q none 4000 (Tm.fill ⟨41,.nil⟩ 0 [a0,a1,a2]) [.code (cd 142 [])] false 0 0 0 [] A=(Aa (Ah Tryz.prog .eql 3 (.tmp 8) (.const (.int .i64 8)) a1 (.int .i64 8)) fun t0=>Ae t0 (Wc Tryz.prog Af W0 m0 201 [a0] A fun _ At1=>Q (.string ⟨⟨[]⟩⟩) At1) (Wc Tryz.prog Af W0 m0 126 [a0,a1] A fun t2 At2=>Wc Tryz.prog Af W0 m0 129 [a0] At2 fun t3 At3=>Ae t3 (Wc Tryz.prog Af W0 m0 201 [a0] At3 fun _ At4=>Q (.string ⟨⟨[]⟩⟩) At4) (Aa (Ah Tryz.prog .lss 3 (.tmp 18) (.const (.int .i64 0)) a2 (.int .i64 0)) fun t5=>Ae t5 (Wc Tryz.prog Af W0 m0 201 [a0] At3 fun _ At6=>Q (.string ⟨⟨[]⟩⟩) At6) (Al (AK Tryz.prog At3 3 76 a2) fun t7 At7=>Aa (Ah Tryz.prog .gtr 76 (.tmp 22) (.tmp 24) t2 t7) fun t8=>Ae t8 (Wc Tryz.prog Af W0 m0 201 [a0] At7 fun _ At9=>Q (.string ⟨⟨[]⟩⟩) At9) (Wc Tryz.prog Af W0 m0 143 [a0] At7 fun t10 At10=>Al (AK Tryz.prog At10 3 76 t10) fun t11 At11=>Aa (Ah Tryz.prog .gtr 76 (.tmp 28) (.tmp 31) t2 t11) fun t12=>Ae t12 (Wc Tryz.prog Af W0 m0 201 [a0] At11 fun _ At13=>Q (.string ⟨⟨[]⟩⟩) At13) (Al (AK Tryz.prog At11 76 3 t2) fun t14 At14=>Wc Tryz.prog Af W0 m0 202 [a0,t14] At14 fun t15 At15=>Al (AK Tryz.prog At15 52 9 t15) fun t16 At16=>Q t16 At16)))))):=by kernel_rfl
theorem n142(a0 a1 a2:Value):AD Tryz.prog 142 [a0,a1,a2] .normal=some (frM 142 (Tm.fill ⟨41,.nil⟩ 0 [a0,a1,a2]) [.code (cd 142 [])] false):=by kernel_rfl
theorem Aec:Wf3 142 41 Acv Ac6:=wf3 n142 (by decide) fun _ _ _=>rfl
noncomputable def Acz:Nat→List Item:=fun i=>match i with
 |_=>[]
def Ada:Nat→List Tmp:=fun i=>match i with
 |_=>[]
theorem Afh(a0:Value)(A:AW):AM Tryz.prog Af W0 m0 129 Acz Ada S Q none 4000 (Tm.fill ⟨12,.nil⟩ 0 [a0]) [.code (cd 129 [])] false 0 0 0 [] A=(Aa (Ah Tryz.prog .eql 194 (.tmp 3) (.const (.pointer none)) a0 (.pointer none)) fun t0=>Ae t0 (Q (.bool true) A) (Aa (BQ a0) fun t1=>Aa (Ac Tryz.prog 256 t1 0) fun t2=>Aa (Ad Tryz.prog A 252 t2) fun t3=>Wc Tryz.prog Af W0 m0 204 [t3] A fun t4 At4=>Q t4 At4)):=by kernel_rfl
theorem n129(a0:Value):AD Tryz.prog 129 [a0] .normal=some (frM 129 (Tm.fill ⟨12,.nil⟩ 0 [a0]) [.code (cd 129 [])] false):=by kernel_rfl
theorem Aeh:Wf1 129 12 Acz Ada:=wf1 n129 (by decide) fun _=>rfl
noncomputable def Acu:Nat→List Item:=fun i=>match i with
 |_=>[]
def Ac5:Nat→List Tmp:=fun i=>match i with
 |_=>[]
theorem Afb(a0:Value)(A:AW):AM Tryz.prog Af W0 m0 143 Acu Ac5 S Q none 4000 (Tm.fill ⟨10,.nil⟩ 0 [a0]) [.code (cd 143 [])] false 0 0 0 [] A=(Aa (Ah Tryz.prog .eql 194 (.tmp 3) (.const (.pointer none)) a0 (.pointer none)) fun t0=>Ae t0 (Q (.int .i64 0) A) (Aa (BQ a0) fun t1=>Aa (Ac Tryz.prog 256 t1 0) fun t2=>Aa (Ad Tryz.prog A 252 t2) fun t3=>Wc Tryz.prog Af W0 m0 209 [t3] A fun t4 At4=>Q t4 At4)):=by kernel_rfl
theorem n143(a0:Value):AD Tryz.prog 143 [a0] .normal=some (frM 143 (Tm.fill ⟨10,.nil⟩ 0 [a0]) [.code (cd 143 [])] false):=by kernel_rfl
theorem Aeb:Wf1 143 10 Acu Ac5:=wf1 n143 (by decide) fun _=>rfl
noncomputable def Ach:Nat→List Item:=fun i=>match i with
 |_=>[]
def AcT:Nat→List Tmp:=fun i=>match i with
 |_=>[]
theorem Ae2(a0:Value)(A:AW):AM Tryz.prog Af W0 m0 199 Ach AcT S Q none 4000 (Tm.fill ⟨8,.nil⟩ 0 [a0]) [.code (cd 199 [])] false 0 0 0 [] A=(Aa (Ah Tryz.prog .eql 52 (.tmp 3) (.const (.slice none 0 0)) a0 (.slice none 0 0)) fun t0=>Ae t0 (Q (.slice none 0 0) A) (Al (Aq Tryz.prog A 52 0 []) fun t1 At1=>Al (AT Tryz.prog At1 52 52 t1 a0) fun t2 At2=>Q t2 At2)):=by kernel_rfl
theorem n199(a0:Value):AD Tryz.prog 199 [a0] .normal=some (frM 199 (Tm.fill ⟨8,.nil⟩ 0 [a0]) [.code (cd 199 [])] false):=by kernel_rfl
theorem Ad2:Wf1 199 8 Ach AcT:=wf1 n199 (by decide) fun _=>rfl
noncomputable def Acf:Nat→List Item:=fun i=>match i with
 |_=>[]
def AcR:Nat→List Tmp:=fun i=>match i with
 |_=>[]
theorem Ae0(a0:Value)(A:AW):AM Tryz.prog Af W0 m0 201 Acf AcR S Q none 4000 (Tm.fill ⟨23,.nil⟩ 0 [a0]) [.code (cd 201 [])] false 0 0 0 [] A=(Aa (Ah Tryz.prog .neq 194 (.tmp 2) (.const (.pointer none)) a0 (.pointer none)) fun t0=>Ae t0 (Aa (BQ a0) fun t1=>Aa (Ac Tryz.prog 256 t1 0) fun t2=>Aa (Ad Tryz.prog A 252 t2) fun t3=>Aa (Ah Tryz.prog .neq 252 (.tmp 8) (.const (.pointer none)) t3 (.pointer none)) fun t4=>Ae t4 (Aa (BQ a0) fun t5=>Aa (Ac Tryz.prog 256 t5 0) fun t6=>Aa (Ad Tryz.prog A 252 t6) fun t7=>Aa (BQ a0) fun t8=>Aa (Ac Tryz.prog 256 t8 0) fun t9=>Aa (Ad Tryz.prog A 252 t9) fun t10=>Aa (BQ t7) fun t11=>Aa (Ac Tryz.prog 254 t11 0) fun t12=>AQ (Am Tryz.prog A 52 t12 (.slice none 0 0)) fun At13=>Aa (BQ t10) fun t14=>Aa (Ac Tryz.prog 254 t14 2) fun t15=>AQ (Am Tryz.prog At13 4 t15 (.bool true)) fun At16=>Q (.tuple ⟨[]⟩) At16) (Q (.tuple ⟨[]⟩) A)) (Q (.tuple ⟨[]⟩) A)):=by kernel_rfl
theorem n201(a0:Value):AD Tryz.prog 201 [a0] .normal=some (frM 201 (Tm.fill ⟨23,.nil⟩ 0 [a0]) [.code (cd 201 [])] false):=by kernel_rfl
theorem Ad0:Wf1 201 23 Acf AcR:=wf1 n201 (by decide) fun _=>rfl
noncomputable def Ace:Nat→List Item:=fun i=>match i with
 |_=>[]
def AcQ:Nat→List Tmp:=fun i=>match i with
 |_=>[]
theorem AeZ(a0 a1:Value)(A:AW):AM Tryz.prog Af W0 m0 202 Ace AcQ S Q none 4000 (Tm.fill ⟨46,.nil⟩ 0 [a0,a1]) [.code (cd 202 [])] false 0 0 0 [] A=(Wc Tryz.prog Af W0 m0 129 [a0] A fun t0 At0=>Ae t0 (Wc Tryz.prog Af W0 m0 201 [a0] At0 fun _ At1=>Q (.slice none 0 0) At1) (Aa (Ah Tryz.prog .lss 3 (.tmp 9) (.const (.int .i64 0)) a1 (.int .i64 0)) fun t2=>Ae t2 (Wc Tryz.prog Af W0 m0 201 [a0] At0 fun _ At3=>Q (.slice none 0 0) At3) (Wc Tryz.prog Af W0 m0 143 [a0] At0 fun t4 At4=>Aa (Ah Tryz.prog .gtr 3 (.tmp 13) (.tmp 15) a1 t4) fun t5=>Ae t5 (Wc Tryz.prog Af W0 m0 201 [a0] At4 fun _ At6=>Q (.slice none 0 0) At6) (Aa (BQ a0) fun t7=>Aa (Ac Tryz.prog 256 t7 0) fun t8=>Aa (Ad Tryz.prog At4 252 t8) fun t9=>Aa (BQ t9) fun t10=>Aa (Ac Tryz.prog 254 t10 0) fun t11=>Aa (Ad Tryz.prog At4 52 t11) fun t12=>Aa (Cc Tryz.prog At4 52 t12 none (some a1) none) fun t13=>Wc Tryz.prog Af W0 m0 199 [t13] At4 fun t14 At14=>Aa (BQ a0) fun t15=>Aa (Ac Tryz.prog 256 t15 0) fun t16=>Aa (Ad Tryz.prog At14 252 t16) fun t17=>Aa (BQ a0) fun t18=>Aa (Ac Tryz.prog 256 t18 0) fun t19=>Aa (Ad Tryz.prog At14 252 t19) fun t20=>Aa (BQ t20) fun t21=>Aa (Ac Tryz.prog 254 t21 0) fun t22=>Aa (Ad Tryz.prog At14 52 t22) fun t23=>Aa (Cc Tryz.prog At14 52 t23 (some a1) none none) fun t24=>Aa (BQ t17) fun t25=>Aa (Ac Tryz.prog 254 t25 0) fun t26=>AQ (Am Tryz.prog At14 52 t26 t24) fun At27=>Q t14 At27)))):=by kernel_rfl
theorem n202(a0 a1:Value):AD Tryz.prog 202 [a0,a1] .normal=some (frM 202 (Tm.fill ⟨46,.nil⟩ 0 [a0,a1]) [.code (cd 202 [])] false):=by kernel_rfl
theorem AdZ:Wf2 202 46 Ace AcQ:=wf2 n202 (by decide) fun _ _=>rfl
noncomputable def Acd:Nat→List Item:=fun i=>match i with
 |_=>[]
def AcP:Nat→List Tmp:=fun i=>match i with
 |_=>[]
theorem AeY(a0:Value)(A:AW):AM Tryz.prog Af W0 m0 204 Acd AcP S Q none 4000 (Tm.fill ⟨18,.nil⟩ 0 [a0]) [.code (cd 204 [])] false 0 0 0 [] A=(Aa (Ah Tryz.prog .eql 252 (.tmp 3) (.const (.pointer none)) a0 (.pointer none)) fun t0=>Ae t0 (Q (.bool true) A) (Aa (BQ a0) fun t1=>Aa (Ac Tryz.prog 254 t1 2) fun t2=>Aa (Ad Tryz.prog A 4 t2) fun t3=>Ae t3 (Q (.bool true) A) (Aa (BQ a0) fun t4=>Aa (Ac Tryz.prog 254 t4 1) fun t5=>Aa (Ad Tryz.prog A 4 t5) fun t6=>Aa (unA Tryz.prog .not t6) fun t7=>Q t7 A))):=by kernel_rfl
theorem n204(a0:Value):AD Tryz.prog 204 [a0] .normal=some (frM 204 (Tm.fill ⟨18,.nil⟩ 0 [a0]) [.code (cd 204 [])] false):=by kernel_rfl
theorem AdY:Wf1 204 18 Acd AcP:=wf1 n204 (by decide) fun _=>rfl
noncomputable def Aca:Nat→List Item:=fun i=>match i with
 |_=>[]
def AcN:Nat→List Tmp:=fun i=>match i with
 |_=>[]
theorem AeU(a0:Value)(A:AW):AM Tryz.prog Af W0 m0 209 Aca AcN S Q none 4000 (Tm.fill ⟨10,.nil⟩ 0 [a0]) [.code (cd 209 [])] false 0 0 0 [] A=(Aa (Ah Tryz.prog .eql 252 (.tmp 3) (.const (.pointer none)) a0 (.pointer none)) fun t0=>Ae t0 (Q (.int .i64 0) A) (Aa (BQ a0) fun t1=>Aa (Ac Tryz.prog 254 t1 0) fun t2=>Aa (Ad Tryz.prog A 52 t2) fun t3=>Aa (Br Tryz.prog A 52 t3) fun t4=>Q t4 A)):=by kernel_rfl
theorem n209(a0:Value):AD Tryz.prog 209 [a0] .normal=some (frM 209 (Tm.fill ⟨10,.nil⟩ 0 [a0]) [.code (cd 209 [])] false):=by kernel_rfl
theorem AdU:Wf1 209 10 Aca AcN:=wf1 n209 (by decide) fun _=>rfl
end
section
variable (W0:World) (m0:Inj Tryz.prog) (S:Nat→List Value→AW→Prop) (Q:Value→AW→Prop)
noncomputable def T3:Nat→List Item:=fun i=>match i with
 |_=>[]
def L3:Nat→List Tmp:=fun i=>match i with
 |_=>[]
noncomputable def SJ(W0:World)(m0:Inj Tryz.prog)(Q:Value→AW→Prop)(X0:AW)(x1:Value)(x4:Value):Prop:=Aa (Br Tryz.prog X0 41 x1) fun b2=>Aa (Ah Tryz.prog .eql 3 (.tmp 78) (.const (.int .i64 0)) b2 (.int .i64 0)) fun b3=>Ae b3 (Wc Tryz.prog Af W0 m0 13 [x4] X0 fun b5 B6=>Aa (Br Tryz.prog B6 43 b5) fun b7=>Aa (Ah Tryz.prog .eql 3 (.tmp 83) (.const (.int .i64 0)) b7 (.int .i64 0)) fun b8=>Ae b8 (knW Tryz.prog W0 m0 10 [] B6 fun b9 B10=>Q b9 B10) (Q (.bool false) B6)) (Q (.bool false) X0)
theorem e3(a0 a1:Value)(A:AW):AM Tryz.prog Af W0 m0 3 T3 L3 S Q none 4000 (Tm.fill ⟨170,.nil⟩ 0 [a0,a1]) [.code (cd 3 [])] false 0 0 0 [] A=(Al (Cq A (Value.cells a0).toList 24) fun t0 At0=>Aa (Ah Tryz.prog .rem 5 (.tmp 19) (.const (.int .u8 4)) a1 (.int .u8 4)) fun t1=>Aa (Ah Tryz.prog .add 5 (.const (.int .u8 1)) (.tmp 20) (.int .u8 1) t1) fun t2=>Wc Tryz.prog Af W0 m0 6 [(.int .i64 200000)] At0 fun t3 At3=>Wc Tryz.prog Af W0 m0 7 [t3,(.int .i64 300),(.int .i64 4)] At3 fun t4 At4=>Aa (Ar t4 0) fun t5=>Aa (Ar t4 1) fun t6=>Wc Tryz.prog Af W0 m0 7 [t3,(.int .i64 300),(.int .i64 4)] At4 fun t7 At7=>Aa (Ar t7 0) fun t8=>Aa (Ar t7 1) fun t9=>Aa (Ah Tryz.prog .neq 28 (.tmp 33) (.const (.int .i64 0)) t6 (.int .i64 0)) fun t10=>Ae t10 (Q (.bool false) At7) (Aa (Ah Tryz.prog .neq 28 (.tmp 36) (.const (.int .i64 0)) t9 (.int .i64 0)) fun t11=>Ae t11 (Q (.bool false) At7) (Aa (Ah Tryz.prog .eql 27 (.tmp 40) (.const (.pointer none)) t5 (.pointer none)) fun t12=>Ae t12 (Q (.bool false) At7) (Aa (Ah Tryz.prog .eql 27 (.tmp 44) (.const (.pointer none)) t8 (.pointer none)) fun t13=>Ae t13 (Q (.bool false) At7) (Wc Tryz.prog Af W0 m0 8 [t8] At7 fun t14 At14=>Aa (Ah Tryz.prog .neq 22 (.tmp 49) (.const (.int .u32 2)) t14 (.int .u32 2)) fun t15=>Ae t15 (Q (.bool false) At14) (Aa (Ad Tryz.prog At14 24 t0) fun t16=>Al (Aq Tryz.prog At14 34 1 [(0,t16)]) fun t17 At17=>Aa (Aw Tryz.prog 38 [(0,(.int .u8 21)),(4,t17)]) fun t18=>Wc Tryz.prog Af W0 m0 9 [t18] At17 fun t19 At19=>Aa (Ar t19 0) fun t20=>Aa (Ar t19 1) fun t21=>Aa (Ah Tryz.prog .neq 3 (.tmp 59) (.const (.int .i64 0)) t21 (.int .i64 0)) fun t22=>Ae t22 (knW Tryz.prog W0 m0 10 [] At19 fun t23 At23=>Q t23 At23) (Wc Tryz.prog Af W0 m0 11 [t8,t2,t20] At19 fun t24 At24=>Aa (Ah Tryz.prog .neq 28 (.tmp 65) (.const (.int .i64 0)) t24 (.int .i64 0)) fun t25=>Ae t25 (Q (.bool false) At24) (Wc Tryz.prog Af W0 m0 12 [t8] At24 fun t26 At26=>Aa (Ac Tryz.prog 24 t0 0) fun t27=>Aa (Ad Tryz.prog At26 22 t27) fun t28=>Aa (Ah Tryz.prog .leq 22 (.tmp 70) (.const (.int .u32 2147483648)) t28 (.int .u32 2147483648)) fun t29=>Ae t29 (SJ W0 m0 Q At26 t26 t8) (Aa (Ac Tryz.prog 24 t0 0) fun t36=>Aa (Ad Tryz.prog At26 22 t36) fun t37=>Aa (Ah Tryz.prog .eql 22 (.tmp 74) (.const (.int .u32 2147483650)) t37 (.int .u32 2147483650)) fun t38=>Ae t38 (SJ W0 m0 Q At26 t26 t8) (Aa (Br Tryz.prog At26 41 t26) fun t45=>Aa (Ah Tryz.prog .neq 3 (.tmp 90) (.const (.int .i64 1)) t45 (.int .i64 1)) fun t46=>Ae t46 (Q (.bool false) At26) (Aa (Aj Tryz.prog 41 t26 (.int .i64 0)) fun t47=>Aa (Ac Tryz.prog 46 t47 0) fun t48=>Aa (Ad Tryz.prog At26 5 t48) fun t49=>Aa (Ah Tryz.prog .neq 5 (.tmp 96) (.tmp 97) t49 t2) fun t50=>Ae t50 (Q (.bool false) At26) (Aa (Aj Tryz.prog 41 t26 (.int .i64 0)) fun t51=>Aa (Ac Tryz.prog 46 t51 1) fun t52=>Aa (Ac Tryz.prog 38 t52 0) fun t53=>Aa (Ad Tryz.prog At26 5 t53) fun t54=>Aa (Ah Tryz.prog .neq 5 (.tmp 105) (.const (.int .u8 3)) t54 (.int .u8 3)) fun t55=>Ae t55 (Q (.bool false) At26) (Aa (Aj Tryz.prog 41 t26 (.int .i64 0)) fun t56=>Aa (Ac Tryz.prog 46 t56 1) fun t57=>Aa (Ac Tryz.prog 38 t57 1) fun t58=>Aa (Ad Tryz.prog At26 24 t58) fun t59=>Aa (Ad Tryz.prog At26 24 t0) fun t60=>Aa (Ah Tryz.prog .neq 24 (.tmp 113) (.tmp 114) t59 t60) fun t61=>Ae t61 (Q (.bool false) At26) (Wc Tryz.prog Af W0 m0 13 [t8] At26 fun t62 At62=>Aa (Br Tryz.prog At62 43 t62) fun t63=>Aa (Ah Tryz.prog .neq 3 (.tmp 120) (.const (.int .i64 1)) t63 (.int .i64 1)) fun t64=>Ae t64 (Q (.bool false) At62) (Wc Tryz.prog Af W0 m0 13 [t8] At62 fun t65 At65=>Aa (Aj Tryz.prog 43 t65 (.int .i64 0)) fun t66=>Aa (Ac Tryz.prog 50 t66 2) fun t67=>Aa (Ad Tryz.prog At65 4 t67) fun t68=>Ae t68 (Q (.bool false) At65) (Wc Tryz.prog Af W0 m0 11 [t8,t2,t20] At65 fun t69 At69=>Wc Tryz.prog Af W0 m0 12 [t8] At69 fun t70 At70=>Aa (Ad Tryz.prog At70 24 t0) fun t71=>Aa (Aw Tryz.prog 38 [(0,(.int .u8 19)),(1,t71)]) fun t72=>Wc Tryz.prog Af W0 m0 9 [t72] At70 fun t73 At73=>Aa (Ar t73 0) fun t74=>Aa (Ar t73 1) fun t75=>Wc Tryz.prog Af W0 m0 11 [t8,t2,t74] At73 fun t76 At76=>Aa (Ah Tryz.prog .eql 28 (.tmp 146) (.const (.int .i64 0)) t69 (.int .i64 0)) fun t77=>Ae t77 (Aa (Br Tryz.prog At76 41 t70) fun t78=>Aa (Ah Tryz.prog .eql 3 (.tmp 150) (.const (.int .i64 0)) t78 (.int .i64 0)) fun t79=>Ae t79 (Aa (Ah Tryz.prog .eql 3 (.tmp 154) (.const (.int .i64 0)) t75 (.int .i64 0)) fun t80=>Ae t80 (Aa (Ah Tryz.prog .eql 28 (.tmp 158) (.const (.int .i64 0)) t76 (.int .i64 0)) fun t81=>Ae t81 (Wc Tryz.prog Af W0 m0 13 [t8] At76 fun t82 At82=>Aa (Br Tryz.prog At82 43 t82) fun t83=>Aa (Ah Tryz.prog .eql 3 (.tmp 164) (.const (.int .i64 0)) t83 (.int .i64 0)) fun t84=>Ae t84 (knW Tryz.prog W0 m0 10 [] At82 fun t85 At85=>Q t85 At85) (Q (.bool false) At82)) (Q (.bool false) At76)) (Q (.bool false) At76)) (Q (.bool false) At76)) (Q (.bool false) At76))))))))))))))))):=by kernel_rfl
theorem n3(a0 a1:Value):AD Tryz.prog 3 [a0,a1] .normal=some (frM 3 (Tm.fill ⟨170,.nil⟩ 0 [a0,a1]) [.code (cd 3 [])] false):=by kernel_rfl
theorem w3:Wf2 3 170 T3 L3:=wf2 n3 (by decide) fun _ _=>rfl
noncomputable def T11:Nat→List Item:=fun i=>match i with
 |_=>[]
def L11:Nat→List Tmp:=fun i=>match i with
 |_=>[]
theorem e11(a0 a1 a2:Value)(A:AW):AM Tryz.prog Af W0 m0 11 T11 L11 S Q none 4000 (Tm.fill ⟨10,.nil⟩ 0 [a0,a1,a2]) [.code (cd 11 [])] false 0 0 0 [] A=(Al (Cq A (Value.cells a0).toList 27) fun t0 At0=>Al (Cq At0 (Value.cells a1).toList 5) fun t1 At1=>Al (Cq At1 (Value.cells a2).toList 9) fun t2 At2=>Aa (Ad Tryz.prog At2 27 t0) fun t3=>Wc Tryz.prog Af W0 m0 32 [t3,(.func (.func 33) ⟨[]⟩ ⟨[t1,t0,t2]⟩)] At2 fun t4 At4=>Q t4 At4):=by kernel_rfl
theorem n11(a0 a1 a2:Value):AD Tryz.prog 11 [a0,a1,a2] .normal=some (frM 11 (Tm.fill ⟨10,.nil⟩ 0 [a0,a1,a2]) [.code (cd 11 [])] false):=by kernel_rfl
theorem w11:Wf3 11 10 T11 L11:=wf3 n11 (by decide) fun _ _ _=>rfl
noncomputable def T33:Nat→List Item:=fun i=>match i with
 |0=>[(.code (cd 33 [1,1,1,1,0,1,0,1,0,1,0,0])),(.inLoop (cd 33 [1,1,1,1,0,1,0,1,0,1,0,0])),(.inBlock 0),(.code (cd 33 [1,1,1,1,0,1,0,1,1])),(.code (cd 33 [1,1,1,1,1]))]
 |_=>[]
def L33:Nat→List Tmp:=fun i=>match i with
 |0=>[0,1,44,45,46]
 |_=>[]
theorem e33(a0 a1 a2:Value)(A:AW):AM Tryz.prog Af W0 m0 33 T33 L33 S Q none 4000 (Tm.fill ⟨84,.nil⟩ 0 [a0,a1,a2]) [.code (cd 33 [])] false 0 0 0 [] A=(Aa (Ad Tryz.prog A 5 a0) fun t0=>Aa (Ah Tryz.prog .lss 5 (.tmp 12) (.const (.int .u8 1)) t0 (.int .u8 1)) fun t1=>Ae t1 (Q (.int .i64 2) A) (Aa (Ad Tryz.prog A 5 a0) fun t2=>Al (AK Tryz.prog A 5 3 t2) fun t3 At3=>Aa (Ad Tryz.prog At3 27 a1) fun t4=>Aa (BQ t4) fun t5=>Aa (Ac Tryz.prog 79 t5 2) fun t6=>Aa (Ad Tryz.prog At3 3 t6) fun t7=>Aa (Ah Tryz.prog .gtr 3 (.tmp 16) (.tmp 20) t3 t7) fun t8=>Ae t8 (Q (.int .i64 2) At3) (Aa (Ad Tryz.prog At3 9 a2) fun t9=>Wc Tryz.prog Af W0 m0 34 [t9] At3 fun t10 At10=>Aa (Ar t10 0) fun t11=>Aa (Ar t10 1) fun t12=>Al (Cd Tryz.prog At10 38) fun t13 At13=>AQ (Am Tryz.prog At13 38 t13 t11) fun At14=>Aa (Ah Tryz.prog .neq 28 (.tmp 28) (.const (.int .i64 0)) t12 (.int .i64 0)) fun t15=>Ae t15 (Q (.int .i64 250) At14) (Aa (Ac Tryz.prog 38 t13 0) fun t16=>Aa (Ad Tryz.prog At14 5 t16) fun t17=>Aa (Ah Tryz.prog .leq 5 (.tmp 32) (.const (.int .u8 16)) t17 (.int .u8 16)) fun t18=>Ae t18 (Q (.int .i64 250) At14) (Aa (Ac Tryz.prog 38 t13 0) fun t19=>Aa (Ad Tryz.prog At14 5 t19) fun t20=>Aa (Ah Tryz.prog .eql 5 (.tmp 36) (.const (.int .u8 21)) t20 (.int .u8 21)) fun t21=>Ae t21 (Aa (Ad Tryz.prog At14 27 a1) fun t22=>Aa (BQ t22) fun t23=>Aa (Ac Tryz.prog 79 t23 5) fun t24=>Aa (Ad Tryz.prog At14 77 t24) fun t25=>Aa (Ad Tryz.prog At14 5 a0) fun t26=>AQ (BV Tryz.prog At14 77 t25 t26 (.int .i64 10)) fun At27=>Aa (Ac Tryz.prog 38 t13 4) fun t28=>Aa (Ad Tryz.prog At27 34 t28) fun t29=>Aa (Br Tryz.prog At27 34 t29) fun t30=>BX (T33 0) (T33 0) (S 0 [a0,a1,t29,t30,(.int .i64 0)] At27)) (Al (Cd Tryz.prog At14 50) fun t31 At31=>Cm (Bi Tryz.prog (fun _=>undef) (.alloc 50)) At31 t31 (Aa (Ad Tryz.prog At31 27 a1) fun t32=>Aa (BQ t32) fun t33=>Aa (Ac Tryz.prog 79 t33 3) fun t34=>Aa (Ad Tryz.prog At31 75 t34) fun t35=>Aa (Ac Tryz.prog 38 t13 1) fun t36=>Aa (Ac Tryz.prog 24 t36 0) fun t37=>Aa (Ad Tryz.prog At31 22 t37) fun t38=>Aa (Ac Tryz.prog 38 t13 1) fun t39=>Aa (Ac Tryz.prog 24 t39 1) fun t40=>Aa (Ad Tryz.prog At31 9 t40) fun t41=>Aa (Aw Tryz.prog 24 [(0,t38),(1,t41)]) fun t42=>Aa (C5 Tryz.prog At31 75 t35 t42 true) fun t43=>Aa (Ar t43 0) fun t44=>Aa (Ar t43 1) fun t45=>AQ (Am Tryz.prog At31 50 t31 t44) fun At46=>Aa (Ar t43 1) fun t47=>eqW t47 t45 (Aa (unA Tryz.prog .not t45) fun t48=>Ae t48 (Q (.int .i64 0) At46) (Aa (Ad Tryz.prog At46 50 t31) fun t49=>Aa (Ad Tryz.prog At46 5 a0) fun t50=>Aa (Ad Tryz.prog At46 38 t13) fun t51=>Wc Tryz.prog Af W0 m0 36 [t49,t50,t51] At46 fun t52 At52=>Aa (Ar t52 0) fun t53=>Aa (Ar t52 1) fun _=>Al (Cd Tryz.prog At52 50) fun t55 At55=>AQ (Am Tryz.prog At55 50 t55 t53) fun At56=>Aa (Ad Tryz.prog At56 27 a1) fun t57=>Aa (Ad Tryz.prog At56 50 t55) fun t58=>Aa (Ac Tryz.prog 50 t31 1) fun t59=>Aa (Ad Tryz.prog At56 47 t59) fun t60=>Wc Tryz.prog Af W0 m0 37 [t57,t58,t60] At56 fun t61 At61=>Q t61 At61))))))))):=by kernel_rfl
theorem Abo(d:Nat→Value)(A:AW):AM Tryz.prog Af W0 m0 33 T33 L33 S Q none 4000 (DD 84 d) (T33 0) false 0 0 0 [] A=(Aa (Ah Tryz.prog .lss 3 (.tmp 46) (.tmp 45) (d 46) (d 45)) fun t0=>Ae t0 (Aa (Aj Tryz.prog 34 (d 44) (d 46)) fun t1=>Aa (Ad Tryz.prog A 24 t1) fun t2=>Al (Cd Tryz.prog A 24) fun t3 At3=>AQ (Am Tryz.prog At3 24 t3 t2) fun At4=>Aa (Ad Tryz.prog At4 27 (d 1)) fun t5=>Aa (Ad Tryz.prog At4 5 (d 0)) fun t6=>Aa (Ad Tryz.prog At4 24 t3) fun t7=>Wc Tryz.prog Af W0 m0 35 [t5,t6,t7] At4 fun _ At8=>Aa (Ah Tryz.prog .add 3 (.tmp 46) (.const (.int .i64 1)) (d 46) (.int .i64 1)) fun t9=>BX (T33 0) (T33 0) (S 0 [(d 0),(d 1),(d 44),(d 45),t9] At8)) (Q (.int .i64 0) A)):=by kernel_rfl
theorem n33(a0 a1 a2:Value):AD Tryz.prog 33 [a0,a1,a2] .normal=some (frM 33 (Tm.fill ⟨84,.nil⟩ 0 [a0,a1,a2]) [.code (cd 33 [])] false):=by kernel_rfl
theorem w33:Wf3 33 84 T33 L33:=wf3 n33 (by decide) fun _ _ _=>rfl
theorem c33:Fy 33 84 T33 L33:=Ga (by decide)
noncomputable def T35:Nat→List Item:=fun i=>match i with
 |_=>[]
def L35:Nat→List Tmp:=fun i=>match i with
 |_=>[]
noncomputable def OH(W0:World)(m0:Inj Tryz.prog)(Q:Value→AW→Prop)(a0:Value)(x0:Value)(X2:AW)(x23:Value):Prop:=Aa (Ac Tryz.prog 24 x0 0) fun b1=>Aa (Ad Tryz.prog X2 22 b1) fun b3=>Aa (Ac Tryz.prog 24 x0 1) fun b4=>Aa (Ad Tryz.prog X2 9 b4) fun b5=>Aa (Aw Tryz.prog 24 [(0,b3),(1,b5)]) fun b6=>Al (Cd Tryz.prog X2 24) fun b7 B8=>AQ (Am Tryz.prog B8 24 b7 b6) fun B9=>Al (Cd Tryz.prog B9 50) fun b10 B11=>Cm (Bi Tryz.prog (fun _=>undef) (.alloc 50)) B11 b10 (Aa (BQ a0) fun b12=>Aa (Ac Tryz.prog 79 b12 3) fun b13=>Aa (Ad Tryz.prog B11 75 b13) fun b14=>Aa (Ad Tryz.prog B11 24 b7) fun b15=>Aa (C5 Tryz.prog B11 75 b14 b15 true) fun b16=>Aa (Ar b16 0) fun b17=>Aa (Ar b16 1) fun b18=>AQ (Am Tryz.prog B11 50 b10 b17) fun B19=>Aa (Ar b16 1) fun b20=>eqW b20 b18 (Aa (Ac Tryz.prog 50 b10 3) fun b21=>Aa (Ad Tryz.prog B19 48 b21) fun b22=>Wc Tryz.prog Af W0 m0 78 [b22,(.func (.func 79) ⟨[]⟩ ⟨[x23]⟩)] B19 fun b24 B25=>Aa (Ah Tryz.prog .geq 3 (.tmp 47) (.const (.int .i64 0)) b24 (.int .i64 0)) fun b26=>Ae b26 (Aa (Ac Tryz.prog 50 b10 3) fun b27=>Aa (Ad Tryz.prog B25 48 b27) fun b28=>Aa (Aj Tryz.prog 48 b28 b24) fun b29=>Aa (Ac Tryz.prog 135 b29 0) fun b30=>Aa (Ad Tryz.prog B25 5 b30) fun b31=>Aa (Ad Tryz.prog B25 5 x23) fun b32=>Aa (Ah Tryz.prog .eql 5 (.tmp 55) (.tmp 56) b31 b32) fun b33=>Aa (unA Tryz.prog .not b18) fun b34=>Ae b34 (Aa (BQ a0) fun b35=>Aa (Ac Tryz.prog 79 b35 3) fun b36=>Aa (Ad Tryz.prog B25 75 b36) fun b37=>Aa (Br Tryz.prog B25 75 b37) fun b38=>Aa (Ah Tryz.prog .geq 3 (.tmp 67) (.const (.int .i64 50)) b38 (.int .i64 50)) fun b39=>Ae b39 (Aa (BQ a0) fun b40=>Aa (Ac Tryz.prog 79 b40 5) fun b41=>Aa (Ad Tryz.prog B25 77 b41) fun b42=>Aa (Ad Tryz.prog B25 5 x23) fun b43=>AQ (BV Tryz.prog B25 77 b42 b43 (.int .i64 3)) fun B44=>Q (.tuple ⟨[]⟩) B44) (Aa (unA Tryz.prog .not b18) fun b45=>Ae b45 (Aa (Ad Tryz.prog B25 24 b7) fun b46=>Aa (Aw Tryz.prog 50 [(0,b46),(1,(.int .u8 5))]) fun b47=>AQ (Am Tryz.prog B25 50 b10 b47) fun B48=>Aa (Ad Tryz.prog B48 50 b10) fun b49=>Aa (Ad Tryz.prog B48 5 x23) fun b50=>Aa (Ad Tryz.prog B48 24 x0) fun b51=>Aa (Aw Tryz.prog 135 [(0,b50),(1,b51)]) fun b52=>Wc Tryz.prog Af W0 m0 80 [a0,b49,b24,b33,b52] B48 fun _ B54=>Q (.tuple ⟨[]⟩) B54) (Aa (Ac Tryz.prog 50 b10 1) fun b55=>Aa (Ad Tryz.prog B25 47 b55) fun b56=>Aa (Ah Tryz.prog .eql 47 (.tmp 82) (.const (.int .u8 5)) b56 (.int .u8 5)) fun b57=>Ae b57 (Aa (Ac Tryz.prog 50 b10 2) fun b58=>Aa (Ad Tryz.prog B25 4 b58) fun b59=>Ae b59 (Ae b33 (Aa (Ac Tryz.prog 50 b10 3) fun b60=>Aa (Ad Tryz.prog B25 48 b60) fun b61=>Aa (Aj Tryz.prog 48 b61 b24) fun b62=>Aa (Ac Tryz.prog 135 b62 2) fun b63=>Aa (Ad Tryz.prog B25 133 b63) fun b64=>Aa (Ah Tryz.prog .geq 133 (.tmp 96) (.const (.int .u8 3)) b64 (.int .u8 3)) fun b65=>Aa (unA Tryz.prog .not b65) fun b66=>Ae b66 (Aa (BQ a0) fun b67=>Aa (Ac Tryz.prog 79 b67 6) fun b68=>Aa (Ad Tryz.prog B25 41 b68) fun b69=>Aa (Ad Tryz.prog B25 5 x23) fun b70=>Aa (Ad Tryz.prog B25 24 x0) fun b71=>Aa (Aw Tryz.prog 38 [(0,(.int .u8 3)),(1,b71)]) fun b72=>Aa (Aw Tryz.prog 46 [(0,b70),(1,b72)]) fun b73=>Al (Aq Tryz.prog B25 41 1 [(0,b73)]) fun b74 B75=>Cm (Bi Tryz.prog (BJ (Tm.fill ⟨1,.nil⟩ 0 [b73])) (.buildSlice 41 1 #[(0,.tmp 0)])) B75 b74 (Aa (Aw Tryz.prog 46 [(0,b70),(1,b72)]) fun b76=>eqW b76 b73 (Aa (Aw Tryz.prog 38 [(0,(.int .u8 3)),(1,b71)]) fun b77=>eqW b77 b72 (Aa (Ad Tryz.prog B75 24 x0) fun b78=>eqW b78 b71 (Aa (Ad Tryz.prog B75 5 x23) fun b79=>eqW b79 b70 (Aa (Ad Tryz.prog B75 41 b68) fun b80=>eqW b80 b69 (Aa (Ac Tryz.prog 79 b67 6) fun b81=>eqW b81 b68 (Aa (BQ a0) fun b82=>eqW b82 b67 (eqW a0 a0 (eqW a0 a0 (Al (AT Tryz.prog B75 41 41 b69 b74) fun b83 B84=>eqW a0 a0 (Aa (BQ a0) fun b85=>Aa (Ac Tryz.prog 79 b85 6) fun b86=>AQ (Am Tryz.prog B84 41 b86 b83) fun B87=>Q (.tuple ⟨[]⟩) B87)))))))))))) (Aa (Ac Tryz.prog 50 b10 2) fun b88=>Aa (Ad Tryz.prog B25 4 b88) fun b89=>Ae b89 (Q (.tuple ⟨[]⟩) B25) (Aa (Ac Tryz.prog 50 b10 1) fun b90=>Aa (Ad Tryz.prog B25 47 b90) fun b91=>Aa (Ah Tryz.prog .lss 47 (.tmp 119) (.const (.int .u8 4)) b91 (.int .u8 4)) fun b92=>Ae b92 (Q (.tuple ⟨[]⟩) B25) (Ae b33 (Aa (Ac Tryz.prog 50 b10 3) fun b93=>Aa (Ad Tryz.prog B25 48 b93) fun b94=>Aa (Aj Tryz.prog 48 b94 b24) fun b95=>Aa (Ac Tryz.prog 135 b95 2) fun b96=>Aa (Ad Tryz.prog B25 133 b96) fun b97=>Aa (Ah Tryz.prog .neq 133 (.tmp 130) (.const (.int .u8 2)) b97 (.int .u8 2)) fun b98=>Ae b98 (Q (.tuple ⟨[]⟩) B25) (Aa (Ad Tryz.prog B25 50 b10) fun b99=>Aa (Ad Tryz.prog B25 5 x23) fun b100=>Aa (Ad Tryz.prog B25 24 x0) fun b101=>Aa (Aw Tryz.prog 135 [(0,b100),(1,b101)]) fun b102=>Wc Tryz.prog Af W0 m0 80 [a0,b99,b24,b33,b102] B25 fun _ B104=>Q (.tuple ⟨[]⟩) B104)) (Aa (Ad Tryz.prog B25 50 b10) fun b105=>Aa (Ad Tryz.prog B25 5 x23) fun b106=>Aa (Ad Tryz.prog B25 24 x0) fun b107=>Aa (Aw Tryz.prog 135 [(0,b106),(1,b107)]) fun b108=>Wc Tryz.prog Af W0 m0 80 [a0,b105,b24,b33,b108] B25 fun _ B110=>Q (.tuple ⟨[]⟩) B110))))) (Aa (unA Tryz.prog .not (.bool false)) fun b111=>Ae b111 (Aa (BQ a0) fun b112=>Aa (Ac Tryz.prog 79 b112 6) fun b113=>Aa (Ad Tryz.prog B25 41 b113) fun b114=>Aa (Ad Tryz.prog B25 5 x23) fun b115=>Aa (Ad Tryz.prog B25 24 x0) fun b116=>Aa (Aw Tryz.prog 38 [(0,(.int .u8 3)),(1,b116)]) fun b117=>Aa (Aw Tryz.prog 46 [(0,b115),(1,b117)]) fun b118=>Al (Aq Tryz.prog B25 41 1 [(0,b118)]) fun b119 B120=>Cm (Bi Tryz.prog (BJ (Tm.fill ⟨1,.nil⟩ 0 [b118])) (.buildSlice 41 1 #[(0,.tmp 0)])) B120 b119 (Aa (Aw Tryz.prog 46 [(0,b115),(1,b117)]) fun b121=>eqW b121 b118 (Aa (Aw Tryz.prog 38 [(0,(.int .u8 3)),(1,b116)]) fun b122=>eqW b122 b117 (Aa (Ad Tryz.prog B120 24 x0) fun b123=>eqW b123 b116 (Aa (Ad Tryz.prog B120 5 x23) fun b124=>eqW b124 b115 (Aa (Ad Tryz.prog B120 41 b113) fun b125=>eqW b125 b114 (Aa (Ac Tryz.prog 79 b112 6) fun b126=>eqW b126 b113 (Aa (BQ a0) fun b127=>eqW b127 b112 (eqW a0 a0 (eqW a0 a0 (Al (AT Tryz.prog B120 41 41 b114 b119) fun b128 B129=>eqW a0 a0 (Aa (BQ a0) fun b130=>Aa (Ac Tryz.prog 79 b130 6) fun b131=>AQ (Am Tryz.prog B129 41 b131 b128) fun B132=>Q (.tuple ⟨[]⟩) B132)))))))))))) (Aa (Ac Tryz.prog 50 b10 2) fun b133=>Aa (Ad Tryz.prog B25 4 b133) fun b134=>Ae b134 (Q (.tuple ⟨[]⟩) B25) (Aa (Ac Tryz.prog 50 b10 1) fun b135=>Aa (Ad Tryz.prog B25 47 b135) fun b136=>Aa (Ah Tryz.prog .lss 47 (.tmp 119) (.const (.int .u8 4)) b136 (.int .u8 4)) fun b137=>Ae b137 (Q (.tuple ⟨[]⟩) B25) (Ae b33 (Aa (Ac Tryz.prog 50 b10 3) fun b138=>Aa (Ad Tryz.prog B25 48 b138) fun b139=>Aa (Aj Tryz.prog 48 b139 b24) fun b140=>Aa (Ac Tryz.prog 135 b140 2) fun b141=>Aa (Ad Tryz.prog B25 133 b141) fun b142=>Aa (Ah Tryz.prog .neq 133 (.tmp 130) (.const (.int .u8 2)) b142 (.int .u8 2)) fun b143=>Ae b143 (Q (.tuple ⟨[]⟩) B25) (Aa (Ad Tryz.prog B25 50 b10) fun b144=>Aa (Ad Tryz.prog B25 5 x23) fun b145=>Aa (Ad Tryz.prog B25 24 x0) fun b146=>Aa (Aw Tryz.prog 135 [(0,b145),(1,b146)]) fun b147=>Wc Tryz.prog Af W0 m0 80 [a0,b144,b24,b33,b147] B25 fun _ B149=>Q (.tuple ⟨[]⟩) B149)) (Aa (Ad Tryz.prog B25 50 b10) fun b150=>Aa (Ad Tryz.prog B25 5 x23) fun b151=>Aa (Ad Tryz.prog B25 24 x0) fun b152=>Aa (Aw Tryz.prog 135 [(0,b151),(1,b152)]) fun b153=>Wc Tryz.prog Af W0 m0 80 [a0,b150,b24,b33,b153] B25 fun _ B155=>Q (.tuple ⟨[]⟩) B155)))))) (Aa (Ac Tryz.prog 50 b10 2) fun b156=>Aa (Ad Tryz.prog B25 4 b156) fun b157=>Ae b157 (Q (.tuple ⟨[]⟩) B25) (Aa (Ac Tryz.prog 50 b10 1) fun b158=>Aa (Ad Tryz.prog B25 47 b158) fun b159=>Aa (Ah Tryz.prog .lss 47 (.tmp 119) (.const (.int .u8 4)) b159 (.int .u8 4)) fun b160=>Ae b160 (Q (.tuple ⟨[]⟩) B25) (Ae b33 (Aa (Ac Tryz.prog 50 b10 3) fun b161=>Aa (Ad Tryz.prog B25 48 b161) fun b162=>Aa (Aj Tryz.prog 48 b162 b24) fun b163=>Aa (Ac Tryz.prog 135 b163 2) fun b164=>Aa (Ad Tryz.prog B25 133 b164) fun b165=>Aa (Ah Tryz.prog .neq 133 (.tmp 130) (.const (.int .u8 2)) b165 (.int .u8 2)) fun b166=>Ae b166 (Q (.tuple ⟨[]⟩) B25) (Aa (Ad Tryz.prog B25 50 b10) fun b167=>Aa (Ad Tryz.prog B25 5 x23) fun b168=>Aa (Ad Tryz.prog B25 24 x0) fun b169=>Aa (Aw Tryz.prog 135 [(0,b168),(1,b169)]) fun b170=>Wc Tryz.prog Af W0 m0 80 [a0,b167,b24,b33,b170] B25 fun _ B172=>Q (.tuple ⟨[]⟩) B172)) (Aa (Ad Tryz.prog B25 50 b10) fun b173=>Aa (Ad Tryz.prog B25 5 x23) fun b174=>Aa (Ad Tryz.prog B25 24 x0) fun b175=>Aa (Aw Tryz.prog 135 [(0,b174),(1,b175)]) fun b176=>Wc Tryz.prog Af W0 m0 80 [a0,b173,b24,b33,b176] B25 fun _ B178=>Q (.tuple ⟨[]⟩) B178))))) (Aa (Ac Tryz.prog 50 b10 2) fun b179=>Aa (Ad Tryz.prog B25 4 b179) fun b180=>Ae b180 (Q (.tuple ⟨[]⟩) B25) (Aa (Ac Tryz.prog 50 b10 1) fun b181=>Aa (Ad Tryz.prog B25 47 b181) fun b182=>Aa (Ah Tryz.prog .lss 47 (.tmp 119) (.const (.int .u8 4)) b182 (.int .u8 4)) fun b183=>Ae b183 (Q (.tuple ⟨[]⟩) B25) (Ae b33 (Aa (Ac Tryz.prog 50 b10 3) fun b184=>Aa (Ad Tryz.prog B25 48 b184) fun b185=>Aa (Aj Tryz.prog 48 b185 b24) fun b186=>Aa (Ac Tryz.prog 135 b186 2) fun b187=>Aa (Ad Tryz.prog B25 133 b187) fun b188=>Aa (Ah Tryz.prog .neq 133 (.tmp 130) (.const (.int .u8 2)) b188 (.int .u8 2)) fun b189=>Ae b189 (Q (.tuple ⟨[]⟩) B25) (Aa (Ad Tryz.prog B25 50 b10) fun b190=>Aa (Ad Tryz.prog B25 5 x23) fun b191=>Aa (Ad Tryz.prog B25 24 x0) fun b192=>Aa (Aw Tryz.prog 135 [(0,b191),(1,b192)]) fun b193=>Wc Tryz.prog Af W0 m0 80 [a0,b190,b24,b33,b193] B25 fun _ B195=>Q (.tuple ⟨[]⟩) B195)) (Aa (Ad Tryz.prog B25 50 b10) fun b196=>Aa (Ad Tryz.prog B25 5 x23) fun b197=>Aa (Ad Tryz.prog B25 24 x0) fun b198=>Aa (Aw Tryz.prog 135 [(0,b197),(1,b198)]) fun b199=>Wc Tryz.prog Af W0 m0 80 [a0,b196,b24,b33,b199] B25 fun _ B201=>Q (.tuple ⟨[]⟩) B201))))))) (Aa (unA Tryz.prog .not b18) fun b202=>Ae b202 (Aa (Ad Tryz.prog B25 24 b7) fun b203=>Aa (Aw Tryz.prog 50 [(0,b203),(1,(.int .u8 5))]) fun b204=>AQ (Am Tryz.prog B25 50 b10 b204) fun B205=>Aa (Ad Tryz.prog B205 50 b10) fun b206=>Aa (Ad Tryz.prog B205 5 x23) fun b207=>Aa (Ad Tryz.prog B205 24 x0) fun b208=>Aa (Aw Tryz.prog 135 [(0,b207),(1,b208)]) fun b209=>Wc Tryz.prog Af W0 m0 80 [a0,b206,b24,b33,b209] B205 fun _ B211=>Q (.tuple ⟨[]⟩) B211) (Aa (Ac Tryz.prog 50 b10 1) fun b212=>Aa (Ad Tryz.prog B25 47 b212) fun b213=>Aa (Ah Tryz.prog .eql 47 (.tmp 82) (.const (.int .u8 5)) b213 (.int .u8 5)) fun b214=>Ae b214 (Aa (Ac Tryz.prog 50 b10 2) fun b215=>Aa (Ad Tryz.prog B25 4 b215) fun b216=>Ae b216 (Ae b33 (Aa (Ac Tryz.prog 50 b10 3) fun b217=>Aa (Ad Tryz.prog B25 48 b217) fun b218=>Aa (Aj Tryz.prog 48 b218 b24) fun b219=>Aa (Ac Tryz.prog 135 b219 2) fun b220=>Aa (Ad Tryz.prog B25 133 b220) fun b221=>Aa (Ah Tryz.prog .geq 133 (.tmp 96) (.const (.int .u8 3)) b221 (.int .u8 3)) fun b222=>Aa (unA Tryz.prog .not b222) fun b223=>Ae b223 (Aa (BQ a0) fun b224=>Aa (Ac Tryz.prog 79 b224 6) fun b225=>Aa (Ad Tryz.prog B25 41 b225) fun b226=>Aa (Ad Tryz.prog B25 5 x23) fun b227=>Aa (Ad Tryz.prog B25 24 x0) fun b228=>Aa (Aw Tryz.prog 38 [(0,(.int .u8 3)),(1,b228)]) fun b229=>Aa (Aw Tryz.prog 46 [(0,b227),(1,b229)]) fun b230=>Al (Aq Tryz.prog B25 41 1 [(0,b230)]) fun b231 B232=>Cm (Bi Tryz.prog (BJ (Tm.fill ⟨1,.nil⟩ 0 [b230])) (.buildSlice 41 1 #[(0,.tmp 0)])) B232 b231 (Aa (Aw Tryz.prog 46 [(0,b227),(1,b229)]) fun b233=>eqW b233 b230 (Aa (Aw Tryz.prog 38 [(0,(.int .u8 3)),(1,b228)]) fun b234=>eqW b234 b229 (Aa (Ad Tryz.prog B232 24 x0) fun b235=>eqW b235 b228 (Aa (Ad Tryz.prog B232 5 x23) fun b236=>eqW b236 b227 (Aa (Ad Tryz.prog B232 41 b225) fun b237=>eqW b237 b226 (Aa (Ac Tryz.prog 79 b224 6) fun b238=>eqW b238 b225 (Aa (BQ a0) fun b239=>eqW b239 b224 (eqW a0 a0 (eqW a0 a0 (Al (AT Tryz.prog B232 41 41 b226 b231) fun b240 B241=>eqW a0 a0 (Aa (BQ a0) fun b242=>Aa (Ac Tryz.prog 79 b242 6) fun b243=>AQ (Am Tryz.prog B241 41 b243 b240) fun B244=>Q (.tuple ⟨[]⟩) B244)))))))))))) (Aa (Ac Tryz.prog 50 b10 2) fun b245=>Aa (Ad Tryz.prog B25 4 b245) fun b246=>Ae b246 (Q (.tuple ⟨[]⟩) B25) (Aa (Ac Tryz.prog 50 b10 1) fun b247=>Aa (Ad Tryz.prog B25 47 b247) fun b248=>Aa (Ah Tryz.prog .lss 47 (.tmp 119) (.const (.int .u8 4)) b248 (.int .u8 4)) fun b249=>Ae b249 (Q (.tuple ⟨[]⟩) B25) (Ae b33 (Aa (Ac Tryz.prog 50 b10 3) fun b250=>Aa (Ad Tryz.prog B25 48 b250) fun b251=>Aa (Aj Tryz.prog 48 b251 b24) fun b252=>Aa (Ac Tryz.prog 135 b252 2) fun b253=>Aa (Ad Tryz.prog B25 133 b253) fun b254=>Aa (Ah Tryz.prog .neq 133 (.tmp 130) (.const (.int .u8 2)) b254 (.int .u8 2)) fun b255=>Ae b255 (Q (.tuple ⟨[]⟩) B25) (Aa (Ad Tryz.prog B25 50 b10) fun b256=>Aa (Ad Tryz.prog B25 5 x23) fun b257=>Aa (Ad Tryz.prog B25 24 x0) fun b258=>Aa (Aw Tryz.prog 135 [(0,b257),(1,b258)]) fun b259=>Wc Tryz.prog Af W0 m0 80 [a0,b256,b24,b33,b259] B25 fun _ B261=>Q (.tuple ⟨[]⟩) B261)) (Aa (Ad Tryz.prog B25 50 b10) fun b262=>Aa (Ad Tryz.prog B25 5 x23) fun b263=>Aa (Ad Tryz.prog B25 24 x0) fun b264=>Aa (Aw Tryz.prog 135 [(0,b263),(1,b264)]) fun b265=>Wc Tryz.prog Af W0 m0 80 [a0,b262,b24,b33,b265] B25 fun _ B267=>Q (.tuple ⟨[]⟩) B267))))) (Aa (unA Tryz.prog .not (.bool false)) fun b268=>Ae b268 (Aa (BQ a0) fun b269=>Aa (Ac Tryz.prog 79 b269 6) fun b270=>Aa (Ad Tryz.prog B25 41 b270) fun b271=>Aa (Ad Tryz.prog B25 5 x23) fun b272=>Aa (Ad Tryz.prog B25 24 x0) fun b273=>Aa (Aw Tryz.prog 38 [(0,(.int .u8 3)),(1,b273)]) fun b274=>Aa (Aw Tryz.prog 46 [(0,b272),(1,b274)]) fun b275=>Al (Aq Tryz.prog B25 41 1 [(0,b275)]) fun b276 B277=>Cm (Bi Tryz.prog (BJ (Tm.fill ⟨1,.nil⟩ 0 [b275])) (.buildSlice 41 1 #[(0,.tmp 0)])) B277 b276 (Aa (Aw Tryz.prog 46 [(0,b272),(1,b274)]) fun b278=>eqW b278 b275 (Aa (Aw Tryz.prog 38 [(0,(.int .u8 3)),(1,b273)]) fun b279=>eqW b279 b274 (Aa (Ad Tryz.prog B277 24 x0) fun b280=>eqW b280 b273 (Aa (Ad Tryz.prog B277 5 x23) fun b281=>eqW b281 b272 (Aa (Ad Tryz.prog B277 41 b270) fun b282=>eqW b282 b271 (Aa (Ac Tryz.prog 79 b269 6) fun b283=>eqW b283 b270 (Aa (BQ a0) fun b284=>eqW b284 b269 (eqW a0 a0 (eqW a0 a0 (Al (AT Tryz.prog B277 41 41 b271 b276) fun b285 B286=>eqW a0 a0 (Aa (BQ a0) fun b287=>Aa (Ac Tryz.prog 79 b287 6) fun b288=>AQ (Am Tryz.prog B286 41 b288 b285) fun B289=>Q (.tuple ⟨[]⟩) B289)))))))))))) (Aa (Ac Tryz.prog 50 b10 2) fun b290=>Aa (Ad Tryz.prog B25 4 b290) fun b291=>Ae b291 (Q (.tuple ⟨[]⟩) B25) (Aa (Ac Tryz.prog 50 b10 1) fun b292=>Aa (Ad Tryz.prog B25 47 b292) fun b293=>Aa (Ah Tryz.prog .lss 47 (.tmp 119) (.const (.int .u8 4)) b293 (.int .u8 4)) fun b294=>Ae b294 (Q (.tuple ⟨[]⟩) B25) (Ae b33 (Aa (Ac Tryz.prog 50 b10 3) fun b295=>Aa (Ad Tryz.prog B25 48 b295) fun b296=>Aa (Aj Tryz.prog 48 b296 b24) fun b297=>Aa (Ac Tryz.prog 135 b297 2) fun b298=>Aa (Ad Tryz.prog B25 133 b298) fun b299=>Aa (Ah Tryz.prog .neq 133 (.tmp 130) (.const (.int .u8 2)) b299 (.int .u8 2)) fun b300=>Ae b300 (Q (.tuple ⟨[]⟩) B25) (Aa (Ad Tryz.prog B25 50 b10) fun b301=>Aa (Ad Tryz.prog B25 5 x23) fun b302=>Aa (Ad Tryz.prog B25 24 x0) fun b303=>Aa (Aw Tryz.prog 135 [(0,b302),(1,b303)]) fun b304=>Wc Tryz.prog Af W0 m0 80 [a0,b301,b24,b33,b304] B25 fun _ B306=>Q (.tuple ⟨[]⟩) B306)) (Aa (Ad Tryz.prog B25 50 b10) fun b307=>Aa (Ad Tryz.prog B25 5 x23) fun b308=>Aa (Ad Tryz.prog B25 24 x0) fun b309=>Aa (Aw Tryz.prog 135 [(0,b308),(1,b309)]) fun b310=>Wc Tryz.prog Af W0 m0 80 [a0,b307,b24,b33,b310] B25 fun _ B312=>Q (.tuple ⟨[]⟩) B312)))))) (Aa (Ac Tryz.prog 50 b10 2) fun b313=>Aa (Ad Tryz.prog B25 4 b313) fun b314=>Ae b314 (Q (.tuple ⟨[]⟩) B25) (Aa (Ac Tryz.prog 50 b10 1) fun b315=>Aa (Ad Tryz.prog B25 47 b315) fun b316=>Aa (Ah Tryz.prog .lss 47 (.tmp 119) (.const (.int .u8 4)) b316 (.int .u8 4)) fun b317=>Ae b317 (Q (.tuple ⟨[]⟩) B25) (Ae b33 (Aa (Ac Tryz.prog 50 b10 3) fun b318=>Aa (Ad Tryz.prog B25 48 b318) fun b319=>Aa (Aj Tryz.prog 48 b319 b24) fun b320=>Aa (Ac Tryz.prog 135 b320 2) fun b321=>Aa (Ad Tryz.prog B25 133 b321) fun b322=>Aa (Ah Tryz.prog .neq 133 (.tmp 130) (.const (.int .u8 2)) b322 (.int .u8 2)) fun b323=>Ae b323 (Q (.tuple ⟨[]⟩) B25) (Aa (Ad Tryz.prog B25 50 b10) fun b324=>Aa (Ad Tryz.prog B25 5 x23) fun b325=>Aa (Ad Tryz.prog B25 24 x0) fun b326=>Aa (Aw Tryz.prog 135 [(0,b325),(1,b326)]) fun b327=>Wc Tryz.prog Af W0 m0 80 [a0,b324,b24,b33,b327] B25 fun _ B329=>Q (.tuple ⟨[]⟩) B329)) (Aa (Ad Tryz.prog B25 50 b10) fun b330=>Aa (Ad Tryz.prog B25 5 x23) fun b331=>Aa (Ad Tryz.prog B25 24 x0) fun b332=>Aa (Aw Tryz.prog 135 [(0,b331),(1,b332)]) fun b333=>Wc Tryz.prog Af W0 m0 80 [a0,b330,b24,b33,b333] B25 fun _ B335=>Q (.tuple ⟨[]⟩) B335))))) (Aa (Ac Tryz.prog 50 b10 2) fun b336=>Aa (Ad Tryz.prog B25 4 b336) fun b337=>Ae b337 (Q (.tuple ⟨[]⟩) B25) (Aa (Ac Tryz.prog 50 b10 1) fun b338=>Aa (Ad Tryz.prog B25 47 b338) fun b339=>Aa (Ah Tryz.prog .lss 47 (.tmp 119) (.const (.int .u8 4)) b339 (.int .u8 4)) fun b340=>Ae b340 (Q (.tuple ⟨[]⟩) B25) (Ae b33 (Aa (Ac Tryz.prog 50 b10 3) fun b341=>Aa (Ad Tryz.prog B25 48 b341) fun b342=>Aa (Aj Tryz.prog 48 b342 b24) fun b343=>Aa (Ac Tryz.prog 135 b343 2) fun b344=>Aa (Ad Tryz.prog B25 133 b344) fun b345=>Aa (Ah Tryz.prog .neq 133 (.tmp 130) (.const (.int .u8 2)) b345 (.int .u8 2)) fun b346=>Ae b346 (Q (.tuple ⟨[]⟩) B25) (Aa (Ad Tryz.prog B25 50 b10) fun b347=>Aa (Ad Tryz.prog B25 5 x23) fun b348=>Aa (Ad Tryz.prog B25 24 x0) fun b349=>Aa (Aw Tryz.prog 135 [(0,b348),(1,b349)]) fun b350=>Wc Tryz.prog Af W0 m0 80 [a0,b347,b24,b33,b350] B25 fun _ B352=>Q (.tuple ⟨[]⟩) B352)) (Aa (Ad Tryz.prog B25 50 b10) fun b353=>Aa (Ad Tryz.prog B25 5 x23) fun b354=>Aa (Ad Tryz.prog B25 24 x0) fun b355=>Aa (Aw Tryz.prog 135 [(0,b354),(1,b355)]) fun b356=>Wc Tryz.prog Af W0 m0 80 [a0,b353,b24,b33,b356] B25 fun _ B358=>Q (.tuple ⟨[]⟩) B358))))))) (Aa (unA Tryz.prog .not b18) fun b359=>Ae b359 (Aa (BQ a0) fun b360=>Aa (Ac Tryz.prog 79 b360 3) fun b361=>Aa (Ad Tryz.prog B25 75 b361) fun b362=>Aa (Br Tryz.prog B25 75 b362) fun b363=>Aa (Ah Tryz.prog .geq 3 (.tmp 67) (.const (.int .i64 50)) b363 (.int .i64 50)) fun b364=>Ae b364 (Aa (BQ a0) fun b365=>Aa (Ac Tryz.prog 79 b365 5) fun b366=>Aa (Ad Tryz.prog B25 77 b366) fun b367=>Aa (Ad Tryz.prog B25 5 x23) fun b368=>AQ (BV Tryz.prog B25 77 b367 b368 (.int .i64 3)) fun B369=>Q (.tuple ⟨[]⟩) B369) (Aa (unA Tryz.prog .not b18) fun b370=>Ae b370 (Aa (Ad Tryz.prog B25 24 b7) fun b371=>Aa (Aw Tryz.prog 50 [(0,b371),(1,(.int .u8 5))]) fun b372=>AQ (Am Tryz.prog B25 50 b10 b372) fun B373=>Aa (Ad Tryz.prog B373 50 b10) fun b374=>Aa (Ad Tryz.prog B373 5 x23) fun b375=>Aa (Ad Tryz.prog B373 24 x0) fun b376=>Aa (Aw Tryz.prog 135 [(0,b375),(1,b376)]) fun b377=>Wc Tryz.prog Af W0 m0 80 [a0,b374,b24,(.bool false),b377] B373 fun _ B379=>Q (.tuple ⟨[]⟩) B379) (Aa (Ac Tryz.prog 50 b10 1) fun b380=>Aa (Ad Tryz.prog B25 47 b380) fun b381=>Aa (Ah Tryz.prog .eql 47 (.tmp 82) (.const (.int .u8 5)) b381 (.int .u8 5)) fun b382=>Ae b382 (Aa (Ac Tryz.prog 50 b10 2) fun b383=>Aa (Ad Tryz.prog B25 4 b383) fun b384=>Ae b384 (Aa (unA Tryz.prog .not (.bool false)) fun b385=>Ae b385 (Aa (BQ a0) fun b386=>Aa (Ac Tryz.prog 79 b386 6) fun b387=>Aa (Ad Tryz.prog B25 41 b387) fun b388=>Aa (Ad Tryz.prog B25 5 x23) fun b389=>Aa (Ad Tryz.prog B25 24 x0) fun b390=>Aa (Aw Tryz.prog 38 [(0,(.int .u8 3)),(1,b390)]) fun b391=>Aa (Aw Tryz.prog 46 [(0,b389),(1,b391)]) fun b392=>Al (Aq Tryz.prog B25 41 1 [(0,b392)]) fun b393 B394=>Cm (Bi Tryz.prog (BJ (Tm.fill ⟨1,.nil⟩ 0 [b392])) (.buildSlice 41 1 #[(0,.tmp 0)])) B394 b393 (Aa (Aw Tryz.prog 46 [(0,b389),(1,b391)]) fun b395=>eqW b395 b392 (Aa (Aw Tryz.prog 38 [(0,(.int .u8 3)),(1,b390)]) fun b396=>eqW b396 b391 (Aa (Ad Tryz.prog B394 24 x0) fun b397=>eqW b397 b390 (Aa (Ad Tryz.prog B394 5 x23) fun b398=>eqW b398 b389 (Aa (Ad Tryz.prog B394 41 b387) fun b399=>eqW b399 b388 (Aa (Ac Tryz.prog 79 b386 6) fun b400=>eqW b400 b387 (Aa (BQ a0) fun b401=>eqW b401 b386 (eqW a0 a0 (eqW a0 a0 (Al (AT Tryz.prog B394 41 41 b388 b393) fun b402 B403=>eqW a0 a0 (Aa (BQ a0) fun b404=>Aa (Ac Tryz.prog 79 b404 6) fun b405=>AQ (Am Tryz.prog B403 41 b405 b402) fun B406=>Q (.tuple ⟨[]⟩) B406)))))))))))) (Aa (Ac Tryz.prog 50 b10 2) fun b407=>Aa (Ad Tryz.prog B25 4 b407) fun b408=>Ae b408 (Q (.tuple ⟨[]⟩) B25) (Aa (Ac Tryz.prog 50 b10 1) fun b409=>Aa (Ad Tryz.prog B25 47 b409) fun b410=>Aa (Ah Tryz.prog .lss 47 (.tmp 119) (.const (.int .u8 4)) b410 (.int .u8 4)) fun b411=>Ae b411 (Q (.tuple ⟨[]⟩) B25) (Aa (Ad Tryz.prog B25 50 b10) fun b412=>Aa (Ad Tryz.prog B25 5 x23) fun b413=>Aa (Ad Tryz.prog B25 24 x0) fun b414=>Aa (Aw Tryz.prog 135 [(0,b413),(1,b414)]) fun b415=>Wc Tryz.prog Af W0 m0 80 [a0,b412,b24,(.bool false),b415] B25 fun _ B417=>Q (.tuple ⟨[]⟩) B417)))) (Aa (Ac Tryz.prog 50 b10 2) fun b418=>Aa (Ad Tryz.prog B25 4 b418) fun b419=>Ae b419 (Q (.tuple ⟨[]⟩) B25) (Aa (Ac Tryz.prog 50 b10 1) fun b420=>Aa (Ad Tryz.prog B25 47 b420) fun b421=>Aa (Ah Tryz.prog .lss 47 (.tmp 119) (.const (.int .u8 4)) b421 (.int .u8 4)) fun b422=>Ae b422 (Q (.tuple ⟨[]⟩) B25) (Aa (Ad Tryz.prog B25 50 b10) fun b423=>Aa (Ad Tryz.prog B25 5 x23) fun b424=>Aa (Ad Tryz.prog B25 24 x0) fun b425=>Aa (Aw Tryz.prog 135 [(0,b424),(1,b425)]) fun b426=>Wc Tryz.prog Af W0 m0 80 [a0,b423,b24,(.bool false),b426] B25 fun _ B428=>Q (.tuple ⟨[]⟩) B428)))) (Aa (Ac Tryz.prog 50 b10 2) fun b429=>Aa (Ad Tryz.prog B25 4 b429) fun b430=>Ae b430 (Q (.tuple ⟨[]⟩) B25) (Aa (Ac Tryz.prog 50 b10 1) fun b431=>Aa (Ad Tryz.prog B25 47 b431) fun b432=>Aa (Ah Tryz.prog .lss 47 (.tmp 119) (.const (.int .u8 4)) b432 (.int .u8 4)) fun b433=>Ae b433 (Q (.tuple ⟨[]⟩) B25) (Aa (Ad Tryz.prog B25 50 b10) fun b434=>Aa (Ad Tryz.prog B25 5 x23) fun b435=>Aa (Ad Tryz.prog B25 24 x0) fun b436=>Aa (Aw Tryz.prog 135 [(0,b435),(1,b436)]) fun b437=>Wc Tryz.prog Af W0 m0 80 [a0,b434,b24,(.bool false),b437] B25 fun _ B439=>Q (.tuple ⟨[]⟩) B439)))))) (Aa (unA Tryz.prog .not b18) fun b440=>Ae b440 (Aa (Ad Tryz.prog B25 24 b7) fun b441=>Aa (Aw Tryz.prog 50 [(0,b441),(1,(.int .u8 5))]) fun b442=>AQ (Am Tryz.prog B25 50 b10 b442) fun B443=>Aa (Ad Tryz.prog B443 50 b10) fun b444=>Aa (Ad Tryz.prog B443 5 x23) fun b445=>Aa (Ad Tryz.prog B443 24 x0) fun b446=>Aa (Aw Tryz.prog 135 [(0,b445),(1,b446)]) fun b447=>Wc Tryz.prog Af W0 m0 80 [a0,b444,b24,(.bool false),b447] B443 fun _ B449=>Q (.tuple ⟨[]⟩) B449) (Aa (Ac Tryz.prog 50 b10 1) fun b450=>Aa (Ad Tryz.prog B25 47 b450) fun b451=>Aa (Ah Tryz.prog .eql 47 (.tmp 82) (.const (.int .u8 5)) b451 (.int .u8 5)) fun b452=>Ae b452 (Aa (Ac Tryz.prog 50 b10 2) fun b453=>Aa (Ad Tryz.prog B25 4 b453) fun b454=>Ae b454 (Aa (unA Tryz.prog .not (.bool false)) fun b455=>Ae b455 (Aa (BQ a0) fun b456=>Aa (Ac Tryz.prog 79 b456 6) fun b457=>Aa (Ad Tryz.prog B25 41 b457) fun b458=>Aa (Ad Tryz.prog B25 5 x23) fun b459=>Aa (Ad Tryz.prog B25 24 x0) fun b460=>Aa (Aw Tryz.prog 38 [(0,(.int .u8 3)),(1,b460)]) fun b461=>Aa (Aw Tryz.prog 46 [(0,b459),(1,b461)]) fun b462=>Al (Aq Tryz.prog B25 41 1 [(0,b462)]) fun b463 B464=>Cm (Bi Tryz.prog (BJ (Tm.fill ⟨1,.nil⟩ 0 [b462])) (.buildSlice 41 1 #[(0,.tmp 0)])) B464 b463 (Aa (Aw Tryz.prog 46 [(0,b459),(1,b461)]) fun b465=>eqW b465 b462 (Aa (Aw Tryz.prog 38 [(0,(.int .u8 3)),(1,b460)]) fun b466=>eqW b466 b461 (Aa (Ad Tryz.prog B464 24 x0) fun b467=>eqW b467 b460 (Aa (Ad Tryz.prog B464 5 x23) fun b468=>eqW b468 b459 (Aa (Ad Tryz.prog B464 41 b457) fun b469=>eqW b469 b458 (Aa (Ac Tryz.prog 79 b456 6) fun b470=>eqW b470 b457 (Aa (BQ a0) fun b471=>eqW b471 b456 (eqW a0 a0 (eqW a0 a0 (Al (AT Tryz.prog B464 41 41 b458 b463) fun b472 B473=>eqW a0 a0 (Aa (BQ a0) fun b474=>Aa (Ac Tryz.prog 79 b474 6) fun b475=>AQ (Am Tryz.prog B473 41 b475 b472) fun B476=>Q (.tuple ⟨[]⟩) B476)))))))))))) (Aa (Ac Tryz.prog 50 b10 2) fun b477=>Aa (Ad Tryz.prog B25 4 b477) fun b478=>Ae b478 (Q (.tuple ⟨[]⟩) B25) (Aa (Ac Tryz.prog 50 b10 1) fun b479=>Aa (Ad Tryz.prog B25 47 b479) fun b480=>Aa (Ah Tryz.prog .lss 47 (.tmp 119) (.const (.int .u8 4)) b480 (.int .u8 4)) fun b481=>Ae b481 (Q (.tuple ⟨[]⟩) B25) (Aa (Ad Tryz.prog B25 50 b10) fun b482=>Aa (Ad Tryz.prog B25 5 x23) fun b483=>Aa (Ad Tryz.prog B25 24 x0) fun b484=>Aa (Aw Tryz.prog 135 [(0,b483),(1,b484)]) fun b485=>Wc Tryz.prog Af W0 m0 80 [a0,b482,b24,(.bool false),b485] B25 fun _ B487=>Q (.tuple ⟨[]⟩) B487)))) (Aa (Ac Tryz.prog 50 b10 2) fun b488=>Aa (Ad Tryz.prog B25 4 b488) fun b489=>Ae b489 (Q (.tuple ⟨[]⟩) B25) (Aa (Ac Tryz.prog 50 b10 1) fun b490=>Aa (Ad Tryz.prog B25 47 b490) fun b491=>Aa (Ah Tryz.prog .lss 47 (.tmp 119) (.const (.int .u8 4)) b491 (.int .u8 4)) fun b492=>Ae b492 (Q (.tuple ⟨[]⟩) B25) (Aa (Ad Tryz.prog B25 50 b10) fun b493=>Aa (Ad Tryz.prog B25 5 x23) fun b494=>Aa (Ad Tryz.prog B25 24 x0) fun b495=>Aa (Aw Tryz.prog 135 [(0,b494),(1,b495)]) fun b496=>Wc Tryz.prog Af W0 m0 80 [a0,b493,b24,(.bool false),b496] B25 fun _ B498=>Q (.tuple ⟨[]⟩) B498)))) (Aa (Ac Tryz.prog 50 b10 2) fun b499=>Aa (Ad Tryz.prog B25 4 b499) fun b500=>Ae b500 (Q (.tuple ⟨[]⟩) B25) (Aa (Ac Tryz.prog 50 b10 1) fun b501=>Aa (Ad Tryz.prog B25 47 b501) fun b502=>Aa (Ah Tryz.prog .lss 47 (.tmp 119) (.const (.int .u8 4)) b502 (.int .u8 4)) fun b503=>Ae b503 (Q (.tuple ⟨[]⟩) B25) (Aa (Ad Tryz.prog B25 50 b10) fun b504=>Aa (Ad Tryz.prog B25 5 x23) fun b505=>Aa (Ad Tryz.prog B25 24 x0) fun b506=>Aa (Aw Tryz.prog 135 [(0,b505),(1,b506)]) fun b507=>Wc Tryz.prog Af W0 m0 80 [a0,b504,b24,(.bool false),b507] B25 fun _ B509=>Q (.tuple ⟨[]⟩) B509))))))))
theorem e35(a0 a1 a2:Value)(A:AW):AM Tryz.prog Af W0 m0 35 T35 L35 S Q none 4000 (Tm.fill ⟨142,.nil⟩ 0 [a0,a1,a2]) [.code (cd 35 [])] false 0 0 0 [] A=(Al (Cq A (Value.cells a1).toList 5) fun t0 At0=>Al (Cq At0 (Value.cells a2).toList 24) fun t1 At1=>Aa (Ac Tryz.prog 24 t1 0) fun t2=>Aa (Ad Tryz.prog At1 22 t2) fun t3=>Aa (Ah Tryz.prog .leq 22 (.tmp 12) (.const (.int .u32 2147483648)) t3 (.int .u32 2147483648)) fun t4=>Ae t4 (eqW undef undef (eqW undef undef (Q (.tuple ⟨[]⟩) At1))) (Aa (Ac Tryz.prog 24 t1 0) fun t5=>Aa (Ad Tryz.prog At1 22 t5) fun t6=>Wc Tryz.prog Af W0 m0 8 [a0] At1 fun t7 At7=>Aa (Ad Tryz.prog At7 22 t5) fun t8=>eqW t8 t6 (Aa (Ac Tryz.prog 24 t1 0) fun t9=>eqW t9 t5 (Aa (Ah Tryz.prog .add 22 (.const (.int .u32 2147483648)) (.tmp 18) (.int .u32 2147483648) t7) fun t10=>Aa (Ah Tryz.prog .eql 22 (.tmp 16) (.tmp 19) t6 t10) fun t11=>Ae t11 (Aa (Ac Tryz.prog 24 t1 1) fun t12=>Aa (Ad Tryz.prog At7 9 t12) fun t13=>Wc Tryz.prog Af W0 m0 77 [a0,t13] At7 fun t14 At14=>Aa (unA Tryz.prog .not t14) fun t15=>Ae t15 (Q (.tuple ⟨[]⟩) At14) (OH W0 m0 Q a0 t1 At14 t0)) (OH W0 m0 Q a0 t1 At7 t0))))):=by kernel_rfl
theorem n35(a0 a1 a2:Value):AD Tryz.prog 35 [a0,a1,a2] .normal=some (frM 35 (Tm.fill ⟨142,.nil⟩ 0 [a0,a1,a2]) [.code (cd 35 [])] false):=by kernel_rfl
theorem w35:Wf3 35 142 T35 L35:=wf3 n35 (by decide) fun _ _ _=>rfl
noncomputable def T77:Nat→List Item:=fun i=>match i with
 |_=>[]
def L77:Nat→List Tmp:=fun i=>match i with
 |_=>[]
theorem e77(a0 a1:Value)(A:AW):AM Tryz.prog Af W0 m0 77 T77 L77 S Q none 4000 (Tm.fill ⟨32,.nil⟩ 0 [a0,a1]) [.code (cd 77 [])] false 0 0 0 [] A=(Wc Tryz.prog Af W0 m0 147 [a1,(.int .i64 10),(.int .i64 64)] A fun t0 At0=>Aa (Ar t0 0) fun t1=>Aa (Ar t0 1) fun t2=>Aa (Ah Tryz.prog .eql 214 (.tmp 12) (.const .nilIface) t2 .nilIface) fun t3=>Ae t3 (Aa (Ah Tryz.prog .geq 76 (.tmp 15) (.const (.int .u64 1)) t1 (.int .u64 1)) fun t4=>Ae t4 (Aa (BQ a0) fun t5=>Aa (Ac Tryz.prog 79 t5 4) fun t6=>Aa (Ad Tryz.prog At0 76 t6) fun t7=>Aa (Ah Tryz.prog .lss 76 (.tmp 19) (.tmp 23) t1 t7) fun t8=>Ae t8 (Wc Tryz.prog Af W0 m0 41 [t1,(.int .i64 10)] At0 fun t9 At9=>Aa (Ah Tryz.prog .eql 9 (.tmp 28) (.tmp 29) t9 a1) fun t10=>Q t10 At9) (Q (.bool false) At0)) (Q (.bool false) At0)) (Q (.bool false) At0)):=by kernel_rfl
theorem n77(a0 a1:Value):AD Tryz.prog 77 [a0,a1] .normal=some (frM 77 (Tm.fill ⟨32,.nil⟩ 0 [a0,a1]) [.code (cd 77 [])] false):=by kernel_rfl
theorem w77:Wf2 77 32 T77 L77:=wf2 n77 (by decide) fun _ _=>rfl
noncomputable def Acq:Nat→List Item:=fun i=>match i with
 |_=>[]
def Ac2:Nat→List Tmp:=fun i=>match i with
 |_=>[]
theorem Ae7(a0 a1 a2:Value)(A:AW):AM Tryz.prog Af W0 m0 147 Acq Ac2 S Q none 4000 (Tm.fill ⟨26,.nil⟩ 0 [a0,a1,a2]) [.code (cd 147 [])] false 0 0 0 [] A=(knW Tryz.prog W0 m0 212 [a0,a1,a2] A fun t0 At0=>Aa (Ar t0 0) fun t1=>Aa (Ar t0 1) fun t2=>Aa (Ah Tryz.prog .neq 214 (.tmp 17) (.const .nilIface) t2 .nilIface) fun t3=>Ae t3 (Wc Tryz.prog Af W0 m0 213 [(.string ⟨⟨[80,97,114,115,101,85,105,110,116]⟩⟩),a0,a1,a2,t2] At0 fun t4 At4=>Q (.tuple ⟨[t1,t4]⟩) At4) (Q (.tuple ⟨[t1,.nilIface]⟩) At0)):=by kernel_rfl
theorem n147(a0 a1 a2:Value):AD Tryz.prog 147 [a0,a1,a2] .normal=some (frM 147 (Tm.fill ⟨26,.nil⟩ 0 [a0,a1,a2]) [.code (cd 147 [])] false):=by kernel_rfl
theorem Ad7:Wf3 147 26 Acq Ac2:=wf3 n147 (by decide) fun _ _ _=>rfl
noncomputable def Ab8:Nat→List Item:=fun i=>match i with
 |_=>[]
def AcL:Nat→List Tmp:=fun i=>match i with
 |_=>[]
theorem AeR(a0 a1 a2 a3 a4:Value)(A:AW):AM Tryz.prog Af W0 m0 213 Ab8 AcL S Q none 4000 (Tm.fill ⟨43,.nil⟩ 0 [a0,a1,a2,a3,a4]) [.code (cd 213 [])] false 0 0 0 [] A=(Aa (Eo Tryz.prog 304 (.int .i64 2)) fun t0=>Aa (Ah Tryz.prog .eql 214 (.tmp 11) (.tmp 13) a4 t0) fun t1=>Ae t1 (Wc Tryz.prog Af W0 m0 258 [a0,a1] A fun t2 At2=>Aa (Eo Tryz.prog 306 t2) fun t3=>Q t3 At2) (Aa (Eo Tryz.prog 304 (.int .i64 1)) fun t4=>Aa (Ah Tryz.prog .eql 214 (.tmp 11) (.tmp 20) a4 t4) fun t5=>Ae t5 (Wc Tryz.prog Af W0 m0 259 [a0,a1] A fun t6 At6=>Aa (Eo Tryz.prog 306 t6) fun t7=>Q t7 At6) (Aa (Eo Tryz.prog 304 (.int .i64 3)) fun t8=>Aa (Ah Tryz.prog .eql 214 (.tmp 11) (.tmp 27) a4 t8) fun t9=>Ae t9 (Wc Tryz.prog Af W0 m0 260 [a0,a1,a2] A fun t10 At10=>Aa (Eo Tryz.prog 306 t10) fun t11=>Q t11 At10) (Aa (Eo Tryz.prog 304 (.int .i64 4)) fun t12=>Aa (Ah Tryz.prog .eql 214 (.tmp 11) (.tmp 35) a4 t12) fun t13=>Ae t13 (Wc Tryz.prog Af W0 m0 261 [a0,a1,a3] A fun t14 At14=>Aa (Eo Tryz.prog 306 t14) fun t15=>Q t15 At14) (Q a4 A))))):=by kernel_rfl
theorem n213(a0 a1 a2 a3 a4:Value):AD Tryz.prog 213 [a0,a1,a2,a3,a4] .normal=some (frM 213 (Tm.fill ⟨43,.nil⟩ 0 [a0,a1,a2,a3,a4]) [.code (cd 213 [])] false):=by kernel_rfl
theorem AdR:Wf5 213 43 Ab8 AcL:=wf5 n213 (by decide) fun _ _ _ _ _=>rfl
noncomputable def Ab3:Nat→List Item:=fun i=>match i with
 |_=>[]
def AcG:Nat→List Tmp:=fun i=>match i with
 |_=>[]
theorem AeL(a0 a1:Value)(A:AW):AM Tryz.prog Af W0 m0 258 Ab3 AcG S Q none 4000 (Tm.fill ⟨11,.nil⟩ 0 [a0,a1]) [.code (cd 258 [])] false 0 0 0 [] A=(Aa (Ad Tryz.prog A 214 (.pointer (some ⟨3,0,none⟩))) fun t0=>Wc Tryz.prog Af W0 m0 298 [a1] A fun t1 At1=>Aa (Ad Tryz.prog At1 214 (.pointer (some ⟨3,0,none⟩))) fun t2=>eqW t2 t0 (eqW a0 a0 (Aa (Aw Tryz.prog 332 [(0,a0),(1,t1),(2,t0)]) fun t3=>Al (Cq At1 (Value.cells t3).toList 332) fun t4 At4=>Cm (Bi Tryz.prog (fun _=>t3) (.box 332 (.tmp 0))) At4 t4 (Aa (Aw Tryz.prog 332 [(0,a0),(1,t1),(2,t0)]) fun t5=>eqW t5 t3 (Aa (Ad Tryz.prog At4 214 (.pointer (some ⟨3,0,none⟩))) fun t6=>eqW t6 t0 (eqW a1 a1 (eqW a0 a0 (Q t4 At4)))))))):=by kernel_rfl
theorem n258(a0 a1:Value):AD Tryz.prog 258 [a0,a1] .normal=some (frM 258 (Tm.fill ⟨11,.nil⟩ 0 [a0,a1]) [.code (cd 258 [])] false):=by kernel_rfl
theorem AdL:Wf2 258 11 Ab3 AcG:=wf2 n258 (by decide) fun _ _=>rfl
noncomputable def Ab2:Nat→List Item:=fun i=>match i with
 |_=>[]
def AcF:Nat→List Tmp:=fun i=>match i with
 |_=>[]
theorem AeK(a0 a1:Value)(A:AW):AM Tryz.prog Af W0 m0 259 Ab2 AcF S Q none 4000 (Tm.fill ⟨11,.nil⟩ 0 [a0,a1]) [.code (cd 259 [])] false 0 0 0 [] A=(Aa (Ad Tryz.prog A 214 (.pointer (some ⟨4,0,none⟩))) fun t0=>Wc Tryz.prog Af W0 m0 298 [a1] A fun t1 At1=>Aa (Ad Tryz.prog At1 214 (.pointer (some ⟨4,0,none⟩))) fun t2=>eqW t2 t0 (eqW a0 a0 (Aa (Aw Tryz.prog 332 [(0,a0),(1,t1),(2,t0)]) fun t3=>Al (Cq At1 (Value.cells t3).toList 332) fun t4 At4=>Cm (Bi Tryz.prog (fun _=>t3) (.box 332 (.tmp 0))) At4 t4 (Aa (Aw Tryz.prog 332 [(0,a0),(1,t1),(2,t0)]) fun t5=>eqW t5 t3 (Aa (Ad Tryz.prog At4 214 (.pointer (some ⟨4,0,none⟩))) fun t6=>eqW t6 t0 (eqW a1 a1 (eqW a0 a0 (Q t4 At4)))))))):=by kernel_rfl
theorem n259(a0 a1:Value):AD Tryz.prog 259 [a0,a1] .normal=some (frM 259 (Tm.fill ⟨11,.nil⟩ 0 [a0,a1]) [.code (cd 259 [])] false):=by kernel_rfl
theorem AdK:Wf2 259 11 Ab2 AcF:=wf2 n259 (by decide) fun _ _=>rfl
noncomputable def Ab1:Nat→List Item:=fun i=>match i with
 |_=>[]
def AcD:Nat→List Tmp:=fun i=>match i with
 |_=>[]
theorem AeI(a0:Value)(A:AW):AM Tryz.prog Af W0 m0 298 Ab1 AcD S Q none 4000 (Tm.fill ⟨18,.nil⟩ 0 [a0]) [.code (cd 298 [])] false 0 0 0 [] A=(Aa (Br Tryz.prog A 9 a0) fun t0=>Aa (Ah Tryz.prog .eql 3 (.tmp 5) (.const (.int .i64 0)) t0 (.int .i64 0)) fun t1=>Ae t1 (Q (.string ⟨⟨[]⟩⟩) A) (Aa (Br Tryz.prog A 9 a0) fun t2=>Al (Cs Tryz.prog A 52 t2 t2) fun t3 At3=>Al (G0 Tryz.prog At3 52 t3 a0) fun _ At4=>Aa (Aj Tryz.prog 52 t3 (.int .i64 0)) fun t5=>Aa (Br Tryz.prog At4 52 t3) fun t6=>anW Tryz.prog Af W0 m0 (Ca Tryz.prog At4 .unsafeString [330,3] 9 [t5,t6]) fun t7 At7=>Q t7 At7)):=by kernel_rfl
theorem n298(a0:Value):AD Tryz.prog 298 [a0] .normal=some (frM 298 (Tm.fill ⟨18,.nil⟩ 0 [a0]) [.code (cd 298 [])] false):=by kernel_rfl
theorem AdI:Wf1 298 18 Ab1 AcD:=wf1 n298 (by decide) fun _=>rfl
noncomputable def T80:Nat→List Item:=fun i=>match i with
 |_=>[]
def L80:Nat→List Tmp:=fun i=>match i with
 |_=>[]
noncomputable def OG(W0:World)(m0:Inj Tryz.prog)(Q:Value→AW→Prop)(a0:Value)(x0:Value)(X2:AW):Prop:=Aa (Ac Tryz.prog 50 x0 1) fun b1=>AQ (Am Tryz.prog X2 47 b1 (.int .u8 4)) fun B3=>Aa (Ac Tryz.prog 50 x0 4) fun b4=>AQ (Am Tryz.prog B3 22 b4 (.int .u32 0)) fun B5=>Aa (Ac Tryz.prog 50 x0 5) fun b6=>AQ (Am Tryz.prog B5 22 b6 (.int .u32 0)) fun B7=>Aa (Ad Tryz.prog B7 50 x0) fun b8=>Wc Tryz.prog Af W0 m0 46 [b8] B7 fun b9 B10=>Aa (Ar b9 0) fun b11=>Aa (Ar b9 1) fun _=>Aa (Ar b9 2) fun _=>AQ (Am Tryz.prog B10 50 x0 b11) fun B14=>Aa (BQ a0) fun b15=>Aa (Ac Tryz.prog 79 b15 3) fun b16=>Aa (Ad Tryz.prog B14 75 b16) fun b17=>Aa (Ac Tryz.prog 50 x0 0) fun b18=>Aa (Ad Tryz.prog B14 24 b18) fun b19=>Aa (Ad Tryz.prog B14 50 x0) fun b20=>AQ (BV Tryz.prog B14 75 b17 b19 b20) fun B21=>Aa (Ad Tryz.prog B21 50 x0) fun b22=>Wc Tryz.prog Af W0 m0 47 [a0,b22] B21 fun _ B24=>Q (.tuple ⟨[]⟩) B24
noncomputable def Rn(W0:World)(m0:Inj Tryz.prog)(Q:Value→AW→Prop)(a0:Value)(X2:AW)(x4:Value):Prop:=Aa (BQ a0) fun b0=>Aa (Ac Tryz.prog 79 b0 3) fun b1=>Aa (Ad Tryz.prog X2 75 b1) fun b3=>Aa (Ac Tryz.prog 50 x4 0) fun b5=>Aa (Ad Tryz.prog X2 24 b5) fun b6=>Aa (Ad Tryz.prog X2 50 x4) fun b7=>AQ (BV Tryz.prog X2 75 b3 b6 b7) fun B8=>Aa (Ad Tryz.prog B8 50 x4) fun b9=>Wc Tryz.prog Af W0 m0 47 [a0,b9] B8 fun _ B11=>Q (.tuple ⟨[]⟩) B11
theorem e80(a0 a1 a2 a3 a4:Value)(A:AW):AM Tryz.prog Af W0 m0 80 T80 L80 S Q none 4000 (Tm.fill ⟨57,.nil⟩ 0 [a0,a1,a2,a3,a4]) [.code (cd 80 [])] false 0 0 0 [] A=(Al (Cq A (Value.cells a1).toList 50) fun t0 At0=>Al (Cq At0 (Value.cells a4).toList 135) fun t1 At1=>Aa (Ad Tryz.prog At1 50 t0) fun t2=>Wc Tryz.prog Af W0 m0 39 [t2] At1 fun t3 At3=>AQ (Am Tryz.prog At3 50 t0 t3) fun At4=>Ae a3 (Aa (Ac Tryz.prog 50 t0 3) fun t5=>Aa (Ad Tryz.prog At4 48 t5) fun t6=>Aa (Ad Tryz.prog At4 135 t1) fun t7=>Aa (Aj Tryz.prog 48 t6 a2) fun t8=>AQ (Am Tryz.prog At4 135 t8 t7) fun At9=>Aa (Ac Tryz.prog 50 t0 1) fun t10=>Aa (Ad Tryz.prog At9 47 t10) fun t11=>Aa (Ah Tryz.prog .eql 47 (.tmp 36) (.const (.int .u8 5)) t11 (.int .u8 5)) fun t12=>Ae t12 (OG W0 m0 Q a0 t0 At9) (Rn W0 m0 Q a0 At9 t0)) (Aa (Ah Tryz.prog .lss 3 (.tmp 27) (.const (.int .i64 0)) a2 (.int .i64 0)) fun t43=>Ae t43 (Aa (Ac Tryz.prog 50 t0 3) fun t44=>Aa (Ad Tryz.prog At4 48 t44) fun t45=>Aa (Ad Tryz.prog At4 135 t1) fun t46=>Al (Aq Tryz.prog At4 48 1 [(0,t46)]) fun t47 At47=>Al (AT Tryz.prog At47 48 48 t45 t47) fun t48 At48=>Aa (Ac Tryz.prog 50 t0 3) fun t49=>AQ (Am Tryz.prog At48 48 t49 t48) fun At50=>Aa (Ac Tryz.prog 50 t0 1) fun t51=>Aa (Ad Tryz.prog At50 47 t51) fun t52=>Aa (Ah Tryz.prog .eql 47 (.tmp 36) (.const (.int .u8 5)) t52 (.int .u8 5)) fun t53=>Ae t53 (OG W0 m0 Q a0 t0 At50) (Rn W0 m0 Q a0 At50 t0)) (Aa (Ac Tryz.prog 50 t0 3) fun t84=>Aa (Ad Tryz.prog At4 48 t84) fun t85=>Aa (Ad Tryz.prog At4 135 t1) fun t86=>Al (Aq Tryz.prog At4 48 1 [(0,t86)]) fun t87 At87=>Wc Tryz.prog Af W0 m0 148 [t85,a2,t87] At87 fun t88 At88=>Aa (Ac Tryz.prog 50 t0 3) fun t89=>AQ (Am Tryz.prog At88 48 t89 t88) fun At90=>Aa (Ac Tryz.prog 50 t0 1) fun t91=>Aa (Ad Tryz.prog At90 47 t91) fun t92=>Aa (Ah Tryz.prog .eql 47 (.tmp 36) (.const (.int .u8 5)) t92 (.int .u8 5)) fun t93=>Ae t93 (OG W0 m0 Q a0 t0 At90) (Rn W0 m0 Q a0 At90 t0)))):=by kernel_rfl
theorem n80(a0 a1 a2 a3 a4:Value):AD Tryz.prog 80 [a0,a1,a2,a3,a4] .normal=some (frM 80 (Tm.fill ⟨57,.nil⟩ 0 [a0,a1,a2,a3,a4]) [.code (cd 80 [])] false):=by kernel_rfl
theorem w80:Wf5 80 57 T80 L80:=wf5 n80 (by decide) fun _ _ _ _ _=>rfl
noncomputable def T36:Nat→List Item:=fun i=>match i with
 |1=>[(.code (cd 36 [1,1,1,1,1,0,1,0,0])),(.inLoop (cd 36 [1,1,1,1,1,0,1,0,0])),(.inBlock 1),(.code (cd 36 [1,1,1,1,1,1]))]
 |_=>[]
def L36:Nat→List Tmp:=fun i=>match i with
 |1=>[3,5,6,8,32,33,34]
 |_=>[]
theorem e36(a0 a1 a2:Value)(A:AW):AM Tryz.prog Af W0 m0 36 T36 L36 S Q none 4000 (Tm.fill ⟨99,.nil⟩ 0 [a0,a1,a2]) [.code (cd 36 [])] false 0 0 0 [] A=(Al (Cq A (Value.cells a0).toList 50) fun t0 At0=>Al (Cq At0 (Value.cells a1).toList 5) fun t1 At1=>Al (Cq At1 (Value.cells a2).toList 38) fun t2 At2=>Al (Cd Tryz.prog At2 50) fun t3 At3=>Aa (Ad Tryz.prog At3 50 t0) fun t4=>Wc Tryz.prog Af W0 m0 81 [t4] At3 fun t5 At5=>Aa (Ah Tryz.prog .neq 28 (.tmp 15) (.const (.int .i64 0)) t5 (.int .i64 0)) fun t6=>Ae t6 (Aa (Aw Tryz.prog 50 []) fun t7=>AQ (Am Tryz.prog At5 50 t3 t7) fun At8=>Aa (Ad Tryz.prog At8 50 t3) fun t9=>Q (.tuple ⟨[t9,(.int .i64 270)]⟩) At8) (Aa (Ad Tryz.prog At5 38 t2) fun t10=>Wc Tryz.prog Af W0 m0 82 [t10] At5 fun t11 At11=>Aa (Ah Tryz.prog .neq 28 (.tmp 20) (.const (.int .i64 0)) t11 (.int .i64 0)) fun t12=>Ae t12 (Aa (Aw Tryz.prog 50 []) fun t13=>AQ (Am Tryz.prog At11 50 t3 t13) fun At14=>Aa (Ad Tryz.prog At14 50 t3) fun t15=>Q (.tuple ⟨[t15,(.int .i64 250)]⟩) At14) (Aa (Ad Tryz.prog At11 50 t0) fun t16=>Wc Tryz.prog Af W0 m0 83 [t16] At11 fun t17 At17=>AQ (Am Tryz.prog At17 50 t0 t17) fun At18=>Aa (Ac Tryz.prog 50 t0 3) fun t19=>Aa (Ad Tryz.prog At18 48 t19) fun t20=>Wc Tryz.prog Af W0 m0 78 [t20,(.func (.func 84) ⟨[]⟩ ⟨[t1,t2]⟩)] At18 fun t21 At21=>Aa (Ah Tryz.prog .lss 3 (.tmp 29) (.const (.int .i64 0)) t21 (.int .i64 0)) fun t22=>Ae t22 (Aa (Ad Tryz.prog At21 50 t0) fun t23=>AQ (Am Tryz.prog At21 50 t3 t23) fun At24=>Aa (Ad Tryz.prog At24 50 t3) fun t25=>Q (.tuple ⟨[t25,(.int .i64 0)]⟩) At24) (Wc Tryz.prog Af W0 m0 85 [] At21 fun t26 At26=>Aa (Br Tryz.prog At26 155 t26) fun t27=>BX (T36 1) (T36 1) (S 1 [t0,t2,t3,t21,t26,t27,(.int .i64 0)] At26))))):=by kernel_rfl
theorem Abm(d:Nat→Value)(A:AW):AM Tryz.prog Af W0 m0 36 T36 L36 S Q none 4000 (DD 99 d) (T36 1) false 0 0 0 [] A=(Aa (Ah Tryz.prog .lss 3 (.tmp 34) (.tmp 33) (d 34) (d 33)) fun t0=>Ae t0 (Aa (Aj Tryz.prog 155 (d 32) (d 34)) fun t1=>Aa (Ad Tryz.prog A 159 t1) fun t2=>Al (Cd Tryz.prog A 159) fun t3 At3=>AQ (Am Tryz.prog At3 159 t3 t2) fun At4=>Aa (Ac Tryz.prog 159 t3 0) fun t5=>Aa (Ad Tryz.prog At4 47 t5) fun t6=>Aa (Ac Tryz.prog 50 (d 3) 1) fun t7=>Aa (Ad Tryz.prog At4 47 t7) fun t8=>Aa (Ah Tryz.prog .neq 47 (.tmp 39) (.tmp 41) t6 t8) fun t9=>Ae t9 (Aa (Ah Tryz.prog .add 3 (.tmp 34) (.const (.int .i64 1)) (d 34) (.int .i64 1)) fun t10=>BX (T36 1) (T36 1) (S 1 [(d 3),(d 5),(d 6),(d 8),(d 32),(d 33),t10] At4)) (Aa (Ac Tryz.prog 159 t3 1) fun t11=>Aa (Ad Tryz.prog At4 133 t11) fun t12=>Aa (Ac Tryz.prog 50 (d 3) 3) fun t13=>Aa (Ad Tryz.prog At4 48 t13) fun t14=>Aa (Aj Tryz.prog 48 t14 (d 8)) fun t15=>Aa (Ac Tryz.prog 135 t15 2) fun t16=>Aa (Ad Tryz.prog At4 133 t16) fun t17=>Aa (Ah Tryz.prog .neq 133 (.tmp 45) (.tmp 51) t12 t17) fun t18=>Ae t18 (Aa (Ah Tryz.prog .add 3 (.tmp 34) (.const (.int .i64 1)) (d 34) (.int .i64 1)) fun t19=>BX (T36 1) (T36 1) (S 1 [(d 3),(d 5),(d 6),(d 8),(d 32),(d 33),t19] At4)) (Aa (Ac Tryz.prog 159 t3 2) fun t20=>Aa (Ad Tryz.prog At4 5 t20) fun t21=>Aa (Ah Tryz.prog .add 5 (.tmp 56) (.const (.int .u8 16)) t21 (.int .u8 16)) fun t22=>Aa (Ac Tryz.prog 38 (d 5) 0) fun t23=>Aa (Ad Tryz.prog At4 5 t23) fun t24=>Aa (Ah Tryz.prog .neq 5 (.tmp 57) (.tmp 59) t22 t24) fun t25=>Ae t25 (Aa (Ah Tryz.prog .add 3 (.tmp 34) (.const (.int .i64 1)) (d 34) (.int .i64 1)) fun t26=>BX (T36 1) (T36 1) (S 1 [(d 3),(d 5),(d 6),(d 8),(d 32),(d 33),t26] At4)) (Aa (Ac Tryz.prog 159 t3 3) fun t27=>Aa (Ad Tryz.prog At4 157 t27) fun t28=>Aa (Ac Tryz.prog 38 (d 5) 2) fun t29=>Aa (Ad Tryz.prog At4 35 t29) fun t30=>Aa (Ac Tryz.prog 38 (d 5) 3) fun t31=>Aa (Ad Tryz.prog At4 36 t31) fun t32=>anW Tryz.prog Af W0 m0 (EL Tryz.prog Af At4 t28 [t30,t32]) fun t33 At33=>Aa (Ar t33 0) fun t34=>Aa (Ar t33 1) fun t35=>Aa (unA Tryz.prog .not t35) fun t36=>Ae t36 (Aa (Ad Tryz.prog At33 50 (d 3)) fun t37=>AQ (Am Tryz.prog At33 50 (d 6) t37) fun At38=>Aa (Ad Tryz.prog At38 50 (d 6)) fun t39=>Q (.tuple ⟨[t39,(.int .i64 0)]⟩) At38) (Aa (Ac Tryz.prog 50 (d 3) 3) fun t40=>Aa (Ad Tryz.prog At33 48 t40) fun t41=>Aa (Aj Tryz.prog 48 t41 (d 8)) fun t42=>Aa (Ac Tryz.prog 135 t42 2) fun t43=>AQ (Am Tryz.prog At33 133 t43 t34) fun At44=>Aa (Ac Tryz.prog 50 (d 3) 1) fun t45=>Aa (Ad Tryz.prog At44 47 t45) fun t46=>Aa (Ah Tryz.prog .eql 47 (.tmp 82) (.const (.int .u8 2)) t46 (.int .u8 2)) fun t47=>Ae t47 (Aa (Ah Tryz.prog .eql 133 (.tmp 85) (.const (.int .u8 2)) t34 (.int .u8 2)) fun t48=>Ae t48 (Aa (Ac Tryz.prog 38 (d 5) 2) fun t49=>Aa (Ad Tryz.prog At44 35 t49) fun t50=>Aa (Ah Tryz.prog .neq 35 (.tmp 90) (.const (.int .u8 7)) t50 (.int .u8 7)) fun t51=>Ae t51 (Aa (Ad Tryz.prog At44 50 (d 3)) fun t52=>Wc Tryz.prog Af W0 m0 86 [t52,(.int .u8 4)] At44 fun t53 At53=>AQ (Am Tryz.prog At53 50 (d 6) t53) fun At54=>Aa (Ad Tryz.prog At54 50 (d 6)) fun t55=>Q (.tuple ⟨[t55,(.int .i64 0)]⟩) At54) (Aa (Ad Tryz.prog At44 50 (d 3)) fun t56=>Wc Tryz.prog Af W0 m0 87 [t56] At44 fun t57 At57=>AQ (Am Tryz.prog At57 50 (d 6) t57) fun At58=>Aa (Ad Tryz.prog At58 50 (d 6)) fun t59=>Q (.tuple ⟨[t59,(.int .i64 0)]⟩) At58)) (Aa (Ad Tryz.prog At44 50 (d 3)) fun t60=>Wc Tryz.prog Af W0 m0 87 [t60] At44 fun t61 At61=>AQ (Am Tryz.prog At61 50 (d 6) t61) fun At62=>Aa (Ad Tryz.prog At62 50 (d 6)) fun t63=>Q (.tuple ⟨[t63,(.int .i64 0)]⟩) At62)) (Aa (Ad Tryz.prog At44 50 (d 3)) fun t64=>Wc Tryz.prog Af W0 m0 87 [t64] At44 fun t65 At65=>AQ (Am Tryz.prog At65 50 (d 6) t65) fun At66=>Aa (Ad Tryz.prog At66 50 (d 6)) fun t67=>Q (.tuple ⟨[t67,(.int .i64 0)]⟩) At66)))))) (Aa (Ad Tryz.prog A 50 (d 3)) fun t68=>AQ (Am Tryz.prog A 50 (d 6) t68) fun At69=>Aa (Ad Tryz.prog At69 50 (d 6)) fun t70=>Q (.tuple ⟨[t70,(.int .i64 0)]⟩) At69)):=by kernel_rfl
theorem n36(a0 a1 a2:Value):AD Tryz.prog 36 [a0,a1,a2] .normal=some (frM 36 (Tm.fill ⟨99,.nil⟩ 0 [a0,a1,a2]) [.code (cd 36 [])] false):=by kernel_rfl
theorem w36:Wf3 36 99 T36 L36:=wf3 n36 (by decide) fun _ _ _=>rfl
theorem c36:Fy 36 99 T36 L36:=Ga (by decide)
noncomputable def T84:Nat→List Item:=fun i=>match i with
 |_=>[]
def L84:Nat→List Tmp:=fun i=>match i with
 |_=>[]
theorem e84(a0 a1 a2:Value)(A:AW):AM Tryz.prog Af W0 m0 84 T84 L84 S Q none 4000 (Tm.fill ⟨16,.nil⟩ 0 [a0,a1,a2]) [.code (cd 84 [])] false 0 0 0 [] A=(Al (Cq A (Value.cells a0).toList 135) fun t0 At0=>Aa (Ac Tryz.prog 135 t0 0) fun t1=>Aa (Ad Tryz.prog At0 5 t1) fun t2=>Aa (Ad Tryz.prog At0 5 a1) fun t3=>Aa (Ah Tryz.prog .eql 5 (.tmp 6) (.tmp 7) t2 t3) fun t4=>Ae t4 (Aa (Ac Tryz.prog 135 t0 1) fun t5=>Aa (Ad Tryz.prog At0 24 t5) fun t6=>Aa (Ac Tryz.prog 38 a2 1) fun t7=>Aa (Ad Tryz.prog At0 24 t7) fun t8=>Aa (Ah Tryz.prog .eql 24 (.tmp 11) (.tmp 13) t6 t8) fun t9=>Q t9 At0) (Q (.bool false) At0)):=by kernel_rfl
theorem n84(a0 a1 a2:Value):AD Tryz.prog 84 [a0,a1,a2] .normal=some (frM 84 (Tm.fill ⟨16,.nil⟩ 0 [a0,a1,a2]) [.code (cd 84 [])] false):=by kernel_rfl
theorem w84:Wf3 84 16 T84 L84:=wf3 n84 (by decide) fun _ _ _=>rfl
noncomputable def T79:Nat→List Item:=fun i=>match i with
 |_=>[]
def L79:Nat→List Tmp:=fun i=>match i with
 |_=>[]
theorem e79(a0 a1:Value)(A:AW):AM Tryz.prog Af W0 m0 79 T79 L79 S Q none 4000 (Tm.fill ⟨8,.nil⟩ 0 [a0,a1]) [.code (cd 79 [])] false 0 0 0 [] A=(Al (Cq A (Value.cells a0).toList 135) fun t0 At0=>Aa (Ac Tryz.prog 135 t0 0) fun t1=>Aa (Ad Tryz.prog At0 5 t1) fun t2=>Aa (Ad Tryz.prog At0 5 a1) fun t3=>Aa (Ah Tryz.prog .geq 5 (.tmp 5) (.tmp 6) t2 t3) fun t4=>Q t4 At0):=by kernel_rfl
theorem n79(a0 a1:Value):AD Tryz.prog 79 [a0,a1] .normal=some (frM 79 (Tm.fill ⟨8,.nil⟩ 0 [a0,a1]) [.code (cd 79 [])] false):=by kernel_rfl
theorem w79:Wf2 79 8 T79 L79:=wf2 n79 (by decide) fun _ _=>rfl
noncomputable def T39:Nat→List Item:=fun i=>match i with
 |_=>[]
def L39:Nat→List Tmp:=fun i=>match i with
 |_=>[]
theorem e39(a0:Value)(A:AW):AM Tryz.prog Af W0 m0 39 T39 L39 S Q none 4000 (Tm.fill ⟨8,.nil⟩ 0 [a0]) [.code (cd 39 [])] false 0 0 0 [] A=(Al (Cq A (Value.cells a0).toList 50) fun t0 At0=>Al (Cd Tryz.prog At0 50) fun t1 At1=>Aa (Ac Tryz.prog 50 t0 3) fun t2=>Aa (Ad Tryz.prog At1 48 t2) fun t3=>Wc Tryz.prog Af W0 m0 66 [t3] At1 fun t4 At4=>Aa (Ac Tryz.prog 50 t0 3) fun t5=>AQ (Am Tryz.prog At4 48 t5 t4) fun At6=>Aa (Ad Tryz.prog At6 50 t0) fun t7=>AQ (Am Tryz.prog At6 50 t1 t7) fun At8=>Aa (Ad Tryz.prog At8 50 t1) fun t9=>Q t9 At8):=by kernel_rfl
theorem n39(a0:Value):AD Tryz.prog 39 [a0] .normal=some (frM 39 (Tm.fill ⟨8,.nil⟩ 0 [a0]) [.code (cd 39 [])] false):=by kernel_rfl
theorem w39:Wf1 39 8 T39 L39:=wf1 n39 (by decide) fun _=>rfl
noncomputable def T13:Nat→List Item:=fun i=>match i with
 |0=>[(.code (cd 13 [1,1,1,0,1,0,0])),(.inLoop (cd 13 [1,1,1,0,1,0,0])),(.inBlock 0),(.code (cd 13 [1,1,1,1]))]
 |_=>[]
def L13:Nat→List Tmp:=fun i=>match i with
 |0=>[0,3,10,11,12]
 |_=>[]
theorem e13(a0:Value)(A:AW):AM Tryz.prog Af W0 m0 13 T13 L13 S Q none 4000 (Tm.fill ⟨28,.nil⟩ 0 [a0]) [.code (cd 13 [])] false 0 0 0 [] A=(Wc Tryz.prog Af W0 m0 26 [a0] A fun t0 At0=>Aa (unA Tryz.prog .not t0) fun t1=>Ae t1 (Q (.slice none 0 0) At0) (Wc Tryz.prog Af W0 m0 38 [a0] At0 fun t2 At2=>Aa (Br Tryz.prog At2 34 t2) fun t3=>BX (T13 0) (T13 0) (S 0 [a0,(.slice none 0 0),t2,t3,(.int .i64 0)] At2))):=by kernel_rfl
theorem Yv(d:Nat→Value)(A:AW):AM Tryz.prog Af W0 m0 13 T13 L13 S Q none 4000 (DD 28 d) (T13 0) false 0 0 0 [] A=(Aa (Ah Tryz.prog .lss 3 (.tmp 12) (.tmp 11) (d 12) (d 11)) fun t0=>Ae t0 (Aa (Aj Tryz.prog 34 (d 10) (d 12)) fun t1=>Aa (Ad Tryz.prog A 24 t1) fun t2=>Al (Cd Tryz.prog A 24) fun t3 At3=>AQ (Am Tryz.prog At3 24 t3 t2) fun At4=>Aa (BQ (d 0)) fun t5=>Aa (Ac Tryz.prog 79 t5 3) fun t6=>Aa (Ad Tryz.prog At4 75 t6) fun t7=>Aa (Ad Tryz.prog At4 24 t3) fun t8=>Aa (C5 Tryz.prog At4 75 t7 t8 false) fun t9=>Wc Tryz.prog Af W0 m0 39 [t9] At4 fun t10 At10=>eqW (d 3) (d 3) (Al (Aq Tryz.prog At10 43 1 [(0,t10)]) fun t11 At11=>Cm (Bi Tryz.prog (BJ (Tm.fill ⟨1,.nil⟩ 0 [t10])) (.buildSlice 43 1 #[(0,.tmp 0)])) At11 t11 (Aa (C5 Tryz.prog At11 75 t7 t8 false) fun t12=>eqW t12 t9 (Aa (Ad Tryz.prog At11 24 t3) fun t13=>eqW t13 t8 (Aa (Ad Tryz.prog At11 75 t6) fun t14=>eqW t14 t7 (Aa (Ac Tryz.prog 79 t5 3) fun t15=>eqW t15 t6 (Aa (BQ (d 0)) fun t16=>eqW t16 t5 (eqW (d 0) (d 0) (eqW (d 3) (d 3) (Al (AT Tryz.prog At11 43 43 (d 3) t11) fun t17 At17=>Aa (Ah Tryz.prog .add 3 (.tmp 12) (.const (.int .i64 1)) (d 12) (.int .i64 1)) fun t18=>BX (T13 0) (T13 0) (S 0 [(d 0),t17,(d 10),(d 11),t18] At17))))))))))) (Q (d 3) A)):=by kernel_rfl
theorem n13(a0:Value):AD Tryz.prog 13 [a0] .normal=some (frM 13 (Tm.fill ⟨28,.nil⟩ 0 [a0]) [.code (cd 13 [])] false):=by kernel_rfl
theorem w13:Wf1 13 28 T13 L13:=wf1 n13 (by decide) fun _=>rfl
theorem c13:Fy 13 28 T13 L13:=Ga (by decide)
noncomputable def T91:Nat→List Item:=fun i=>match i with
 |_=>[]
def L91:Nat→List Tmp:=fun i=>match i with
 |_=>[]
theorem e91(a0 a1:Value)(A:AW):AM Tryz.prog Af W0 m0 91 T91 L91 S Q none 4000 (Tm.fill ⟨42,.nil⟩ 0 [a0,a1]) [.code (cd 91 [])] false 0 0 0 [] A=(Al (Cq A (Value.cells a1).toList 24) fun t0 At0=>Wc Tryz.prog Af W0 m0 63 [a0] At0 fun t1 At1=>Aa (unA Tryz.prog .not t1) fun t2=>Ae t2 (Q (.int .i64 1) At1) (Al (Cd Tryz.prog At1 83) fun t3 At3=>Cm (Bi Tryz.prog (fun _=>undef) (.alloc 83)) At3 t3 (Aa (BQ a0) fun t4=>Aa (Ac Tryz.prog 121 t4 2) fun t5=>Aa (Ad Tryz.prog At3 119 t5) fun t6=>Aa (Ad Tryz.prog At3 24 t0) fun t7=>Aa (C5 Tryz.prog At3 119 t6 t7 true) fun t8=>Aa (Ar t8 0) fun t9=>Aa (Ar t8 1) fun t10=>AQ (Am Tryz.prog At3 83 t3 t9) fun At11=>Aa (Ar t8 1) fun t12=>eqW t12 t10 (Aa (unA Tryz.prog .not t10) fun t13=>Ae t13 (Q (.int .i64 7) At11) (Aa (BQ a0) fun t14=>Aa (Ac Tryz.prog 121 t14 0) fun t15=>Aa (Ad Tryz.prog At11 116 t15) fun t16=>Aa (Ad Tryz.prog At11 24 t0) fun t17=>Wc Tryz.prog Af W0 m0 160 [(.slice none 0 0),t17] At11 fun t18 At18=>Aa (Ad Tryz.prog At18 116 t15) fun t19=>eqW t19 t16 (Aa (Ac Tryz.prog 121 t14 0) fun t20=>eqW t20 t15 (Aa (BQ a0) fun t21=>eqW t21 t14 (eqW a0 a0 (Al (AK Tryz.prog At18 52 9 t18) fun t22 At22=>Aa (Aw Tryz.prog 128 [(0,(.int .u8 2)),(1,t22)]) fun t23=>Wc Tryz.prog Af W0 m0 159 [t16,t23] At22 fun t24 At24=>Wc Tryz.prog Af W0 m0 60 [t24] At24 fun t25 At25=>Aa (Ah Tryz.prog .neq 28 (.tmp 32) (.const (.int .i64 0)) t25 (.int .i64 0)) fun t26=>Ae t26 (Q t25 At25) (Aa (BQ a0) fun t27=>Aa (Ac Tryz.prog 121 t27 2) fun t28=>Aa (Ad Tryz.prog At25 119 t28) fun t29=>Aa (Ad Tryz.prog At25 24 t0) fun t30=>AQ (Fw Tryz.prog At25 119 t29 t30) fun At31=>Wc Tryz.prog Af W0 m0 161 [a0] At31 fun t32 At32=>Q t32 At32)))))))))):=by kernel_rfl
theorem n91(a0 a1:Value):AD Tryz.prog 91 [a0,a1] .normal=some (frM 91 (Tm.fill ⟨42,.nil⟩ 0 [a0,a1]) [.code (cd 91 [])] false):=by kernel_rfl
theorem w91:Wf2 91 42 T91 L91:=wf2 n91 (by decide) fun _ _=>rfl
noncomputable def T92:Nat→List Item:=fun i=>match i with
 |_=>[]
def L92:Nat→List Tmp:=fun i=>match i with
 |_=>[]
theorem e92(a0 a1:Value)(A:AW):AM Tryz.prog Af W0 m0 92 T92 L92 S Q none 4000 (Tm.fill ⟨9,.nil⟩ 0 [a0,a1]) [.code (cd 92 [])] false 0 0 0 [] A=(Al (Cq A (Value.cells a0).toList 50) fun t0 At0=>Al (Cq At0 (Value.cells a1).toList 223) fun t1 At1=>Aa (Ac Tryz.prog 50 t0 3) fun t2=>Aa (Ad Tryz.prog At1 48 t2) fun t3=>Wc Tryz.prog Af W0 m0 162 [t3,(.func (.func 163) ⟨[]⟩ ⟨[t1]⟩)] At1 fun t4 At4=>Q t4 At4):=by kernel_rfl
theorem n92(a0 a1:Value):AD Tryz.prog 92 [a0,a1] .normal=some (frM 92 (Tm.fill ⟨9,.nil⟩ 0 [a0,a1]) [.code (cd 92 [])] false):=by kernel_rfl
theorem w92:Wf2 92 9 T92 L92:=wf2 n92 (by decide) fun _ _=>rfl
noncomputable def Ack:Nat→List Item:=fun i=>match i with
 |_=>[]
def AcW:Nat→List Tmp:=fun i=>match i with
 |_=>[]
theorem Ae4(a0 a1:Value)(A:AW):AM Tryz.prog Af W0 m0 163 Ack AcW S Q none 4000 (Tm.fill ⟨8,.nil⟩ 0 [a0,a1]) [.code (cd 163 [])] false 0 0 0 [] A=(Al (Cq A (Value.cells a0).toList 135) fun t0 At0=>Aa (Ad Tryz.prog At0 223 a1) fun t1=>Aa (Ac Tryz.prog 135 t0 2) fun t2=>Aa (Ad Tryz.prog At0 133 t2) fun t3=>Wc Tryz.prog Af W0 m0 164 [t1,t3] At0 fun t4 At4=>Q t4 At4):=by kernel_rfl
theorem n163(a0 a1:Value):AD Tryz.prog 163 [a0,a1] .normal=some (frM 163 (Tm.fill ⟨8,.nil⟩ 0 [a0,a1]) [.code (cd 163 [])] false):=by kernel_rfl
theorem Ad4:Wf2 163 8 Ack AcW:=wf2 n163 (by decide) fun _ _=>rfl
noncomputable def Acm:Nat→List Item:=fun i=>match i with
 |_=>[]
def AcY:Nat→List Tmp:=fun i=>match i with
 |_=>[]
theorem Ae5(a0 a1:Value)(A:AW):AM Tryz.prog Af W0 m0 154 Acm AcY S Q none 4000 (Tm.fill ⟨16,.nil⟩ 0 [a0,a1]) [.code (cd 154 [])] false 0 0 0 [] A=(Wc Tryz.prog Af W0 m0 220 [a0,a1] A fun t0 At0=>Ae t0 (Q (.tuple ⟨[(.int .u8 2),(.bool true)]⟩) At0) (Aa (Ah Tryz.prog .eql 35 (.tmp 11) (.const (.int .u8 4)) a0 (.int .u8 4)) fun t1=>Ae t1 (Q (.tuple ⟨[(.int .u8 3),(.bool true)]⟩) At0) (Aa (Ah Tryz.prog .eql 35 (.tmp 14) (.const (.int .u8 5)) a0 (.int .u8 5)) fun t2=>Ae t2 (Q (.tuple ⟨[(.int .u8 4),(.bool true)]⟩) At0) (Q (.tuple ⟨[(.int .u8 0),(.bool false)]⟩) At0)))):=by kernel_rfl
theorem n154(a0 a1:Value):AD Tryz.prog 154 [a0,a1] .normal=some (frM 154 (Tm.fill ⟨16,.nil⟩ 0 [a0,a1]) [.code (cd 154 [])] false):=by kernel_rfl
theorem Ad5:Wf2 154 16 Acm AcY:=wf2 n154 (by decide) fun _ _=>rfl
noncomputable def Ab5:Nat→List Item:=fun i=>match i with
 |_=>[]
def AcI:Nat→List Tmp:=fun i=>match i with
 |_=>[]
theorem AeO(a0 a1:Value)(A:AW):AM Tryz.prog Af W0 m0 220 Ab5 AcI S Q none 4000 (Tm.fill ⟨15,.nil⟩ 0 [a0,a1]) [.code (cd 220 [])] false 0 0 0 [] A=(Aa (Ah Tryz.prog .eql 35 (.tmp 5) (.const (.int .u8 0)) a0 (.int .u8 0)) fun t0=>Ae t0 (Aa (Ah Tryz.prog .eql 36 (.tmp 8) (.const (.int .u16 0)) a1 (.int .u16 0)) fun t1=>Ae t1 (Q (.bool true) A) (Aa (Ah Tryz.prog .eql 36 (.tmp 11) (.const (.int .u16 7)) a1 (.int .u16 7)) fun t2=>Q t2 A)) (Q (.bool false) A)):=by kernel_rfl
theorem n220(a0 a1:Value):AD Tryz.prog 220 [a0,a1] .normal=some (frM 220 (Tm.fill ⟨15,.nil⟩ 0 [a0,a1]) [.code (cd 220 [])] false):=by kernel_rfl
theorem AdO:Wf2 220 15 Ab5 AcI:=wf2 n220 (by decide) fun _ _=>rfl
end
end Go.Proofs.YtkjlldaddekegaaGreatDoor
namespace Go.Proofs.YtkjlldaddekegaaGreatDoor
def puR:Go.Shelf.Ren:=⟨fun | 287=>212 | 321=>256 | 322=>257 | 316=>298 | x=>x,fun | 37=>52 | 46=>140 | 53=>76 | 75=>214 | 80=>123 | 167=>304 | 127=>330 | x=>x,fun x=>x⟩
theorem puX:Lays.n287 Tryz.prog puR:=by apply Lays.n287.mk<;>(intros;kernel_rfl)
end Go.Proofs.YtkjlldaddekegaaGreatDoor
namespace Go.Abs
section
variable {P:Program}
theorem DR{d:Nat}{xs ys:Array Value}{f:Field}{fs:List Field}{a b:Value}{r:Bool}(hn:decide (f.name≠ "_")=true)(h1:quiet P (part f.type xs f.offset)=some a)(h2:quiet P (part f.type ys f.offset)=some b)(h3:quiet P (Op.equalIn d f.type a b)=some r):
  quiet P (Op.eqFields d xs ys (f::fs))=if r=true then quiet P (Op.eqFields d xs ys fs) else some false:=by
 simp only [Op.eqFields];rw [if_pos (of_decide_eq_true hn)];show quiet P (Sem.bind _ _)=_;rw [C0,h1];simp only [Option.bind_some];show quiet P (Sem.bind _ _)=_;rw [C0,h2];simp only [Option.bind_some];show quiet P (Sem.bind _ _)=_;rw [C0,h3];cases r<;>rfl
theorem bytes_beq(a b:ByteArray):(a==b)=(a.data.toList==b.data.toList):=by
 obtain ⟨⟨x⟩⟩:=a;obtain ⟨⟨y⟩⟩:=b;show ((⟨x⟩:Array UInt8)==⟨y⟩)=(x==y)
 simp
theorem Is{d:Nat}{t:TypeId}{a b:ByteArray}(h:quiet P (underlying t)=some .string):quiet P (Op.equalIn (d+1) t (.string a) (.string b))=some (a.data.toList==b.data.toList):=by
 rw [Ls d t a b h,bytes_beq]
end
end Go.Abs
