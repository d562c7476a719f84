/-
  This text prints what the functions reached ask of their memory, and shows what they answer. Conditions: none for the last theorem, those that each theorem states for the others.
-/
import Derived.Test.YtbchfeibhoobeaaGreatDoorPf
set_option maxRecDepth 100000
set_option maxHeartbeats 1000000
namespace Go.Proofs.YtbchfeibhoobeaaGreatDoor
open Go.Abs Go.Jr
section
variable {W0:World} {m0:Inj Tp}
theorem AbL {A:AW} {dq k L:Nat} {s:DS} {F:List Nat} {limit:Int} {K:Value->AW->Prop} (h:DQ A dq s F) (iq:IQ k L s) (hk9:k<=900) (hL:L<600000) (hkL:k*L<900000) (hf:Aw A) (hA:A.next<900000000000)
  (hkN:∀ e A' s' F',EZ ltB s limit=(s',none,e)->DQ A' dq s' F'->Aj A A' (dq::F)->(∀ y∈F',y∈F\/A.next<=y)->A'.next<=A.next+(2*(k*(6*L+100))+6*L+40000)->Aw A'->K (.tuple ⟨[.pointer none,.int .i64 e]⟩) A')
  (hkS:∀ A' s' (j:JS) kq F' Fl,EZ ltB s limit=(s',some j,0)->QD A' kq dq ⟨j.limit,j.state,j.l,false⟩ s' Fl F'->A.next<=kq->(∀ y∈Fl,A.next<=y)->Aj A A' (dq::F)->(∀ y∈F',y∈F\/A.next<=y)->A'.next<=A.next+(2*(k*(6*L+100))+6*L+40000)->Aw A'->K (.tuple ⟨[pP kq 0,.int .i64 0]⟩) A'):
  Wc Tp An W0 m0 26 [pP dq 0,.int .i64 limit] A K:=by
 have hmax:Am=1099511627776:=rfl;have hfew:=iq.few;have hsM:s.D.length*(6*L+100)<=k*(6*L+100):=Nat.mul_le_mul_right _ hfew;have hsL:s.D.length*L<900000:=Nat.lt_of_le_of_lt (Nat.mul_le_mul_right _ hfew) hkL;have hkM:k*(6*L+100)<=900*(6*600000+100):=Nat.mul_le_mul hk9 (by omega);have hdlt:=h.lt;refine w26 _ _ _ (c26 (I:=IO dq limit K) AcS) ?_;rw [AfO];have hdq:=h;obtain ⟨vl,fl,hr,ho,hD,hnd⟩:=h;have hvl:=ho.one;have stay:∀ e A',EZ ltB s limit=(s,none,e)->Grow A A' (2*(k*(6*L+100))+3000)->K (.tuple ⟨[.pointer none,.int .i64 e]⟩) A':=λe A' he g=>
  hkN e A' s F he (hdq.keeps g.keeps (by simp) (by simp)) (g.keeps.more (by simp)) (λy hy=>.inl hy) (by have:=g.next;omega) g.Ay
 simp only [AU,Ab,Ao];refine ⟨λhl=>?_,λhl=>?_⟩
 ·exact stay 2 A (by unfold EZ;rw [if_pos hl]) ((Grow.refl hf).more (by omega))
 simp only [Al,Da,Fh,Ae hr.row,cellOf,hvl.2,AG,Bt,Cf,Ab,Nat.zero_add];refine Ag.2 ⟨λhd=>?_,λhd=>?_⟩
 ·exact stay 100 A (by unfold EZ;rw [if_neg hl,if_pos hd]) ((Grow.refl hf).more (by omega))
 have hop:EZ ltB s limit=match Ga (Bi s.D (Aq s.D)) with
   |none=>(s,none,120)
   |some (r,f)=>if (BI ltB s (Du (Aq s.D) (Bi s.D (Aq s.D)) r f)).2=0 then ((BI ltB s (Du (Aq s.D) (Bi s.D (Aq s.D)) r f)).1,some (EH limit r),0) else ((BI ltB s (Du (Aq s.D) (Bi s.D (Aq s.D)) r f)).1,none,(BI ltB s (Du (Aq s.D) (Bi s.D (Aq s.D)) r f)).2):=by
  unfold EZ;rw [if_neg hl,if_neg (by rw [hd];simp)];rfl
 have hend:∀ (A4:AW) (r:List Seg) (f:Nat) (X:DS × Int) (st:ByteArray) (v:Value) (R:List RV) (Fl:List Nat),Ga (Bi s.D (Aq s.D))=some (r,f)->BI ltB s (Du (Aq s.D) (Bi s.D (Aq s.D)) r f)=X->(EH limit r).state=st.data.toList->(EH limit r).l=R.map toR->RdE 1 fR A4 v R Fl->(∀ y∈Fl,A.next<=y)->Grow A A4 (2*(k*(6*L+100))+2500)->
   Oq A4 dq F limit st v X (6*L+30000) K:=by
  intro A4 r f X st v R Fl hrow hX hst hl4 hv hFl g4 A' Fq k' L' hs;rw [hrow] at hop;simp only at hop;rw [hX] at hop;have hsn:=hs.nx;have n4:=g4.next;have le4:=g4.le;have hFl4:=hv.fam;have hkp:Aj A A' (dq::F):=(g4.keeps.more (T:=dq::F) (by simp)).trans hs.kp λx hx=>.inl hx;have hfq:∀ y∈Fq,y∈F\/A.next<=y:=λy hy=>(hs.fq y hy).imp id λh=>by omega
  unfold opF;simp only [BC,Ab];refine Bb.2 ⟨λhe=>?_,λhe=>?_⟩
  ·rw [if_neg he] at hop;exact hkN X.2 A' X.1 Fq hop hs.dk hkp hfq (by omega) hs.fn
  ·have he:X.2=0:=by omega
   rw [if_pos he] at hop;have hv':=hv.keeps hs.kp λz hz hm=>by
    have h1:=hFl z hz;have h2:=hdlt z hm;omega
   obtain ⟨o,m,hvs⟩:=hv'.slice;subst hvs;rw [AdX];simp only [Ab];refine Bk (cs:=[pP dq 0,.int .i64 limit,.string st,.slice o R.length m,.bool false]) hs.fn (by omega) rfl λA2 m2=>?_;have n2:=m2.next;have k2:=m2.keeps hs.fn;have hFqlt:=hs.dk.lt;refine hkS A2 X.1 (EH limit r) A'.next Fq Fl hop ⟨⟨.slice o R.length m,R,?_,hv'.keeps k2 (by simp),hl4⟩,hs.dk.keeps k2 (by simp) (by simp),λhm=>?_,λx hx=>⟨?_,λhm=>?_⟩⟩ (by have:=hs.kp.next;omega) hFl (hkp.trans k2 (by simp)) hfq (by omega) m2.Ay
   ·have e:st=⟨⟨(EH limit r).state⟩⟩:=by rw [hst]
    show Go.Abs.AS A2 A'.next [pP dq 0,.int .i64 limit,.string ⟨⟨(EH limit r).state⟩⟩,.slice o R.length m,.bool false] 116;rw [<- e];exact m2.BB
   ·have:=hFqlt _ hm
    omega
   ·have:=hFl4 x hx
    have:=hs.kp.next
    omega
   ·have h1:=hFl x hx;have h2:=hFl4 x hx;rcases Mk.1 hm with h3 | h3
    ·have:=hdlt dq List.mem_cons_self
     omega
    ·rcases hs.fq x h3 with h4 | h4
     ·have:=hdlt x (List.mem_cons_of_mem _ h4)
      omega
     ·omega
 have behind:∀ (A4:AW) (n0:Nat) (r:List Seg) (f:Nat) (st:ByteArray) (v:Value) (R:List RV) (Fl:List Nat),Ga (Bi s.D (Aq s.D))=some (r,f)->(r=[]↔n0=0)->(r≠[]->r.head?.map (·.n)=some n0)->(EH limit r).state=st.data.toList->(EH limit r).l=R.map toR->RdE 1 fR A4 v R Fl->(∀ y∈Fl,A.next<=y)->Grow A A4 (2*(k*(6*L+100))+2500)->
   (Wc Tp An W0 m0 69 [pP dq 0,(.string ⟨⟨[106,46,110,101,119]⟩⟩)] A4 λt10 At10=>Aa (Ai Tp .geq 3 (.tmp 33) (.const (.int .i64 0)) t10 (.int .i64 0)) λt11=>Ah t11 (Wc Tp An W0 m0 70 [pP dq 0,(.string ⟨⟨[106,46,110,101,119]⟩⟩)] At10 λt12 At12=>op0 W0 m0 (λid v A''=>∃ g,IO dq limit K g id v A'') K (pP dq 0) (.int .i64 limit) (.int .i64 (n0:Int)) (.string st) v t12 At12)
    (op0 W0 m0 (λid v A''=>∃ g,IO dq limit K g id v A'') K (pP dq 0) (.int .i64 limit) (.int .i64 (n0:Int)) (.string st) v (.int .i64 0) At10)):=by
  intro A4 n0 r f st v R Fl hrow hr0 hrh hst hl4 hv hFl g4;have n4:=g4.next;have h4:Sq A4 dq F A4 s F k L 0:=Sq.start (hdq.keeps g4.keeps (by simp) (by simp)) iq g4.Ay;have he:=λX hX=>hend A4 r f X st v R Fl hrow hX hst hl4 hv hFl g4;have hacts:=Yj (D:=s.D) (r:=r) (f:=f);have go:∀ (x0:DS × Int) (A':AW) (Fq:List Nat),x0=(if fresh∈Aq s.D then [Ac.rmF] else []).foldl Cq (s,0)->AA x0.1.D=AA s.D->(∀ i,AB x0.1.D (Jr.nm i)=AB s.D (Jr.nm i))->Sq A4 dq F A' x0.1 Fq k L 5->
    op0 W0 m0 (λid v A''=>∃ g,IO dq limit K g id v A'') K (pP dq 0) (.int .i64 limit) (.int .i64 (n0:Int)) (.string st) v (.int .i64 x0.2) A':=by
   intro x0 A' Fq hx0 hnum hlook hs;rcases M4 hrow with ⟨hsg,hr,hf0⟩ | ⟨hfl,hrd,hok⟩
   ·have hn0:=hr0.1 hr;subst hr hf0 hn0;have hX:BI ltB s (Du (Aq s.D) (Bi s.D (Aq s.D)) [] 0)=[Ac.ap0,.syF,.rn1].foldl Cq x0:=by
     rw [H4,hacts,List.foldl_append,<- hx0]
     simp
    unfold op0;simp only [Bo,Ab];refine Be.2 ⟨λ_=>?_,λh=>absurd rfl h⟩;exact AaF (by omega) (he _ hX) hs (by omega) (by omega) (by omega) rfl
   ·have hne:r≠[]:=λh=>by
     rw [h] at hrd
     have:=congrArg List.length hrd
     rw [List.length_drop] at this;simp at this;omega
    have hn0:n0≠0:=λh=>hne (hr0.2 h);have hh:=hrh hne;have hsegl:(Bi s.D (Aq s.D)).map (·.n)=AA s.D:=Nw s.D;have hdrop:r.map (·.n)=(AA s.D).drop f:=by rw [hrd,<- hsegl,List.map_drop]
    have hfn:(AA s.D)[f]? =some n0:=by
     have:((AA s.D).drop f)[0]? =some n0:=by
      rw [<- hdrop,<- List.head?_eq_getElem?,List.head?_map];exact hh
     rw [List.getElem?_drop,Nat.add_zero] at this;exact this
    obtain ⟨y,hy⟩:∃ y,r.getLast? =some y:=by
     cases hg:r.getLast? with
     |none=>exact absurd (List.getLast?_eq_none_iff.1 hg) hne
     |some y=>exact ⟨y,rfl⟩
    have hyr:y∈r:=List.mem_of_getLast? hy;have hys:y∈Bi s.D (Aq s.D):=by rw [hrd] at hyr;exact List.mem_of_mem_drop hyr
    obtain ⟨hyi,hy0⟩:=M3 hys;have hlastD:((AA s.D).drop f).getLast? =some y.n:=by rw [<- hdrop,List.getLast?_map,hy];rfl
    have hlast:(AA s.D).getLast? =some y.n:=by
     have hfl':f<(AA s.D).length:=(Gs.1 hfn).1;rw [List.getLast?_drop,if_neg (by omega)] at hlastD;exact hlastD
    have hyn:y.n∈AA s.D:=List.mem_of_getLast? hlast;obtain ⟨_,hy8,hyk⟩:=BK.1 hyn;obtain ⟨fy,hfy⟩:∃ fy,AB s.D (Jr.nm y.n)=some fy:=by
     cases hk:AB s.D (Jr.nm y.n) with
     |none=>have:=B0.2 hyk;rw [hk] at this;cases this
     |some fy=>exact ⟨fy,rfl⟩
    rw [E4 hfy] at hyi;have hrise:=FB iq.ris;have hsplit:=List.take_append_drop f (AA s.D);have hrise2:=hrise;rw [<- hsplit,List.pairwise_append] at hrise2;have hydrop:y.n∈(AA s.D).drop f:=List.mem_of_getLast? hlastD;have hX:BI ltB s (Du (Aq s.D) (Bi s.D (Aq s.D)) r f)=((if y.st=1 then [Ac.ct y.n y.size] else [])++[Ac.sy y.n]).foldl Cq ((((AA s.D).take f).map Ac.rm).foldl Cq x0):=by
     rw [H4,hacts,List.foldl_append,<- hx0,if_neg hne,List.nil_append,List.foldl_append,hy]
    refine YU (y:=y) (fl:=fy) (C:=6*L+30000) (f:=f) (by omega) (he _ hX) hs (by omega) (by omega) hn0 (by rw [hnum];exact hfn) (by rw [hnum];exact hlast) hy8 (by rw [hlook];exact hfy) hyi ?_ (by omega) (by rw [hnum]);rw [hnum];intro n hn he;have hn8:n<100000000:=(BK.1 (by rw [<- hsplit];exact List.mem_append_left _ hn)).2.1
    have:=E0 hy8 hn8 he
    have:=hrise2.2.2 n hn y.n hydrop
    omega
  refine PI (n:=⟨⟨fresh⟩⟩) h4.dk (by omega) ?_;have ef:(⟨⟨fresh⟩⟩:ByteArray).data.toList=fresh:=rfl;rw [ef];rcases Eo fresh s.D 0 with ⟨g1,g2,g3⟩ | ⟨i,f',g1,g2,g3,g4⟩
  ·rw [g1];simp only [DZ,Ab,Ao];refine ⟨λh=>absurd h (by decide),λ_=>?_⟩;exact go (s,0) A4 F (by rw [if_neg g3];rfl) rfl (λ_=>rfl) (h4.more (Nl _) (Nl _) (by omega))
  ·rw [g1];simp only [DZ,Ab,Ao];refine ⟨λ_=>?_,λh=>absurd h (by omega)⟩;have hin:fresh∈Aq s.D:=B0.1 (by rw [g3];rfl);refine YK (n:=⟨⟨fresh⟩⟩) h4 (by omega) (by omega) λA5 F5 h5=>?_;exact go (AQ s fresh) A5 F5 (by rw [if_pos hin];rfl) (Rj iq.ris Em) (λi=>H5 (Ne.symm (Em i))) h5
 refine Aeo hdq (by omega) iq.len (by omega) hsL hf (by omega) (λhrow A4 g4=>?_) (λhrow A4 g4=>?_) (λr f hrow hne A4 v R Fl st n0 hh ht hst hv hFl hRl g4=>?_)
 ·simp only [TQ,TP,TO,TN,Ab,Bg];refine Ag.2 ⟨λ_=>?_,λh=>by simp at h⟩;rw [hrow] at hop;exact stay 120 A4 hop (g4.more (by omega))
 ·simp only [TQ,TP,TO,TN,Ab,Bg];refine Ag.2 ⟨λh=>by simp at h,λ_=>?_⟩;exact behind A4 0 [] 0 ⟨⟨[]⟩⟩ _ [] [] hrow (by simp) (by simp) rfl rfl (RdE.nil _ _ _) (by simp) (g4.more (by omega))
 ·simp only [TQ,TP,TO,TN,Ab,Bg];refine Ag.2 ⟨λh=>by simp at h,λ_=>?_⟩;have hn0:n0≠0:=by
   rcases M4 hrow with ⟨_,hr,_⟩ | ⟨hfl,hrd,hok⟩
   ·exact absurd hr hne
   ·cases r with
    |nil=>exact absurd rfl hne
    |cons x0 xs=>
     have hx:x0∈Bi s.D (Aq s.D):=List.mem_of_mem_drop (by rw [<- hrd];exact List.mem_cons_self)
     have:=(M3 hx).2
     have e:x0.n=n0:=by simpa using hh
     rw [<- e];exact this
  exact behind A4 n0 r f st v R Fl hrow ⟨λh=>absurd h hne,λh=>absurd h hn0⟩ (λ_=>hh) hst.symm ht hv hFl (g4.more (by omega))
end
variable {A A':AW} {kq dq kk L:Nat} {q:DS} {Fl Fq:List Nat} {K:Value->AW->Prop}
theorem QD.keeps{k:KS}{S:List Nat}(h:QD A kq dq k q Fl Fq)(kp:Aj A A' S)(h1:∀ x∈kq::dq::(Fl++Fq),x∉S):QD A' kq dq k q Fl Fq:=
 ⟨h.jn.keeps kp (h1 kq (by simp)) λx hx=>h1 x (by simp [hx]),h.dk.keeps kp (h1 dq (by simp)) λx hx=>h1 x (by simp [hx]),h.nd,h.fl⟩
theorem QD.grow{n:Nat}{k:KS}(h:QD A kq dq k q Fl Fq)(g:Grow A A' n):QD A' kq dq k q Fl Fq:=h.keeps g.keeps (by simp)
theorem QD.CQ{k:KS}{q':DS}{F':List Nat}{c:Nat}(h:QD A kq dq k q Fl Fq)(hs:Sq A dq Fq A' q' F' kk L c):QD A' kq dq k q' Fl F':=by
 have hlt:=h.jn.lt;refine ⟨h.jn.keeps hs.kp h.nd λx hx=>(h.fl x hx).2,hs.dk,λhm=>?_,λx hx=>⟨(h.fl x hx).1,λhm=>?_⟩⟩
 ·rcases Mk.1 hm with h1 | h1
  ·exact h.nd (h1▸List.mem_cons_self)
  ·rcases hs.fq _ h1 with h2 | h2
   ·exact h.nd (List.mem_cons_of_mem _ h2)
   ·omega
 ·rcases Mk.1 hm with h1 | h1
  ·exact (h.fl x hx).2 (h1▸List.mem_cons_self)
  ·rcases hs.fq _ h1 with h2 | h2
   ·exact (h.fl x hx).2 (List.mem_cons_of_mem _ h2)
   ·have:=hlt.2 x hx
    omega
theorem QD.lt{k:KS}(h:QD A kq dq k q Fl Fq):∀ x∈kq::dq::(Fl++Fq),x<A.next:=by
 have h1:=h.jn.lt;have h2:=h.dk.lt;intro x hx;simp only [Mk,Mz] at hx;rcases hx with rfl | rfl | hx | hx
 ·exact h1.1
 ·exact h2 _ (by simp)
 ·exact h1.2 x hx
 ·exact h2 x (by simp [hx])
section
variable {W0:World} {m0:Inj Tp}
theorem Wh {k:KS} {e:Int} (h:QD A kq dq k q Fl Fq) (hf:Aw A) (hA:A.next<Am)
  (hk:∀ A',QD A' kq dq (Eh k e) q Fl Fq->Aj A A' [kq]->A'.next=A.next->Aw A'->K (.int .i64 e) A'):Wc Tp An W0 m0 85 [pP kq 0,.int .i64 e] A K:=by
 refine w85 _ _ _ BF ?_;rw [e85];have hq:=h;obtain ⟨v,rl,hr,hl,hkl⟩:=h.jn;have hvl:=hl.one;simp only [Bo,Ab];refine Be.2 ⟨λh1=>?_,λh1=>?_⟩
 ·simp only [Al,HK,Ab];refine hr.store hf (by omega) (JZ _ _ _) rfl (by show 0+4+1<=5;omega) rfl λA1 r1 k1 n1 f1=>?_;have k1:Aj A A1 [kq]:=k1;have hdk:Eh k e={ k with broken:=true }:=by unfold Eh;rw [h1];simp
  rw [hdk] at hk;refine hk A1 ⟨⟨v,rl,r1,hl.keeps k1 λx hx hm=>(hq.fl x hx).1 (Ms.1 hm),hkl⟩,hq.dk.keeps k1 (λhm=>hq.nd (by rw [<- Ms.1 hm];exact List.mem_cons_self)) (λx hx hm=>hq.nd (by rw [<- Ms.1 hm];exact List.mem_cons_of_mem _ hx)),hq.nd,hq.fl⟩ k1 n1 f1
 ·have hdk:Eh k e=k:=by
   unfold Eh
   have:(e==100)=false:=by simpa using h1
   rw [this,Bool.or_false]
  rw [hdk] at hk;exact hk A hq (.refl _ _) rfl hf
theorem RL{l:List Nat}(h:l≠[]):l[l.length-1]? =some (l.getLast?.getD 0):=by
 rw [<- List.getLast?_eq_getElem?];cases hg:l.getLast? with
 |none=>exact absurd (List.getLast?_eq_none_iff.1 hg) h
 |some x=>rfl
theorem LV(h:AA q.D≠[]):AH q<100000000/\AH q≠0/\∃ f,AB q.D (Jr.nm (AH q))=some f:=by
 have hm:AH q∈AA q.D:=by
  unfold AH;exact List.mem_of_getElem? (RL h)
 obtain ⟨h1,h2,h3⟩:=BK.1 hm;refine ⟨h2,h1,?_⟩;cases hk:AB q.D (Jr.nm (AH q)) with
 |none=>have:=B0.2 h3;rw [hk] at this;cases this
 |some f=>exact ⟨f,rfl⟩
theorem ZZ {k:KS} (h:QD A kq dq k q Fl Fq) (hne:AA q.D≠[]) (hl:q.D.length<10000) (hf:Aw A) (hA:A.next+20100<Am)
  (hk:∀ A',Grow A A' (2*q.D.length)->K (.int .i64 (AH q:Int)) A'):Wc Tp An W0 m0 86 [pP kq 0] A K:=by
 refine w86 _ _ BF ?_;rw [e86];obtain ⟨v,rl,hr,hrl,hkl⟩:=h.jn;simp only [Al,CA,Fj,Ae hr.row,cellOf,Ax,Cf,Ab];have hnl:=IU q.D;have hpos:=List.length_pos_iff.2 hne;refine YB h.dk (by omega) hf (by omega) λA1 vn Fn o1 hFn g1=>?_;have hvn:=o1.rd esI.len;rw [ES.HG esI hvn];simp only [Ab,Ci];rw [wrap_i64 (by omega) (by omega)];have ei:((AA q.D).length:Int)-1=(((AA q.D).length-1:Nat):Int):=by omega
 obtain ⟨a,a1,a2⟩:=esI.at hvn (RL hne) rfl;rw [ei];simp only [a1,a2,Ab];exact hk A1 g1
theorem Aez {k:KS} (h:QD A kq dq k q Fl Fq) (iq:IQ kk L q) (hne:k.broken=false->AA q.D≠[]) (hk9:kk<9000) (hf:Aw A) (hA:A.next<900000000000)
  (hk:∀ A' F',QD A' kq dq (IH q k).2.1 (IH q k).1 Fl F'->IQ kk L (IH q k).1->Aj A A' (kq::dq::Fq)->(∀ y∈F',y∈Fq\/A.next<=y)->A'.next<=A.next+20000->Aw A'->K (.int .i64 (IH q k).2.2) A'):
  Wc Tp An W0 m0 33 [pP kq 0] A K:=by
 have hmax:Am=1099511627776:=rfl;have hfew:=iq.few;refine w33 _ _ BF ?_;rw [e33];have hq:=h;obtain ⟨v,rl,hr,hrl,hkl⟩:=h.jn;have hvl:=hrl.one;unfold IH at hk;simp only [Al,HK,Fh,Ae hr.row,cellOf,hvl.2,Ax,AG,AE,Bt,Cf,Ab,Nat.zero_add];refine Ag.2 ⟨λhb=>?_,λhb=>?_⟩
 ·rw [if_pos hb] at hk;exact hk A Fq hq iq (.refl _ _) (λy hy=>.inl hy) (by omega) hf
 rw [if_neg (by rw [hb];simp)] at hk;have hne:=hne hb;simp only [CA,Fj,Ae hr.row,cellOf,Ax,Cf,Ab];refine ZZ hq hne (by omega) hf (by omega) λA1 g1=>?_;have n1:=g1.next;have q1:=hq.grow g1;obtain ⟨v1,rl1,hr1,_,_⟩:=q1.jn;obtain ⟨hl8,_,fl,hlk⟩:=LV hne;simp only [Al,CA,Fj,Ae hr1.row,cellOf,Ax,Cf,Ab,AR];refine Ot (n:=AH q) g1.Ay (by omega) (by omega) λA2 g2=>?_;have n2:=g2.next;have q2:=q1.grow g2;obtain ⟨v2,rl2,hr2,_,_⟩:=q2.jn;simp only [Al,CA,Fj,Ae hr2.row,cellOf,Ax,Cf,Ab,AR];refine WE (n:=⟨⟨Jr.nm (AH q)⟩⟩) (Sq.start q2.dk iq g2.Ay) hk9 (by omega) λA3 F3 s3=>?_;have q3:=q2.CQ s3;have hn3:=s3.nx;have q3:QD A3 kq dq k (Bn q (Jr.nm (AH q))).1 Fl F3:=q3;refine Wh q3 s3.fn (by omega) λA4 q4 k4 n4 f4=>?_;refine hk A4 F3 q4 s3.iq ?_ (λy hy=>(s3.fq y hy).imp id λh=>by have:=g1.le;have:=g2.le;omega) (by omega) f4;exact (((g1.keeps.trans g2.keeps (by simp)).more (T:=kq::dq::Fq) (by simp)).trans s3.kp λx hx=>.inl (List.mem_cons_of_mem _ hx)).trans k4 (by simp)
end
variable {A:AW} {kq dq t0 kk L:Nat} {q:DS} {Fl Fq:List Nat} {r:RV} {K:Value->AW->Prop}
noncomputable def apT(Q:Value->AW->Prop)(a0 t0:Value)(At91:AW):Prop:=
 Aa (AD a0) λt94=>Aa (Ad Tp 116 t94 3) λt95=>Aa (Af Tp At91 22 t95) λt96=>Au (AJ Tp At91 22 22 (.slice none 0 0) t96) λt97 At97=>Aa (Af Tp At97 35 t0) λt98=>Au (Av Tp At97 22 1 [(0,t98)]) λt99 At99=>Au (AJ Tp At99 22 22 t97 t99) λt100 At100=>Aa (AD a0) λt101=>Aa (Ad Tp 116 t101 3) λt102=>Bh (Az Tp At100 22 t102 t100) λAt103=>Q (.int .i64 0) At103
noncomputable def apG(W0:World)(m0:Inj Tp)(Q:Value->AW->Prop)(a0 t0 t14 n:Value)(At20:AW):Prop:=
 Aa (AD a0) λt84=>Aa (Ad Tp 116 t84 0) λt85=>Aa (Af Tp At20 62 t85) λt86=>Wc Tp An W0 m0 74 [n] At20 λt87 At87=>eqW t14 t14 (Aa (Af Tp At87 62 t85) λt88=>eqW t88 t86 (Aa (Ad Tp 116 t84 0) λt89=>eqW t89 t85 (Aa (AD a0) λt90=>eqW t90 t84 (eqW a0 a0 (Wc Tp An W0 m0 32 [t86,t87,t14] At87 λt91 At91=>Aa (Ai Tp .neq 3 (.tmp 81) (.const (.int .i64 0)) t91 (.int .i64 0)) λt92=>Ah t92 (Wc Tp An W0 m0 85 [a0,t91] At91 λt93 At93=>Q t93 At93) (apT Q a0 t0 At91))))))
theorem AfM(W0:World)(m0:Inj Tp)(S:Nat->List Value->AW->Prop)(Q:Value->AW->Prop)(a0 a1:Value)(A:AW):gE W0 m0 S Q 35 99 Tz Lz [a0,a1] A=
  (Au (DF A (Value.cells a1).toList 35) λt0 At0=>Aa (Ad Tp 35 t0 0) λt1=>Aa (Af Tp At0 5 t1) λt2=>Aa (Ai Tp .eql 5 (.tmp 15) (.const (.int .u8 0)) t2 (.int .u8 0)) λt3=>Ah t3 (Q (.int .i64 2) At0) (Aa (AD a0) λt4=>Aa (Ad Tp 116 t4 4) λt5=>Aa (Af Tp At0 4 t5) λt6=>Ah t6 (Q (.int .i64 100) At0) (Aa (Ad Tp 35 t0 1) λt7=>Aa (Af Tp At0 9 t7) λt8=>Aa (Bd Tp At0 9 t8) λt9=>Aa (Ai Tp .gtr 3 (.tmp 23) (.const (.int .i64 65536)) t9 (.int .i64 65536)) λt10=>Ah t10 (Q (.int .i64 3) At0)
   (Aa (Af Tp At0 35 t0) λt11=>Au (Av Tp At0 22 1 [(0,t11)]) λt12 At12=>Wc Tp An W0 m0 87 [t12] At12 λt13 At13=>Aa (Ap t13 0) λt14=>Aa (Ap t13 1) λ_=>Wc Tp An W0 m0 86 [a0] At13 λt16 At16=>Aa (AD a0) λt17=>Aa (Ad Tp 116 t17 0) λt18=>Aa (Af Tp At16 62 t18) λt19=>Wc Tp An W0 m0 76 [t19,t16] At16 λt20 At20=>Aa (Ap t20 0) λt21=>Aa (Ap t20 1) λt22=>Aa (Ap t20 2) λ_=>Aa (Bd Tp At20 22 t21) λt24=>Aa (Ai Tp .gtr 3 (.tmp 44) (.const (.int .i64 0)) t24 (.int .i64 0)) λt25=>Ah t25
    (Aa (Bd Tp At20 9 t14) λt26=>Aa (Ai Tp .add 3 (.tmp 47) (.tmp 49) t22 t26) λt27=>Aa (AD a0) λt28=>Aa (Ad Tp 116 t28 1) λt29=>Aa (Af Tp At20 3 t29) λt30=>Aa (Ai Tp .gtr 3 (.tmp 50) (.tmp 54) t27 t30) λt31=>Ah t31
     (Aa (Ai Tp .eql 3 (.tmp 57) (.const (.int .i64 99999999)) t16 (.int .i64 99999999)) λt32=>Ah t32 (Q (.int .i64 6) At20) (Aa (AD a0) λt33=>Aa (Ad Tp 116 t33 0) λt34=>Aa (Af Tp At20 62 t34) λt35=>Wc Tp An W0 m0 74 [t16] At20 λt36 At36=>Aa (Af Tp At36 62 t34) λt37=>eqW t37 t35 (Aa (Ad Tp 116 t33 0) λt38=>eqW t38 t34 (Aa (AD a0) λt39=>eqW t39 t33 (eqW a0 a0 (Wc Tp An W0 m0 72 [t35,t36] At36 λt40 At40=>Aa (Ai Tp .neq 3 (.tmp 66) (.const (.int .i64 0)) t40 (.int .i64 0)) λt41=>Ah t41 (Wc Tp An W0 m0 85 [a0,t40] At40 λt42 At42=>Q t42 At42)
      (Aa (Ai Tp .add 3 (.tmp 71) (.const (.int .i64 1)) t16 (.int .i64 1)) λt43=>apG W0 m0 Q a0 t0 t14 t43 At40))))))) (apG W0 m0 Q a0 t0 t14 t16 At20)) (apG W0 m0 Q a0 t0 t14 t16 At20))))):=by kernel_rfl
section
variable {W0:World} {m0:Inj Tp}
theorem Abo {k:KS} {K:Value->AW->Prop} (h:QD A kq dq k q Fl Fq) (ht:Go.Abs.AS A t0 (fR r) 35) (hl:k.l.length<900000) (hf:Aw A) (hA:A.next+10<Am)
  (hk:∀ A' Fl',QD A' kq dq { k with l:=k.l++[toR r] } q Fl' Fq->Aj A A' [kq]->(∀ y∈Fl',A.next<=y)->A'.next<=A.next+4->Aw A'->K (.int .i64 0) A'):apT K (pP kq 0) (pP t0 0) A:=by
 have hq:=h;have hqlt:=h.lt;obtain ⟨v,rl,hr,hrl,hkl⟩:=h.jn;have hvl:=hrl.one;have hrll:rl.length=k.l.length:=by rw [hkl,List.length_map]
 unfold apT;simp only [Al,Lo,JO,Ae hr.row,cellOf,hvl.2,Ax,AG,AE,Cf,Ab,Nat.zero_add];refine (BO.nil (te:=35) A).Gu etR hrl hf (by omega) (by simp) (by omega) λv1 A1 F1 o1 k1 hF1 n1 f1=>?_;rw [List.nil_append] at o1;have hF1':∀ y∈F1,A.next<=y:=λy hy=>(hF1 y hy).elim (λh=>by simp at h) λh=>by omega
 have le1:=k1.next;have ht1:=ht.keeps k1 (by simp);simp only [JL,LA ht1,Ab];refine MI (c:=r.1) (s:=r.2) f1 (by omega) λA2 m2=>?_;have n2:=m2.next;have k2:=m2.keeps f1;refine (o1.keeps k2 (by simp)).append etR (p:=r) m2.BB m2.Ay (by omega) (by omega) λv3 A3 F3 o3 k3 hF3 n3 f3=>?_;have K3:Aj A A3 []:=(k1.trans k2 (by simp)).trans k3 λy hy=>.inr (hF1' y hy);have hF3':∀ y∈F3,A.next<=y:=λy hy=>(hF3 y hy).elim (λh=>hF1' y h) λh=>by omega
 have hr3:=hr.keeps K3 (by simp);have hv3:=o3.one;have hs3:v3.cells.toList=[v3]:=by
  rcases o3 with ⟨rfl,_⟩ | ⟨b,g,rfl,_⟩<;>rfl
 refine hr3.store f3 (by omega) (Nu _ _ _) (by rw [hs3];rfl) (by show 3+1<=5;omega) (by rw [hs3];simp [hv3.1]) λA4 r4 k4 n4 f4=>?_;rw [hs3] at r4;have r4:Go.Abs.AS A4 kq [pP dq 0,.int .i64 k.limit,.string ⟨⟨k.state⟩⟩,v3,.bool k.broken] 116:=r4;have k4:Aj A3 A4 [kq]:=k4;have K4:Aj A A4 [kq]:=(K3.more (by simp)).trans k4 (by simp);have hkq:=hqlt kq (by simp);have o4:=o3.keeps k4 λx hx hm=>by have:=hF3' x hx;have:=Ms.1 hm;omega
 refine hk A4 F3 ⟨⟨v3,rl++[r],r4,o4.rd etR.len,?_⟩,hq.dk.keeps K4 (λhm=>hq.nd (by rw [<- Ms.1 hm];exact List.mem_cons_self)) (λx hx hm=>hq.nd (by rw [<- Ms.1 hm];exact List.mem_cons_of_mem _ hx)),hq.nd,λx hx=>?_⟩ K4 hF3' (by omega) f4
 ·show k.l++[toR r]=_;rw [List.map_append,hkl];rfl
 ·have h1:=hF3' x hx;refine ⟨λh=>by omega,λhm=>?_⟩;rcases Mk.1 hm with h | h
  ·have:=hqlt dq (by simp);omega
  ·have:=hqlt x (by simp [h]);omega
theorem Abp {n:Nat} {k:KS} {K:Value->AW->Prop} (h:QD A kq dq k q Fl Fq) (iq:IQ kk L q) (hk9:kk<8000) (hL:L<=1000000) (ht:Go.Abs.AS A t0 (fR r) 35) (ht0:t0∉dq::Fq) (hr:r.2.data.toList.length<=65536) (hn:n<100000000) (hl:k.l.length<900000) (hf:Aw A) (hA:A.next<950000000000)
  (hk:∀ A' Fl' F',(let y:=BA ltB q (Jr.nm n) (Bc (toR r));QD A' kq dq (if y.2≠0 then Eh k y.2 else { k with l:=k.l++[toR r] }) y.1 Fl' F'/\IQ (kk+1) (L+(Bc (toR r)).length) y.1)->Aj A A' (kq::dq::Fq)->(∀ y∈Fl',y∈Fl\/A.next<=y)->(∀ y∈F',y∈Fq\/A.next<=y)->A'.next<=A.next+50->Aw A'->K (.int .i64 (BA ltB q (Jr.nm n) (Bc (toR r))).2) A'):
  apG W0 m0 K (pP kq 0) (pP t0 0) (.string ⟨⟨Bc (toR r)⟩⟩) (.int .i64 (n:Int)) A:=by
 have hmax:Am=1099511627776:=rfl;have hq:=h;have hqlt:=h.lt;obtain ⟨v,rl,hrow,hrl,hkl⟩:=h.jn;unfold apG;simp only [Al,CA,Fj,Ae hrow.row,cellOf,Ax,Cf,Ab];refine Ot (n:=n) hf (by omega) (by omega) λA1 g1=>?_;have n1:=g1.next;have le1:=g1.le;have q1:=hq.grow g1;obtain ⟨v1,rl1,hr1,_,_⟩:=q1.jn;simp only [Al,CA,Fj,Ae hr1.row,cellOf,Ax,Cf,Ab,AR];have hpl:=Cn (toR r);have hrl':(toR r).2.length=r.2.data.toList.length:=rfl;refine Aap (n:=⟨⟨Jr.nm n⟩⟩) (b:=⟨⟨Bc (toR r)⟩⟩) (Sq.start q1.dk iq g1.Ay) (by omega) (by omega) (by show (Jr.nm n).length<_;unfold Jr.nm;rw [Lq,Dg];decide) (by show (Bc (toR r)).length<_;omega) (by omega) λA2 F2 s2=>?_;have s2:Sq A1 dq Fq A2 (BA ltB q (Jr.nm n) (Bc (toR r))).1 F2 (kk+1) (L+(Bc (toR r)).length) (0+10):=s2;have hn2:=s2.nx;have le2:=s2.kp.next;have q2:=q1.CQ s2;have ht2:=(ht.keeps g1.keeps (by simp)).keeps s2.kp ht0;have K2:Aj A A2 (kq::dq::Fq):=(g1.keeps.more (T:=kq::dq::Fq) (by simp)).trans s2.kp λx hx=>.inl (List.mem_cons_of_mem _ hx);have hF2:∀ y∈F2,y∈Fq\/A.next<=y:=λy hy=>(s2.fq y hy).imp id λh=>by omega
 have ey:(⟨⟨Jr.nm n⟩⟩:ByteArray).data.toList=Jr.nm n:=rfl;have ey2:(⟨⟨Bc (toR r)⟩⟩:ByteArray).data.toList=Bc (toR r):=rfl;rw [ey,ey2];dsimp only at hk;generalize BA ltB q (Jr.nm n) (Bc (toR r))=y at *;simp only [BC,Ab];refine Bb.2 ⟨λhe=>?_,λhe=>?_⟩
 ·have he:y.2≠0:=he;rw [if_pos he] at hk;refine Wh q2 s2.fn (by omega) λA3 q3 k3 n3 f3=>?_;refine hk A3 Fl F2 ⟨q3,s2.iq⟩ (K2.trans k3 (by simp)) (λy hy=>.inl hy) hF2 (by omega) f3
 ·have he:y.2=0:=by omega
  rw [if_neg (by rw [he];simp),he] at hk;refine Abo q2 ht2 hl s2.fn (by omega) λA3 Fl3 q3 k3 hFl3 n3 f3=>?_;refine hk A3 Fl3 F2 ⟨q3,s2.iq⟩ (K2.trans k3 (by simp)) (λy hy=>.inr (by have:=hFl3 y hy;omega)) hF2 (by omega) f3
theorem Aex {k : KS} (h : QD A kq dq k q Fl Fq) (iq : IQ kk L q) (hne : k.broken = false -> AA q.D ≠ []) (hk9 : kk < 8000) (hL : L < 600000) (hr : r.2.data.toList.length <= 65536) (hl : k.l.length < 900000) (hlm1 : 1 <= k.limit) (hlm : k.limit < 9223372036854775808) (hf : Aw A) (hA : A.next < 900000000000)
    (hk : ∀ A' Fl' F', QD A' kq dq (Fe q k (toR r)).2.1 (Fe q k (toR r)).1 Fl' F' -> IQ (kk + 1) (L + (Bc (toR r)).length) (Fe q k (toR r)).1 -> Aj A A' (kq :: dq :: Fq) -> (∀ y ∈ Fl', y ∈ Fl \/ A.next <= y) -> (∀ y ∈ F', y ∈ Fq \/ A.next <= y) -> A'.next <= A.next + 6 * L + 30000 -> Aw A' -> K (.int .i64 (Fe q k (toR r)).2.2) A') :
    Wc Tp An W0 m0 35 [pP kq 0, .agg ⟨fR r⟩] A K := by
  have hmax : Am = 1099511627776 := rfl
  have hfew := iq.few
  have hq := h
  have hqlt := h.lt
  have iq1 := iq.more (Nat.le_succ kk) (Nat.le_add_right L (Bc (toR r)).length)
  refine w35 _ _ _ BF ?_
  rw [AfM]
  refine Bk (cs := fR r) hf (by omega) rfl λA1 m1 => ?_
  have n1 := m1.next
  have g1 : Grow A A1 1 := .made m1 hf
  have t1 : Go.Abs.AS A1 A.next [.int .u8 r.1.toNat, .string r.2] 35 := m1.BB
  have q1 := hq.grow g1
  unfold Fe at hk
  simp only [E5, Kg, Ae t1.row, cellOf, AG, Cf, Ab, Bo]
  refine Be.2 ⟨λhz => ?_, λhz => ?_⟩
  · have hz0 : (toR r).1 = 0 := UInt8.toNat_inj.1 (by show r.1.toNat = 0; omega)
    rw [if_pos hz0] at hk
    exact hk A1 Fl Fq q1 iq1 (g1.keeps.more (by simp)) (λy hy => .inl hy) (λy hy => .inl hy) (by omega) m1.Ay
  have hz0 : ¬ (toR r).1 = 0 := λh0 => hz (by have : r.1 = 0 := h0; rw [this]; rfl)
  rw [if_neg hz0] at hk
  obtain ⟨v1, rl1, hr1, hrl1, _⟩ := q1.jn
  have hvl := hrl1.one
  simp only [Al, HK, Fh, Ae hr1.row, cellOf, hvl.2, Ax, AG, AE, Bt, Cf, Ab, Nat.zero_add]
  refine Ag.2 ⟨λhb => ?_, λhb => ?_⟩
  · rw [if_pos hb] at hk
    exact hk A1 Fl Fq q1 iq1 (g1.keeps.more (by simp)) (λy hy => .inl hy) (λy hy => .inl hy) (by omega) m1.Ay
  rw [if_neg (by rw [hb]; simp)] at hk
  have hne := hne hb
  simp only [Ec, CG, Ae t1.row, cellOf, AG, AE, Cf, Ab, Ea, BN, Ao, Nat.zero_add]
  refine ⟨λhgt => by omega, λ_ => ?_⟩
  simp only [JL, LA (show Go.Abs.AS A1 A.next (fR r) 35 from t1), Ab]
  refine MI (c := r.1) (s := r.2) m1.Ay (by omega) λA2 m2 => ?_
  have n2 := m2.next
  have g2 := g1.trans (.made m2 m1.Ay)
  have hrd : RdE 1 fR A2 (.slice (some ⟨A1.next, 0, none⟩) 1 1) [r] [A1.next] := .inr ⟨A1.next, 0, 1, _, _, A1.next, 0, false, rfl, m2.row, by omega, rfl, λi p hi => by
    cases i with
    | zero => obtain rfl : r = p := by simpa using hi
              exact ⟨[], by simp [fR]⟩
    | succ i => simp at hi⟩
  have hpl : Cr (([r] : List RV).map toR) = Bc (toR r) := by simp [Cr]
  have hprl := Cn (toR r)
  have hrl' : (toR r).2.length = r.2.data.toList.length := rfl
  refine AbB hrd m2.Ay (by simp) (by simpa using hr) (by simp; omega) (by rw [hpl, hprl]; omega) λA3 g3 => ?_
  rw [hpl]
  have n3 := g3.next
  have hl1 : ([r] : List RV).length = 1 := rfl
  rw [hl1] at n3
  simp only [Bw, Bv, Ab]
  have q3 := (q1.grow (.made m2 m1.Ay)).grow g3
  have t3 := (t1.keeps (m2.keeps m1.Ay) (by simp)).keeps g3.keeps (by simp)
  refine ZZ q3 hne (by omega) g3.Ay (by omega) λA4 g4 => ?_
  have n4 := g4.next
  have q4 := q3.grow g4
  have t4 := t3.keeps g4.keeps (by simp)
  obtain ⟨v4, rl4, hr4, hrl4, _⟩ := q4.jn
  obtain ⟨hl8, hl0, fl, hlk⟩ := LV hne
  simp only [Al, CA, Fj, Ae hr4.row, cellOf, Ax, Cf, Ab]
  have hfl : fl.1.length <= L := iq.len _ (Jr.Dp hlk)
  have hsc : O9 q (AH q) = scan fl.1 := by unfold O9 fileOf; rw [hlk]; rfl
  have hss := (H3 fl.1).1
  refine YA (f := fl) q4.dk (by omega) hl8 hlk (by omega) g4.Ay (by omega) λA5 vr R FR hR hR13 oR hFR g5 => ?_
  have n5 := g5.next
  have q5 := q4.grow g5
  have t5 : Go.Abs.AS A5 A.next (fR r) 35 := t4.keeps g5.keeps (by simp)
  have G5 : Grow A A5 (6 * L + 25000) := ⟨(((g2.keeps.trans g3.keeps (by simp)).trans g4.keeps (by simp)).trans g5.keeps (by simp)), g5.Ay, by omega⟩
  have le5 := G5.le
  have le5' : A.next + 1 <= A5.next := by have := g3.le; have := g4.le; have := g5.le; omega
  have ht0 : A.next ∉ dq :: Fq := λhm => by
    rcases Mk.1 hm with h | h
    · have := hqlt dq (by simp); omega
    · have := hqlt A.next (by simp [h]); omega
  dsimp only at hk
  rw [hsc] at hk
  have hRl : ((scan fl.1).1 ≠ []) ↔ 0 < R.length := by
    rw [hR]
    cases R <;> simp
  simp only [GU, GS, GR, Ab, (oR.rd etR.len).len etR, BN, Ao]
  have putIn : ∀ (n : Nat) (A6 : AW) (q6 : DS) (F6 : List Nat) (kk6 L6 : Nat), n < 100000000 -> QD A6 kq dq k q6 Fl F6 -> IQ kk L q6 -> Aj A A6 (kq :: dq :: Fq) -> (∀ y ∈ F6, y ∈ Fq \/ A.next <= y) -> Go.Abs.AS A6 A.next (fR r) 35 -> A.next ∉ dq :: F6 -> A.next <= A6.next -> A6.next <= A.next + 6 * L + 29000 -> Aw A6 ->
      (∀ A' Fl' F', (let y := BA ltB q6 (Jr.nm n) (Bc (toR r)); QD A' kq dq (if y.2 ≠ 0 then Eh k y.2 else { k with l := k.l ++ [toR r] }) y.1 Fl' F' /\ IQ (kk + 1) (L + (Bc (toR r)).length) y.1) -> Aj A A' (kq :: dq :: Fq) -> (∀ y ∈ Fl', y ∈ Fl \/ A.next <= y) -> (∀ y ∈ F', y ∈ Fq \/ A.next <= y) -> A'.next <= A.next + 6 * L + 30000 -> Aw A' -> K (.int .i64 (BA ltB q6 (Jr.nm n) (Bc (toR r))).2) A') ->
      apG W0 m0 K (pP kq 0) (pP A.next 0) (.string ⟨⟨Bc (toR r)⟩⟩) (.int .i64 (n : Int)) A6 := by
    intro n A6 q6 F6 kk6 L6 hn h6 iq6 K6 hF6 t6 ht6 le6 n6 f6 hk6
    refine Abp h6 iq6 hk9 (by omega) t6 ht6 hr hn hl f6 (by omega) λA7 Fl7 F7 hy K7 hFl7 hF7 n7 f7 => ?_
    refine hk6 A7 Fl7 F7 hy (K6.trans K7 λx hx => ?_) (λy hy => (hFl7 y hy).imp id λh => by omega) (λy hy => ?_) (by omega) f7
    · simp only [Mk] at hx ⊢
      rcases hx with h | h | h
      · exact .inl (.inl h)
      · exact .inl (.inr (.inl h))
      · rcases hF6 x h with h | h
        · exact .inl (.inr (.inr h))
        · exact .inr h
    · rcases hF7 y hy with h | h
      · exact hF6 y h
      · exact .inr (by omega)
  have K5 : Aj A A5 (kq :: dq :: Fq) := G5.keeps.more (by simp)
  have here : ¬ ((scan fl.1).1 ≠ [] /\ k.limit < ((scan fl.1).2.1 : Int) + (Bc (toR r)).length) -> apG W0 m0 K (pP kq 0) (pP A.next 0) (.string ⟨⟨Bc (toR r)⟩⟩) (.int .i64 (AH q : Int)) A5 := by
    intro hno
    rw [if_neg hno] at hk
    refine putIn (AH q) A5 q Fq kk L hl8 q5 iq K5 (λy hy => .inl hy) t5 ht0 le5 (by have := G5.next; omega) g5.Ay λA' Fl' F' hy K' h1 h2 h3 h4 => ?_
    obtain ⟨y1, y2⟩ := hy
    by_cases he : (BA ltB q (Jr.nm (AH q)) (Bc (toR r))).2 ≠ 0
    · rw [if_pos he] at hk y1
      exact hk A' Fl' F' y1 y2 K' h1 h2 h3 h4
    · rw [if_neg he] at hk y1
      have he : (BA ltB q (Jr.nm (AH q)) (Bc (toR r))).2 = 0 := by omega
      rw [he]
      exact hk A' Fl' F' y1 y2 K' h1 h2 h3 h4
  refine ⟨λhpos => ?_, λhpos => ?_⟩
  rotate_left
  · exact here λh => by have := hRl.1 h.1; omega
  have hR0 := hRl.2 (by omega)
  obtain ⟨v5, rl5, hr5, hrl5, _⟩ := q5.jn
  simp only [Ea, Al, XF, D4, Ae hr5.row, cellOf, Ax, AG, Cf, Ab, Nat.zero_add, AY, BN]
  rw [wrap_i64 (by omega) (by omega)]
  simp only [Ao]
  refine ⟨λhgt => ?_, λhgt => ?_⟩
  rotate_left
  · exact here λh => hgt (by have := h.2; omega)
  rw [if_pos ⟨hR0, by omega⟩] at hk
  simp only [Bo, Ab]
  refine Be.2 ⟨λh9 => ?_, λh9 => ?_⟩
  · rw [if_pos (by omega)] at hk
    exact hk A5 Fl Fq q5 iq1 K5 (λy hy => .inl hy) (λy hy => .inl hy) (by have := G5.next; omega) g5.Ay
  rw [if_neg (by omega)] at hk
  refine Ot (n := AH q) g5.Ay (by omega) (by omega) λA6 g6 => ?_
  have n6 := g6.next
  have q6 := q5.grow g6
  obtain ⟨v6, rl6, hr6, hrl6, _⟩ := q6.jn
  simp only [Al, CA, Fj, Ae hr6.row, cellOf, Ax, Cf, Ab, AR]
  refine WE (n := ⟨⟨Jr.nm (AH q)⟩⟩) (Sq.start q6.dk iq g6.Ay) (by omega) (by omega) λA7 F7 s7 => ?_
  have s7 : Sq A6 dq Fq A7 (Bn q (Jr.nm (AH q))).1 F7 kk L 0 := s7
  have n7 := s7.nx
  have q7 := q6.CQ s7
  have le6 := g6.le
  have K7 : Aj A A7 (kq :: dq :: Fq) := ((G5.keeps.trans g6.keeps (by simp)).more (T := kq :: dq :: Fq) (by simp)).trans s7.kp λx hx => .inl (List.mem_cons_of_mem _ hx)
  have hF7 : ∀ y ∈ F7, y ∈ Fq \/ A.next <= y := λy hy => (s7.fq y hy).imp id λh => by omega
  have hG5n := G5.next
  simp only [BC, Ab]
  refine Bb.2 ⟨λhe => ?_, λhe => ?_⟩
  · have he : (Bn q (Jr.nm (AH q))).2 ≠ 0 := he
    rw [if_pos he] at hk
    refine Wh q7 s7.fn (by omega) λA8 q8 k8 n8 f8 => ?_
    exact hk A8 Fl F7 q8 (s7.iq.more (Nat.le_succ kk) (Nat.le_add_right L _)) (K7.trans k8 (by simp)) (λy hy => .inl hy) hF7 (by omega) f8
  · have he : ¬ (Bn q (Jr.nm (AH q))).2 ≠ 0 := λh => h (by have he : (Bn q (Jr.nm (AH q))).2 = 0 := (by omega); exact he)
    rw [if_neg he] at hk
    rw [wrap_i64 (by omega) (by omega)]
    have t7 := (t5.keeps g6.keeps (by simp)).keeps s7.kp ht0
    have ht7 : A.next ∉ dq :: F7 := λhm => by
      rcases Mk.1 hm with h | h
      · exact ht0 (h ▸ List.mem_cons_self)
      · rcases s7.fq _ h with h1 | h1
        · exact ht0 (List.mem_cons_of_mem _ h1)
        · omega
    have hlast9 : AH q ≠ 99999999 := λh => h9 (by rw [h]; rfl)
    refine putIn (AH q + 1) A7 (Bn q (Jr.nm (AH q))).1 F7 kk L (by omega) q7 s7.iq K7 hF7 t7 ht7 (by have := s7.kp.next; omega) (by omega) s7.fn λA' Fl' F' hy K' h1 h2 h3 h4 => ?_
    obtain ⟨y1, y2⟩ := hy
    by_cases he2 : (BA ltB (Bn q (Jr.nm (AH q))).1 (Jr.nm (AH q + 1)) (Bc (toR r))).2 ≠ 0
    · rw [if_pos he2] at hk y1
      exact hk A' Fl' F' y1 y2 K' h1 h2 h3 h4
    · rw [if_neg he2] at hk y1
      have he2 : (BA ltB (Bn q (Jr.nm (AH q))).1 (Jr.nm (AH q + 1)) (Bc (toR r))).2 = 0 := by omega
      rw [he2]
      exact hk A' Fl' F' y1 y2 K' h1 h2 h3 h4
end
end Go.Proofs.YtbchfeibhoobeaaGreatDoor
namespace Go.Jr
variable {x:DS × Int} {f:DS->DS × Int}
def IJ(x:DS × Int)(f:DS->DS × Int):DS × Int:=if x.2=0 then f x.1 else x
theorem Hu(h:x.2=0):IJ x f=f x.1:=if_pos h
theorem EW(h:x.2≠0):IJ x f=x:=if_neg h
def TV(q:DS):DS × Int:=if (AB q.D fresh).isSome=true then AQ q fresh else (q,0)
def ckX(q:DS)(st:List UInt8):DS × Int:=IJ (IJ (IJ (TV q) λs=>BA ltB s fresh (Bc (0,st))) λs=>Bn s fresh) λs=>B4 ltB s fresh (Jr.nm (AH q+1))
theorem Aa8{q:DS}{k:KS}{st:List UInt8}(hb:k.broken=false)(hs:¬ 65536<st.length)(hn:AH q≠99999999):B6 q k st=
  if (ckX q st).2≠0 then ((ckX q st).1,Eh k (ckX q st).2,(ckX q st).2) else
   if (B5 (ckX q st).1 ((AA (ckX q st).1.D).takeWhile λi=>decide (i<=AH q))).2≠0 then
    ((B5 (ckX q st).1 ((AA (ckX q st).1.D).takeWhile λi=>decide (i<=AH q))).1,Eh { k with state:=st,l:=[] } (B5 (ckX q st).1 ((AA (ckX q st).1.D).takeWhile λi=>decide (i<=AH q))).2,(B5 (ckX q st).1 ((AA (ckX q st).1.D).takeWhile λi=>decide (i<=AH q))).2)
   else ((B5 (ckX q st).1 ((AA (ckX q st).1.D).takeWhile λi=>decide (i<=AH q))).1,{ k with state:=st,l:=[] },0):=by
 unfold B6;rw [if_neg (by rw [hb];simp),if_neg hs,if_neg hn];dsimp only;have e0:(if (AB q.D fresh).isSome=true then AQ q fresh else (q,0))=TV q:=rfl;rw [e0];unfold ckX;generalize TV q=x0;by_cases h0:x0.2=0
 case neg=>rw [EW h0,EW h0,EW h0,if_pos h0,if_pos h0]
 rw [if_neg (not_not.2 h0),Hu h0];generalize BA ltB x0.1 fresh (Bc (0,st))=x1;by_cases h1:x1.2=0
 case neg=>rw [EW h1,EW h1,if_pos h1,if_pos h1]
 rw [if_neg (not_not.2 h1),Hu h1];generalize Bn x1.1 fresh=x2;by_cases h2:x2.2=0
 case neg=>rw [EW h2,if_pos h2,if_pos h2]
 rw [if_neg (not_not.2 h2),Hu h2]
theorem Ue{α:Type}{p:α->Bool}:∀ {l:List α} {i:Nat},i<=(l.takeWhile p).length->(i<(l.takeWhile p).length->∃ x,l[i]? =some x/\p x=true/\(l.takeWhile p)[i]? =some x)/\(i=(l.takeWhile p).length->∀ x,l[i]? =some x->p x=false)
 |[],i,h=>by
  have:i=0:=by simpa using h
  subst this
  simp
 |a::l,i,h=>by
  by_cases ha:p a=true
  ·rw [List.takeWhile_cons_of_pos ha] at h ⊢;cases i with
   |zero=>exact ⟨λ_=>⟨a,rfl,ha,rfl⟩,λh=>by simp at h⟩
   |succ i=>
    have:=Ue (p:=p) (l:=l) (i:=i) (by simpa using h)
    simpa using this
  ·rw [List.takeWhile_cons_of_neg ha] at h ⊢
   have:i=0:=by simpa using h
   subst this;refine ⟨λh=>by simp at h,λ_ x hx=>?_⟩;obtain rfl:a=x:=by simpa using hx
   simpa using ha
end Go.Jr
namespace Go.Proofs.YtbchfeibhoobeaaGreatDoor
open Go.Abs Go.Jr
noncomputable def ckF(W0:World)(m0:Inj Tp)(S:Nat->List Value->AW->Prop)(Q:Value->AW->Prop)(a0 a1 t5 e:Value)(A:AW):Prop:=
 Aa (Ai Tp .neq 3 (.tmp 57) (.const (.int .i64 0)) e (.int .i64 0)) λt40=>Ah t40 (Wc Tp An W0 m0 85 [a0,e] A λt41 At41=>Q t41 At41) (Aa (AD a0) λt42=>Aa (Ad Tp 116 t42 2) λt43=>Bh (Az Tp A 9 t43 a1) λAt44=>Aa (AD a0) λt45=>Aa (Ad Tp 116 t45 3) λt46=>Bh (Az Tp At44 22 t46 (.slice none 0 0)) λAt47=>Aa (AD a0) λt48=>Aa (Ad Tp 116 t48 0) λt49=>Aa (Af Tp At47 62 t49) λt50=>Wc Tp An W0 m0 75 [t50] At47 λt51 At51=>Bm (T34 0) (T34 0) (S 0 [a0,t5,t51,(.int .i64 0)] At51))
noncomputable def ck3(W0:World)(m0:Inj Tp)(S:Nat->List Value->AW->Prop)(Q:Value->AW->Prop)(a0 a1 t5 e:Value)(A:AW):Prop:=
 Aa (Ai Tp .eql 3 (.tmp 47) (.const (.int .i64 0)) e (.int .i64 0)) λt30=>Ah t30 (Aa (AD a0) λt31=>Aa (Ad Tp 116 t31 0) λt32=>Aa (Af Tp A 62 t32) λt33=>Aa (Ai Tp .add 3 (.tmp 53) (.const (.int .i64 1)) t5 (.int .i64 1)) λt34=>Wc Tp An W0 m0 74 [t34] A λt35 At35=>Aa (Af Tp At35 62 t32) λt36=>eqW t36 t33 (Aa (Ad Tp 116 t31 0) λt37=>eqW t37 t32 (Aa (AD a0) λt38=>eqW t38 t31 (eqW a0 a0 (Wc Tp An W0 m0 73 [t33,(.string ⟨⟨[106,46,110,101,119]⟩⟩),t35] At35 λt39 At39=>ckF W0 m0 S Q a0 a1 t5 t39 At39))))) (ckF W0 m0 S Q a0 a1 t5 e A)
noncomputable def ck2(W0:World)(m0:Inj Tp)(S:Nat->List Value->AW->Prop)(Q:Value->AW->Prop)(a0 a1 t5 e:Value)(A:AW):Prop:=
 Aa (Ai Tp .eql 3 (.tmp 40) (.const (.int .i64 0)) e (.int .i64 0)) λt25=>Ah t25 (Aa (AD a0) λt26=>Aa (Ad Tp 116 t26 0) λt27=>Aa (Af Tp A 62 t27) λt28=>Wc Tp An W0 m0 72 [t28,(.string ⟨⟨[106,46,110,101,119]⟩⟩)] A λt29 At29=>ck3 W0 m0 S Q a0 a1 t5 t29 At29) (ck3 W0 m0 S Q a0 a1 t5 e A)
noncomputable def ck1(W0:World)(m0:Inj Tp)(S:Nat->List Value->AW->Prop)(Q:Value->AW->Prop)(a0 a1 t5 e:Value)(A:AW):Prop:=
 Aa (Ai Tp .eql 3 (.tmp 31) (.const (.int .i64 0)) e (.int .i64 0)) λt16=>Ah t16 (Aa (AD a0) λt17=>Aa (Ad Tp 116 t17 0) λt18=>Aa (Af Tp A 62 t18) λt19=>Wc Tp An W0 m0 71 [a1] A λt20 At20=>Aa (Af Tp At20 62 t18) λt21=>eqW t21 t19 (Aa (Ad Tp 116 t17 0) λt22=>eqW t22 t18 (Aa (AD a0) λt23=>eqW t23 t17 (eqW a0 a0 (Wc Tp An W0 m0 32 [t19,(.string ⟨⟨[106,46,110,101,119]⟩⟩),t20] At20 λt24 At24=>ck2 W0 m0 S Q a0 a1 t5 t24 At24))))) (ck2 W0 m0 S Q a0 a1 t5 e A)
theorem AfN(W0:World)(m0:Inj Tp)(S:Nat->List Value->AW->Prop)(Q:Value->AW->Prop)(a0 a1:Value)(A:AW):gE W0 m0 S Q 34 103 T34 L34 [a0,a1] A=
  (Aa (AD a0) λt0=>Aa (Ad Tp 116 t0 4) λt1=>Aa (Af Tp A 4 t1) λt2=>Ah t2 (Q (.int .i64 100) A) (Aa (Bd Tp A 9 a1) λt3=>Aa (Ai Tp .gtr 3 (.tmp 14) (.const (.int .i64 65536)) t3 (.int .i64 65536)) λt4=>Ah t4 (Q (.int .i64 3) A) (Wc Tp An W0 m0 86 [a0] A λt5 At5=>Aa (Ai Tp .eql 3 (.tmp 18) (.const (.int .i64 99999999)) t5 (.int .i64 99999999)) λt6=>Ah t6 (Q (.int .i64 6) At5) (Aa (AD a0) λt7=>Aa (Ad Tp 116 t7 0) λt8=>Aa (Af Tp At5 62 t8) λt9=>Wc Tp An W0 m0 69 [t9,(.string ⟨⟨[106,46,110,101,119]⟩⟩)] At5 λt10 At10=>Aa (Ai Tp .geq 3 (.tmp 24) (.const (.int .i64 0)) t10 (.int .i64 0)) λt11=>Ah t11
   (Aa (AD a0) λt12=>Aa (Ad Tp 116 t12 0) λt13=>Aa (Af Tp At10 62 t13) λt14=>Wc Tp An W0 m0 70 [t14,(.string ⟨⟨[106,46,110,101,119]⟩⟩)] At10 λt15 At15=>ck1 W0 m0 S Q a0 a1 t5 t15 At15) (ck1 W0 m0 S Q a0 a1 t5 (.int .i64 0) At10))))):=by kernel_rfl
structure Ad2 (kq dq:Nat) (K:Value->AW->Prop) (A3:AW) (k3:KS) (q3:DS) (Fq:List Nat) (kk L N:Nat) (vn:Value) (Fn:List Nat):Prop where
 hA:A3.next<970000000000
 qd:QD A3 kq dq k3 q3 [] Fq
 hk:kk<8000
 hN:N<100000000
 hvn:RdE 0 fI A3 vn (AA q3.D) Fn
 hFn:∀ z∈Fn,z∉dq::Fq
 hNl:(AA q3.D).length<9000
 fin:∀ A' y F',B5 q3 ((AA q3.D).takeWhile λi=>decide (i<=N))=y->QD A' kq dq (if y.2≠0 then Eh k3 y.2 else k3) y.1 [] F'->IQ kk L y.1->Aj A3 A' (kq::dq::Fq)->(∀ z∈F',z∈Fq\/A3.next<=z)->A'.next<=A3.next+200000->Aw A'->K (.int .i64 y.2) A'
def IC(kq dq:Nat)(K:Value->AW->Prop)(g id:Nat)(vals:List Value)(A'':AW):Prop:=
 id=0/\∃ (A3:AW) (k3:KS) (q3:DS) (Fq:List Nat) (kk L N:Nat) (vn:Value) (Fn:List Nat) (i:Nat) (x:DS) (Fx:List Nat),Ad2 kq dq K A3 k3 q3 Fq kk L N vn Fn/\vals=[pP kq 0,.int .i64 (N:Int),vn,.int .i64 (i:Int)]/\i<=((AA q3.D).takeWhile λi=>decide (i<=N)).length/\g=9000-i/\
  B5 q3 ((AA q3.D).takeWhile λi=>decide (i<=N))=B5 x (((AA q3.D).takeWhile λi=>decide (i<=N)).drop i)/\Sq A3 dq Fq A'' x Fx kk L (20*i)
section
variable {W0:World} {m0:Inj Tp}
theorem AaL{kq dq:Nat}{K:Value->AW->Prop}(g id:Nat)(vals:List Value)(A'':AW)(dd:Nat->Value)(hI:IC kq dq K g id vals A'')(hd:(L34 id).map dd=vals):
  gL W0 m0 (λid v A''=>∃ g2,g2<g/\IC kq dq K g2 id v A'') K 34 103 T34 L34 dd id A'':=by
 have hmax:Am=1099511627776:=rfl;obtain ⟨rfl,A3,k3,q3,Fq,kk,L,N,vn,Fn,i,x,Fx,lo,rfl,hi,rfl,hrm,hsq⟩:=hI;have hA:=lo.hA;have hk9:=lo.hk;have hN:=lo.hN;have hNl:=lo.hNl;have hnx:=hsq.nx;have htl:((AA q3.D).takeWhile λi=>decide (i<=N)).length<=(AA q3.D).length:=(List.takeWhile_sublist _).length_le;have hsp:=Ue hi;rw [Adn];simp only [L34,Mc,Mn,Li,and_true] at hd;obtain ⟨d0,d5,d7,d8⟩:=hd;have hvn:=lo.hvn.keeps hsq.kp lo.hFn;have qd:=lo.qd.CQ hsq;have stop:i=((AA q3.D).takeWhile λi=>decide (i<=N)).length->K (.int .i64 0) A'':=by
  intro h;have hy:B5 q3 ((AA q3.D).takeWhile λi=>decide (i<=N))=(x,0):=by
   rw [hrm,h,List.drop_length];rfl
  exact lo.fin A'' (x,0) Fx hy (by rw [if_neg (by simp)];exact qd) hsq.iq (hsq.kp.more λz hz=>.inl (List.mem_cons_of_mem _ hz)) hsq.fq (by omega) hsq.fn
 simp only [d0,d5,d7,d8,ES.HG esI hvn,AU,Ab,Ao];refine ⟨λhlt=>?_,λhge=>?_⟩
 ·have hil:i<(AA q3.D).length:=by omega
  obtain ⟨n,hn⟩:∃ n,(AA q3.D)[i]? =some n:=⟨_,Ge hil⟩;obtain ⟨a,a1,a2⟩:=esI.at hvn hn rfl;simp only [a1,a2,Ab,QE,Ao];refine ⟨λhle=>?_,λhgt=>?_⟩
  ·have hit:i<((AA q3.D).takeWhile λi=>decide (i<=N)).length:=by
    rcases Nat.lt_or_ge i ((AA q3.D).takeWhile λi=>decide (i<=N)).length with h | h
    ·exact h
    ·exfalso
     have:=hsp.2 (by omega) n hn
     rw [decide_eq_true (by omega)] at this;cases this
   obtain ⟨n',h1,h2,h3⟩:=hsp.1 hit;rw [hn] at h1;cases h1;have hn8:n<100000000:=(BK.1 (List.mem_of_getElem? hn)).2.1;rw [Il h3,NB] at hrm;obtain ⟨v1,rl1,hr1,_,_⟩:=qd.jn;simp only [Al,CA,Fj,Ae hr1.row,cellOf,Ax,Cf,Ab];refine Ot (n:=n) hsq.fn (by omega) (by omega) λA4 g4=>?_;have hs4:=hsq.grow g4;have hnx4:=hs4.nx;have qd4:=lo.qd.CQ hs4;obtain ⟨v4,rl4,hr4,_,_⟩:=qd4.jn;simp only [Al,CA,Fj,Ae hr4.row,cellOf,Ax,Cf,Ab,AR];refine YK (n:=⟨⟨Jr.nm n⟩⟩) hs4 (by omega) (by omega) λA5 F5 hs5=>?_;have hs5:Sq A3 dq Fq A5 (AQ x (Jr.nm n)).1 F5 kk L (20*i+8+5):=hs5;have hnx5:=hs5.nx;have qd5:=lo.qd.CQ hs5;simp only [BC,Ab];refine Bb.2 ⟨λhe=>?_,λhe=>?_⟩
   ·have he:(AQ x (Jr.nm n)).2≠0:=he;rw [if_pos he] at hrm;refine Wh qd5 hs5.fn (by omega) λA6 q6 k6 n6 f6=>?_;refine lo.fin A6 _ F5 hrm (by rw [if_pos he];exact q6) hs5.iq ((hs5.kp.more (T:=kq::dq::Fq) λz hz=>.inl (List.mem_cons_of_mem _ hz)).trans k6 (by simp)) hs5.fq (by omega) f6
   ·have he:¬ (AQ x (Jr.nm n)).2≠0:=λh=>h (by have he:(AQ x (Jr.nm n)).2=0:=(by omega);exact he);rw [if_neg he] at hrm;rw [AY,wrap_i64 (by omega) (by omega)];simp only [Ab];exact Ar.2 ⟨9000-(i+1),by omega,rfl,A3,k3,q3,Fq,kk,L,N,vn,Fn,i+1,_,F5,lo,rfl,by omega,rfl,hrm,hs5.more (Nl _) (Nl _) (by omega)⟩
  ·refine stop ?_;rcases Nat.lt_or_ge i ((AA q3.D).takeWhile λi=>decide (i<=N)).length with h | h
   ·obtain ⟨n',h1,h2,h3⟩:=hsp.1 h;rw [hn] at h1;cases h1
    have:=of_decide_eq_true h2
    omega
   ·omega
 ·exact stop (by omega)
structure Yv (A:AW) (kq dq:Nat) (k:KS) (Fl Fq:List Nat) (st:ByteArray) (q:DS) (kk L C:Nat) (K:Value->AW->Prop):Prop where
 hA:A.next+C<950000000000
 hk:kk<7900
 hN:AH q<100000000
 bad:∀ A' F',(ckX q st.data.toList).2≠0->QD A' kq dq (Eh k (ckX q st.data.toList).2) (ckX q st.data.toList).1 Fl F'->IQ kk L (ckX q st.data.toList).1->Aj A A' (kq::dq::Fq)->(∀ z∈F',z∈Fq\/A.next<=z)->A'.next<=A.next+C->Aw A'->K (.int .i64 (ckX q st.data.toList).2) A'
 good:∀ A' F',(ckX q st.data.toList).2=0->let y:=B5 (ckX q st.data.toList).1 ((AA (ckX q st.data.toList).1.D).takeWhile λi=>decide (i<=AH q));QD A' kq dq (if y.2≠0 then Eh { k with state:=st.data.toList,l:=[] } y.2 else { k with state:=st.data.toList,l:=[] }) y.1 [] F'->IQ kk L y.1->Aj A A' (kq::dq::Fq)->(∀ z∈F',z∈Fq\/A.next<=z)->A'.next<=A.next+C+250000->Aw A'->K (.int .i64 y.2) A'
variable {A A':AW} {kq dq kk L c C:Nat} {k:KS} {Fl Fq Fx:List Nat} {st:ByteArray} {q:DS} {x:DS × Int} {K:Value->AW->Prop}
theorem XS(e:Yv A kq dq k Fl Fq st q kk L C K)(h0:QD A kq dq k q Fl Fq)(hs:Sq A dq Fq A' x.1 Fx kk L c)(hc:c<=C)(hX:x=ckX q st.data.toList):
  ckF W0 m0 (λid v A''=>∃ g,IC kq dq K g id v A'') K (pP kq 0) (.string st) (.int .i64 (AH q:Int)) (.int .i64 x.2) A':=by
 have hmax:Am=1099511627776:=rfl;have hA:=e.hA;have hk9:=e.hk;have hnx:=hs.nx;have hfew:=hs.iq.few;have hbad:=e.bad;have hgood:=e.good;dsimp only at hgood;rw [<- hX] at hbad hgood;have qd:=h0.CQ hs;have hle:=hs.kp.next;have K1:Aj A A' (kq::dq::Fq):=hs.kp.more λz hz=>.inl (List.mem_cons_of_mem _ hz);unfold ckF;simp only [BC,Ab];refine Bb.2 ⟨λhe=>?_,λhe=>?_⟩
 ·refine Wh qd hs.fn (by omega) λA6 q6 k6 n6 f6=>?_;exact hbad A6 Fx he q6 hs.iq (K1.trans k6 (by simp)) hs.fq (by omega) f6
 ·have he:x.2=0:=by omega
  have hq:=qd;have hqlt:=qd.lt;obtain ⟨v,rl,hr,hrl,hkl⟩:=qd.jn;have hvl:=hrl.one;simp only [Al,NZ,Ab];refine hr.store hs.fn (by omega) (S2 _ _ _) rfl (by show 0+2+1<=5;omega) rfl λA2 r2 k2 n2 f2=>?_;have r2:Go.Abs.AS A2 kq [pP dq 0,.int .i64 k.limit,.string st,v,.bool k.broken] 116:=r2;have k2:Aj A' A2 [kq]:=k2;simp only [Lo,Ab];refine r2.store f2 (by omega) (Nu _ _ _) rfl (by show 0+3+1<=5;omega) rfl λA3 r3 k3 n3 f3=>?_;have r3:Go.Abs.AS A3 kq [pP dq 0,.int .i64 k.limit,.string st,.slice none 0 0,.bool k.broken] 116:=r3;have k3:Aj A2 A3 [kq]:=k3;have K3:Aj A' A3 [kq]:=k2.trans k3 (by simp);have qd3:QD A3 kq dq { k with state:=st.data.toList,l:=[] } x.1 [] Fx:=
   ⟨⟨_,[],r3,RdE.nil _ _ _,rfl⟩,hq.dk.keeps K3 (λhm=>hq.nd (by rw [<- Ms.1 hm];exact List.mem_cons_self)) (λz hz hm=>hq.nd (by rw [<- Ms.1 hm];exact List.mem_cons_of_mem _ hz)),hq.nd,by simp⟩
  simp only [CA,Fj,Ae r3.row,cellOf,Ax,Cf,Ab];refine YB qd3.dk (by omega) f3 (by omega) λA4 vn Fn o4 hFn g4=>?_;have n4:=g4.next;have le4:=g4.le;have hNl:=IU x.1.D;have qd4:=qd3.grow g4;have hK4:Aj A A4 (kq::dq::Fq):=(K1.trans K3 (by simp)).trans g4.keeps (by simp);refine Ar.2 ⟨9000,rfl,A4,_,x.1,Fx,kk,L,AH q,vn,Fn,0,x.1,Fx,⟨by omega,qd4,by omega,e.hN,o4.rd esI.len,λz hz hm=>?_,by omega,λA5 y F5 hy q5 iq5 K5 hF5 n5 f5=>?_⟩,rfl,Nat.zero_le _,rfl,by rw [List.drop_zero],(Sq.start qd4.dk hs.iq g4.Ay).more (Nl _) (Nl _) (by omega)⟩
  ·have h1:=hFn z hz;have h2:=qd3.dk.lt z hm;omega
  ·subst hy;refine hgood A5 F5 he q5 iq5 (hK4.trans K5 λz hz=>?_) (λz hz=>?_) (by omega) f5
   ·simp only [Mk] at hz ⊢;rcases hz with h | h | h
    ·exact .inl (.inl h)
    ·exact .inl (.inr (.inl h))
    ·rcases hs.fq z h with h | h
     ·exact .inl (.inr (.inr h))
     ·exact .inr h
   ·rcases hF5 z hz with h | h
    ·exact hs.fq z h
    ·exact .inr (by omega)
theorem XT(e:Yv A kq dq k Fl Fq st q kk L C K)(h0:QD A kq dq k q Fl Fq)(hs:Sq A dq Fq A' x.1 Fx kk L c)(hc:c+30<=C)(hX:IJ x (λs=>B4 ltB s fresh (Jr.nm (AH q+1)))=ckX q st.data.toList):
  ck3 W0 m0 (λid v A''=>∃ g,IC kq dq K g id v A'') K (pP kq 0) (.string st) (.int .i64 (AH q:Int)) (.int .i64 x.2) A':=by
 have hmax:Am=1099511627776:=rfl;have hA:=e.hA;have hk9:=e.hk;have hN:=e.hN;have hnx:=hs.nx;have qd:=h0.CQ hs;unfold ck3;simp only [Bo,Ab];refine Be.2 ⟨λhe=>?_,λhe=>?_⟩
 ·rw [Hu he] at hX;obtain ⟨v,rl,hr,hrl,hkl⟩:=qd.jn;simp only [Al,CA,Fj,Ae hr.row,cellOf,Ax,Cf,Ab,AY];rw [wrap_i64 (by omega) (by omega)];refine Ot (n:=AH q+1) hs.fn (by omega) (by omega) λA2 g2=>?_;have h2:=hs.grow g2;have hnx2:=h2.nx;obtain ⟨v2,rl2,hr2,_,_⟩:=(qd.grow g2).jn;simp only [Al,CA,Fj,Ae hr2.row,cellOf,Ax,Cf,Ab,AR];refine Acu (n:=⟨⟨fresh⟩⟩) (t:=⟨⟨Jr.nm (AH q+1)⟩⟩) h2 (by omega) (by show fresh.length<_;decide) (by show (Jr.nm (AH q+1)).length<_;unfold Jr.nm;rw [Lq,Dg];decide) (by omega) λA3 F3 h3=>?_;exact XS e h0 h3 (by omega) hX
 ·rw [EW he] at hX;exact XS e h0 hs (by omega) hX
theorem XU(e:Yv A kq dq k Fl Fq st q kk L C K)(h0:QD A kq dq k q Fl Fq)(hs:Sq A dq Fq A' x.1 Fx kk L c)(hc:c+30<=C)(hX:IJ (IJ x λs=>Bn s fresh) (λs=>B4 ltB s fresh (Jr.nm (AH q+1)))=ckX q st.data.toList):
  ck2 W0 m0 (λid v A''=>∃ g,IC kq dq K g id v A'') K (pP kq 0) (.string st) (.int .i64 (AH q:Int)) (.int .i64 x.2) A':=by
 have hmax:Am=1099511627776:=rfl;have hA:=e.hA;have hk9:=e.hk;have hnx:=hs.nx;have qd:=h0.CQ hs;unfold ck2;simp only [Bo,Ab];refine Be.2 ⟨λhe=>?_,λhe=>?_⟩
 ·rw [Hu he] at hX;obtain ⟨v,rl,hr,hrl,hkl⟩:=qd.jn;simp only [Al,CA,Fj,Ae hr.row,cellOf,Ax,Cf,Ab];refine WE (n:=⟨⟨fresh⟩⟩) hs (by omega) (by omega) λA3 F3 h3=>?_;exact XT e h0 h3 hc hX
 ·rw [EW he] at hX;exact XT e h0 hs hc hX
theorem XV {kk0 L0:Nat} (e:Yv A kq dq k Fl Fq st q kk L C K) (h0:QD A kq dq k q Fl Fq) (hst:st.data.toList.length<=65536) (hs:Sq A dq Fq A' x.1 Fx kk0 L0 c) (hkk:kk0+1<=kk) (hLL:L0+(Bc (0,st.data.toList)).length<=L) (hL0:L0<=1000000) (hc:c+110<=C)
  (hX:IJ (IJ (IJ x λs=>BA ltB s fresh (Bc (0,st.data.toList))) λs=>Bn s fresh) (λs=>B4 ltB s fresh (Jr.nm (AH q+1)))=ckX q st.data.toList):
  ck1 W0 m0 (λid v A''=>∃ g,IC kq dq K g id v A'') K (pP kq 0) (.string st) (.int .i64 (AH q:Int)) (.int .i64 x.2) A':=by
 have hmax:Am=1099511627776:=rfl;have hA:=e.hA;have hk9:=e.hk;have hnx:=hs.nx;have qd:=h0.CQ hs;unfold ck1;simp only [Bo,Ab];refine Be.2 ⟨λhe=>?_,λhe=>?_⟩
 ·rw [Hu he] at hX;obtain ⟨v,rl,hr,hrl,hkl⟩:=qd.jn;simp only [Al,CA,Fj,Ae hr.row,cellOf,Ax,Cf,Ab];refine AbE (s:=st) hs.fn hst (by omega) λA2 g2=>?_;have h2:=hs.grow g2;have hnx2:=h2.nx;obtain ⟨v2,rl2,hr2,_,_⟩:=(qd.grow g2).jn;have hpl:=Cn (0,st.data.toList);have hpl2:((0,st.data.toList):Rec).2.length=st.data.toList.length:=rfl;simp only [Al,CA,Fj,Ae hr2.row,cellOf,Ax,Cf,Ab,AR];refine Aap (n:=⟨⟨fresh⟩⟩) (b:=⟨⟨Bc (0,st.data.toList)⟩⟩) h2 (by omega) (by omega) (by show fresh.length<_;decide) (by show (Bc (0,st.data.toList)).length<_;omega) (by omega) λA3 F3 h3=>?_;have h3:Sq A dq Fq A3 (BA ltB x.1 fresh (Bc (0,st.data.toList))).1 F3 (kk0+1) (L0+(Bc (0,st.data.toList)).length) (c+61+10):=h3;exact XU e h0 (h3.more hkk hLL (Nl _)) (by omega) hX
 ·rw [EW he] at hX;exact XU e h0 (hs.more (by omega) (by omega) (Nl _)) (by omega) hX
theorem Aey {st:ByteArray} (h:QD A kq dq k q Fl Fq) (iq:IQ kk L q) (hne:k.broken=false->AA q.D≠[]) (hk9:kk<7000) (hL:L<600000) (hf:Aw A) (hA:A.next<900000000000)
  (hk:∀ A' Fl' F',QD A' kq dq (B6 q k st.data.toList).2.1 (B6 q k st.data.toList).1 Fl' F'->IQ (kk+1) (L+(Bc (0,st.data.toList)).length) (B6 q k st.data.toList).1->Aj A A' (kq::dq::Fq)->(∀ y∈Fl',y∈Fl\/A.next<=y)->(∀ y∈F',y∈Fq\/A.next<=y)->A'.next<=A.next+300000->Aw A'->K (.int .i64 (B6 q k st.data.toList).2.2) A'):
  Wc Tp An W0 m0 34 [pP kq 0,.string st] A K:=by
 have hmax:Am=1099511627776:=rfl;have hfew:=iq.few;have iq1:=iq.more (Nat.le_succ kk) (Nat.le_add_right L (Bc (0,st.data.toList)).length);refine w34 _ _ _ (c34 (I:=IC kq dq K) AaL) ?_;rw [AfN];have hq:=h;obtain ⟨v,rl,hr,hrl,hkl⟩:=h.jn;have hvl:=hrl.one;have stay:∀ (e:Int) A',B6 q k st.data.toList=(q,k,e)->Grow A A' 20000->K (.int .i64 e) A':=by
  intro e A' he g;rw [he] at hk;exact hk A' Fl Fq (hq.grow g) iq1 (g.keeps.more (by simp)) (λy hy=>.inl hy) (λy hy=>.inl hy) (by have:=g.next;omega) g.Ay
 simp only [Al,HK,Fh,Ae hr.row,cellOf,hvl.2,Ax,AG,AE,Bt,Cf,Ab,Nat.zero_add];refine Ag.2 ⟨λhb=>?_,λhb=>?_⟩
 ·exact stay 100 A (by unfold B6;rw [if_pos hb]) ((Grow.refl hf).more (by omega))
 have hne:=hne hb;simp only [Ea,Ab,BN,Ao];refine ⟨λhs=>?_,λhs=>?_⟩
 ·exact stay 3 A (by unfold B6;rw [if_neg (by rw [hb];simp),if_pos (by omega)]) ((Grow.refl hf).more (by omega))
 have hs:¬ 65536<st.data.toList.length:=by omega
 refine ZZ hq hne (by omega) hf (by omega) λA1 g1=>?_;have n1:=g1.next;obtain ⟨hl8,hl0,fl,hlk⟩:=LV hne;simp only [Bo,Ab];refine Be.2 ⟨λh9=>?_,λh9=>?_⟩
 ·exact stay 6 A1 (by unfold B6;rw [if_neg (by rw [hb];simp),if_neg hs,if_pos (by omega)]) (g1.more (by omega))
 have h9:AH q≠99999999:=λh=>h9 (by rw [h];rfl);have hck:=Aa8 hb hs h9;have q1:=hq.grow g1;obtain ⟨v1,rl1,hr1,_,_⟩:=q1.jn;have le1:=g1.le;have hpl:=Cn (0,st.data.toList);have hpl2:((0,st.data.toList):Rec).2.length=st.data.toList.length:=rfl;have hend:Yv A1 kq dq k Fl Fq st q (kk+1) (L+(Bc (0,st.data.toList)).length) 300 K:=by
  refine ⟨by omega,by omega,hl8,λA' F' he q' iq' K' hF' n' f'=>?_,λA' F' he=>?_⟩
  ·rw [if_pos he] at hck;rw [hck] at hk;exact hk A' Fl F' q' iq' ((g1.keeps.more (T:=kq::dq::Fq) (by simp)).trans K' λx hx=>.inl hx) (λy hy=>.inl hy) (λy hy=>(hF' y hy).imp id λh=>by omega) (by omega) f'
  ·dsimp only;intro q' iq' K' hF' n' f';rw [if_neg (not_not.2 he)] at hck;have hK:Aj A A' (kq::dq::Fq):=(g1.keeps.more (T:=kq::dq::Fq) (by simp)).trans K' λx hx=>.inl hx;by_cases hy:(B5 (ckX q st.data.toList).1 ((AA (ckX q st.data.toList).1.D).takeWhile λi=>decide (i<=AH q))).2≠0
   ·rw [if_pos hy] at hck q';rw [hck] at hk;exact hk A' [] F' q' iq' hK (by simp) (λy hy=>(hF' y hy).imp id λh=>by omega) (by omega) f'
   ·rw [if_neg hy] at hck q';rw [hck] at hk;have hy:(B5 (ckX q st.data.toList).1 ((AA (ckX q st.data.toList).1.D).takeWhile λi=>decide (i<=AH q))).2=0:=by omega
    rw [hy];exact hk A' [] F' q' iq' hK (by simp) (λy hy=>(hF' y hy).imp id λh=>by omega) (by omega) f'
 simp only [CA,Fj,Ae hr1.row,cellOf,Ax,Cf,Ab];have hs1:Sq A1 dq Fq A1 q Fq kk L 0:=Sq.start q1.dk iq g1.Ay;refine PI (n:=⟨⟨fresh⟩⟩) q1.dk (by omega) ?_;have ef:(⟨⟨fresh⟩⟩:ByteArray).data.toList=fresh:=rfl;rw [ef];rcases Eo fresh q.D 0 with ⟨f1,f2,f3⟩ | ⟨i,f',f1,f2,f3,f4⟩
 ·rw [f1];simp only [DZ,Ab,Ao];refine ⟨λh=>absurd h (by decide),λ_=>?_⟩;have e0:TV q=(q,0):=by unfold TV;rw [f2];rfl
  refine XV (x:=(q,0)) (c:=0) hend q1 (by omega) hs1 (Nl _) (Nl _) (by omega) (by omega) ?_;rw [<- e0];rfl
 ·rw [f1];simp only [DZ,Ab,Ao];refine ⟨λ_=>?_,λh=>absurd h (by omega)⟩;have e0:TV q=AQ q fresh:=by unfold TV;rw [f3];rfl
  simp only [Al,CA,Fj,Ae hr1.row,cellOf,Ax,Cf,Ab];refine YK (n:=⟨⟨fresh⟩⟩) hs1 (by omega) (by omega) λA5 F5 h5=>?_;refine XV (x:=AQ q fresh) (c:=0+5) hend q1 (by omega) h5 (Nl _) (Nl _) (by omega) (by omega) ?_;rw [<- e0];rfl
end
end Go.Proofs.YtbchfeibhoobeaaGreatDoor
namespace Go.Proofs.YtbchfeibhoobeaaGreatDoor
open Go.Abs Go.Jr Go.Crc
theorem AcG(a:Addr)(xo yo:Operand):Ai Tp .eql 29 xo yo (.pointer (some a)) (.pointer none)=some (.bool false):=by kernel_rfl
theorem Zt{xo yo:Operand}(a b:Bool):Ai Tp .eql 4 xo yo (.bool a) (.bool b)=some (.bool (a==b)):=by
 cases a<;>cases b<;>kernel_rfl
theorem QF{xo yo:Operand}(a b:Bool):Ai Tp .neq 4 xo yo (.bool a) (.bool b)=some (.bool (a != b)):=by
 cases a<;>cases b<;>kernel_rfl
variable {t:TypeId} {xo yo:Operand}
theorem X9{P:Program}{k:IntKind}{a b:Int}(hb:b≠0):Ai P .rem t xo yo (.int k a) (.int k b)=some (.int k (a.tmod b)):=by simp [Ai,binOp,Op.intDiv,hb,quiet,CN,AM,pure]
theorem Afv(a:UInt8):Ai Tp .rem t xo yo (.int .u8 (a.toNat:Int)) (.int .u8 7)=some (.int .u8 ((a.toNat%7:Nat):Int)):=X9 (by decide)
theorem YJ{a b:List RV}(h:a.map toR=b.map toR):a=b:=by
 induction a generalizing b with
 |nil=>cases b with | nil=>rfl | cons y r=>simp at h
 |cons x l ih=>
  cases b with
  |nil=>simp at h
  |cons y r=>
   rw [Mc,Mc] at h;obtain ⟨h1,h2⟩:=List.cons.inj h;obtain ⟨a1,a2⟩:=x;obtain ⟨b1,b2⟩:=y;have h1:(a1,a2.data.toList)=(b1,b2.data.toList):=h1;obtain ⟨h3,h4⟩:=Prod.mk.inj h1;rw [ih h2,h3,Yd h4]
end Go.Proofs.YtbchfeibhoobeaaGreatDoor
namespace Go.Proofs.YtbchfeibhoobeaaGreatDoor
open Go.Abs Go.Jr
def OkP(A0:AW)(p:AV):Prop:=(∃ kl F,RdE 0 fZ A0 (.slice p.o p.len p.cap) kl F)/\p.n<9223372036854775808
end Go.Proofs.YtbchfeibhoobeaaGreatDoor
