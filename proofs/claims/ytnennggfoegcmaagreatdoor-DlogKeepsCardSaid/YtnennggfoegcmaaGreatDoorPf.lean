/-
  This text prints what the functions reached ask of their memory, and shows what they answer. Conditions: those that each theorem states.
-/
import Derived.Test.YtnennggfoegcmaaGreatDoorPe
set_option linter.all false
set_option maxRecDepth 100000
set_option maxHeartbeats 1000000
namespace Go.Proofs.YtnennggfoegcmaaGreatDoor
open Go.Abs Go.Jr
theorem W8(names:List (List UInt8))(r:List SR):(EK names r).length<=4:=by unfold EK;split<;>split<;>simp
theorem VS(r:List SR):(G0 r).length<=2:=by
 unfold G0;split
 ·simp
 ·split<;>simp
theorem GX.one {A:AW} {hi t0:Nat} {va:Value} {l:List Ac} {vs:List FV} {Fa Fb:List Nat} {a:Ac} {g p:Nat} {x:SV} {K:Value->AW->Prop} (h:GX A hi (Fb++Fa) t0 va l vs Fa) (hf:Aw A) (hA:A.next+2<Aj) (hl:vs.length<100000) (hp:Abs.Row1 A p (fG x) 131) (hpj:hi<p) (hpb:p∉Fb++Fa) (hFa:∀ y∈Fa,hi<y) (hFb:∀ y∈Fb,y<A.next)
  (ha:∀ A' Fb',Abs.Row1 A' p (fG x) 131->p∉Fb'->AcV A' hi Fb' t0 a (f2V g t0 p).v)
  (hk:∀ A' v' vs' F',GX A' hi (Fb++F') t0 v' (l++[a]) vs' F'->Ah A A' Fa->A'.next<=A.next+2->Aw A'->(∀ y∈F',y∈Fa\/A.next<=y)->Abs.Row1 A' p (fG x) 131->p∉Fb++F'->vs'.length=vs.length+1->K v' A'):
  Ao (Aq Tp A 124 1 [(0,(f2V g t0 p).v)]) λt56 At56=>Ao (AU Tp At56 124 124 va t56) K:=by
 have hpl:=hp.lt;refine Hp (VH A g t0 p) rfl hf (by omega) λA1 m1=>?_;have n1:=m1.next;have k1:=m1.keeps hf;refine CW.LM esF (p:=f2V g t0 p) (h.own.keeps k1 (by simp)) m1.Bk m1.Ay (by omega) (by omega) λv2 A2 F2 o2 k2 hF2 n2 f2=>?_;have K2:Ah A A2 Fa:=(k1.more (by simp)).trans k2 (λy hy=>.inl hy);have hF2':∀ y∈F2,y∈Fa\/A.next<=y:=λy hy=>(hF2 y hy).imp (λh=>h) λh=>by omega
 have hp2:=hp.keeps K2 λhm=>hpb (by simp [hm]);have hpb2:p∉Fb++F2:=λhm=>by
  rcases Mz.1 hm with h | h
  ·exact hpb (by simp [h])
  ·rcases hF2' _ h with h | h
   ·exact hpb (by simp [h])
   ·omega
 refine hk A2 v2 (vs++[f2V g t0 p]) F2 ?_ K2 (by omega) f2 hF2' hp2 hpb2 (by rw [Lq];rfl);refine h.app K2 (λy hy=>.inr (.inl (by simp [hy]))) (λy hy=>?_) (l2:=[a]) rfl (λm b v hb hv=>?_) o2
 ·rcases Mz.1 hy with h | h
  ·exact .inl (by simp [h])
  ·rcases hF2' y h with h | h
   ·exact .inl (by simp [h])
   ·exact .inr h
 ·cases m with
  |zero=>
   obtain rfl:a=b:=by simpa using hb
   obtain rfl:f2V g t0 p=v:=by simpa using hv
   exact ha A2 _ hp2 hpb2
  |succ m=>simp at hb
section
variable {W0:World} {m0:Inj Tp}
theorem AeQ {A:AW} {d mp k L:Nat} {s:DS} {limit:Int} {g:Nat} {vals:List Value} {A':AW} {dd:Nat->Value} {Q:Value->AW->Prop} (hdk:Dk A d mp s) (hok:OkS k s) (hk9:k<=1000) (hL:L<900000) (hkL:k*L<12900000) (hA:A.next<500000000000)
  (h:OI A d mp k L s limit g 2 vals A') (hd':(L27 2).map dd=vals):gL W0 m0 (λid v A''=>∃ g2,g2<g/\OI A d mp k L s limit g2 id v A'') Q 27 183 T27 L27 dd 2 A':=by
 have hmax:Aj=1099511627776:=rfl;rcases h with ⟨h,_⟩ | ⟨_,X,f,i,t0,j,va,vr,vl,vw,vs,Fa,Fl,Fr,rfl,hx,hi,rfl,hlow,hj,hact,hjr,hgr⟩ | ⟨h,_⟩
 ·cases h
 rotate_left
 ·cases h
 have hC:C0 L=1000*(2*L+100):=rfl;have hnx:=hgr.next;have hle:=hgr.le;have hf1:=hx.le;have hf2:=hx.few;rw [Afj];simp only [L27,Mc,Mn,Li,and_true] at hd';obtain ⟨h2,h8,h11,h12,h88,h89,h90⟩:=hd';simp only [h2,h8,h11,h12,h88,h89,h90,Br,Ab,Az];have hjlt:=hjr.Bk.lt;have hact0:=hact;have hb4:=W8 (namesS s.D) (X.drop f);have ht2:=VS (X.drop f);refine ⟨λhlt=>?_,λhge=>?_⟩
 ·have hlt:i<X.length-f:=by omega
  rw [Ff (show ¬ i=X.length-f by omega),List.append_nil] at hact;have hvs:vs.length<=1004:=by
   rw [<- hact.len,Lq,List.length_map,List.length_take];omega
  have hne:X.drop f≠[]:=by intro h0;have:=congrArg List.length h0;rw [List.length_drop,Ln] at this;omega
  obtain ⟨x,hxi⟩:∃ x,(X.drop f)[i]? =some x:=⟨_,Ge (by rw [List.length_drop];omega)⟩;have hxm:x∈X:=List.mem_of_mem_drop (List.mem_of_getElem? hxi);have hx1:((X.drop f).map (·.1))[i]? =some x.1:=by rw [List.getElem?_map,hxi];rfl
  obtain ⟨F1,hr1,hr2⟩:=hlow.rr;obtain ⟨r,o,a1,a2,a3⟩:=hr1.at etG hx1;rw [a1];simp only [Ab,a3];refine AH zG hgr.Ay (by omega) rfl λA3 m3=>?_;have n3:=m3.next;refine m3.Bk.store m3.Ay (by omega) (Qq _ _ _) rfl (by show 0+4<=4;omega) rfl λA4 r4 k4 n4 f4=>?_;have r4:Abs.Row1 A4 A'.next [.int .i64 (x.1.n:Int),.slice x.1.o x.1.len x.1.cap,.int .i64 (x.1.size:Int),.int .u8 (x.1.st:Int)] 131:=r4;have k4:Ah A3 A4 [A'.next]:=k4;have g4:Grow A' A4 1:=(Grow.made m3 hgr.Ay).own k4 (by simp) (m:=0) (by omega) f4;have j4:=hjr.Bk.keeps g4.keeps (by simp);have hvl1:=BF.one hjr.l;have hvw1:=hjr.r.one;simp only [ptr] at j4;simp only [ptr,AD,Jg,Jd,Nat.zero_add,PU,GL,Af j4.row,Af r4.row,cellOf,AB,AI,AG,hvl1.2,hvw1.2,Cf,Ab];refine Hp (Aa0 A4 (x.1.n:Int)) rfl f4 (by omega) λA5 m5=>?_;have n5:=m5.next;have k5:=m5.keeps f4;have g5:=g4.trans (Grow.made m5 f4);refine ⟨⟨_,AaJ _,?_⟩,?_⟩
  ·have:=m5.row
   simp only [B4,Eu,this,EF,EV,Bool.and_self,Option.isNone_none,Nat.beq_refl]
  have j5:=j4.keeps k5 (by simp);have r5:=r4.keeps k5 (by simp);simp only [Af j5.row,Af r5.row,cellOf,AB,AI,AG,hvl1.2,hvw1.2,Cf,Ab,AR];have hwl:(rowAt (X.drop f) i).length<1000000:=by
   unfold rowAt;rw [Ff hne,List.length_map,List.length_take];omega
  have hlls:=BF.lt hjr.l;have hrls:=hjr.r.lt;have hals:=hact.own.lt;refine CW.LM esI (p:=x.1.n) (hjr.r.keeps g5.keeps (by simp)) m5.Bk m5.Ay (by omega) hwl λw6 A6 Fr6 o6 k6 hF6 n6 f6=>?_;have hw61:=o6.one;obtain ⟨wo,wc,hw6⟩:=o6.slice;have j6:=j5.keeps k6 λhm=>by have:=hjr.fr _ hm;omega
  have r6:=r5.keeps k6 λhm=>by have:=hrls _ hm;omega
  refine j6.store f6 (by omega) (U1 _ _ _) (by rw [hw6];rfl) (by show 4+1<=8;omega) (by rw [hw6];rfl) λA7 j7 k7 n7 f7=>?_;have j7:Abs.Row1 A7 j [ptr d,.int .i64 limit,.string ⟨⟨[]⟩⟩,vl,w6,.int .i64 (DY (X.drop f) i:Int),.bool (Iz (X.drop f) i),.bool false] 123:=by rw [hw6] at j7 ⊢;exact j7
  have k7:Ah A6 A7 [j]:=k7;have r7:=r6.keeps k7 (by simp;omega);simp only [ptr] at j7;simp only [ptr,AD,Jh,Jc,Nat.zero_add,N4,Af j7.row,Af r7.row,cellOf,AB,AI,AG,CG,hvl1.2,hw61.2,Cf,Ab];obtain ⟨G,hG1,hG2⟩:=hlow.sv x hxm;have hFrG:∀ y∈G,y∉Fr:=λy hy hm=>by have:=hG2 y hy;have:=hjr.fr y hm;omega
  have hG7:RdE 1 fR A7 (.slice x.1.o x.1.len x.1.cap) x.2 G:=((hG1.keeps g5.keeps (by simp)).keeps k6 hFrG).keeps k7 λy hy=>by have:=hG2 y hy;simp;omega
  have hl7:BF 80 1 fR A7 vl (((X.drop f).take i).flatMap (·.2)) Fl:=((hjr.l.keeps g5.keeps (by simp)).keeps k6 λy hy hm=>(hjr.fl y hy).2.1 hm).keeps k7 λy hy=>by have:=hjr.fl y hy;simp;omega
  have hrecs:13*(((X.drop f).take i).flatMap (·.2)).length<=k*L:=by
   have key:∀ l:List SR,(∀ x∈l,13*x.2.length<=L)->13*(l.flatMap (·.2)).length<=l.length*L:=by
    intro l
    induction l with
    |nil=>intro _;simp
    |cons y r ih=>
     intro hh;rw [List.flatMap_cons,Lq,Lc,Nat.add_mul,Nat.one_mul]
     have:=ih λz hz=>hh z (by simp [hz])
     have:=hh y (by simp)
     omega
   have h1:=key ((X.drop f).take i) λy hy=>hx.recs y (List.mem_of_mem_drop (List.mem_of_mem_take hy));have h2:((X.drop f).take i).length*L<=k*L:=Nat.mul_le_mul_right _ (by rw [List.length_take];omega);omega
  have hxr:=hx.recs x hxm;have hlx:x.1.len=x.2.length:=by
   obtain ⟨o',c',hs⟩:=hG1.slice;simp only [Value.slice.injEq] at hs;exact hs.2.1
  refine hl7.LK etR hG7 f7 (by omega) (by omega) (by omega) λl8 A8 Fl8 o8 k8 hF8 n8 f8=>?_;have hl81:=BF.one o8;obtain ⟨lo,lc,hl8⟩:=(o8.rd etR.len).slice;have j8:=j7.keeps k8 λhm=>by have:=hjr.fl _ hm;omega
  have r8:=r7.keeps k8 λhm=>by have:=hlls _ hm;omega
  simp only [AR];refine j8.store f8 (by omega) (RJ _ _ _) (by rw [hl8];rfl) (by show 3+1<=8;omega) (by rw [hl8];rfl) λA9 j9 k9 n9 f9=>?_;have j9:Abs.Row1 A9 j [pP d 0,.int .i64 limit,.string ⟨⟨[]⟩⟩,l8,w6,.int .i64 (DY (X.drop f) i:Int),.bool (Iz (X.drop f) i),.bool false] 123:=by rw [hl8] at j9 ⊢;exact j9
  have k9:Ah A8 A9 [j]:=k9;have r9:=r8.keeps k9 (by simp;omega);simp only [Jf,Je,Jc,Ol,Nat.zero_add,N4,GL,YD,hlx,AD,Af j9.row,Af r9.row,cellOf,AB,AI,AG,CG,hl81.2,hw61.2,Cf,Ab,B3];refine j9.store f9 (by omega) (Qp _ _ _) rfl (by show 5+1<=8;omega) rfl λA10 j10 k10 n10 f10=>?_;have j10:Abs.Row1 A10 j [pP d 0,.int .i64 limit,.string ⟨⟨[]⟩⟩,l8,w6,.int .i64 (x.1.size:Int),.bool (Iz (X.drop f) i),.bool false] 123:=j10;have k10:Ah A9 A10 [j]:=k10;have r10:=r9.keeps k10 (by simp;omega);simp only [YD,hlx,Af r10.row,cellOf,AI,CG,Cf,Ab,AR];refine j10.store f10 (by omega) (OV _ _ _) rfl (by show 6+1<=8;omega) rfl λA11 j11 k11 n11 f11=>?_;have esm:decide ((0:Int)<(x.2.length:Int))=decide (0<x.2.length):=by rw [decide_eq_decide];omega
  have j11:Abs.Row1 A11 j [ptr d,.int .i64 limit,.string ⟨⟨[]⟩⟩,l8,w6,.int .i64 (x.1.size:Int),.bool (decide (0<x.2.length)),.bool false] 123:=by rw [<- esm];exact j11
  have k11:Ah A10 A11 [j]:=k11;have r11:=r10.keeps k11 (by simp;omega);have k811:Ah A8 A11 [j]:=(k9.trans k10 (by simp)).trans k11 (by simp);have le6:=k6.next;have le8:=k8.next;have hF6':∀ y∈Fr6,y∈Fr\/A'.next<=y:=λy hy=>(hF6 y hy).imp (λh=>h) λh=>by omega
  have hF8':∀ y∈Fl8,y∈Fl\/A'.next<=y:=λy hy=>(hF8 y hy).imp (λh=>h) λh=>by omega
  have K11:Ah A' A11 (j::(Fl++Fr)):=by
   refine (((g5.keeps.more (T:=j::(Fl++Fr)) (by simp)).trans k6 (λy hy=>.inl (by simp [hy]))).trans k7 (λy hy=>.inl (by simp [Ms.1 hy]))).trans k8 (λy hy=>.inl (by simp [hy])) |>.trans k811 (λy hy=>.inl (by simp [Ms.1 hy]))
  have hFlr:∀ y∈j::(Fl++Fr),j<=y:=λy hy=>by
   rcases Mk.1 hy with h | h
   ·omega
   ·rcases Mz.1 h with h | h
    ·have:=hjr.fl y h;omega
    ·have:=hjr.fr y h;omega
  have o6l:=o6.lt;have hle11:A'.next<=A11.next:=K11.next;have hn11:A11.next<=A'.next+4:=by omega
  have erl:((X.drop f).take (i+1)).flatMap (·.2)=((X.drop f).take i).flatMap (·.2)++x.2:=by rw [B9 hxi,List.flatMap_append];simp
  have erow:rowAt (X.drop f) (i+1)=rowAt (X.drop f) i++[x.1.n]:=by
   unfold rowAt;rw [Ff hne,Ff hne,B9 hxi,List.map_append];rfl
  have elast:((X.drop f).take (i+1)).getLast? =some x:=by rw [B9 hxi,List.getLast?_concat]
  have esz:DY (X.drop f) (i+1)=x.1.size:=by unfold DY;rw [elast]
  have esm2:Iz (X.drop f) (i+1)=decide (0<x.2.length):=by unfold Iz;rw [elast]
  have hjr11:JrO A11 j d limit (((X.drop f).take (i+1)).flatMap (·.2)) (rowAt (X.drop f) (i+1)) (DY (X.drop f) (i+1)) (Iz (X.drop f) (i+1)) l8 w6 Fl8 Fr6 Fa:=by
   rw [erl,erow,esz,esm2];refine ⟨j11,o8.keeps k811 λy hy=>?_,((o6.keeps k7 λy hy=>?_).keeps k8 λy hy hm=>?_).keeps k811 λy hy=>?_,λy hy=>⟨?_,λhm=>?_,λhm=>?_⟩,λy hy=>⟨?_,λhm=>?_⟩,hjr.fa⟩
   ·simp;rcases hF8' y hy with h | h
    ·have:=hjr.fl y h;omega
    ·omega
   ·simp;rcases hF6' y hy with h | h
    ·have:=hjr.fr y h;omega
    ·omega
   ·rcases hF6' y hy with h | h
    ·exact (hjr.fl y hm).2.1 h
    ·have:=hlls y hm;omega
   ·simp;rcases hF6' y hy with h | h
    ·have:=hjr.fr y h;omega
    ·omega
   ·rcases hF8' y hy with h | h
    ·exact (hjr.fl y h).1
    ·omega
   ·rcases hF8 y hy with h | h
    ·rcases hF6' y hm with h2 | h2
     ·exact (hjr.fl y h).2.1 h2
     ·have:=hlls y h;omega
    ·have:=o6l y hm;omega
   ·rcases hF8' y hy with h | h
    ·exact (hjr.fl y h).2.2 hm
    ·have:=hals y hm;omega
   ·rcases hF6' y hy with h | h
    ·exact (hjr.fr y h).1
    ·omega
   ·rcases hF6' y hy with h | h
    ·exact (hjr.fr y h).2 hm
    ·have:=hals y hm;omega
  have hpb:A'.next∉(Fl8++Fr6)++Fa:=by
   intro hm;rcases Mz.1 hm with hm | hm
   ·rcases Mz.1 hm with hm | hm
    ·rcases hF8 _ hm with h | h
     ·have:=hlls _ h;omega
     ·omega
    ·rcases hF6 _ hm with h | h
     ·have:=hrls _ h;omega
     ·omega
   ·have:=hals _ hm;omega
  have hact11:GX A11 j ((Fl8++Fr6)++Fa) t0 va (EK (namesS s.D) (X.drop f)++(X.take f).map (λx=>Ac.rm x.1.n)) vs Fa:=by
   refine hact.keeps K11 (λy hy hm=>?_) (λy hy=>?_) λy hy=>?_
   ·rcases Mk.1 hm with h | h
    ·have:=hjr.fa y hy;omega
    ·rcases Mz.1 h with h | h
     ·exact (hjr.fl y h).2.2 hy
     ·exact (hjr.fr y h).2 hy
   ·rcases Mk.1 hy with h | h
    ·exact .inl (by omega)
    ·rcases Mz.1 h with h | h
     ·exact .inr (.inl (by simp [h]))
     ·exact .inr (.inl (by simp [h]))
   ·rcases Mz.1 hy with hy | hy
    ·rcases Mz.1 hy with hy | hy
     ·exact (hF8' y hy).imp (λh=>by simp [h]) λh=>h
     ·exact (hF6' y hy).imp (λh=>by simp [h]) λh=>h
    ·exact .inl (by simp [hy])
  have hlow11:Rt A.next A11 j t0 d X vr f:=hlow.keeps K11 λy hy=>.inr (hFlr y hy);have hg11:Grow A A11 (C0 L+3000+10*i+4):=⟨hgr.keeps.trans K11 (λy hy=>.inr (by have:=hFlr y hy;omega)),f11,by omega⟩;have hfb:∀ y∈Fl8++Fr6,y<A11.next:=λy hy=>by
   rcases Mz.1 hy with h | h
   ·exact hjr11.l.lt y h
   ·exact hjr11.r.lt y h
  have hr111:=(hr1.keeps K11 λy hy hm=>by have:=hr2 y hy;have:=hFlr y hm;omega);have hlen11:=hr111.len etG (B:=A11);rw [List.length_map,List.length_drop] at hlen11;rw [hlen11];simp only [Ab,Db,B8,Bm];rw [wrap_i64 (n:=((X.length-f:Nat):Int)-1) (by omega) (by omega),wrap_i64 (n:=(i:Int)+1) (by omega) (by omega)];have fin:∀ (A12:AW) (va':Value) (vs':List FV) (Fa':List Nat),GX A12 j ((Fl8++Fr6)++Fa') t0 va' (EK (namesS s.D) (X.drop f)++((X.take f).map (λx=>Ac.rm x.1.n)++if i+1=X.length-f then G0 (X.drop f) else [])) vs' Fa'->Ah A11 A12 Fa->(∀ y∈Fa',y∈Fa\/A11.next<=y)->A12.next<=A11.next+4->Aw A12->
    ∃ g2,g2<50000+(X.length-f-i)/\OI A d mp k L s limit g2 2 [ptr t0,vr,ptr j,va',vr,.int .i64 ((X.length-f:Nat):Int),.int .i64 ((i:Int)+1)] A12:=by
   intro A12 va' vs' Fa' ha hk hF hn hf;refine ⟨50000+(X.length-f-(i+1)),by omega,.inr (.inl ⟨rfl,X,f,i+1,t0,j,va',vr,l8,w6,vs',Fa',Fl8,Fr6,rfl,hx,by omega,rfl,hlow11.keeps hk λy hy=>.inr (by have:=hjr.fa y hy;omega),hj,?_,hjr11.keeps hk (λy hy=>.inr (.inl hy)) hF,?_⟩)⟩
   ·rw [<- Mw];exact ha
   ·exact (hg11.own hk (λy hy=>by have:=hjr.fa y hy;omega) (m:=4) hn hf).more (by omega)
  refine Cg.2 ⟨λhlast=>?_,λhlast=>?_⟩
  ·have hlast:i+1=X.length-f:=by omega
   have elx:(X.drop f).getLast? =some x:=by
    rw [List.getLast?_eq_getElem?,List.length_drop,<- hlast];exact hxi
   have etail:G0 (X.drop f)=(if x.1.st=1 then [.ct x.1.n x.1.size] else [])++[.sy x.1.n]:=by unfold G0;rw [elx]
   rw [if_pos hlast,etail] at fin;simp only [Oj,Nat.zero_add,YM,Af r11.row,cellOf,AI,CG,Cf,Ab,B8];refine Cg.2 ⟨λhst=>?_,λhst=>?_⟩
   ·rw [if_pos (by omega)] at fin;refine GX.one (g:=80) (a:=.ct x.1.n x.1.size) (x:=x.1) hact11 f11 (by omega) (by omega) r11 (by omega) hpb hjr.fa hfb (λA' Fb' h1 h2=>⟨_,x.1,rfl,h1,rfl,rfl,by omega,h2⟩) λA12 v12 vs12 F12 h12 k12 n12 f12 hF12 hp12 hpb12 hl12=>?_;have hle12:=k12.next;refine GX.one (g:=82) (a:=.sy x.1.n) (x:=x.1) h12 f12 (by omega) (by omega) hp12 (by omega) hpb12 (λy hy=>(hF12 y hy).elim (hjr.fa y) λh=>by omega) (λy hy=>by have:=hfb y hy;omega) (λA' Fb' h1 h2=>⟨_,x.1,rfl,h1,rfl,by omega,h2⟩) λA13 v13 vs13 F13 h13 k13 n13 f13 hF13 hp13 hpb13 hl13=>?_;refine Au.2 (fin A13 v13 vs13 F13 ?_ (k12.trans k13 hF12) (λy hy=>(hF13 y hy).elim (hF12 y) λh=>.inr (by omega)) (by omega) f13)
    simpa [Mw] using h13
   ·rw [Ff (by omega)] at fin;refine GX.one (g:=82) (a:=.sy x.1.n) (x:=x.1) hact11 f11 (by omega) (by omega) r11 (by omega) hpb hjr.fa hfb (λA' Fb' h1 h2=>⟨_,x.1,rfl,h1,rfl,by omega,h2⟩) λA12 v12 vs12 F12 h12 k12 n12 f12 hF12 hp12 hpb12 hl12=>?_;refine Au.2 (fin A12 v12 vs12 F12 ?_ k12 hF12 (by omega) f12)
    simpa [Mw] using h12
  ·have hlast:i+1≠X.length-f:=by omega
   rw [Ff hlast,List.append_nil] at fin;exact Au.2 (fin A11 va vs Fa hact11 (.refl _ _) (λy hy=>.inl hy) (by omega) f11)
 ·have hi':i=X.length-f:=by omega
  subst hi';rw [if_pos rfl] at hact;have htk:(X.drop f).take (X.length-f)=X.drop f:=List.take_of_length_le (by rw [List.length_drop];omega);rw [htk] at hjr;rw [esF.Ul (hact.own.rd esF.len),<- hact.len];simp only [Ab];have hal:(EK (namesS s.D) (X.drop f)++((X.take f).map (λx=>Ac.rm x.1.n)++G0 (X.drop f))).length<=1010:=by
   rw [Lq,Lq,List.length_map,List.length_take];omega
  have hdl:=hdk.lt;refine Au.2 ⟨(EK (namesS s.D) (X.drop f)++((X.take f).map (λx=>Ac.rm x.1.n)++G0 (X.drop f))).length,by omega,.inr (.inr ⟨rfl,X,f,0,t0,j,va,vl,vw,vs,Fa,Fl,Fr,_,s,rfl,hx,rfl,hal,by omega,rfl,hlow.t0r,hlow.t0l.1,hj,hact,hdk.keeps hgr.keeps (by simp) (by simp),hok,rfl,hjr,hgr.keeps.more (by simp),hgr.Ay,by omega⟩)⟩
end
noncomputable def AeZ(W0:World)(m0:Inj Tp)(S:Nat->List Value->AW->Prop)(t0 t9 t13 t14 t19 va:Value)(A:AW):Prop:=
 Aa (Bi Tp A 117 t13) λt45=>Aa (An Tp .eql 3 (.tmp 55) (.const (.int .i64 0)) t45 (.int .i64 0)) λt46=>Ai t46 (Ao (Aq Tp A 36 1 [(0,(.int .i64 1))]) λt47 At47=>Wc Tp Al W0 m0 71 [(.string ⟨⟨[]⟩⟩)] At47 λt48 At48=>Aa (Bi Tp At48 9 t48) λt49=>Aa (AY t19) λt50=>Aa (Ad Tp 123 t50 4) λt51=>Be (Av Tp At48 36 t51 t47) λAt52=>Aa (AY t19) λt53=>Aa (Ad Tp 123 t53 5) λt54=>Be (Av Tp At52 3 t54 t49) λAt55=>Aa (AY t19) λt56=>Aa (Ad Tp 123 t56 6) λt57=>Be (Av Tp At55 4 t57 (.bool true)) λAt58=>Ao (Aq Tp At58 124 3 [(0,(.func (.func 72) ⟨[]⟩ ⟨[t0]⟩)),(1,(.func (.func 74) ⟨[]⟩ ⟨[t0]⟩)),(2,(.func (.func 76) ⟨[]⟩ ⟨[t0]⟩))]) λt59 At59=>Ao (AU Tp At59 124 124 va t59) λt60 At60=>Aa (AX Tp At60 117 t9 none (some t14) none) λt61=>Aa (Bi Tp At60 117 t61) λt62=>BE (T27 0) (T27 0) (S 0 [t0,t13,t19,t60,t61,t62,(.int .i64 0)] At60)) (Aa (AX Tp A 117 t9 none (some t14) none) λt63=>Aa (Bi Tp A 117 t63) λt64=>BE (T27 0) (T27 0) (S 0 [t0,t13,t19,va,t63,t64,(.int .i64 0)] A))
theorem Aa6(names:List (List UInt8))(X:List SR)(f:Nat):FB names (X.map BN) ((X.drop f).map BN) f=EK names (X.drop f)++((X.take f).map (λx=>Ac.rm x.1.n)++G0 (X.drop f)):=by
 have e1:((X.drop f).map BN=[])=(X.drop f=[]):=by rw [List.map_eq_nil_iff]
 have e2:((X.map BN).take f).map (λx=>Ac.rm x.n)=(X.take f).map (λx=>Ac.rm x.1.n):=by
  rw [<- List.map_take,List.map_map];rfl
 unfold FB EK G0;rw [List.getLast?_map];simp only [e1,e2,Mw];cases (X.drop f).getLast?<;>rfl
theorem Zw{names:List (List UInt8)}{X:List SR}{f i:Nat}{a:Ac}(h:(EK names (X.drop f)++((X.take f).map (λx=>Ac.rm x.1.n)++G0 (X.drop f)))[i]? =some a){n:Nat}(hn:a.num=some n):n=1\/∃ x∈X,x.1.n=n:=by
 have hm:=List.mem_of_getElem? h;rcases Mz.1 hm with hm | hm
 ·unfold EK at hm;rcases Mz.1 hm with hm | hm
  ·split at hm
   ·obtain rfl:=Ms.1 hm;cases hn
   ·simp at hm
  ·split at hm
   ·simp only [Mk,List.not_mem_nil,or_false] at hm;rcases hm with rfl | rfl | rfl
    ·cases hn
    ·cases hn
    ·cases hn;exact .inl rfl
   ·simp at hm
 ·rcases Mz.1 hm with hm | hm
  ·obtain ⟨x,hx,rfl⟩:=List.mem_map.1 hm;cases hn;exact .inr ⟨x,List.mem_of_mem_take hx,rfl⟩
  ·unfold G0 at hm;split at hm
   ·simp at hm
   ·rename_i x hx;have hxm:x∈X:=List.mem_of_mem_drop (List.mem_of_getLast? hx);rcases Mz.1 hm with hm | hm
    ·split at hm
     ·obtain rfl:=Ms.1 hm;cases hn;exact .inr ⟨x,hxm,rfl⟩
     ·simp at hm
    ·obtain rfl:=Ms.1 hm;cases hn;exact .inr ⟨x,hxm,rfl⟩
theorem Aav(limit:Int)(X:List SR)(f:Nat)(hf:f<=X.length):HF limit ((X.drop f).map BN)=⟨limit,(((((X.drop f).flatMap (·.2)).map toR).head?).map (·.2)).getD [],(((X.drop f).flatMap (·.2)).map toR).tail,rowAt (X.drop f) (X.length-f),DY (X.drop f) (X.length-f),Iz (X.drop f) (X.length-f),false⟩:=by
 have e0:Rr ((X.drop f).map BN)=((X.drop f).flatMap (·.2)).map toR:=by
  unfold Rr;rw [List.flatMap_map,List.map_flatMap];rfl
 have et:(X.drop f).take (X.length-f)=X.drop f:=List.take_of_length_le (by rw [List.length_drop];omega);unfold HF rowAt DY Iz;rw [e0,et,List.getLast?_map];have e1:((X.drop f).map BN=[])=(X.drop f=[]):=by rw [List.map_eq_nil_iff]
 simp only [e1,List.map_map]
 congr 1
 ·cases hq:(X.drop f).getLast? with
  |none=>
   have:X.drop f=[]:=by simpa using hq
   simp [this]
  |some x=>rfl
 ·cases hq:(X.drop f).getLast? with
  |none=>
   have:X.drop f=[]:=by simpa using hq
   simp [this]
  |some x=>
   show (!(x.2.map toR).isEmpty)=decide (0<x.2.length);cases x.2<;>simp
section
variable {W0:World} {m0:Inj Tp}
theorem AeP {A:AW} {d mp k L:Nat} {s:DS} {limit:Int} {g:Nat} {vals:List Value} {A':AW} {dd:Nat->Value} {K:Value->AW->Prop} (hg0:Glb A) (hk9:k<=1000) (hL:L<900000) (hkL:k*L<12900000) (hA:A.next<500000000000) (hlim:¬ limit<1) (hdn:s.down=false) (hdl:d<A.next/\mp<A.next) (h0:1≠d/\1≠mp)
  (hnm:∀ n,n=1\/(∃ x∈Cs s.D (namesS s.D),x.n=n)->HV W0 m0 n)
  (hkN:∀ e A' s',Cl s (namesS s.D) limit=(s',none,e)->Dk A' d mp s'->Ah A A' [d,mp]->A'.next<=A.next+1000*(2*L+100)+3000000->Aw A'->K (.tuple ⟨[.pointer none,.int .i64 e]⟩) A')
  (hkS:∀ A' s' q j Fl Fr,Cl s (namesS s.D) limit=(s',some q,0)->JD A' j d mp q s' Fl Fr->A.next<=j->(∀ y∈Fl,A.next<=y)->(∀ y∈Fr,A.next<=y)->Ah A A' [d,mp]->A'.next<=A.next+1000*(2*L+100)+3000000->Aw A'->K (.tuple ⟨[ptr j,.int .i64 0]⟩) A')
  (h:OI A d mp k L s limit g 4 vals A') (hd':(L27 4).map dd=vals):gL W0 m0 (λid v A''=>∃ g2,g2<g/\OI A d mp k L s limit g2 id v A'') K 27 183 T27 L27 dd 4 A':=by
 have hmax:Aj=1099511627776:=rfl;have hC:C0 L=1000*(2*L+100):=rfl;rcases h with ⟨h,_⟩ | ⟨h,_⟩ | ⟨_,X,f,i,t0,j,va,vl,vw,vs,Fa,Fl,Fr,acts,s1,rfl,hx,hacts,hal,hi,rfl,ht0,ht0l,hj,hact,hdk,hok,hrun,hjr,hkp,hf,hn⟩
 ·cases h
 ·cases h
 have hos:Cl s (namesS s.D) limit=(if (Cw s acts).2=0 then ((Cw s acts).1,some (HF limit ((X.drop f).map BN)),0) else ((Cw s acts).1,none,(Cw s acts).2)):=by
  unfold Cl;rw [Ff hlim,Ff (by rw [hdn];simp),hx.seg,hx.row];simp only [Aa6,<- hacts]
 rw [Afi];simp only [L27,Mc,Mn,Li,and_true] at hd';obtain ⟨h11,h145,h146,h147⟩:=hd';simp only [h11,h145,h146,h147,Br,Ab,Az];have hle:=hkp.next;refine ⟨λhlt=>?_,λhge=>?_⟩
 ·have hlt:i<acts.length:=by omega
  obtain ⟨a,ha⟩:∃ a,acts[i]? =some a:=⟨_,Ge hlt⟩;obtain ⟨v,hv⟩:∃ v,vs[i]? =some v:=⟨_,Ge (by rw [<- hact.len];exact hlt)⟩;obtain ⟨a0,b1,b2⟩:=esF.at (hact.own.rd esF.len) hv rfl;simp only [b1,b2,Ab];rw [Ox ha,IS] at hrun;refine Acx (a:=a) (k:=k+i) hdk (hg0.keeps hkp (by simp;exact h0)) ht0 (hact.act i a v ha hv) hok (by omega) hf (by omega) (λn hnn=>hnm n ?_) h0 λA2 d2 k2 n2 f2=>?_
  ·rw [hacts] at ha;rcases Zw ha hnn with h | ⟨x,hxm,hxn⟩
   ·exact .inl h
   ·exact .inr ⟨BN x,by rw [hx.seg];exact List.mem_map.2 ⟨x,hxm,rfl⟩,hxn⟩
  have K2:Ah A A2 [d,mp]:=hkp.trans k2 (λy hy=>.inl hy);have hdm:∀ y∈[d,mp],y<A.next:=λy hy=>by
   simp only [Mk,List.not_mem_nil,or_false] at hy;rcases hy with rfl | rfl
   ·exact hdl.1
   ·exact hdl.2
  simp only [Bw,Bm,Ab];rw [wrap_i64 (by omega) (by omega)];refine Bj.2 ⟨λhne=>?_,λheq=>?_⟩
  ·rw [Ff hne] at hrun;refine hkN _ A2 (a.run s1).1 ?_ d2 K2 (by omega) f2;rw [hos,hrun,Ff hne]
  ·rw [if_pos heq] at hrun;refine Au.2 ⟨acts.length-(i+1),by omega,.inr (.inr ⟨rfl,X,f,i+1,t0,j,va,vl,vw,vs,Fa,Fl,Fr,acts,(a.run s1).1,rfl,hx,hacts,hal,by omega,rfl,ht0.keeps k2 λhm=>by have:=hdm _ hm;omega,ht0l,hj,hact.keeps k2 (λy hy hm=>by have:=hdm _ hm;have:=hjr.fa y hy;omega) (λy hy=>.inl (by have:=hdm _ hy;omega)) (λy hy=>.inl hy),d2,?_,hrun,hjr.keeps k2 (λy hy=>.inl (by have:=hdm _ hy;omega)) (λy hy=>.inl hy),K2,f2,by omega⟩)⟩
   have:=Ac.NE hok a
   exact this
 ·have hi':i=acts.length:=by omega
  subst hi';rw [List.drop_length] at hrun;have hos:Cl s (namesS s.D) limit=(s1,some (HF limit ((X.drop f).map BN)),0):=by rw [hos,hrun];rfl
  rw [Aav limit X f hx.le] at hos;have hvl1:=BF.one hjr.l;have hvw1:=hjr.r.one;have hj1:=hjr.Bk;have hlls:=BF.lt hjr.l;have hrls:=hjr.r.lt;simp only [ptr] at hj1;have hlen:=(hjr.l.rd etR.len).len etR (B:=A');simp only [ptr,AD,Jh,N4,Af hj1.row,cellOf,AB,AI,AG,hvl1.2,Cf,Ab,hlen,B3,Az];have hnd:j≠d/\j≠mp:=⟨by omega,by omega⟩;have hFr:∀ x∈Fr,x≠d/\x≠mp/\x≠j:=λx hx=>by have:=hjr.fr x hx;exact ⟨by omega,by omega,by omega⟩
  cases hrl:(X.drop f).flatMap (·.2) with
  |nil=>
   rw [hrl] at hos hjr;refine ⟨λh=>by simp at h,λ_=>?_⟩;refine hkS A' s1 _ j Fl Fr hos ⟨⟨vl,vw,[],hj1,.inl hjr.l,rfl,hjr.r⟩,hdk,hnd,λx hx=>?_,hFr⟩ hj (λy hy=>by have:=hjr.fl y hy;omega) (λy hy=>by have:=hjr.fr y hy;omega) hkp (by omega) hf
   have:=hjr.fl x hx
   exact ⟨by omega,by omega,by omega,this.2.1⟩
  |cons p rl=>
   rw [hrl] at hos hjr;refine ⟨λ_=>?_,λh=>by simp at h⟩;have hg:((p::rl):List RV)[0]? =some p:=rfl;obtain ⟨r,o,c1,c2,c3⟩:=(hjr.l.rd etR.len).at etR hg;have c1':Ar Tp 60 vl (.int .i64 0)=some (pP r o):=c1;have hc:A'.cell? ⟨r,o+1,none⟩=some (.string p.2):=cell_of c2 (k:=1) rfl;obtain ⟨ta,tn,tc,hsl,htl⟩:=Xg hjr.l;simp only [c1',Ab,JJ,Eg,hc,hsl];have hrlen:rl.length<1000000:=by
    have key:∀ l:List SR,(∀ x∈l,13*x.2.length<=L)->13*(l.flatMap (·.2)).length<=l.length*L:=by
     intro l
     induction l with
     |nil=>intro _;simp
     |cons y r ih=>
      intro hh;rw [List.flatMap_cons,Lq,Lc,Nat.add_mul,Nat.one_mul]
      have:=ih λz hz=>hh z (by simp [hz])
      have:=hh y (by simp)
      omega
    have h1:=key (X.drop f) λy hy=>hx.recs y (List.mem_of_mem_drop hy);have hfew:=hx.few;have h2:(X.drop f).length*L<=k*L:=Nat.mul_le_mul_right _ (by rw [List.length_drop];omega);rw [hrl,Lc] at h1;omega
   refine AdD htl (λc hc=>by simp at hc) hf (by omega) hrlen λA2 v2 F2 o2 hF2 g2=>?_;have n2:=g2.next;have le2:=g2.le;have j2:=hj1.keeps g2.keeps (by simp);obtain ⟨r',o',d1,d2,d3⟩:=((hjr.l.keeps g2.keeps (by simp)).rd etR.len).at etR hg;have d1':Ar Tp 60 vl (.int .i64 0)=some (.pointer (some ⟨r',o',none⟩)):=d1;rw [c1'] at d1';obtain ⟨rfl,rfl⟩:r=r'/\o=o':=by simpa using d1'
   have hc2:A2.cell? ⟨r,o+1,none⟩=some (.string p.2):=cell_of d2 (k:=1) rfl;have hvl2:=hvl1.2;simp only [hc2,Af j2.row,cellOf,AB,AI,AG,hvl2,Cf,Ab,AR,Om];refine j2.store g2.Ay (by omega) (RI _ _ _) rfl (by show 0+2+1<=8;omega) rfl λA3 j3 k3 n3 f3=>?_;have j3:Abs.Row1 A3 j [pP d 0,.int .i64 limit,.string p.2,vl,vw,.int .i64 (DY (X.drop f) (X.length-f):Int),.bool (Iz (X.drop f) (X.length-f)),.bool false] 123:=j3;have k3:Ah A2 A3 [j]:=k3;obtain ⟨so,sc,hv2⟩:=o2.slice;refine j3.store f3 (by omega) (RJ _ _ _) (by rw [hv2];rfl) (by show 0+3+1<=8;omega) (by rw [hv2];rfl) λA4 j4 k4 n4 f4=>?_;have j4:Abs.Row1 A4 j [pP d 0,.int .i64 limit,.string p.2,v2,vw,.int .i64 (DY (X.drop f) (X.length-f):Int),.bool (Iz (X.drop f) (X.length-f)),.bool false] 123:=by rw [hv2] at j4 ⊢;exact j4
   have k4:Ah A3 A4 [j]:=k4;have k24:Ah A2 A4 [j]:=k3.trans k4 (by simp);have K4:Ah A' A4 [j]:=(g2.keeps.more (by simp)).trans k24 (by simp);have hjl:=hj1.lt;refine hkS A4 s1 _ j F2 Fr hos ⟨⟨v2,vw,rl,j4,o2.keeps k24 λy hy=>by have:=hF2 y hy;simp;omega,rfl,hjr.r.keeps K4 λy hy=>by have:=hjr.fr y hy;simp;omega⟩,hdk.keeps K4 (by simp;omega) (by simp;omega),hnd,λx hx=>?_,hFr⟩ hj (λy hy=>by have:=hF2 y hy;omega) (λy hy=>by have:=hjr.fr y hy;omega) (hkp.trans K4 (λy hy=>.inr (by have:=Ms.1 hy;omega))) (by omega) f4
   have:=hF2 x hx
   exact ⟨by omega,by omega,by omega,λhm=>by have:=hrls x hm;omega⟩
end
variable {L d mp k:Nat} {A:AW} {s:DS} {limit:Int}
theorem NS(f:List UInt8):numOf f<100000000:=by
 unfold numOf;split
 ·rename_i h;obtain ⟨_,h2,h3⟩:=h;have key:∀ (l:List UInt8) (a:Nat),l.all (λc=>decide (48<=c)&&decide (c<=57))=true->l.foldl (λn c=>10*n+(c.toNat-48)) a<(a+1)*10^l.length:=by
   intro l
   induction l with
   |nil=>intro a _;simp
   |cons c r ih=>
    intro a hh;simp only [List.all_cons,Bq,decide_eq_true_eq] at hh;have h1:c.toNat<=57:=by have:=hh.1.2;exact this
    have:=ih (10*a+(c.toNat-48)) hh.2
    rw [List.foldl_cons,Lc,Nat.pow_succ];refine Nat.lt_of_lt_of_le this ?_;have h3:10*a+(c.toNat-48)+1<=(a+1)*10:=by omega
    calc (10*a+(c.toNat-48)+1)*10^r.length<=((a+1)*10)*10^r.length:=Nat.mul_le_mul_right _ h3
     _=(a+1)*(10^r.length*10):=by rw [Nat.mul_assoc,Nat.mul_comm 10]
  have:=key (f.drop 2) 0 h3
  rw [List.length_drop,h2] at this;exact this
 ·omega
theorem scan_len:∀ (n:Nat) (s:List UInt8),s.length=n->13*(scan s).1.length<=s.length/\(scan s).2.1<=s.length/\(scan s).2.2<=2:=by
 intro n
 induction n using Nat.strongRecOn with
 |ind n ih=>
  intro s hs;rw [LU];split
  ·simp
  ·split
   ·simp
   ·split
    ·simp
    ·split
     ·simp
     ·split
      ·simp
      ·split
       ·simp
       ·rename_i h1 h2 h3 h4 h5 h6
        have:=ih (s.drop (13+Ee ((s.take 5).drop 1))).length (by rw [List.length_drop];omega) _ rfl
        rw [List.length_drop] at this;simp only [Lc];omega
theorem Aab{D:Fls}{names:List (List UInt8)}{x:Seg}(h:x∈Cs D names):∃ p∈names,x=EU (numOf p) (fileOf D p).1:=by
 unfold Cs at h;obtain ⟨p,hp,he⟩:=List.mem_filterMap.1 h;split at he
 ·cases he
 ·cases he;exact ⟨p,hp,rfl⟩
theorem WG{D:Fls}(hL:∀ f∈D,f.2.1.length<=L)(p:List UInt8):(fileOf D p).1.length<=L:=by
 unfold fileOf;cases hq:BV D p with
 |none=>exact Nat.zero_le _
 |some f=>exact hL _ (Ft hq)
theorem TT(D:Fls):(Cs D (namesS D)).length<=D.length:=by
 have h1:(Cs D (namesS D)).length<=(namesS D).length:=List.length_filterMap_le _ _;have h2:(namesS D).length=D.length:=by unfold namesS;rw [List.length_mergeSort,List.length_map]
 omega
section
variable {W0:World} {m0:Inj Tp}
theorem mid {f:Nat} {A':AW} {X:List SR} {t0 j:Nat} {v v' va:Value} {F F' Fa:List Nat} {vs:List FV} (hg0:Glb A') (hk9:k<=1000) (hL:L<900000) (hA:A.next<500000000000)
  (hx:OX s k L X f) (hlow:Rt A.next A' j t0 d X v' f) (hj:A.next<=j) (hv:BF 131 3 fG A' v (X.map (·.1)) F) (hF:∀ y∈F,A.next<=y/\y<j)
  (hact:GX A' j Fa t0 va (if fresh∈namesS s.D then [.rmF] else []) vs Fa) (hFa:∀ y∈Fa,j<y) (hjr:Abs.Row1 A' j [ptr d,.int .i64 limit,.string ⟨⟨[]⟩⟩,.slice none 0 0,.slice none 0 0,.int .i64 0,.bool false,.bool false] 123)
  (hgr:Grow A A' (1000*(2*L+100)-100)):AeZ W0 m0 (λid v A''=>∃ g2,OI A d mp k L s limit g2 id v A'') (ptr t0) v v' (.int .i64 ((f:Nat):Int)) (ptr j) va A':=by
 have hmax:Aj=1099511627776:=rfl;have hC:C0 L=1000*(2*L+100):=rfl;have hnx:=hgr.next;have hle:=hgr.le;have hf1:=hx.le;have hf2:=hx.few;unfold AeZ;obtain ⟨F1,hr1,hr2⟩:=hlow.rr;have hl:=hr1.len etG (B:=A');rw [List.length_map,List.length_drop] at hl;rw [hl];have hjl:=hjr.lt;have hal:=hact.own.lt;simp only [Ab,B8];have start:∀ (A2:AW) (va2 vl vw:Value) (vs2:List FV) (Fr2 Fa2:List Nat),Ah A' A2 (j::Fa)->Aw A2->A2.next<=A'.next+50->GX A2 j (Fr2++Fa2) t0 va2 (EK (namesS s.D) (X.drop f)) vs2 Fa2->
   JrO A2 j d limit [] (rowAt (X.drop f) 0) (DY (X.drop f) 0) (Iz (X.drop f) 0) vl vw [] Fr2 Fa2->
   Aa (AX Tp A2 117 v none (some (.int .i64 ((f:Nat):Int))) none) λt61=>Aa (Bi Tp A2 117 t61) λt62=>BE (T27 0) (T27 0) (∃ g2,OI A d mp k L s limit g2 0 [ptr t0,v',ptr j,va2,t61,t62,.int .i64 0] A2):=by
  intro A2 va2 vl vw vs2 Fr2 Fa2 hk2 hf2' hn2 ha2 hj2;have hS0:∀ y∈j::Fa,j<=y:=λy hy=>by
   rcases Mk.1 hy with h | h
   ·omega
   ·have:=hFa y h;omega
  have hS:∀ y∈j::Fa,y<A.next\/j<=y:=λy hy=>.inr (hS0 y hy);have hv2:BF 131 3 fG A2 v (X.map (·.1)) F:=hv.keeps hk2 λy hy hm=>by
   have:=hF y hy
   rcases hS y hm with h | h<;>omega
  obtain ⟨w,Fw,w1,w2,w3⟩:=hv2.to etG (i:=f) (by rw [List.length_map];omega) (Z7 A2);rw [w1];rw [<- List.map_take] at w2;have hl2:=w2.len etG (B:=A2);rw [List.length_map,List.length_take,Nat.min_eq_left (by omega)] at hl2;simp only [Ab,hl2];refine Au.2 ⟨100000+(f-0),.inl ⟨rfl,X,f,0,t0,j,va2,w,v',vl,vw,vs2,Fa2,[],Fr2,Fw,rfl,hx,by omega,rfl,hlow.keeps hk2 hS,hj,w2,λy hy=>(hF y (w3 y hy)).2,?_,hj2,?_⟩⟩
  ·simpa using ha2
  ·exact ⟨hgr.keeps.trans hk2 λy hy=>.inr (by have:=hS0 y hy;omega),hf2',by omega⟩
 refine Cg.2 ⟨λhz=>?_,λhz=>?_⟩
 ·have hz:X.drop f=[]:=List.drop_of_length_le (by omega);refine Hp (Aa0 A' 1) rfl hgr.Ay (by omega) λA1 m1=>?_;have n1:=m1.next;have k1:=m1.keeps hgr.Ay;refine Ab0 (s:=⟨⟨[]⟩⟩) (hg0.keeps k1 (by simp)) m1.Ay (by simp) (by omega) λA2 g2=>?_;have n2:=g2.next;have le2:=g2.le;have g2':=(Grow.made m1 hgr.Ay).trans g2;have j2:=hjr.keeps g2'.keeps (by simp);simp only [ptr] at j2;simp only [Hj,ptr,AD,Jg,Jf,Je,Nat.zero_add,Ab];refine j2.store g2.Ay (by omega) (U1 _ _ _) rfl (by show 4+1<=8;omega) rfl λA3 j3 k3 n3 f3=>?_;have j3:Abs.Row1 A3 j [pP d 0,.int .i64 limit,.string ⟨⟨[]⟩⟩,.slice none 0 0,.slice (some ⟨A'.next,0,none⟩) 1 1,.int .i64 0,.bool false,.bool false] 123:=j3;have k3:Ah A2 A3 [j]:=k3;refine j3.store f3 (by omega) (Qp _ _ _) rfl (by show 5+1<=8;omega) rfl λA4 j4 k4 n4 f4=>?_;have j4:Abs.Row1 A4 j [pP d 0,.int .i64 limit,.string ⟨⟨[]⟩⟩,.slice none 0 0,.slice (some ⟨A'.next,0,none⟩) 1 1,.int .i64 ((13:Nat):Int),.bool false,.bool false] 123:=j4;have k4:Ah A3 A4 [j]:=k4;refine j4.store f4 (by omega) (OV _ _ _) rfl (by show 6+1<=8;omega) rfl λA5 j5 k5 n5 f5=>?_;have j5:Abs.Row1 A5 j [ptr d,.int .i64 limit,.string ⟨⟨[]⟩⟩,.slice none 0 0,.slice (some ⟨A'.next,0,none⟩) 1 1,.int .i64 ((13:Nat):Int),.bool true,.bool false] 123:=j5;have k5:Ah A4 A5 [j]:=k5;have k25:Ah A2 A5 [j]:=(k3.trans k4 (by simp)).trans k5 (by simp);have K5:Ah A' A5 [j]:=(g2'.keeps.more (by simp)).trans k25 (by simp);have le25:=k25.next;refine Hp (Aa1 A5 72 74 76 t0) rfl f5 (by omega) λA6 m6=>?_;have n6:=m6.next;have k6:=m6.keeps f5;have K6:Ah A' A6 [j]:=K5.trans k6 (by simp);have hjFa:j∉Fa:=λhm=>by have:=hFa j hm;omega
  have m6r:Abs.Row1 A6 A5.next (flat fV [f1V 72 t0,f1V 74 t0,f1V 76 t0]) 94:=m6.Bk;have hvs:vs.length<=1:=by rw [<- hact.len];split<;>simp
  refine CW.Bg (l2:=[f1V 72 t0,f1V 74 t0,f1V 76 t0]) esF.us esF.sz esF.by' esF.hz esF.len esF.one (hact.own.keeps K6 (λy hy=>by have:=hFa y hy;simp;omega)) (Aa9 esF (c:=3) m6r) m6.Ay (by omega) (by omega) (by simp) λv7 A7 F7 o7 k7 hF7 n7 f7=>?_
  have K7:Ah A' A7 (j::Fa):=(K6.more (by simp)).trans k7 (λy hy=>.inl (by simp [hy]));have hjF7:∀ y∈F7,j<y:=λy hy=>(hF7 y hy).elim (hFa y) λh=>by omega
  refine start A7 v7 (.slice none 0 0) (.slice (some ⟨A'.next,0,none⟩) 1 1) (vs++[f1V 72 t0,f1V 74 t0,f1V 76 t0]) [A'.next] F7 K7 f7 (by omega) ?_ ?_
  ·unfold EK;rw [if_pos hz];refine hact.app K7 (λy hy=>?_) (λy hy=>?_) (l2:=[.ap0,.syF,.rn1]) rfl (λm a w ha hw=>?_) o7
   ·rcases Mk.1 hy with h | h
    ·exact .inl (by omega)
    ·exact .inr (.inl h)
   ·rcases Mz.1 hy with h | h
    ·exact .inr (by have:=Ms.1 h;omega)
    ·exact (hF7 y h).imp (λh=>h) λh=>by omega
   ·match m,ha,hw with
    |0,ha,hw=>cases ha;cases hw;rfl
    |1,ha,hw=>cases ha;cases hw;rfl
    |2,ha,hw=>cases ha;cases hw;rfl
    |m+3,ha,hw=>simp at ha
  ·have e1:rowAt (X.drop f) 0=[1]:=by unfold rowAt;rw [if_pos hz]
   have e2:DY (X.drop f) 0=13:=by unfold DY;rw [hz];rfl
   have e3:Iz (X.drop f) 0=true:=by unfold Iz;rw [hz];rfl
   rw [e1,e2,e3];have r1:Abs.Row1 A1 A'.next (flat fI [1]) 3:=m1.Bk;have r7:=((r1.keeps g2.keeps (by simp)).keeps (k25.trans k6 (by simp)) (by simp;omega)).keeps k7 λhm=>by have:=hal _ hm;omega
   refine ⟨j5.keeps ((k6.more (T:=Fa) (by simp)).trans k7 (λy hy=>.inl hy)) hjFa,BF.nil _,.inr ⟨A'.next,rfl,by simp,r7,rfl⟩,by simp,λy hy=>?_,hjF7⟩
   have:=Ms.1 hy
   refine ⟨by omega,λhm=>?_⟩;rcases hF7 y hm with h | h
   ·have:=hal y h;omega
   ·omega
 ·have hz:X.drop f≠[]:=by
   intro h0
   have:=congrArg List.length h0
   rw [List.length_drop,Ln] at this;omega
  refine start A' va (.slice none 0 0) (.slice none 0 0) vs [] Fa (.refl _ _) hgr.Ay (by omega) ?_ ?_
  ·unfold EK;rw [Ff hz,List.append_nil];exact hact
  ·have e1:rowAt (X.drop f) 0=[]:=by unfold rowAt;rw [Ff hz];rfl
   have e2:DY (X.drop f) 0=0:=by unfold DY;rw [Ff hz];rfl
   have e3:Iz (X.drop f) 0=false:=by unfold Iz;simp [hz]
   rw [e1,e2,e3];exact ⟨hjr,BF.nil _,CW.nil _,by simp,by simp,hFa⟩
theorem Agz {K:Value->AW->Prop} (h:Dk A d mp s) (hg0:Glb A) (hok:OkS k s) (hk9:k<=1000) (hLf:∀ f∈s.D,f.2.1.length<=L) (hL:L<900000) (hkL:k*L<12900000) (hf:Aw A) (hA:A.next<500000000000) (h0:1≠d/\1≠mp)
  (hnum:∀ f∈namesS s.D,Aa7 W0 m0 f) (hnm:∀ n,n=1\/(∃ x∈Cs s.D (namesS s.D),x.n=n)->HV W0 m0 n)
  (hkN:∀ e A' s',Cl s (namesS s.D) limit=(s',none,e)->Dk A' d mp s'->Ah A A' [d,mp]->A'.next<=A.next+1000*(2*L+100)+3000000->Aw A'->K (.tuple ⟨[.pointer none,.int .i64 e]⟩) A')
  (hkS:∀ A' s' q j Fl Fr,Cl s (namesS s.D) limit=(s',some q,0)->JD A' j d mp q s' Fl Fr->A.next<=j->(∀ y∈Fl,A.next<=y)->(∀ y∈Fr,A.next<=y)->Ah A A' [d,mp]->A'.next<=A.next+1000*(2*L+100)+3000000->Aw A'->K (.tuple ⟨[ptr j,.int .i64 0]⟩) A'):
  Wc Tp Al W0 m0 27 [ptr d,.int .i64 limit] A K:=by
 have hmax:Aj=1099511627776:=rfl;have hdl:=h.lt;have hfew:=hok.few;have hDL:s.D.length*(L+30)<=1000*(L+30):=Nat.mul_le_mul_right _ (by omega);by_cases hlim:limit<1
 ·have hos:Cl s (namesS s.D) limit=(s,none,2):=by unfold Cl;rw [if_pos hlim]
  refine w27 _ _ _ BD ?_;rw [e27];refine AZ (cs:=[ptr d]) hf (by omega) rfl λA1 m1=>?_;have n1:=m1.next;have k1:=m1.keeps hf;have r1:=m1.Bk;simp only [ptr] at r1;simp only [Cr,Af r1.row,cellOf,AB,Cf,Ab];refine Ab1 (h.keeps k1 (by simp) (by simp)) m1.Ay (by omega) λA2 d2 k2 n2 f2=>?_;simp only [AcH,Ab,Br];refine Ag.2 ⟨λh=>by simp at h,λ_=>?_⟩;simp only [Az];refine ⟨λ_=>?_,λh=>absurd hlim h⟩;have K2:=k1.trans k2 (by simp);exact hkN 2 A2 s hos (h.keeps K2 (by simp) (by simp)) (K2.more (by simp)) (by omega) f2
 by_cases hdn:s.down=true
 ·have hos:Cl s (namesS s.D) limit=(s,none,100):=by unfold Cl;rw [Ff hlim,if_pos hdn]
  refine w27 _ _ _ BD ?_;rw [e27];refine AZ (cs:=[ptr d]) hf (by omega) rfl λA1 m1=>?_;have n1:=m1.next;have k1:=m1.keeps hf;have r1:=m1.Bk;simp only [ptr] at r1;simp only [Cr,Af r1.row,cellOf,AB,Cf,Ab];refine Ab1 (h.keeps k1 (by simp) (by simp)) m1.Ay (by omega) λA2 d2 k2 n2 f2=>?_;simp only [AcH,Ab,Br];refine Ag.2 ⟨λh=>by simp at h,λ_=>?_⟩;have r2:=r1.keeps k2 (by simp);simp only [Az,Af r2.row,cellOf,AB,Cf,Ab];refine ⟨λh=>absurd h hlim,λ_=>?_⟩;have K2:=k1.trans k2 (by simp);have hd2:=h.keeps K2 (by simp) (by simp);refine AdG hd2 ?_;rw [hdn];refine Ag.2 ⟨λ_=>?_,λh=>by simp at h⟩;exact hkN 100 A2 s hos hd2 (K2.more (by simp)) (by omega) f2
 have hdn:s.down=false:=by simpa using hdn
 refine w27 _ _ _ (c27 (I:=OI A d mp k L s limit) λg id vals A' dd hI hd'=>?_) ?_
 ·rcases hI with ⟨rfl,hh⟩ | ⟨rfl,hh⟩ | ⟨rfl,hh⟩
  ·exact AeR hk9 hL hA (.inl ⟨rfl,hh⟩) hd'
  ·exact AeQ h hok hk9 hL hkL hA (.inr (.inl ⟨rfl,hh⟩)) hd'
  ·exact AeP hg0 hk9 hL hkL hA hlim hdn hdl h0 hnm hkN hkS (.inr (.inr ⟨rfl,hh⟩)) hd'
 rw [e27];refine AZ (cs:=[ptr d]) hf (by omega) rfl λA1 m1=>?_;have n1:=m1.next;have k1:=m1.keeps hf;have r1:=m1.Bk;simp only [ptr] at r1;simp only [ptr,Cr,Af r1.row,cellOf,AB,Cf,Ab];refine Ab1 (h.keeps k1 (by simp) (by simp)) m1.Ay (by omega) λA2 d2 k2 n2 f2=>?_;simp only [AcH,Ab,Br];refine Ag.2 ⟨λh=>by simp at h,λ_=>?_⟩;have r2:=r1.keeps k2 (by simp);simp only [Az,Af r2.row,cellOf,AB,Cf,Ab];refine ⟨λh=>absurd h hlim,λ_=>?_⟩;have K2:=k1.trans k2 (by simp);have hd2:=h.keeps K2 (by simp) (by simp);refine AdG hd2 ?_;rw [hdn];refine Ag.2 ⟨λh=>by simp at h,λ_=>?_⟩;simp only [Af r2.row,cellOf,AB,Cf,Ab];refine Agq (L:=L) hd2 (hg0.keeps K2 (by simp)) hdn (by omega) hLf hL f2 (by omega) hnum ⟨by omega,by omega⟩ λA3 v F X hX ho hF hsv g3=>?_;have n3:=g3.next;have le3:=g3.le;simp only [Ci,Ch,Ab,Bw];refine Bj.2 ⟨λhe=>by simp at he,λ_=>?_⟩;have hXl:X.length<=s.D.length:=by
  have:=TT s.D
  rw [<- hX,List.length_map] at this;exact this
 have hxs:∀ x∈X,13*x.2.length<=L/\x.1.n<100000000/\x.1.st<256:=λx hx=>by
  have hm:BN x∈Cs s.D (namesS s.D):=by rw [<- hX];exact List.mem_map.2 ⟨x,hx,rfl⟩
  obtain ⟨p,hp,he⟩:=Aab hm;have h1:=scan_len _ (fileOf s.D p).1 rfl;have h2:=WG hLf p;have e1:x.2.map toR=(scan (fileOf s.D p).1).1:=congrArg Seg.l he;have e2:x.1.n=numOf p:=congrArg Seg.n he;have e3:x.1.st=(scan (fileOf s.D p).1).2.2:=congrArg Seg.st he;have h3:=NS p;have e1l:=congrArg List.length e1;rw [List.length_map] at e1l;exact ⟨by omega,by omega,by omega⟩
 have hXL:X.length*(L+2)<=1000*(L+2):=Nat.mul_le_mul_right _ (by omega);have hfin:∀ (o:Option (List Seg × Nat)),Kl (Cs s.D (namesS s.D))=o->o=none->Cl s (namesS s.D) limit=(s,none,120):=by
  intro o h1 h2;unfold Cl;rw [Ff hlim,Ff (by rw [hdn];simp),h1,h2]
 refine Agp (lo:=A2.next) (M:=L) ho hsv g3.Ay (by omega) (λx hx=>(by have:=(hxs x hx).1;omega)) hL (λx hx=>(hxs x hx).2.1) (λx hx=>(hxs x hx).2.2) (by omega) (λhr A4 g4=>?_) λf hr hfX A4 v' F' g4 hrd hF'=>?_
 ·have n4:=g4.next;simp only [show ∀ a b c,Ap (.tuple ⟨[a,b,c]⟩) 0=some a from λ_ _ _=>rfl,show ∀ a b c,Ap (.tuple ⟨[a,b,c]⟩) 1=some b from λ_ _ _=>rfl,show ∀ a b c,Ap (.tuple ⟨[a,b,c]⟩) 2=some c from λ_ _ _=>rfl,Ab,Bl];refine Ag.2 ⟨λ_=>?_,λh=>by simp at h⟩;have K4:=(K2.trans g3.keeps (by simp)).trans g4.keeps (by simp);exact hkN 120 A4 s (hfin none (by rw [<- hX];exact hr) rfl) (h.keeps K4 (by simp) (by simp)) (K4.more (by simp)) (by omega) g4.Ay
 have n4:=g4.next;have le4:=g4.le;simp only [show ∀ a b c,Ap (.tuple ⟨[a,b,c]⟩) 0=some a from λ_ _ _=>rfl,show ∀ a b c,Ap (.tuple ⟨[a,b,c]⟩) 1=some b from λ_ _ _=>rfl,show ∀ a b c,Ap (.tuple ⟨[a,b,c]⟩) 2=some c from λ_ _ _=>rfl,Ab,Bl];refine Ag.2 ⟨λh=>by simp at h,λ_=>?_⟩;have r4:=(r2.keeps g3.keeps (by simp)).keeps g4.keeps (by simp);have hba:=Af9 d limit;simp only [ptr] at hba;simp only [Af r4.row,cellOf,AB,Cf,Ab,hba];refine AZ (cs:=[pP d 0,.int .i64 limit,.string ⟨⟨[]⟩⟩,.slice none 0 0,.slice none 0 0,.int .i64 0,.bool false,.bool false]) g4.Ay (by omega) rfl λA5 m5=>?_;have n5:=m5.next;have k5:=m5.keeps g4.Ay;have r5:=r4.keeps k5 (by simp);simp only [Af r5.row,cellOf,AB,Cf,Ab];have K5:Ah A A5 []:=((K2.trans g3.keeps (by simp)).trans g4.keeps (by simp)).trans k5 (by simp);have hd5:=h.keeps K5 (by simp) (by simp);refine ZW hd5 m5.Ay (by omega) (by omega) λA6 sv Fn h6 hFn k6 n6 f6=>?_;have hrd6:=Ll h6;have hnl:(namesS s.D).length=s.D.length:=by unfold namesS;rw [List.length_mergeSort,List.length_map]
 refine AdF (k:=⟨⟨[106,46,110,101,119]⟩⟩) hrd6 (by omega) ?_;have K6:Ah A A6 []:=K5.trans k6 (by simp);have k46:Ah A4 A6 []:=k5.trans k6 (by simp);have k36:Ah A3 A6 []:=g4.keeps.trans k46 (by simp);have le6:=k6.next;have hox:OX s k L X f:=⟨hX.symm,hr,hfX,by omega,λx hx=>(hxs x hx).1⟩;have hlow:Rt A.next A6 A.next.succ.pred A.next d X v' f\/True:=.inr trivial;have holt:=BF.lt ho;have hlow:Rt A.next A6 A4.next A.next d X v' f:=by
  refine ⟨r5.keeps k6 (by simp),⟨by omega,by omega⟩,⟨F',hrd.keeps k46 (by simp),λy hy=>?_⟩,λx hx=>?_⟩
  ·have h1:=hF' y hy;have h2:=hF y h1;have h3:=holt y h1;omega
  ·obtain ⟨G,hG1,hG2⟩:=hsv x hx;refine ⟨G,hG1.keeps k36 (by simp),λy hy=>?_⟩;have h1:=hG1.fam y hy;have h2:=hG2 y hy;omega
 have ho6:=ho.keeps k36 (by simp);have hF6:∀ y∈F,A.next<=y/\y<A4.next:=λy hy=>by
  have h2:=hF y hy;have h3:=holt y hy;omega
 have j6:=m5.Bk.keeps k6 (by simp);have g6:Grow A A6 (1000*(2*L+100)-110):=⟨K6,f6,by omega⟩;have hfr:(⟨⟨[106,46,110,101,119]⟩⟩:ByteArray).data.toList=fresh:=rfl;rw [hfr];refine Ag.2 ⟨λhin=>?_,λhin=>?_⟩
 ·have hin:fresh∈namesS s.D:=by simpa using hin
  refine Hp (Aa2 A6 69 A.next) rfl f6 (by omega) λA7 m7=>?_;have n7:=m7.next;have k7:=m7.keeps f6;refine CW.LM esF (p:=f1V 69 A.next) (CW.nil A7) m7.Bk m7.Ay (by omega) (by simp) λv8 A8 F8 o8 k8 hF8 n8 f8=>?_;have k68:Ah A6 A8 []:=k7.trans k8 (by simp);have h8:∀ y∈F8,A6.next<y:=λy hy=>(hF8 y hy).elim (λh=>by simp at h) λh=>by omega
  refine mid (k:=k) (F':=F') (Fa:=F8) (vs:=[f1V 69 A.next]) ((hg0.keeps K6 (by simp)).keeps k68 (by simp)) hk9 hL hA hox (hlow.keeps k68 (by simp)) (by omega) (ho6.keeps k68 (by simp)) hF6 ?_ (λy hy=>by have:=h8 y hy;omega) (j6.keeps k68 (by simp)) ((g6.trans ⟨k68,f8,(by omega:A8.next<=A6.next+2)⟩).more (by omega));rw [if_pos hin];refine ⟨o8,rfl,λm a w ha hw=>?_⟩
  match m,ha,hw with
  |0,ha,hw=>cases ha;cases hw;rfl
  |m+1,ha,hw=>simp at ha
 ·have hin:fresh∉namesS s.D:=by simpa using hin
  refine mid (k:=k) (F':=F') (Fa:=[]) (vs:=[]) (hg0.keeps K6 (by simp)) hk9 hL hA hox hlow (by omega) ho6 hF6 ?_ (by simp) j6 (g6.more (by omega));rw [Ff hin];exact GX.nil _ _ _ _
end
variable {A:AW} {j d:Nat} {q:JS} {Fl Fr:List Nat} {r:RV} {K:Value->AW->Prop}
noncomputable def Mv(Q:Value->AW->Prop)(a0 t0 b:Value)(A:AW):Prop:=
 Aa (AY a0) λt187=>Aa (Ad Tp 123 t187 5) λt188=>Aa (Ae Tp A 3 t188) λt189=>Aa (Bi Tp A 9 b) λt190=>Aa (An Tp .add 3 (.tmp 101) (.tmp 103) t189 t190) λt191=>Aa (AY a0) λt192=>Aa (Ad Tp 123 t192 5) λt193=>Be (Av Tp A 3 t193 t191) λAt194=>Aa (AY a0) λt195=>Aa (Ad Tp 123 t195 6) λt196=>Be (Av Tp At194 4 t196 (.bool true)) λAt197=>Aa (AY a0) λt198=>Aa (Ad Tp 123 t198 3) λt199=>Aa (Ae Tp At197 60 t199) λt200=>Aa (Ae Tp At197 80 t0) λt201=>Ao (Aq Tp At197 60 1 [(0,t201)]) λt202 At202=>Cd (Bn Tp (BZ (Tm.fill ⟨1,.nil⟩ 0 [t201])) (.buildSlice 60 1 #[(0,.tmp 0)])) At202 t202 (Aa (Ae Tp At202 80 t0) λt203=>eqW t203 t201 (Aa (Ae Tp At202 60 t199) λt204=>eqW t204 t200 (Aa (Ad Tp 123 t198 3) λt205=>eqW t205 t199 (Aa (AY a0) λt206=>eqW t206 t198 (eqW a0 a0 (eqW a0 a0 (Ao (AU Tp At202 60 60 t200 t202) λt207 At207=>eqW a0 a0 (Aa (AY a0) λt208=>Aa (Ad Tp 123 t208 3) λt209=>Be (Av Tp At207 60 t209 t207) λAt210=>Q (.int .i64 0) At210))))))))
section
variable {W0:World} {m0:Inj Tp}
theorem UZ {t0:Nat} {b:ByteArray} {K:Value->AW->Prop} (h:Jn A j d q Fl Fr) (hjl:j∉Fl) (hjr:j∉Fr) (hlr:∀ y∈Fl,y∉Fr) (ht:Abs.Row1 A t0 (fR r) 80) (ht1:t0∉Fl) (ht2:t0≠j) (hf:Aw A) (hA:A.next+5<Aj) (hl:q.l.length<1000000) (hs:q.size+b.data.toList.length<4611686018427387904)
  (hk:∀ A' Fl',Jn A' j d { q with size:=q.size+b.data.toList.length,some:=true,l:=q.l++[toR r] } Fl' Fr->(∀ y∈Fl',y∈Fl\/A.next<=y)->Ah A A' (j::Fl)->A'.next<=A.next+2->Aw A'->K (.int .i64 0) A'):Mv K (ptr j) (ptr t0) (.string b) A:=by
 obtain ⟨vl,vr,rl,j1,o1,hql,o2⟩:=h;have hjlt:=j1.lt;have htlt:=ht.lt;have hvl:=o1.one;have hvr:=o2.one;have hlls:=o1.lt;have hrls:=o2.lt;have ht:Abs.Row1 A t0 [.int .u8 r.1.toNat,.string r.2] 80:=ht;have hrl:rl.length=q.l.length:=by rw [hql,List.length_map]
 unfold Mv;simp only [ptr,AD,Jh,Jf,Je,GL,Hj,Af j1.row,cellOf,AB,AI,AG,Di,hvl.2,hvr.2,Cf,Ab,Bm];rw [wrap_i64 (by omega) (by omega)];have es:(q.size:Int)+(b.data.toList.length:Int)=((q.size+b.data.toList.length:Nat):Int):=by omega
 rw [es];refine j1.store hf (by omega) (Qp _ _ _) rfl (by show 0+5+1<=8;omega) rfl λA2 j2 k2 n2 f2=>?_;have j2:Abs.Row1 A2 j [pP d 0,.int .i64 q.limit,.string ⟨⟨q.state⟩⟩,vl,vr,.int .i64 ((q.size+b.data.toList.length:Nat):Int),.bool q.some,.bool q.broken] 123:=j2;have k2:Ah A A2 [j]:=k2;refine j2.store f2 (by omega) (OV _ _ _) rfl (by show 0+6+1<=8;omega) rfl λA3 j3 k3 n3 f3=>?_;have j3:Abs.Row1 A3 j [pP d 0,.int .i64 q.limit,.string ⟨⟨q.state⟩⟩,vl,vr,.int .i64 ((q.size+b.data.toList.length:Nat):Int),.bool true,.bool q.broken] 123:=j3;have k3:Ah A2 A3 [j]:=k3;have K3:Ah A A3 [j]:=k2.trans k3 (by simp);have t3:=ht.keeps K3 (by simpa using ht2);have hcells:∀ B,Abs.Row1 B t0 [.int .u8 r.1.toNat,.string r.2] 80->B.cells? ⟨t0,0,none⟩ 2=some [.int .u8 r.1.toNat,.string r.2]:=λB hB=>by rw [Bc hB.row];rfl
 simp only [N4,AbD,hcells A3 t3,Af j3.row,cellOf,AB,AI,AG,hvl.2,Cf,Ab,Nat.zero_add];refine VG (c:=r.1) (s:=r.2) f3 (by omega) λA4 m4=>?_;have n4:=m4.next;have k4:=m4.keeps f3;refine ⟨⟨_,Vp _ _,?_⟩,?_⟩
 ·have:=m4.row
  simp only [B4,Eu,this,fR,EF,EV,G1,Bool.and_self,Option.isNone_none,Nat.beq_refl]
 have j4:=j3.keeps k4 (by simp);have t4:=t3.keeps k4 (by simp);simp only [hcells A4 t4,Af j4.row,cellOf,AB,AI,AG,hvl.2,Cf,Ab,AR];have K4:Ah A A4 [j]:=K3.trans k4 (by simp);refine (o1.keeps K4 λy hy=>by simp;intro h;subst h;exact hjl hy).append etR (p:=r) m4.Bk m4.Ay (by omega) (by omega) λv5 A5 F5 o5 k5 hF5 n5 f5=>?_;have j5:=j4.keeps k5 hjl;obtain ⟨so,sc,hv5⟩:=o5.slice;refine j5.store f5 (by omega) (RJ _ _ _) (by rw [hv5];rfl) (by show 3+1<=8;omega) (by rw [hv5];rfl) λA6 j6 k6 n6 f6=>?_;have j6:Abs.Row1 A6 j [pP d 0,.int .i64 q.limit,.string ⟨⟨q.state⟩⟩,v5,vr,.int .i64 ((q.size+b.data.toList.length:Nat):Int),.bool true,.bool q.broken] 123:=by rw [hv5] at j6 ⊢;exact j6
 have k6:Ah A5 A6 [j]:=k6;have K6:Ah A A6 (j::Fl):=((K4.more (by simp)).trans k5 (λy hy=>.inl (by simp [hy]))).trans k6 (by simp);have le4:=K4.next;have hF5':∀ y∈F5,y∈Fl\/A.next<=y:=λy hy=>(hF5 y hy).imp (λh=>h) λh=>by omega
 refine hk A6 F5 ⟨v5,vr,rl++[r],j6,o5.keeps k6 λy hy=>?_,?_,o2.keeps K6 λy hy hm=>?_⟩ hF5' K6 (by omega) f6
 ·simp
  rintro rfl;rcases hF5' y hy with h | h
  ·exact hjl h
  ·omega
 ·show q.l++[toR r]=_;rw [hql,List.map_append];rfl
 ·rcases Mk.1 hm with h | h
  ·subst h;exact hjr hy
  ·exact hlr y h hy
theorem AhX(W0:World)(m0:Inj Tp)(S:Nat->List Value->AW->Prop)(Q:Value->AW->Prop)(a0 a1:Value)(A:AW):gE W0 m0 S Q 40 119 Tz Lz [a0,a1] A=(Ao (CO A (Value.cells a1).toList 80) λt0 At0=>Wc Tp Al W0 m0 88 [a0] At0 λt1 At1=>Aa (unA Tp .not t1) λt2=>Ai t2 (Q (.int .i64 1) At1) (Aa (Ad Tp 80 t0 0) λt3=>Aa (Ae Tp At1 5 t3) λt4=>Aa (An Tp .eql 5 (.tmp 16) (.const (.int .u8 0)) t4 (.int .u8 0)) λt5=>Ai t5 (Q (.int .i64 2) At1) (Wc Tp Al W0 m0 91 [a0] At1 λt6 At6=>Aa (An Tp .neq 26 (.tmp 20) (.const (.int .i64 0)) t6 (.int .i64 0)) λt7=>Ai t7 (Q t6 At6) (Aa (Ae Tp At6 80 t0) λt8=>Ao (Aq Tp At6 60 1 [(0,t8)]) λt9 At9=>Wc Tp Al W0 m0 100 [t9] At9 λt10 At10=>Aa (Ap t10 0) λt11=>Aa (Ap t10 1) λt12=>Aa (An Tp .neq 26 (.tmp 29) (.const (.int .i64 0)) t12 (.int .i64 0)) λt13=>Ai t13 (Q t12 At10) (Wc Tp Al W0 m0 92 [a0] At10 λt14 At14=>Aa (AY a0) λt15=>Aa (Ad Tp 123 t15 6) λt16=>Aa (Ae Tp At14 4 t16) λt17=>Ai t17 (Aa (Bi Tp At14 9 t11) λt18=>Aa (AY a0) λt19=>Aa (Ad Tp 123 t19 1) λt20=>Aa (Ae Tp At14 3 t20) λt21=>Aa (AY a0) λt22=>Aa (Ad Tp 123 t22 5) λt23=>Aa (Ae Tp At14 3 t23) λt24=>Aa (An Tp .sub 3 (.tmp 44) (.tmp 48) t21 t24) λt25=>Aa (An Tp .gtr 3 (.tmp 40) (.tmp 49) t18 t25) λt26=>Ai t26 (Aa (An Tp .eql 3 (.tmp 53) (.const (.int .i64 99999999)) t14 (.int .i64 99999999)) λt27=>Ai t27 (Q (.int .i64 6) At14) (Aa (AY a0) λt28=>Aa (Ad Tp 123 t28 0) λt29=>Aa (Ae Tp At14 23 t29) λt30=>knW Tp W0 m0 78 [t14] At14 λt31 At31=>Aa (Ae Tp At31 23 t29) λt32=>eqW t32 t30 (Aa (Ad Tp 123 t28 0) λt33=>eqW t33 t29 (Aa (AY a0) λt34=>eqW t34 t28 (eqW a0 a0 (Wc Tp Al W0 m0 75 [t30,t31] At31 λt35 At35=>Aa (An Tp .neq 26 (.tmp 62) (.const (.int .i64 0)) t35 (.int .i64 0)) λt36=>Ai t36 (Wc Tp Al W0 m0 93 [a0,t35] At35 λt37 At37=>Q t37 At37) (Aa (An Tp .add 3 (.tmp 67) (.const (.int .i64 1)) t14 (.int .i64 1)) λt38=>Aa (AY a0) λt39=>Aa (Ad Tp 123 t39 0) λt40=>Aa (Ae Tp At35 23 t40) λt41=>knW Tp W0 m0 78 [t38] At35 λt42 At42=>eqW t11 t11 (Aa (Ae Tp At42 23 t40) λt43=>eqW t43 t41 (Aa (Ad Tp 123 t39 0) λt44=>eqW t44 t40 (Aa (AY a0) λt45=>eqW t45 t39 (eqW a0 a0 (Wc Tp Al W0 m0 73 [t41,t42,t11] At42 λt46 At46=>Aa (An Tp .neq 26 (.tmp 77) (.const (.int .i64 0)) t46 (.int .i64 0)) λt47=>Ai t47 (Wc Tp Al W0 m0 93 [a0,t46] At46 λt48 At48=>Q t48 At48) (Ai t26 (Aa (AY a0) λt49=>Aa (Ad Tp 123 t49 4) λt50=>Aa (Ae Tp At46 36 t50) λt51=>Ao (Aq Tp At46 36 1 [(0,t38)]) λt52 At52=>Ao (AU Tp At52 36 36 t51 t52) λt53 At53=>Aa (AY a0) λt54=>Aa (Ad Tp 123 t54 4) λt55=>Be (Av Tp At53 36 t55 t53) λAt56=>Aa (AY a0) λt57=>Aa (Ad Tp 123 t57 5) λt58=>Be (Av Tp At56 3 t58 (.int .i64 0)) λAt59=>Mv Q a0 t0 t11 At59) (Mv Q a0 t0 t11 At46)))))))))))))) (Aa (AY a0) λt108=>Aa (Ad Tp 123 t108 0) λt109=>Aa (Ae Tp At14 23 t109) λt110=>knW Tp W0 m0 78 [t14] At14 λt111 At111=>eqW t11 t11 (Aa (Ae Tp At111 23 t109) λt112=>eqW t112 t110 (Aa (Ad Tp 123 t108 0) λt113=>eqW t113 t109 (Aa (AY a0) λt114=>eqW t114 t108 (eqW a0 a0 (Wc Tp Al W0 m0 73 [t110,t111,t11] At111 λt115 At115=>Aa (An Tp .neq 26 (.tmp 77) (.const (.int .i64 0)) t115 (.int .i64 0)) λt116=>Ai t116 (Wc Tp Al W0 m0 93 [a0,t115] At115 λt117 At117=>Q t117 At117) (Ai t26 (Aa (AY a0) λt118=>Aa (Ad Tp 123 t118 4) λt119=>Aa (Ae Tp At115 36 t119) λt120=>Ao (Aq Tp At115 36 1 [(0,t14)]) λt121 At121=>Ao (AU Tp At121 36 36 t120 t121) λt122 At122=>Aa (AY a0) λt123=>Aa (Ad Tp 123 t123 4) λt124=>Be (Av Tp At122 36 t124 t122) λAt125=>Aa (AY a0) λt126=>Aa (Ad Tp 123 t126 5) λt127=>Be (Av Tp At125 3 t127 (.int .i64 0)) λAt128=>Mv Q a0 t0 t11 At128) (Mv Q a0 t0 t11 At115))))))))) (Aa (AY a0) λt177=>Aa (Ad Tp 123 t177 0) λt178=>Aa (Ae Tp At14 23 t178) λt179=>knW Tp W0 m0 78 [t14] At14 λt180 At180=>eqW t11 t11 (Aa (Ae Tp At180 23 t178) λt181=>eqW t181 t179 (Aa (Ad Tp 123 t177 0) λt182=>eqW t182 t178 (Aa (AY a0) λt183=>eqW t183 t177 (eqW a0 a0 (Wc Tp Al W0 m0 73 [t179,t180,t11] At180 λt184 At184=>Aa (An Tp .neq 26 (.tmp 77) (.const (.int .i64 0)) t184 (.int .i64 0)) λt185=>Ai t185 (Wc Tp Al W0 m0 93 [a0,t184] At184 λt186 At186=>Q t186 At186) (Mv Q a0 t0 t11 At184)))))))))))):=by kernel_rfl
theorem AdL {mp k n : Nat} {s : DS} (h : JD A j d mp q s Fl Fr) (hg : Glb A) (hok : OkS k s) (hk9 : k < 9000) (hf : Aw A) (hA : A.next < 900000000000) (h0 : 1 ≠ j /\ 1 ≠ d /\ 1 ≠ mp) (hr : r.2.data.toList.length <= 65536)
    (hl : q.l.length < 1000000) (hrw : q.row.length < 1000000) (hn : q.row.getLast? = some n) (hn8 : n < 100000000) (hsz : q.size < 1099511627776) (hl1 : 1 <= q.limit) (hl2 : q.limit < 9223372036854775808) (hN : HV W0 m0 n) (hN1 : n ≠ 99999999 -> HV W0 m0 (n + 1))
    (hk : ∀ A' Fl' Fr', JD A' j d mp (Ak s q (toR r)).2.1 (Ak s q (toR r)).1 Fl' Fr' -> (∀ y ∈ Fl', y ∈ Fl \/ A.next <= y) -> (∀ y ∈ Fr', y ∈ Fr \/ A.next <= y) -> Ah A A' (j :: d :: mp :: (Fl ++ Fr)) -> A'.next <= A.next + 100 + k -> Aw A' -> K (.int .i64 (Ak s q (toR r)).2.2) A') :
    Wc Tp Al W0 m0 40 [ptr j, .agg ⟨fR r⟩] A K := by
  have hmax : Aj = 1099511627776 := rfl
  have hfew := hok.few
  have hjd := h
  refine w40 _ _ _ BD ?_
  rw [AhX]
  refine AZ (cs := fR r) hf (by omega) rfl λA1 m1 => ?_
  have n1 := m1.next
  have k1 := m1.keeps hf
  have t1 : Abs.Row1 A1 A.next [.int .u8 r.1.toNat, .string r.2] 80 := m1.Bk
  have J1 := h.keeps k1 (by simp) (by simp) (by simp) (by simp) (by simp)
  refine VM J1.jn ?_
  simp only [Bl, Ab]
  refine Ag.2 ⟨λh => by simp at h, λ_ => ?_⟩
  simp only [JK, L9, Af t1.row, cellOf, AI, Cf, Ab, B8]
  have stay : ∀ e : Int, Ak s q (toR r) = (s, q, e) -> ∀ A', Grow A A' 90 -> K (.int .i64 e) A' := λe he A' g => by
    rw [he] at hk
    exact hk A' Fl Fr (hjd.keeps g.keeps (by simp) (by simp) (by simp) (by simp) (by simp)) (λy hy => .inl hy) (λy hy => .inl hy) (g.keeps.more (by simp)) (by have := g.next; omega) g.Ay
  have g1 : Grow A A1 1 := .made m1 hf
  refine Cg.2 ⟨λhz => ?_, λhz => ?_⟩
  · have hz0 : (toR r).1 = 0 := UInt8.toNat_inj.1 (by show r.1.toNat = 0; omega)
    exact stay 2 (by unfold Ak; rw [if_pos hz0]) A1 (g1.more (by omega))
  have hz0 : (toR r).1 ≠ 0 := λh0 => hz (by have : r.1 = 0 := h0; rw [this]; rfl)
  refine ZR J1.jn ?_
  simp only [Bw, Ab]
  refine Bj.2 ⟨λhb => ?_, λhb => ?_⟩
  · have hb' : q.broken = true := by
      cases hq : q.broken with
      | true => rfl
      | false => rw [hq] at hb; simp at hb
    rw [if_pos hb']
    exact stay 100 (by unfold Ak; rw [Ff hz0, if_pos hb']) A1 (g1.more (by omega))
  have hb' : q.broken = false := by
    cases hq : q.broken with
    | false => rfl
    | true => rw [hq] at hb; simp at hb
  have hcells : ∀ B, Abs.Row1 B A.next [.int .u8 r.1.toNat, .string r.2] 80 -> B.cells? ⟨A.next, 0, none⟩ 2 = some [.int .u8 r.1.toNat, .string r.2] := λB hB => by rw [Bc hB.row]; rfl
  simp only [AbD, hcells A1 t1, Ab]
  refine VG (c := r.1) (s := r.2) m1.Ay (by omega) λA2 m2 => ?_
  have n2 := m2.next
  have g2 := g1.trans (.made m2 m1.Ay)
  have hrd : RdE 1 fR A2 (.slice (some ⟨A1.next, 0, none⟩) 1 1) [r] [A1.next] := .inr ⟨A1.next, 0, 1, _, _, A1.next, 0, false, rfl, m2.row, by omega, rfl, λi p hi => by
    cases i with
    | zero => obtain rfl : r = p := by simpa using hi
              exact ⟨[], rfl⟩
    | succ i => simp at hi⟩
  have hp : AF ([r].map toR) = AL (toR r) := by simp [AF]
  have hpl : (AL (toR r)).length = 13 + r.2.data.toList.length := BQ _
  refine Abn hrd (hg.keeps g2.keeps (by simp)) m2.Ay (by simp) (by simpa using hr) (by simp; omega) (by rw [hp, hpl]; omega) λA3 g3 => ?_
  have g3 : Grow A2 A3 20 := g3
  have g3' := g2.trans g3
  have n3 := g3'.next
  have le3 := g3'.le
  rw [hp]
  simp only [Ci, Ch, Ab, Bw]
  refine Bj.2 ⟨λh => by simp at h, λ_ => ?_⟩
  have J3 := hjd.keeps g3'.keeps (by simp) (by simp) (by simp) (by simp) (by simp)
  refine AbZ J3.jn hn hrw ?_
  have t3 := t1.keeps ((Grow.made m2 m1.Ay).trans g3).keeps (by simp)
  have hJn3 := J3.jn
  obtain ⟨vl, vr, rl, j3, o1, hql, o2⟩ := J3.jn
  have hvl := o1.one
  have hvr := o2.one
  have elast : q.row.getLast?.getD 0 = n := by rw [hn]; rfl
  have hjA := hjd.jn.lt
  have hdA := hjd.dk.lt
  have hFlA : ∀ y ∈ Fl, y < A.next := by obtain ⟨_, _, _, _, a, _, _⟩ := hjd.jn; exact a.lt
  have hFrA : ∀ y ∈ Fr, y < A.next := by obtain ⟨_, _, _, _, _, _, a⟩ := hjd.jn; exact a.lt
  have hjFl : j ∉ Fl := λhm => (hjd.fl j hm).2.2.1 rfl
  have hjFr : j ∉ Fr := λhm => (hjd.fr j hm).2.2 rfl
  have plain : ¬ (q.some = true /\ q.limit - q.size < ((AL (toR r)).length : Int)) -> ∀ T : AW -> Prop, (∀ A4, Mv K (ptr j) (ptr A.next) (.string ⟨⟨AL (toR r)⟩⟩) A4 -> T A4) -> knW Tp W0 m0 78 [.int .i64 (n : Int)] A3 λt180 At180 => Aa (At180.cell? ⟨j, 0, none⟩) λt181 => eqW t181 (ptr d) (Wc Tp Al W0 m0 73 [ptr d, t180, .string ⟨⟨AL (toR r)⟩⟩] At180 λt184 At184 => Aa (An Tp .neq 26 (.tmp 77) (.const (.int .i64 0)) t184 (.int .i64 0)) λt185 => Ai t185 (Wc Tp Al W0 m0 93 [ptr j, t184] At184 λt186 At186 => K t186 At186) (T At184)) := by
    intro hno T hT
    refine Iy (by decide) hN rfl ?_
    simp only [ptr, Af j3.row, cellOf, AB, Cf, Ab, AR]
    refine ZT (n := ⟨⟨Jr.nm n⟩⟩) (b := ⟨⟨AL (toR r)⟩⟩) J3.dk (hok.d (by omega)) hok.n (by show (AL (toR r)).length < _; rw [hpl]; omega) g3'.Ay (by omega) λA4 d4 k4 n4 f4 => ?_
    have ed : (⟨⟨Jr.nm n⟩⟩ : ByteArray).data.toList = Jr.nm n := rfl
    have eb : (⟨⟨AL (toR r)⟩⟩ : ByteArray).data.toList = AL (toR r) := rfl
    rw [ed, eb] at d4 ⊢
    have J4 : JD A4 j d mp q _ Fl Fr := J3.GW k4 d4
    have le4 := k4.next
    have K4 : Ah A A4 (j :: d :: mp :: (Fl ++ Fr)) := (g3'.keeps.more (by simp)).trans k4 (λy hy => .inl (by simp only [Mk, List.not_mem_nil, or_false] at hy; rcases hy with rfl | rfl <;> simp))
    have eap : Ak s q (toR r) = (let y := Bg s (Jr.nm n) (AL (toR r)); if y.2 ≠ 0 then (y.1, CZ q y.2, y.2) else (y.1, { q with size := q.size + (AL (toR r)).length, some := true, l := q.l ++ [toR r] }, 0)) := by
      unfold Ak
      rw [Ff hz0, Ff (by rw [hb']; simp), elast]
      simp only
      rw [Ff hno]
    simp only at eap
    simp only [Bw, Ab]
    refine Bj.2 ⟨λhe => ?_, λhe => ?_⟩
    · rw [if_pos he] at eap
      rw [eap] at hk
      refine TJ J4.jn f4 (by omega) hjFl hjFr λA5 j5 k5 n5 f5 => ?_
      refine hk A5 Fl Fr ⟨j5, J4.dk.keeps k5 (by simp; exact λh => hjd.nd.1 h.symm) (by simp; exact λh => hjd.nd.2 h.symm), hjd.nd, hjd.fl, hjd.fr⟩ (λy hy => .inl hy) (λy hy => .inl hy) (K4.trans k5 (λy hy => .inl (by simp [Ms.1 hy]))) (by omega) f5
    · rw [Ff (by simpa using he)] at eap
      rw [eap] at hk
      have t4 := t3.keeps k4 (by simp; omega)
      refine hT _ (UZ J4.jn hjFl hjFr (λy hy => (hjd.fl y hy).2.2.2) t4 (λhm => by have := hFlA _ hm; omega) (by omega) f4 (by omega) hl (by rw [eb, hpl]; omega) λA5 Fl5 j5 hF5 k5 n5 f5 => ?_)
      have hF5' : ∀ y ∈ Fl5, y ∈ Fl \/ A.next <= y := λy hy => (hF5 y hy).imp (λh => h) λh => by omega
      refine hk A5 Fl5 Fr ⟨j5, J4.dk.keeps k5 (λhm => ?_) (λhm => ?_), hjd.nd, λy hy => ?_, hjd.fr⟩ hF5' (λy hy => .inl hy) (K4.trans k5 (λy hy => .inl ?_)) (by omega) f5
      · rcases Mk.1 hm with h | h
        · exact hjd.nd.1 h.symm
        · exact (hjd.fl d h).1 rfl
      · rcases Mk.1 hm with h | h
        · exact hjd.nd.2 h.symm
        · exact (hjd.fl mp h).2.1 rfl
      · rcases hF5' y hy with h | h
        · exact hjd.fl y h
        · exact ⟨by omega, by omega, by omega, λhm => by have := hFrA y hm; omega⟩
      · rcases Mk.1 hy with h | h
        · simp [h]
        · simp [h]
  have hj3 : Abs.Row1 A3 j [pP d 0, .int .i64 q.limit, .string ⟨⟨q.state⟩⟩, vl, vr, .int .i64 (q.size : Int), .bool q.some, .bool q.broken] 123 := j3
  simp only [ptr] at plain ⊢
  simp only [AD, HL, Y3, Jf, Je, Nat.zero_add, GL, QS, Cr, Af hj3.row, cellOf, AB, AI, AG, Di, hvl.2, hvr.2, Cf, Ab, Hj, Db, B3, AR]
  have ebl : ((⟨⟨AL (toR r)⟩⟩ : ByteArray).data.toList.length : Int) = ((AL (toR r)).length : Int) := rfl
  rw [wrap_i64 (n := q.limit - (q.size : Int)) (by omega) (by omega), ebl]
  refine Ag.2 ⟨λhsome => ?_, λhsome => ?_⟩
  rotate_left
  · exact plain (λhh => by rw [hsome] at hh; cases hh.1) _ λA4 h => h
  refine Az.2 ⟨λhturn => ?_, λhturn => plain (λhh => hturn hh.2) _ λA4 h => Az.2 ⟨λhc => absurd hc hturn, λ_ => h⟩⟩
  have htn : q.some = true /\ q.limit - q.size < ((AL (toR r)).length : Int) := ⟨hsome, hturn⟩
  simp only [B8, Ab]
  refine Cg.2 ⟨λhmx => ?_, λhmx => ?_⟩
  · have hmx : n = 99999999 := by omega
    refine stay 6 ?_ A3 (g3'.more (by simp))
    unfold Ak
    rw [Ff hz0, Ff (by rw [hb']; simp), elast]
    simp only
    rw [if_pos htn, if_pos hmx]
  have hmx : n ≠ 99999999 := by omega
  have eap : Ak s q (toR r) = (let x := Ca s (Jr.nm n); if x.2 ≠ 0 then (x.1, CZ q x.2, x.2) else let y := Bg x.1 (Jr.nm (n + 1)) (AL (toR r)); if y.2 ≠ 0 then (y.1, CZ q y.2, y.2) else (y.1, { q with row := q.row ++ [n + 1], size := (AL (toR r)).length, some := true, l := q.l ++ [toR r] }, 0)) := by
    unfold Ak
    rw [Ff hz0, Ff (by rw [hb']; simp), elast]
    simp only
    rw [if_pos htn, Ff hmx]
  simp only at eap
  refine Iy (by decide) hN rfl ?_
  simp only [Af hj3.row, cellOf, AB, Cf, Ab, AR]
  refine Xp (n := ⟨⟨Jr.nm n⟩⟩) J3.dk hok.n g3'.Ay (by omega) λA4 d4 k4 n4 f4 => ?_
  have ed : (⟨⟨Jr.nm n⟩⟩ : ByteArray).data.toList = Jr.nm n := rfl
  have eb : (⟨⟨AL (toR r)⟩⟩ : ByteArray).data.toList = AL (toR r) := rfl
  rw [ed] at d4 ⊢
  have J4 : JD A4 j d mp q _ Fl Fr := J3.GW k4 d4
  have le4 := k4.next
  have hsub : ∀ y ∈ [d, mp], y ∈ j :: d :: mp :: (Fl ++ Fr) := λy hy => by simp only [Mk, List.not_mem_nil, or_false] at hy; rcases hy with rfl | rfl <;> simp
  have K4 : Ah A A4 (j :: d :: mp :: (Fl ++ Fr)) := (g3'.keeps.more (by simp)).trans k4 (λy hy => .inl (hsub y hy))
  simp only [Bw, Ab]
  refine Bj.2 ⟨λhe => ?_, λhe => ?_⟩
  · rw [if_pos he] at eap
    rw [eap] at hk
    refine TJ J4.jn f4 (by omega) hjFl hjFr λA5 j5 k5 n5 f5 => ?_
    exact hk A5 Fl Fr ⟨j5, J4.dk.keeps k5 (by simp; exact λh => hjd.nd.1 h.symm) (by simp; exact λh => hjd.nd.2 h.symm), hjd.nd, hjd.fl, hjd.fr⟩ (λy hy => .inl hy) (λy hy => .inl hy) (K4.trans k5 (λy hy => .inl (by simp [Ms.1 hy]))) (by omega) f5
  rw [Ff (by simpa using he)] at eap
  have j4 := hj3.keeps k4 (by simp; exact hjd.nd)
  simp only [Bm, Af j4.row, cellOf, AB, Cf, Ab]
  rw [wrap_i64 (n := (n : Int) + 1) (by omega) (by omega)]
  have en1 : (n : Int) + 1 = ((n + 1 : Nat) : Int) := by omega
  rw [en1]
  refine Iy (by decide) (hN1 hmx) rfl ?_
  simp only [Af j4.row, cellOf, AB, Cf, Ab, AR]
  have hok4 : OkS (k + 1) (Ca s (Jr.nm n)).1 := EQ hok _
  have hfew4 := hok4.few
  refine ZT (n := ⟨⟨Jr.nm (n + 1)⟩⟩) (b := ⟨⟨AL (toR r)⟩⟩) J4.dk (hok4.d (by omega)) hok4.n (by show (AL (toR r)).length < _; rw [hpl]; omega) f4 (by omega) λA5 d5 k5 n5 f5 => ?_
  have ed1 : (⟨⟨Jr.nm (n + 1)⟩⟩ : ByteArray).data.toList = Jr.nm (n + 1) := rfl
  rw [ed1, eb] at d5 ⊢
  have J5 : JD A5 j d mp q _ Fl Fr := J4.GW k5 d5
  have le5 := k5.next
  have K5 : Ah A A5 (j :: d :: mp :: (Fl ++ Fr)) := K4.trans k5 (λy hy => .inl (hsub y hy))
  simp only [Bw, Ab]
  refine Bj.2 ⟨λhe2 => ?_, λhe2 => ?_⟩
  · rw [if_pos he2] at eap
    rw [eap] at hk
    refine TJ J5.jn f5 (by omega) hjFl hjFr λA6 j6 k6 n6 f6 => ?_
    exact hk A6 Fl Fr ⟨j6, J5.dk.keeps k6 (by simp; exact λh => hjd.nd.1 h.symm) (by simp; exact λh => hjd.nd.2 h.symm), hjd.nd, hjd.fl, hjd.fr⟩ (λy hy => .inl hy) (λy hy => .inl hy) (K5.trans k6 (λy hy => .inl (by simp [Ms.1 hy]))) (by omega) f6
  rw [Ff (by simpa using he2)] at eap
  rw [eap] at hk
  refine Az.2 ⟨λ_ => ?_, λh => absurd hturn h⟩
  obtain ⟨vl5, vr5, rl5, j5, p1, hql5, p2⟩ := J5.jn
  have hvl5 := p1.one
  have hvr5 := p2.one
  have t5 := (t3.keeps k4 (by simp; omega)).keeps k5 (by simp; omega)
  simp only [Jg, Nat.zero_add, PU, Af j5.row, cellOf, AB, AI, AG, hvl5.2, hvr5.2, Cf, Ab]
  refine Hp (Aa0 A5 ((n + 1 : Nat) : Int)) rfl f5 (by omega) λA6 m6 => ?_
  have n6 := m6.next
  have k6 := m6.keeps f5
  refine CW.LM esI (p := n + 1) (p2.keeps k6 (by simp)) m6.Bk m6.Ay (by omega) hrw λw7 A7 Fr7 o7 k7 hF7 n7 f7 => ?_
  obtain ⟨wo, wc, hw7⟩ := o7.slice
  have j7 := (j5.keeps k6 (by simp)).keeps k7 hjFr
  refine j7.store f7 (by omega) (U1 _ _ _) (by rw [hw7]; rfl) (by show 4 + 1 <= 8; omega) (by rw [hw7]; rfl) λA8 j8 k8 n8 f8 => ?_
  have j8 : Abs.Row1 A8 j [pP d 0, .int .i64 q.limit, .string ⟨⟨q.state⟩⟩, vl5, w7, .int .i64 (q.size : Int), .bool q.some, .bool q.broken] 123 := by rw [hw7] at j8 ⊢; exact j8
  have k8 : Ah A7 A8 [j] := k8
  refine j8.store f8 (by omega) (Qp _ _ _) rfl (by show 5 + 1 <= 8; omega) rfl λA9 j9 k9 n9 f9 => ?_
  have j9 : Abs.Row1 A9 j [pP d 0, .int .i64 q.limit, .string ⟨⟨q.state⟩⟩, vl5, w7, .int .i64 ((0 : Nat) : Int), .bool q.some, .bool q.broken] 123 := j9
  have k9 : Ah A8 A9 [j] := k9
  have k79 : Ah A7 A9 [j] := k8.trans k9 (by simp)
  have K59 : Ah A5 A9 (j :: Fr) := ((k6.more (T := j :: Fr) (by simp)).trans k7 (λy hy => .inl (by simp [hy]))).trans k79 (λy hy => .inl (by simp [Ms.1 hy]))
  have hF7' : ∀ y ∈ Fr7, y ∈ Fr \/ A.next <= y := λy hy => (hF7 y hy).imp (λh => h) λh => by omega
  have hjFr7 : j ∉ Fr7 := λhm => by
    rcases hF7' _ hm with h | h
    · exact hjFr h
    · omega
  have hlr7 : ∀ y ∈ Fl, y ∉ Fr7 := λy hy hm => by
    rcases hF7' _ hm with h | h
    · exact (hjd.fl y hy).2.2.2 h
    · have := hFlA y hy; omega
  have J9 : Jn A9 j d { q with row := q.row ++ [n + 1], size := 0 } Fl Fr7 := ⟨vl5, w7, rl5, j9, p1.keeps K59 λy hy hm => by
      rcases Mk.1 hm with h | h
      · subst h; exact hjFl hy
      · exact (hjd.fl y hy).2.2.2 h, hql5, o7.keeps k79 λy hy => by simp; rintro rfl; exact hjFr7 hy⟩
  have t9 := t5.keeps K59 λhm => by
    rcases Mk.1 hm with h | h
    · omega
    · have := hFrA _ h; omega
  refine UZ J9 hjFl hjFr7 hlr7 t9 (λhm => by have := hFlA _ hm; omega) (by omega) f9 (by omega) hl (by rw [eb, hpl]; show 0 + _ < _; omega) λA10 Fl10 j10 hF10 k10 n10 f10 => ?_
  have e0 : 0 + (AL (toR r)).length = (AL (toR r)).length := by omega
  have j10 : Jn A10 j d { q with row := q.row ++ [n + 1], size := 0 + (AL (toR r)).length, some := true, l := q.l ++ [toR r] } Fl10 Fr7 := j10
  rw [e0] at j10
  have le9 := K59.next
  have hF10' : ∀ y ∈ Fl10, y ∈ Fl \/ A9.next <= y := hF10
  have K10 : Ah A5 A10 (j :: (Fl ++ Fr)) := (K59.more (T := j :: (Fl ++ Fr)) (λy hy => by
      rcases Mk.1 hy with h | h
      · simp [h]
      · simp [h])).trans k10 (λy hy => .inl (by
      rcases Mk.1 hy with h | h
      · simp [h]
      · simp [h]))
  have hdm : ∀ z, (z = d \/ z = mp) -> z ∉ j :: (Fl ++ Fr) := λz hz hm => by
    rcases Mk.1 hm with hh | hh
    · rcases hz with hz | hz
      · exact hjd.nd.1 (hh.symm.trans hz)
      · exact hjd.nd.2 (hh.symm.trans hz)
    · rcases Mz.1 hh with hh | hh
      · have := hjd.fl z hh
        exact hz.elim this.1 this.2.1
      · have := hjd.fr z hh
        exact hz.elim this.1 this.2.1
  have o7l := o7.lt
  refine hk A10 Fl10 Fr7 ⟨j10, J5.dk.keeps K10 (hdm d (.inl rfl)) (hdm mp (.inr rfl)), hjd.nd, λy hy => ?_, λy hy => ?_⟩ (λy hy => (hF10' y hy).imp (λh => h) λh => by omega) hF7' (K5.trans K10 (λy hy => .inl ?_)) (by omega) f10
  · rcases hF10' y hy with h | h
    · have := hjd.fl y h
      exact ⟨this.1, this.2.1, this.2.2.1, hlr7 y h⟩
    · exact ⟨by omega, by omega, by omega, λhm => by have := o7l y hm; omega⟩
  · rcases hF7' y hy with h | h
    · exact hjd.fr y h
    · exact ⟨by omega, by omega, by omega⟩
  · rcases Mk.1 hy with h | h
    · simp [h]
    · simp only [Mk]; exact .inr (.inr (.inr h))
end
variable {j d mp:Nat} {Fl Fr:List Nat} {A:AW} {q:JS} {s:DS} {K:Value->AW->Prop}
section
variable {W0:World} {m0:Inj Tp}
theorem Za:∀ y∈[d,mp],y∈j::d::mp::(Fl++Fr):=λy hy=>by
 simp only [Mk,List.not_mem_nil,or_false] at hy;rcases hy with rfl | rfl<;>simp
theorem Agt {k n:Nat} (h:JD A j d mp q s Fl Fr) (hok:OkS k s) (hf:Aw A) (hA:A.next<900000000000) (hrw:q.row.length<1000000) (hn:q.row.getLast? =some n) (hN:HV W0 m0 n)
  (hk:∀ A',JD A' j d mp (BJ s q).2.1 (BJ s q).1 Fl Fr->Ah A A' [j,d,mp]->A'.next<=A.next+20->Aw A'->K (.int .i64 (BJ s q).2.2) A'):
  Wc Tp Al W0 m0 45 [ptr j] A K:=by
 have hmax:Aj=1099511627776:=rfl;have hjd:=h;refine w45 _ _ BD ?_;rw [e45];refine VM h.jn ?_;simp only [Bl,Ab];refine Ag.2 ⟨λh=>by simp at h,λ_=>?_⟩;refine ZR h.jn ?_;simp only [Bw,Ab];unfold BJ at hk;refine Bj.2 ⟨λhb=>?_,λhb=>?_⟩
 ·have hb':q.broken=true:=by
   cases hq:q.broken with
   |true=>rfl
   |false=>rw [hq] at hb;simp at hb
  rw [if_pos hb'] at hk;rw [if_pos hb'];exact hk A hjd (.refl _ _) (by omega) hf
 have hb':q.broken=false:=by
  cases hq:q.broken with
  |false=>rfl
  |true=>rw [hq] at hb;simp at hb
 rw [Ff (by rw [hb'];simp)] at hk;have elast:q.row.getLast?.getD 0=n:=by rw [hn];rfl
 rw [elast] at hk;have hJn:=h.jn;obtain ⟨vl,vr,rl,j1,o1,hql,o2⟩:=h.jn;have hjA:=j1.lt;simp only [ptr,AD,HL,Cr,Af j1.row,cellOf,AB,Cf,Ab];refine AbZ hJn hn hrw ?_;simp only [Af j1.row,cellOf,AB,Cf,Ab,AR];refine Iy (by decide) hN rfl ?_;simp only [Af j1.row,cellOf,AB,Cf,Ab,AR];refine Xp (n:=⟨⟨Jr.nm n⟩⟩) h.dk hok.n hf (by omega) λA2 d2 k2 n2 f2=>?_;have ed:(⟨⟨Jr.nm n⟩⟩:ByteArray).data.toList=Jr.nm n:=rfl;rw [ed] at d2 ⊢;have J2:JD A2 j d mp q _ Fl Fr:=hjd.GW k2 d2;refine TJ J2.jn f2 (by omega) (λhm=>(hjd.fl j hm).2.2.1 rfl) (λhm=>(hjd.fr j hm).2.2 rfl) λA3 j3 k3 n3 f3=>?_;refine hk A3 ⟨j3,J2.dk.keeps k3 (by simp;exact λh=>hjd.nd.1 h.symm) (by simp;exact λh=>hjd.nd.2 h.symm),hjd.nd,hjd.fl,hjd.fr⟩ ((k2.more (T:=[j,d,mp]) (λy hy=>.inl (by simp only [Mk,List.not_mem_nil,or_false] at hy ⊢;exact .inr hy))).trans k3 (λy hy=>.inl (by simp [Ms.1 hy]))) (by omega) f3
theorem Agx(h:Jn A j d q Fl Fr)(hk:K (.string ⟨⟨q.state⟩⟩) A):Wc Tp Al W0 m0 29 [ptr j] A K:=by
 refine w29 _ _ BD ?_;rw [e29];refine VM h ?_;simp only [Bl,Ab];refine Ag.2 ⟨λh=>by simp at h,λ_=>?_⟩;obtain ⟨vl,vr,rl,j1,o1,hql,o2⟩:=h;simp only [ptr,AD,Om,Eg,Af j1.row,cellOf,AB,AI,AG,Cf,Ab,Nat.zero_add];exact hk
theorem Xf{l:List RV}{v:Value}{F:List Nat}(h:CW 80 1 fR A v l F):∀ c,v=.slice none 0 c->c=0:=by
 intro c hv;rcases h with h | ⟨b,h1,_⟩
 ·rcases h with ⟨h1,_⟩ | ⟨b,f,h1,_⟩
  ·rw [hv] at h1;simpa using h1
  ·rw [hv] at h1;simp at h1
 ·rw [hv] at h1;simp at h1
theorem AdO (h:Jn A j d q Fl Fr) (hf:Aw A) (hA:A.next<900000000000) (hl:q.l.length<1000000)
  (hk:∀ A' v (R:List RV) F',q.l=R.map toR->CW 80 1 fR A' v R F'->(∀ y∈F',A.next<=y)->Grow A A' 2->K v A'):Wc Tp Al W0 m0 32 [ptr j] A K:=by
 have hmax:Aj=1099511627776:=rfl;refine w32 _ _ BD ?_;rw [e32];refine VM h ?_;simp only [Bl,Ab];refine Ag.2 ⟨λh=>by simp at h,λ_=>?_⟩;obtain ⟨vl,vr,rl,j1,o1,hql,o2⟩:=h;have hvl:=o1.one;simp only [ptr,AD,Jh,N4,Af j1.row,cellOf,AB,AI,AG,hvl.2,Cf,Ab,Nat.zero_add];refine AdD (o1.rd etR.len) (Xf o1) hf (by omega) (by rw [hql,List.length_map] at hl;exact hl) λA2 v2 F2 o2' hF2 g2=>?_;exact hk A2 v2 rl F2 hql o2' hF2 g2
theorem wc9 {n:Int} (h:Dk A d mp s) (hf:Aw A) (hA:A.next<900000000000)
  (hk:∀ A',Dk A' d mp (HG s n)->Ah A A' [d]->A'.next=A.next->Aw A'->K (.tuple ⟨[]⟩) A'):Wc Tp Al W0 m0 9 [ptr d,.int .i64 n] A K:=by
 have hmax:Aj=1099511627776:=rfl;refine w9 _ _ _ BD ?_;rw [e9];have h0:=h;refine Rz h ?_;refine Ag.2 ⟨λ_=>?_,λh=>by simp at h⟩;obtain ⟨es,c,hr,hm,hne,hD⟩:=h;unfold HG at hk;simp only [ptr,AD,Ir,Na,QS,Af hr.row,cellOf,Bp,AI,Di,Cf,Ab,Nat.zero_add,Bl,AcO];refine Ag.2 ⟨λhd=>?_,λhd=>?_⟩
 ·rw [Ff (by simpa using hd)] at hk;refine hr.store hf (by omega) (Qp _ _ _) rfl (by show 2+1<=4;omega) rfl λA2 r2 k2 n2 f2=>?_;have k2:Ah A A2 [d]:=k2;exact hk A2 ⟨es,c,r2,hm.keeps k2 (by simp;exact λh=>hne h.symm),hne,hD⟩ k2 n2 f2
 ·rw [if_pos (by simpa using hd)] at hk;exact hk A h0 (.refl _ _) rfl hf
theorem Aej (h:Dk A d mp s) (hf:Aw A) (hA:A.next<900000000000)
  (hk:∀ A',Dk A' d mp (C1 s)->Ah A A' [d]->A'.next=A.next->Aw A'->K (.tuple ⟨[]⟩) A'):Wc Tp Al W0 m0 10 [ptr d] A K:=by
 have hmax:Aj=1099511627776:=rfl;refine w10 _ _ BD ?_;rw [e10];refine Rz h ?_;refine Ag.2 ⟨λ_=>?_,λh=>by simp at h⟩;obtain ⟨es,c,hr,hm,hne,hD⟩:=h;simp only [ptr,AD,Ir,Na,Ab,Nat.zero_add];refine hr.store hf (by have:=hr.lt;omega) (OV _ _ _) rfl (by show 3+1<=4;omega) rfl λA2 r2 k2 n2 f2=>?_;have r2:Abs.Row1 A2 d [.map (some mp),.int .i64 s.room,.int .i64 s.Dj,.bool true] 68:=r2;have k2:Ah A A2 [d]:=k2;refine r2.store f2 (by omega) (Qp _ _ _) rfl (by show 2+1<=4;omega) rfl λA3 r3 k3 n3 f3=>?_;have r3:Abs.Row1 A3 d [.map (some mp),.int .i64 s.room,.int .i64 0,.bool true] 68:=r3;have k3:Ah A2 A3 [d]:=k3;have K3:Ah A A3 [d]:=k2.trans k3 (by simp);exact hk A3 ⟨es,c,r3,hm.keeps K3 (by simp;exact λh=>hne h.symm),hne,hD⟩ K3 (by omega) f3
end
variable {A:AW} {j d mp k n:Nat} {q:JS} {s:DS} {Fl Fr:List Nat} {K:Value->AW->Prop} {S:Nat->List Value->AW->Prop} {st:ByteArray}
noncomputable def ckT(W0:World)(m0:Inj Tp)(S:Nat->List Value->AW->Prop)(Q:Value->AW->Prop)(a0 a1 t7:Value)(A:AW):Prop:=
 Wc Tp Al W0 m0 71 [a1] A λt20 At20=>Aa (AY a0) λt21=>Aa (Ad Tp 123 t21 0) λt22=>Aa (Ae Tp At20 23 t22) λt23=>Wc Tp Al W0 m0 73 [t23,(.string ⟨⟨[106,46,110,101,119]⟩⟩),t20] At20 λt24 At24=>Aa (An Tp .neq 26 (.tmp 56) (.const (.int .i64 0)) t24 (.int .i64 0)) λt25=>Ai t25 (Wc Tp Al W0 m0 93 [a0,t24] At24 λt26 At26=>Q t26 At26) (Aa (AY a0) λt27=>Aa (Ad Tp 123 t27 0) λt28=>Aa (Ae Tp At24 23 t28) λt29=>Wc Tp Al W0 m0 75 [t29,(.string ⟨⟨[106,46,110,101,119]⟩⟩)] At24 λt30 At30=>Aa (An Tp .neq 26 (.tmp 66) (.const (.int .i64 0)) t30 (.int .i64 0)) λt31=>Ai t31 (Wc Tp Al W0 m0 93 [a0,t30] At30 λt32 At32=>Q t32 At32) (Aa (AY a0) λt33=>Aa (Ad Tp 123 t33 0) λt34=>Aa (Ae Tp At30 23 t34) λt35=>knW Tp W0 m0 78 [t7] At30 λt36 At36=>Aa (Ae Tp At36 23 t34) λt37=>eqW t37 t35 (Aa (Ad Tp 123 t33 0) λt38=>eqW t38 t34 (Aa (AY a0) λt39=>eqW t39 t33 (eqW a0 a0 (Wc Tp Al W0 m0 77 [t35,(.string ⟨⟨[106,46,110,101,119]⟩⟩),t36] At36 λt40 At40=>Aa (An Tp .neq 26 (.tmp 78) (.const (.int .i64 0)) t40 (.int .i64 0)) λt41=>Ai t41 (Wc Tp Al W0 m0 93 [a0,t40] At40 λt42 At42=>Q t42 At42) (Aa (AY a0) λt43=>Aa (Ad Tp 123 t43 4) λt44=>Aa (Ae Tp At40 36 t44) λt45=>Ao (Aq Tp At40 36 1 [(0,t7)]) λt46 At46=>Aa (Bi Tp At46 9 t20) λt47=>Aa (AY a0) λt48=>Aa (Ad Tp 123 t48 2) λt49=>Be (Av Tp At46 9 t49 a1) λAt50=>Aa (AY a0) λt51=>Aa (Ad Tp 123 t51 3) λt52=>Be (Av Tp At50 60 t52 (.slice none 0 0)) λAt53=>Aa (AY a0) λt54=>Aa (Ad Tp 123 t54 4) λt55=>Be (Av Tp At53 36 t55 t46) λAt56=>Aa (AY a0) λt57=>Aa (Ad Tp 123 t57 5) λt58=>Be (Av Tp At56 3 t58 t47) λAt59=>Aa (AY a0) λt60=>Aa (Ad Tp 123 t60 6) λt61=>Be (Av Tp At59 4 t61 (.bool true)) λAt62=>Aa (Bi Tp At62 36 t45) λt63=>BE (T34 0) (T34 0) (S 0 [a0,t45,t63,(.int .i64 0)] At62))))))))
theorem AfF(W0:World)(m0:Inj Tp)(S:Nat->List Value->AW->Prop)(Q:Value->AW->Prop)(a0 a1:Value)(A:AW):gE W0 m0 S Q 34 126 T34 L34 [a0,a1] A=(Wc Tp Al W0 m0 88 [a0] A λt0 At0=>Aa (unA Tp .not t0) λt1=>Ai t1 (Q (.int .i64 1) At0) (Wc Tp Al W0 m0 91 [a0] At0 λt2 At2=>Aa (An Tp .neq 26 (.tmp 21) (.const (.int .i64 0)) t2 (.int .i64 0)) λt3=>Ai t3 (Q t2 At2) (Aa (Bi Tp At2 9 a1) λt4=>Aa (An Tp .gtr 3 (.tmp 25) (.const (.int .i64 65536)) t4 (.int .i64 65536)) λt5=>Ai t5 (Q (.int .i64 3) At2) (Wc Tp Al W0 m0 92 [a0] At2 λt6 At6=>Aa (An Tp .add 3 (.tmp 28) (.const (.int .i64 1)) t6 (.int .i64 1)) λt7=>Aa (An Tp .gtr 3 (.tmp 30) (.const (.int .i64 99999999)) t7 (.int .i64 99999999)) λt8=>Ai t8 (Q (.int .i64 6) At6) (Aa (AY a0) λt9=>Aa (Ad Tp 123 t9 0) λt10=>Aa (Ae Tp At6 23 t10) λt11=>Wc Tp Al W0 m0 37 [t11] At6 λt12 At12=>Wc Tp Al W0 m0 68 [t12,(.string ⟨⟨[106,46,110,101,119]⟩⟩)] At12 λt13 At13=>Ai t13 (Aa (AY a0) λt14=>Aa (Ad Tp 123 t14 0) λt15=>Aa (Ae Tp At13 23 t15) λt16=>Wc Tp Al W0 m0 70 [t16,(.string ⟨⟨[106,46,110,101,119]⟩⟩)] At13 λt17 At17=>Aa (An Tp .neq 26 (.tmp 43) (.const (.int .i64 0)) t17 (.int .i64 0)) λt18=>Ai t18 (Wc Tp Al W0 m0 93 [a0,t17] At17 λt19 At19=>Q t19 At19) (ckT W0 m0 S Q a0 a1 t7 At17)) (ckT W0 m0 S Q a0 a1 t7 At13)))))):=by kernel_rfl
def CI(A:AW)(j d mp k:Nat)(Fl Fr:List Nat)(s:DS)(q:JS)(old:List Nat)(vo:Value):Nat->Nat->List Value->AW->Prop:=λg id vals A'=>id=0/\∃ (i:Nat) (s1:DS) (Fr':List Nat),vals=[ptr j,vo,.int .i64 (old.length:Int),.int .i64 (i:Int)]/\i<=old.length/\g=old.length-i/\
 JD A' j d mp q s1 [] Fr'/\(∀ y∈Fr',A.next<=y)/\CW 3 0 fI A' vo old Fr/\C6 s old=C6 s1 (old.drop i)/\OkS (k+4+i) s1/\Ah A A' (j::d::mp::(Fl++Fr))/\Aw A'/\A'.next<=A.next+200+10*k+10*i
section
variable {W0:World} {m0:Inj Tp}
theorem AaX {A':AW} {g:Nat} {old:List Nat} {vo:Value} {vals:List Value} {dd:Nat->Value} (hjd:∀ x∈Fr,x<A.next/\x≠d/\x≠mp/\x≠j) (hA:A.next<800000000000) (hk9:k+old.length<8000) (hN:∀ x∈old,HV W0 m0 x)
  (hk:∀ A' Fr',JD A' j d mp (if (C6 s old).2≠0 then CZ q (C6 s old).2 else q) (C6 s old).1 [] Fr'->(∀ y∈Fr',A.next<=y)->Ah A A' (j::d::mp::(Fl++Fr))->A'.next<=A.next+200+10*k+10*old.length+10->Aw A'->K (.int .i64 (C6 s old).2) A')
  (hS:∀ g2 id v A'',g2<g->CI A j d mp k Fl Fr s q old vo g2 id v A''->S id v A'')
  (h:CI A j d mp k Fl Fr s q old vo g 0 vals A') (hd':(L34 0).map dd=vals):gL W0 m0 S K 34 126 T34 L34 dd 0 A':=by
 have hmax:Aj=1099511627776:=rfl;obtain ⟨_,i,s1,Fr',rfl,hi,rfl,hJ,hFr',hvo,hrm,hok,hkp,hf,hn⟩:=h;rw [Afg];simp only [L34,Mc,Mn,Li,and_true] at hd';obtain ⟨h0,h107,h108,h109⟩:=hd';simp only [h0,h107,h108,h109,Br,Ab,Az];have hle:=hkp.next;refine ⟨λhlt=>?_,λhge=>?_⟩
 ·have hlt:i<old.length:=by omega
  obtain ⟨p,hp⟩:∃ p,old[i]? =some p:=⟨_,Ge hlt⟩;obtain ⟨a,a1,a2⟩:=esI.at (hvo.rd esI.len) hp rfl;obtain ⟨vl,vr,rl,j1,o1,hql,o2⟩:=hJ.jn;rw [Ox hp] at hrm;have hrm:C6 s old=if (BH s1 (Jr.nm p)).2≠0 then BH s1 (Jr.nm p) else C6 (BH s1 (Jr.nm p)).1 (old.drop (i+1)):=hrm
  simp only [a1,a2,Ab,ptr,AD,HL,Cr,Af j1.row,cellOf,AB,Cf];refine Iy (by decide) (hN p (List.mem_of_getElem? hp)) rfl ?_;simp only [Af j1.row,cellOf,AB,Cf,Ab,AR];refine ZU (n:=⟨⟨Jr.nm p⟩⟩) hJ.dk hok.n hf (by omega) λA2 d2 k2 n2 f2=>?_;have ed:(⟨⟨Jr.nm p⟩⟩:ByteArray).data.toList=Jr.nm p:=rfl;rw [ed] at d2 ⊢;have J2:JD A2 j d mp q _ [] Fr':=hJ.GW k2 d2;have K2:Ah A A2 (j::d::mp::(Fl++Fr)):=hkp.trans k2 λy hy=>.inl (Za y hy);simp only [Bw,Bm,Ab];rw [wrap_i64 (by omega) (by omega)];refine Bj.2 ⟨λhe=>?_,λhe=>?_⟩
  ·rw [if_pos he] at hrm;rw [hrm,if_pos he] at hk;refine TJ J2.jn f2 (by omega) (by simp) (λhm=>(hJ.fr j hm).2.2 rfl) λA3 j3 k3 n3 f3=>?_;exact hk A3 Fr' ⟨j3,J2.dk.keeps k3 (by simp;exact λh=>hJ.nd.1 h.symm) (by simp;exact λh=>hJ.nd.2 h.symm),hJ.nd,by simp,hJ.fr⟩ hFr' (K2.trans k3 λy hy=>.inl (by simp [Ms.1 hy])) (by omega) f3
  ·rw [Ff (by simpa using he)] at hrm;refine Au.2 (hS (old.length-(i+1)) 0 _ A2 (by omega) ⟨rfl,i+1,_,Fr',rfl,by omega,rfl,J2,hFr',hvo.keeps k2 (λy hy=>by have:=hjd y hy;simp;exact ⟨this.2.1,this.2.2.1⟩),hrm,(Ew hok _).more (by omega),K2,f2,by omega⟩)
 ·have hi':i=old.length:=by omega
  subst hi';rw [List.drop_length] at hrm;have hrm:C6 s old=(s1,0):=hrm;rw [hrm] at hk;exact hk A' Fr' hJ hFr' hkp (by omega) hf
def ckS(s:DS)(q:JS)(st:List UInt8):DS × JS × Int:=
 let n:=q.row.getLast?.getD 0+1;let x1:=Bg s fresh (AL (0,st))
 if x1.2≠0 then (x1.1,CZ q x1.2,x1.2) else
 let x2:=Ca x1.1 fresh
 if x2.2≠0 then (x2.1,CZ q x2.2,x2.2) else
 let x3:=Co x2.1 fresh (Jr.nm n)
 if x3.2≠0 then (x3.1,CZ q x3.2,x3.2) else
 let q':JS:={ q with state:=st,l:=[],row:=[n],size:=(AL (0,st)).length,some:=true };let y:=C6 x3.1 q.row
 if y.2≠0 then (y.1,CZ q' y.2,y.2) else (y.1,q',0)
def ckI(A:AW)(j d mp k:Nat)(Fl Fr:List Nat)(s:DS)(q:JS)(st:List UInt8):Nat->Nat->List Value->AW->Prop:=λg id vals A'=>∃ vo,((Bg s fresh (AL (0,st))).2=0/\(Ca (Bg s fresh (AL (0,st))).1 fresh).2=0/\(Co (Ca (Bg s fresh (AL (0,st))).1 fresh).1 fresh (Jr.nm (q.row.getLast?.getD 0+1))).2=0)/\CI A j d mp k Fl Fr
 (Co (Ca (Bg s fresh (AL (0,st))).1 fresh).1 fresh (Jr.nm (q.row.getLast?.getD 0+1))).1 { q with state:=st,l:=[],row:=[q.row.getLast?.getD 0+1],size:=(AL (0,st)).length,some:=true } q.row vo g id vals A'
theorem AbL {A1:AW} (h:JD A1 j d mp q s Fl Fr) (hg:Glb A1) (hok:OkS k s) (hk9:k<8000) (hf:Aw A1) (hA:A.next<800000000000) (hAA:Ah A A1 (j::d::mp::(Fl++Fr))) (hAn:A1.next<=A.next+50+6*k) (h0:1≠j/\1≠d/\1≠mp) (hst:st.data.toList.length<=65536)
  (hS:∀ g2 id v A',ckI A j d mp k Fl Fr s q st.data.toList g2 id v A'->S id v A')
  (hn:q.row.getLast? =some n) (hn8:n+1<100000000) (hN:HV W0 m0 (n+1)) (hlt:j<A.next/\(∀ x∈Fl,x<A.next)/\∀ x∈Fr,x<A.next)
  (hk:(ckS s q st.data.toList).2.2≠0->∀ A' Fl' Fr',JD A' j d mp (ckS s q st.data.toList).2.1 (ckS s q st.data.toList).1 Fl' Fr'->(∀ y∈Fl',y∈Fl\/A.next<=y)->(∀ y∈Fr',y∈Fr\/A.next<=y)->Ah A A' (j::d::mp::(Fl++Fr))->A'.next<=A.next+200+10*k+10*q.row.length+10->Aw A'->K (.int .i64 (ckS s q st.data.toList).2.2) A'):
  ckT W0 m0 S K (ptr j) (.string st) (.int .i64 ((n+1:Nat):Int)) A1:=by
 have hmax:Aj=1099511627776:=rfl;have hfew:=hok.few;have hle0:=hAA.next;have elast:q.row.getLast?.getD 0=n:=by rw [hn];rfl
 have hjFl:j∉Fl:=λhm=>(h.fl j hm).2.2.1 rfl;have hjFr:j∉Fr:=λhm=>(h.fr j hm).2.2 rfl;unfold ckT;refine Ab0 hg hf hst (by omega) λA2 g2=>?_;have n2:=g2.next;have le2:=g2.le;have J2:=h.keeps g2.keeps (by simp) (by simp) (by simp) (by simp) (by simp);have hjn2:=J2.jn;obtain ⟨vl,vr,rl,j2,o1,hql,o2⟩:=J2.jn;have hpl:(AL (0,st.data.toList)).length=13+st.data.toList.length:=BQ _;simp only [ptr,AD,HL,Cr,Af j2.row,cellOf,AB,Cf,Ab];have eb:(⟨⟨AL (0,st.data.toList)⟩⟩:ByteArray).data.toList=AL (0,st.data.toList):=rfl;have efr:(⟨⟨[106,46,110,101,119]⟩⟩:ByteArray).data.toList=fresh:=rfl;have K2:Ah A A2 (j::d::mp::(Fl++Fr)):=hAA.trans g2.keeps (by simp);unfold ckS at hk;rw [elast] at hk;refine ZT (n:=⟨⟨[106,46,110,101,119]⟩⟩) (b:=⟨⟨AL (0,st.data.toList)⟩⟩) J2.dk (hok.d (by omega)) hok.n (by rw [eb,hpl];omega) g2.Ay (by omega) λA3 d3 k3 n3 f3=>?_;rw [efr,eb] at d3 ⊢;have J3:JD A3 j d mp q _ Fl Fr:=J2.GW k3 d3;have le3:=k3.next;have K3:Ah A A3 (j::d::mp::(Fl++Fr)):=K2.trans k3 λy hy=>.inl (Za y hy);have fail:∀ (A4:AW) (s4:DS) (e:Int),JD A4 j d mp q s4 Fl Fr->Ah A A4 (j::d::mp::(Fl++Fr))->Aw A4->A4.next<=A.next+200+10*k+10->(∀ A' Fl' Fr',JD A' j d mp (CZ q e) s4 Fl' Fr'->(∀ y∈Fl',y∈Fl\/A.next<=y)->(∀ y∈Fr',y∈Fr\/A.next<=y)->Ah A A' (j::d::mp::(Fl++Fr))->A'.next<=A.next+200+10*k+10*q.row.length+10->Aw A'->K (.int .i64 e) A')->
   Wc Tp Al W0 m0 93 [pP j 0,.int .i64 e] A4 λt26 At26=>K t26 At26:=by
  intro A4 s4 e hJ hK hF hN4 hk4;refine TJ hJ.jn hF (by omega) hjFl hjFr λA5 j5 k5 n5 f5=>?_;exact hk4 A5 Fl Fr ⟨j5,hJ.dk.keeps k5 (by simp;exact λh=>hJ.nd.1 h.symm) (by simp;exact λh=>hJ.nd.2 h.symm),hJ.nd,hJ.fl,hJ.fr⟩ (λy hy=>.inl hy) (λy hy=>.inl hy) (hK.trans k5 λy hy=>.inl (by simp [Ms.1 hy])) (by omega) f5
 simp only [Bw,Ab];refine Bj.2 ⟨λhe=>?_,λhe=>?_⟩
 ·simp only [if_pos he] at hk;exact fail A3 _ _ J3 K3 f3 (by omega) (hk he)
 simp only [Ff (by simpa using he:¬ (Bg s fresh (AL (0,st.data.toList))).2≠0)] at hk;have hok3:OkS (k+1) (Bg s fresh (AL (0,st.data.toList))).1:=EC hok _ _;have j3:=j2.keeps k3 (by simp;exact h.nd);simp only [Af j3.row,cellOf,AB,Cf,Ab];refine Xp (n:=⟨⟨[106,46,110,101,119]⟩⟩) J3.dk hok3.n f3 (by omega) λA4 d4 k4 n4 f4=>?_;rw [efr] at d4 ⊢;have J4:JD A4 j d mp q _ Fl Fr:=J3.GW k4 d4;have le4:=k4.next;have K4:Ah A A4 (j::d::mp::(Fl++Fr)):=K3.trans k4 λy hy=>.inl (Za y hy);simp only [Bw,Ab];refine Bj.2 ⟨λhe2=>?_,λhe2=>?_⟩
 ·simp only [if_pos he2] at hk;exact fail A4 _ _ J4 K4 f4 (by omega) (hk he2)
 simp only [Ff (by simpa using he2:¬ (Ca (Bg s fresh (AL (0,st.data.toList))).1 fresh).2≠0)] at hk;have hok4:OkS (k+2) (Ca (Bg s fresh (AL (0,st.data.toList))).1 fresh).1:=EQ hok3 _;have j4:=j3.keeps k4 (by simp;exact h.nd);simp only [Af j4.row,cellOf,AB,Cf,Ab];refine Iy (by decide) hN rfl ?_;simp only [Af j4.row,cellOf,AB,Cf,Ab,AR];refine AdE (n:=⟨⟨[106,46,110,101,119]⟩⟩) (t:=⟨⟨Jr.nm (n+1)⟩⟩) J4.dk hok4.n f4 (by omega) λA5 d5 k5 n5 f5=>?_;have en:(⟨⟨Jr.nm (n+1)⟩⟩:ByteArray).data.toList=Jr.nm (n+1):=rfl;rw [efr,en] at d5 ⊢;have J5:JD A5 j d mp q _ Fl Fr:=J4.GW k5 d5;have le5:=k5.next;have K5:Ah A A5 (j::d::mp::(Fl++Fr)):=K4.trans k5 λy hy=>.inl (Za y hy);simp only [Bw,Ab];refine Bj.2 ⟨λhe3=>?_,λhe3=>?_⟩
 ·simp only [if_pos he3] at hk;exact fail A5 _ _ J5 K5 f5 (by omega) (hk he3)
 have hok5:OkS (k+3) (Co (Ca (Bg s fresh (AL (0,st.data.toList))).1 fresh).1 fresh (Jr.nm (n+1))).1:=Ko hok4 _ _;obtain ⟨wl,wr,rl5,j5,p1,hql5,p2⟩:=J5.jn;have hwl:=p1.one;have hwr:=p2.one;simp only [Om,Jh,Jg,Jf,Je,Nat.zero_add,PU,Af j5.row,cellOf,AB,AI,AG,hwl.2,hwr.2,Cf,Ab];refine Hp (Aa0 A5 ((n+1:Nat):Int)) rfl f5 (by omega) λA6 m6=>?_;have n6:=m6.next;have k6:=m6.keeps f5;have j6:=j5.keeps k6 (by simp);simp only [Hj,eb,Ab];refine j6.store m6.Ay (by omega) (RI _ _ _) rfl (by show 2+1<=8;omega) rfl λA7 j7 k7 n7 f7=>?_;have j7:Abs.Row1 A7 j [pP d 0,.int .i64 q.limit,.string st,wl,wr,.int .i64 (q.size:Int),.bool q.some,.bool q.broken] 123:=j7;have k7:Ah A6 A7 [j]:=k7;refine j7.store f7 (by omega) (RJ _ _ _) rfl (by show 3+1<=8;omega) rfl λA8 j8 k8 n8 f8=>?_;have j8:Abs.Row1 A8 j [pP d 0,.int .i64 q.limit,.string st,.slice none 0 0,wr,.int .i64 (q.size:Int),.bool q.some,.bool q.broken] 123:=j8;have k8:Ah A7 A8 [j]:=k8;refine j8.store f8 (by omega) (U1 _ _ _) rfl (by show 4+1<=8;omega) rfl λA9 j9 k9 n9 f9=>?_;have j9:Abs.Row1 A9 j [pP d 0,.int .i64 q.limit,.string st,.slice none 0 0,.slice (some ⟨A5.next,0,none⟩) 1 1,.int .i64 (q.size:Int),.bool q.some,.bool q.broken] 123:=j9;have k9:Ah A8 A9 [j]:=k9;refine j9.store f9 (by omega) (Qp _ _ _) rfl (by show 5+1<=8;omega) rfl λA10 j10 k10 n10 f10=>?_;have j10:Abs.Row1 A10 j [pP d 0,.int .i64 q.limit,.string st,.slice none 0 0,.slice (some ⟨A5.next,0,none⟩) 1 1,.int .i64 ((AL (0,st.data.toList)).length:Int),.bool q.some,.bool q.broken] 123:=j10;have k10:Ah A9 A10 [j]:=k10;refine j10.store f10 (by omega) (OV _ _ _) rfl (by show 6+1<=8;omega) rfl λA11 j11 k11 n11 f11=>?_;have j11:Abs.Row1 A11 j [pP d 0,.int .i64 q.limit,.string st,.slice none 0 0,.slice (some ⟨A5.next,0,none⟩) 1 1,.int .i64 ((AL (0,st.data.toList)).length:Int),.bool true,.bool q.broken] 123:=j11;have k11:Ah A10 A11 [j]:=k11;have k611:Ah A6 A11 [j]:=(((k7.trans k8 (by simp)).trans k9 (by simp)).trans k10 (by simp)).trans k11 (by simp);have k511:Ah A5 A11 [j]:=(k6.more (by simp)).trans k611 (by simp);have r6:Abs.Row1 A6 A5.next (flat fI [n+1]) 3:=m6.Bk;have hjlt:=j5.lt;have r11:=r6.keeps k611 (by simp;omega);have hvo:CW 3 0 fI A11 wr q.row Fr:=p2.keeps k511 λy hy=>by simp;rintro rfl;exact hjFr hy
 rw [esI.Ul (hvo.rd esI.len)];simp only [Ab];have est:(⟨⟨st.data.toList⟩⟩:ByteArray)=st:=rfl;have dk11:=J5.dk.keeps k511 (by simp;exact λh'=>h.nd.1 h'.symm) (by simp;exact λh'=>h.nd.2 h'.symm);have hdl:=J5.dk.lt;refine Au.2 (hS q.row.length 0 _ _ ⟨wr,⟨he,he2,by rw [elast];exact he3⟩,rfl,0,_,[A5.next],rfl,by omega,rfl,⟨⟨.slice none 0 0,.slice (some ⟨A5.next,0,none⟩) 1 1,[],j11,CW.nil _,rfl,.inr ⟨A5.next,by rw [elast];rfl,by simp,by rw [elast];exact r11,rfl⟩⟩,by rw [elast];exact dk11,h.nd,by simp,λy hy=>?_⟩,λy hy=>?_,hvo,rfl,by rw [elast];exact hok5.more (by omega),K5.trans k511 (λy hy=>.inl (by simp [Ms.1 hy])),f11,by omega⟩)
 ·rw [Ms.1 hy];exact ⟨by omega,by omega,by omega⟩
 ·rw [Ms.1 hy];omega
theorem Adl(s:DS)(names:List (List UInt8))(q:JS)(st:List UInt8)(hb:q.broken=false)(hst:¬ 65536<st.length)(hn:¬ 99999999<q.row.getLast?.getD 0+1):AE s names q st=
  (if (if fresh∈names then BH s fresh else (s,0)).2≠0 then ((if fresh∈names then BH s fresh else (s,0)).1,CZ q (if fresh∈names then BH s fresh else (s,0)).2,(if fresh∈names then BH s fresh else (s,0)).2) else ckS (if fresh∈names then BH s fresh else (s,0)).1 q st):=by
 unfold AE ckS;rw [Ff (by rw [hb];simp),Ff hst];simp only;rw [Ff hn]
theorem Agu (h:JD A j d mp q s Fl Fr) (hg:Glb A) (hok:OkS k s) (hk9:k+q.row.length<7000) (hf:Aw A) (hA:A.next<800000000000) (h0:1≠j/\1≠d/\1≠mp) (hst:st.data.toList.length<=65536)
  (hn:q.row.getLast? =some n) (hn8:n+1<100000000) (hN:HV W0 m0 (n+1)) (hNr:∀ x∈q.row,HV W0 m0 x)
  (hk:∀ A' Fl' Fr',JD A' j d mp (AE s (namesS s.D) q st.data.toList).2.1 (AE s (namesS s.D) q st.data.toList).1 Fl' Fr'->(∀ y∈Fl',y∈Fl\/A.next<=y)->(∀ y∈Fr',y∈Fr\/A.next<=y)->Ah A A' (j::d::mp::(Fl++Fr))->A'.next<=A.next+240+10*k+10*q.row.length->Aw A'->K (.int .i64 (AE s (namesS s.D) q st.data.toList).2.2) A'):
  Wc Tp Al W0 m0 34 [ptr j,.string st] A K:=by
 have hmax:Aj=1099511627776:=rfl;have hfew:=hok.few;have hjd:=h;have hjA:=h.jn.lt;have hFlA:∀ y∈Fl,y<A.next:=by obtain ⟨_,_,_,_,a,_,_⟩:=h.jn;exact a.lt
 have hFrA:∀ y∈Fr,y<A.next:=by obtain ⟨_,_,_,_,_,_,a⟩:=h.jn;exact a.lt
 have elast:q.row.getLast?.getD 0=n:=by rw [hn];rfl
 have hloop:∀ x∈Fr,x<A.next/\x≠d/\x≠mp/\x≠j:=λx hx=>⟨hFrA x hx,h.fr x hx⟩;by_cases hb:q.broken=true
 ·have he:AE s (namesS s.D) q st.data.toList=(s,q,100):=by unfold AE;rw [if_pos hb]
  rw [he] at hk;refine w34 _ _ _ BD ?_;rw [AfF];refine VM h.jn ?_;simp only [Bl,Ab];refine Ag.2 ⟨λh=>by simp at h,λ_=>?_⟩;refine ZR h.jn ?_;rw [if_pos hb];simp only [Bw,Ab];exact Bj.2 ⟨λ_=>hk A Fl Fr hjd (λy hy=>.inl hy) (λy hy=>.inl hy) (.refl _ _) (by omega) hf,λh=>by simp at h⟩
 have hb:q.broken=false:=by simpa using hb
 rw [Adl s (namesS s.D) q st.data.toList hb (by omega) (by rw [elast];omega)] at hk;obtain ⟨x0,hx0⟩:∃ x0,(if fresh∈namesS s.D then BH s fresh else (s,0))=x0:=⟨_,rfl⟩;rw [hx0] at hk;have hokx:OkS (k+1) x0.1:=by
  rw [<- hx0];split
  ·exact Ew hok _
  ·exact hok.more (by omega)
 have hJ0:∀ A1,Jn A1 j d q Fl Fr->Dk A1 d mp x0.1->JD A1 j d mp q x0.1 Fl Fr:=λA1 h1 h2=>⟨h1,h2,hjd.nd,hjd.fl,hjd.fr⟩;refine w34 _ _ _ (c34 (I:=λg id vals A'=>x0.2=0/\ckI A j d mp (k+1) Fl Fr x0.1 q st.data.toList g id vals A') λg id vals A' dd hI hd'=>?_) ?_
 ·obtain ⟨hx2,vo,⟨hz1,hz2,hz3⟩,hCI⟩:=hI;obtain rfl:id=0:=hCI.1;rw [Ff (by simpa using hx2)] at hk;unfold ckS at hk;simp only [Ff (by simpa using hz1:¬ (Bg x0.1 fresh (AL (0,st.data.toList))).2≠0),Ff (by simpa using hz2:¬ (Ca (Bg x0.1 fresh (AL (0,st.data.toList))).1 fresh).2≠0),Ff (by simpa using hz3:¬ (Co (Ca (Bg x0.1 fresh (AL (0,st.data.toList))).1 fresh).1 fresh (Jr.nm (q.row.getLast?.getD 0+1))).2≠0)] at hk;refine AaX (k:=k+1) hloop hA (by omega) hNr (λA2 Fr' h1 h2 h3 h4 h5=>?_) (λg2 id v A'' hg2 hc=>⟨g2,hg2,hx2,vo,⟨hz1,hz2,hz3⟩,hc⟩) hCI hd';refine (λhk0=>?_:_->_) hk;by_cases hy:(C6 (Co (Ca (Bg x0.1 fresh (AL (0,st.data.toList))).1 fresh).1 fresh (Jr.nm (q.row.getLast?.getD 0+1))).1 q.row).2=0
  ·rw [Ff (by simpa using hy)] at hk0 h1
   have:=hk0 A2 [] Fr' h1 (by simp) (λy hy=>.inr (h2 y hy)) h3 (by omega) h5
   rw [hy];exact this
  ·rw [if_pos hy] at hk0 h1;exact hk0 A2 [] Fr' h1 (by simp) (λy hy=>.inr (h2 y hy)) h3 (by omega) h5
 rw [AfF];refine VM h.jn ?_;simp only [Bl,Ab];refine Ag.2 ⟨λh=>by simp at h,λ_=>?_⟩;refine ZR h.jn ?_;rw [Ff (by rw [hb];simp)];simp only [Bw,Ab,Hj,B3,Az];refine Bj.2 ⟨λh=>by simp at h,λ_=>⟨λh=>by omega,λ_=>?_⟩⟩;refine AbZ h.jn hn (by omega) ?_;obtain ⟨vl,vr,rl,j1,o1,hql,o2⟩:=h.jn;simp only [Bm,Ab,B3];rw [wrap_i64 (by omega) (by omega)];have en1:(n:Int)+1=((n+1:Nat):Int):=by omega
 simp only [Az];refine ⟨λh=>by omega,λ_=>?_⟩;simp only [ptr,AD,HL,Cr,Af j1.row,cellOf,AB,Cf,Ab];refine ZW h.dk hf (by omega) (by omega) λA1 sv Fn h1 hFn k1 n1 f1=>?_;have hrd:=Ll h1;have hnl:(namesS s.D).length=s.D.length:=by unfold namesS;rw [List.length_mergeSort,List.length_map]
 refine AdF (k:=⟨⟨[106,46,110,101,119]⟩⟩) hrd (by omega) ?_;have efr:(⟨⟨[106,46,110,101,119]⟩⟩:ByteArray).data.toList=fresh:=rfl;rw [efr];have J1:=hjd.keeps k1 (by simp) (by simp) (by simp) (by simp) (by simp);have le1:=k1.next;have K1:Ah A A1 (j::d::mp::(Fl++Fr)):=k1.more (by simp);have hjlt:j<A.next/\(∀ x∈Fl,x<A.next)/\∀ x∈Fr,x<A.next:=⟨hjA,hFlA,hFrA⟩;refine Ag.2 ⟨λhin=>?_,λhin=>?_⟩
 ·have hin:fresh∈namesS s.D:=by simpa using hin
  rw [if_pos hin] at hx0;have j1':=j1.keeps k1 (by simp);simp only [Af j1'.row,cellOf,AB,Cf,Ab];refine ZU (n:=⟨⟨[106,46,110,101,119]⟩⟩) J1.dk hok.n f1 (by omega) λA2 d2 k2 n2 f2=>?_;rw [efr,hx0] at d2 ⊢;have J2:=J1.GW k2 d2;have le2:=k2.next;have K2:Ah A A2 (j::d::mp::(Fl++Fr)):=K1.trans k2 λy hy=>.inl (Za y hy);simp only [Bw,Ab];refine Bj.2 ⟨λhe=>?_,λhe=>?_⟩
  ·rw [if_pos he] at hk;refine TJ J2.jn f2 (by omega) (λhm=>(hjd.fl j hm).2.2.1 rfl) (λhm=>(hjd.fr j hm).2.2 rfl) λA3 j3 k3 n3 f3=>?_;exact hk A3 Fl Fr ⟨j3,J2.dk.keeps k3 (by simp;exact λh=>hjd.nd.1 h.symm) (by simp;exact λh=>hjd.nd.2 h.symm),hjd.nd,hjd.fl,hjd.fr⟩ (λy hy=>.inl hy) (λy hy=>.inl hy) (K2.trans k3 λy hy=>.inl (by simp [Ms.1 hy])) (by omega) f3
  ·have he:x0.2=0:=by simpa using he
   rw [Ff (by simpa using he)] at hk;rw [en1];exact (AbL (W0:=W0) (m0:=m0) (A:=A) (K:=K) J2 ((hg.keeps k1 (by simp)).keeps k2 (by simp;exact h0.2)) (hokx.more (Nl _)) (by omega) f2 hA K2 (by omega) h0 hst (λg2 id v A' hh=>⟨g2,he,hh⟩) hn hn8 hN hjlt (λhne A' Fl' Fr' a1 a2 a3 a4 a5 a6=>hk A' Fl' Fr' a1 a2 a3 a4 (by omega) a6))
 ·have hin:fresh∉namesS s.D:=by simpa using hin
  rw [Ff hin] at hx0;subst hx0;rw [Ff (by simp)] at hk;rw [en1];exact (AbL (W0:=W0) (m0:=m0) (A:=A) (K:=K) J1 (hg.keeps k1 (by simp)) hokx (by omega) f1 hA K1 (by omega) h0 hst (λg2 id v A' hh=>⟨g2,rfl,hh⟩) hn hn8 hN hjlt (λhne A' Fl' Fr' a1 a2 a3 a4 a5 a6=>hk A' Fl' Fr' a1 a2 a3 a4 (by omega) a6))
end
def fZ(n:Int):List Value:=[.int .i64 n]
theorem esZ:ES Tp 36 3 fZ where
 us:=by kernel_rfl
 sz:=by kernel_rfl
 by':=⟨8,by kernel_rfl,by decide⟩
 hz:=by kernel_rfl
 ld:=GL
 len:=λ_=>rfl
 one:=λ_=>rfl
 noT:=λ_=>rfl
theorem Wo{es:List (En ByteArray Fv)}(p:ByteArray):fF ((Dw Fg es p).getD (⟨⟨[]⟩⟩,0))=fileOf (es.map fE) p.data.toList:=by
 unfold fileOf;rw [<- FT];cases Dw Fg es p with
 |none=>rfl
 |some v=>rfl
theorem Wa{D:Fls}{k:List UInt8}{v:Fil}(h:∀ f∈D,f.2.2<=f.2.1.length)(hv:v.2<=v.1.length):∀ f∈Cm D k v,f.2.2<=f.2.1.length:=by
 intro f hf;rcases GI hf with rfl | h1
 ·exact hv
 ·exact h f h1
theorem Wb{D:Fls}{k:List UInt8}{v:Fil}(h:∀ f∈D,f.2.1.length<=1048576)(hv:v.1.length<=1048576):∀ f∈Cm D k v,f.2.1.length<=1048576:=by
 intro f hf;rcases GI hf with rfl | h1
 ·exact hv
 ·exact h f h1
theorem QV(D:Fls)(p:List UInt8):fileOf D p=([],0)\/(p,fileOf D p)∈D:=by
 unfold fileOf;cases h:BV D p with
 |none=>exact .inl rfl
 |some f=>exact .inr (Ft h)
section
variable {W0:World} {m0:Inj Tp}
theorem Aeg {A:AW} {d mp:Nat} {s:DS} {kv:Value} {kl:List Int} {Fk:List Nat} {K:Value->AW->Prop} (h:Dk A d mp s) (hdn:s.down=true) (hok:OkD s) (hk':RdE 0 fZ A kv kl Fk) (hFk:∀ y∈Fk,y≠d/\y≠mp) (hf:Aw A) (hA:A.next<900000000000)
  (hk:∀ A',Dk A' d mp (CF s (namesS s.D) kl)->Ah A A' [d,mp]->A'.next<=A.next+30+5*s.D.length->Aw A'->K (.tuple ⟨[]⟩) A'):Wc Tp Al W0 m0 11 [ptr d,kv] A K:=by
 have hmax:Aj=1099511627776:=rfl;have hfew:=hok.few;have hlt0:=h.lt;have hws:CF s (namesS s.D) kl=⟨GY s.D kl (namesS s.D) 0,s.room,s.Dj,false⟩:=by unfold CF;rw [if_pos hdn]
 rw [hws] at hk;have hnl:(namesS s.D).length=s.D.length:=by unfold namesS;rw [List.length_mergeSort,List.length_map]
 let I:Nat->Nat->List Value->AW->Prop:=λg id vals A'=>id=0/\∃ (i:Nat) (sv:Value) (Fn:List Nat) (D':Fls),vals=[ptr d,kv,sv,.int .i64 (s.D.length:Int),.int .i64 (i:Int)]/\i<=s.D.length/\g=s.D.length-i/\Dk A' d mp ⟨D',s.room,s.Dj,false⟩/\(∀ y∈Fn,A.next<=y)/\RdE 0 fS A' sv (namesS s.D) Fn/\
  GY D' kl ((namesS s.D).drop i) i=GY s.D kl (namesS s.D) 0/\(∀ f∈D',f.2.2<=f.2.1.length)/\(∀ f∈D',f.2.1.length<=1048576)/\Ah A A' [d,mp]/\Aw A'/\A'.next<=A.next+20+3*s.D.length+2*i
 refine w11 _ _ _ (c11 (I:=I) λg id vals A' dd hI hd'=>?_) ?_
 ·obtain ⟨rfl,i,sv,Fn,D',rfl,hi,rfl,hdk,hFn,hrd,hwl,hsf,hln,hkp,hfn,hnx⟩:=hI;have hnm:=hkp.next;have hkr:=hk'.keeps hkp (λy hy hm=>by have:=hFk y hy;simp only [Mk,List.not_mem_nil,or_false] at hm;omega);rw [Afn];simp only [L11,Mc,Mn,Li,and_true] at hd';obtain ⟨h0,h1,h22,h23,h24⟩:=hd';simp only [h0,h1,h22,h23,h24,Br,Ab,Az];refine ⟨λhlt=>?_,λhge=>?_⟩
  ·have hlt:i<s.D.length:=by omega
   obtain ⟨p,hp⟩:∃ p,(namesS s.D)[i]? =some p:=⟨_,Ge (by omega)⟩;obtain ⟨a,a1,a2⟩:=esS.at hrd hp rfl;obtain ⟨es,c,hr,hm,hne,hD⟩:=hdk;have hD:D'=es.map fE:=hD;have hv:=Wo (es:=es) ⟨⟨p⟩⟩;rw [<- hD] at hv;have hv:fF ((Dw Fg es ⟨⟨p⟩⟩).getD (⟨⟨[]⟩⟩,0))=fileOf D' p:=hv;obtain ⟨v,hve⟩:∃ v,(Dw Fg es ⟨⟨p⟩⟩).getD (⟨⟨[]⟩⟩,0)=v:=⟨_,rfl⟩;rw [hve] at hv;have hv1:(fileOf D' p).1=v.1.data.toList:=by rw [<- hv];rfl
   have hv2:(fileOf D' p).2=v.2:=by rw [<- hv];rfl
   have hvs:v.2<=v.1.data.toList.length/\v.1.data.toList.length<=1048576:=by
    rw [<- hv1,<- hv2];rcases QV D' p with h | h
    ·rw [h];exact ⟨Nat.zero_le _,Nat.zero_le _⟩
    ·exact ⟨hsf _ h,hln _ h⟩
   have hdrop:(namesS s.D).drop i=p::(namesS s.D).drop (i+1):=by
    have hlt2:=(Gs.1 hp);rw [List.drop_eq_getElem_cons hlt2.1,hlt2.2]
   rw [hdrop] at hwl;have hwl:GY (Cm D' p (Gz (fileOf D' p) kl[i]?)) kl ((namesS s.D).drop (i+1)) (i+1)=GY s.D kl (namesS s.D) 0:=hwl;have htx:(txV p:Value)=.string ⟨⟨p⟩⟩:=rfl;have hlk:Cu Tp A' 66 (.map (some mp)) (.string ⟨⟨p⟩⟩) false=some (vF v):=by rw [Abz hm,hve]
   simp only [a1,a2,Ab,ptr,AD,C2,E1,Af hr.row,cellOf,Bp,Cf,Nat.zero_add,htx,hlk];refine AH zF hfn (by omega) rfl λA1 m1=>?_;have n1:=m1.next;refine m1.Bk.store m1.Ay (by omega) (FN _ _ _) rfl (by show 0+2<=2;omega) rfl λA2 r2 k2 n2 f2=>?_;have r2:Abs.Row1 A2 A'.next [.string v.1,.int .i64 (v.2:Int)] 89:=r2;have k12:Ah A' A2 []:=(m1.keeps hfn).trans k2 (λx hx=>by have:=Ms.1 hx;exact .inr (by omega));have hr2:=hr.keeps k12 (by simp);have hm2:=hm.keeps k12 (by simp);have hkr2:=hkr.keeps k12 (by simp);have fin:∀ (n:Nat),v.2<=n->n<=v.1.data.toList.length->Gz (fileOf D' p) kl[i]? =(v.1.data.toList.take n,n)->
     Be (Cp Tp A2 66 (.map (some mp)) (.string ⟨⟨p⟩⟩) (.agg ⟨[.string ⟨⟨v.1.data.toList.take n⟩⟩,.int .i64 (n:Int)]⟩)) λAt31=>BE (T11 0) (T11 0) (∃ g2,g2<s.D.length-i/\I g2 0 [dd 0,dd 1,dd 22,dd 23,.int .i64 (IntKind.i64.wrap ((i:Int)+1))] At31):=by
    intro n hn1 hn2 hn3;refine hm2.put mtF f2 (by omega) (k:=⟨⟨p⟩⟩) (v:=(⟨⟨v.1.data.toList.take n⟩⟩,n)) λA3 c3 hm3 k3 n3 f3=>?_;rw [wrap_i64 (by omega) (by omega)];have K3:Ah A' A3 [mp]:=(k12.more (T:=[mp]) (λy hy=>by cases hy)).trans k3 (λy hy=>.inl hy);rw [hn3] at hwl;refine Au.2 ⟨s.D.length-(i+1),by omega,rfl,i+1,sv,Fn,Cm D' p (v.1.data.toList.take n,n),by rw [h0,h1,h22,h23];rfl,by omega,rfl,⟨_,c3,hr2.keeps k3 (by simp;exact hne),hm3,hne,by show Cm D' p _=_;rw [hD,JA];rfl⟩,hFn,hrd.keeps K3 (λy hy hm=>by have:=hFn y hy;have:=Ms.1 hm;omega),?_,?_,?_,hkp.trans K3 (λy hy=>.inl (by simp [Ms.1 hy])),f3,by omega⟩
    ·exact hwl
    ·exact Wa hsf (by show n<=(v.1.data.toList.take n).length;rw [List.length_take];omega)
    ·exact Wb hln (by show (v.1.data.toList.take n).length<=_;rw [List.length_take];omega)
   simp only [Ha,QW,GL,Eg,Af r2.row,Af hr2.row,cellOf,AI,AG,Bp,Cf,Ab,Nat.zero_add,esZ.Ul hkr2,Br,Az,E1,AD,C2,Hj];refine ⟨λhik=>?_,λhik=>?_⟩
   ·have hik:i<kl.length:=by omega
    obtain ⟨z,hz⟩:∃ z,kl[i]? =some z:=⟨_,Ge hik⟩;obtain ⟨b,b1,b2⟩:=esZ.at hkr2 hz rfl;rw [hz] at fin;simp only [b1,b2,Ab,AcO,Db];rw [wrap_i64 (n:=(v.1.data.toList.length:Int)-(v.2:Int)) (by omega) (by omega)];simp only [Ab,AeX,Bm];obtain ⟨m,hm'⟩:∃ m:Nat,min (max z 0) ((v.1.data.toList.length:Int)-(v.2:Int))=(m:Int):=⟨(min (max z 0) ((v.1.data.toList.length:Int)-(v.2:Int))).toNat,by omega⟩;rw [hm',wrap_i64 (by omega) (by omega)];have e2:(v.2:Int)+(m:Int)=((v.2+m:Nat):Int):=by omega
    rw [e2];simp only [Ab,XT (show v.2+m<=v.1.data.toList.length by omega),Tf]
    have:=fin (v.2+m) (by omega) (by omega) (by
     show (_,_)=_;rw [hv1,hv2,hm'];rfl)
    rw [h0,h1,h22,h23] at this;exact this
   ·have hz:kl[i]? =none:=List.getElem?_eq_none (by omega);rw [hz] at fin;simp only [XT hvs.1,Tf,Ab,Bm]
    have:=fin v.2 (Nl _) hvs.1 (by
     show (_,_)=_;rw [hv1,hv2])
    rw [h0,h1,h22,h23] at this;exact this
  ·have hi':i=s.D.length:=by omega
   subst hi';rw [List.drop_of_length_le (by omega)] at hwl;have hwl:D'=GY s.D kl (namesS s.D) 0:=hwl;rw [<- hwl] at hk;exact hk A' hdk hkp (by omega) hfn
 ·rw [e11];have h0:=h;refine Rz h ?_;simp only [Bl,Ab];refine Ag.2 ⟨λh=>by simp at h,λ_=>?_⟩;obtain ⟨es,c,hr,hm,hne,hD⟩:=h;simp only [ptr,AD,Ir,QS,Af hr.row,cellOf,Di,Cf,Ab,hdn,Bl,Nat.zero_add];refine Ag.2 ⟨λh=>by simp at h,λ_=>?_⟩;refine hr.store hf (by omega) (OV _ _ _) rfl (by show 3+1<=4;omega) rfl λA2 r2 k2 n2 f2=>?_;have r2:Abs.Row1 A2 d [.map (some mp),.int .i64 s.room,.int .i64 s.Dj,.bool false] 68:=r2;have k2:Ah A A2 [d]:=k2;have d2:Dk A2 d mp ⟨s.D,s.room,s.Dj,false⟩:=⟨es,c,r2,hm.keeps k2 (by simp;exact λh=>hne h.symm),hne,hD⟩;refine ZW d2 f2 (by show s.D.length<100000;omega) (by show A2.next+30+3*s.D.length<_;omega) λA3 sv Fn h3 hFn k3 n3 f3=>?_;have h3:Dq A3 9 1 sv (namesS s.D).length ((namesS s.D).map txV) Fn:=h3;have n3:A3.next<=A2.next+15+3*s.D.length:=n3;have hrd:=Ll h3;simp only [esS.Ul hrd,hnl,Ab];have K3:Ah A A3 [d]:=k2.trans k3 (by simp);exact Au.2 ⟨s.D.length-0,rfl,0,sv,Fn,s.D,rfl,by omega,rfl,d2.keeps k3 (by simp) (by simp),λy hy=>by have:=hFn y hy;omega,hrd,by rw [List.drop_zero],hok.safe,hok.len,K3.more (λy hy=>.inl (by simp [Ms.1 hy])),f3,by omega⟩
end
variable {A A':AW} {v jv:Value} {F S:List Nat} {lg pm:Nat} {ep:Int} {K:Value->AW->Prop}
structure DV where
 d:Dc
 o:Option Addr
 c:Nat
def DV.sv(v:DV):Value:=.slice v.o v.d.ps.length v.c
def vD(v:DV):Value:=Fh v.d.f v.d.g v.d.b v.sv
def fD(v:DV):List Value:=By v.d.f v.d.g v.d.b v.sv
theorem etP:ET Tp 33 85 4 Pt.cells:=⟨by kernel_rfl,by kernel_rfl,by kernel_rfl,⟨56,by kernel_rfl,by decide⟩,by kernel_rfl,λ_=>rfl,λ_=>rfl,λ_=>rfl⟩
theorem etD:ET Tp 29 35 3 fD:=⟨by kernel_rfl,by kernel_rfl,by kernel_rfl,⟨64,by kernel_rfl,by decide⟩,by kernel_rfl,λ_=>rfl,λ_=>rfl,λ_=>rfl⟩
theorem rdP{l:List Pt}:C4 A v l F↔RdE 4 Pt.cells A v l F:=Iff.rfl
theorem C4.slc{l:List Pt}(h:C4 A v l F):∃ o c,v=.slice o l.length c:=RdE.slice (rdP.1 h)
def EM(A:AW)(v:DV)(S:List Nat):Prop:=∃ F,C4 A v.sv v.d.ps F/\∀ y∈F,y∉S
theorem EM.keeps{v:DV}{S':List Nat}(h:EM A v S)(k:Ah A A' S')(hs:∀ y∈S',y∈S\/A.next<=y):EM A' v S:=by
 obtain ⟨F,h1,h2⟩:=h;refine ⟨F,h1.keeps k λy hy hm=>?_,h2⟩;rcases hs y hm with h | h
 ·exact h2 y hy h
 ·have:=h1.fam (A0:=A) y hy
  omega
structure CM (A:AW) (lg j d mp pm:Nat) (q:JS) (s:DS) (Fl Fr:List Nat) (ep:Nat) (L:List DV):Prop where
 row:Abs.Row1 A lg [ptr j,.int .u32 (ep:Int),.map (some pm)] 74
 jd:JD A j d mp q s Fl Fr
 mo:∃ es c,DJ kN vD A pm es c/\es.map (·.v)=L/\∀ e∈es,e.k=e.v.d.x
 rd:∀ v∈L,EM A v (lg::j::d::mp::pm::1::(Fl++Fr))
 ne:lg≠j/\lg≠d/\lg≠mp/\lg≠pm/\pm≠j/\pm≠d/\pm≠mp
 nf:∀ y∈Fl++Fr,y≠lg/\y≠pm/\y≠1
 n1:1≠lg/\1≠j/\1≠d/\1≠mp/\1≠pm
theorem CM.keeps{j d mp ep:Nat}{q:JS}{s:DS}{Fl Fr:List Nat}{L:List DV}(h:CM A lg j d mp pm q s Fl Fr ep L)(k:Ah A A' S)(hS:∀ y∈S,A.next<=y):CM A' lg j d mp pm q s Fl Fr ep L:=by
 have hlt:=h.jd.jn.lt;have hdk:=h.jd.dk.lt;have hrow:=h.row.lt;obtain ⟨es,c,ho,he,hx⟩:=h.mo;have hpm:=ho.ltA;have hFl:∀ y∈Fl,y<A.next:=by obtain ⟨_,_,_,_,a,_,_⟩:=h.jd.jn;exact a.lt
 have hFr:∀ y∈Fr,y<A.next:=by obtain ⟨_,_,_,_,_,_,a⟩:=h.jd.jn;exact a.lt
 have no:∀ {x:Nat},x<A.next->x∉S:=λhx hm=>by have:=hS _ hm;omega
 exact ⟨h.row.keeps k (no hrow),h.jd.keeps k (no hlt) (no hdk.1) (no hdk.2) (λx hx=>no (hFl x hx)) (λx hx=>no (hFr x hx)),⟨es,c,ho.keeps k (no hpm),he,hx⟩,λv hv=>(h.rd v hv).keeps k λy hy=>.inr (hS y hy),h.ne,h.nf,h.n1⟩
theorem AhB(a:Addr)(xo yo:Operand):An Tp .neq 25 xo yo (.pointer (some a)) (.pointer none)=some (.bool true):=by kernel_rfl
theorem Ahy(r:Nat)(xo yo:Operand):An Tp .neq 72 xo yo (.map (some r)) (.map none)=some (.bool true):=by kernel_rfl
theorem AeM(a:Addr)(n c:Nat)(xo yo:Operand):An Tp .eql 33 xo yo (.slice (some a) n c) (.slice none 0 0)=some (.bool false):=by kernel_rfl
theorem Adt(A:AW):Aq Tp A 33 0 []=(match A.newRow [] 85 with | some (a,w')=>.ok (.slice (some a) 0 0) w' | none=>.fail "buildSlice new"):=by kernel_rfl
theorem AfY(hf:Aw A)(h:A.next<Aj)(hk:∀ A',Made A A' [] 85->K (.slice (some ⟨A.next,0,none⟩) 0 0) A'):Ao (Aq Tp A 33 0 []) K:=by
 rw [Adt];unfold AW.newRow AW.new;simp only [show (([]:List Value).all AK)=true from rfl,Ct,AA.2 h];exact AT.2 (hk (A.push (.row [] 85 A.next 0 false)) ⟨AW.BR _ h,rfl,by rw [AW.BK _ h,if_pos rfl],hf.alone (Nl _),hf.push _ h⟩)
section
variable {W0:World} {m0:Inj Tp}
theorem ZV(h:Abs.Row1 A lg [jv,.int .u32 ep,.map (some pm)] 74)(hj:isTuple jv=false)(hk:K (.bool true) A):Wc Tp Al W0 m0 38 [ptr lg] A K:=by
 refine w38 _ _ BD ?_;rw [e38];simp only [ptr,AhB,Ab,AD];refine Ag.2 ⟨λ_=>?_,λh=>by cases h⟩;simp only [Hb,Lu,Af h.row,cellOf,Bp,AI,hj,Cf,Ab,Ahy,Nat.zero_add];exact hk
theorem Ab4{e:Int}(hk:K (.int .i64 (HH e)) A):Wc Tp Al W0 m0 33 [.int .i64 e] A K:=by
 refine w33 _ _ BD ?_;rw [e33];simp only [B8,Ab,Cg];unfold HH at hk;refine ⟨λh=>?_,λh=>?_⟩
 ·rw [if_pos h] at hk;exact hk
 ·rw [Ff h] at hk;exact hk
theorem ZX(h:Abs.Row1 A lg [jv,.int .u32 ep,.map (some pm)] 74)(hj:isTuple jv=false)(hk:K (.int .u32 ep) A):Wc Tp Al W0 m0 12 [ptr lg] A K:=by
 refine w12 _ _ BD ?_;rw [e12];refine ZV h hj ?_;simp only [Bl,Ab];refine Ag.2 ⟨λh=>(by cases h),λ_=>?_⟩;simp only [ptr,AD,LA,N5,Af h.row,cellOf,AI,hj,Cf,Ab,Nat.zero_add];exact hk
theorem AdH {x:Value} {l:List Pt} (h:C4 A x l F) (h1:1<=l.length) (hf:Aw A) (hA:A.next+5<Aj) (hl:l.length<1000000)
  (hk:∀ A' o c F',C4 A' (.slice o l.length c) l F'->(∀ y∈F',A.next<=y)->Grow A A' 2->K (.slice o l.length c) A'):Wc Tp Al W0 m0 46 [x] A K:=by
 refine w46 _ _ BD ?_;rw [e46];rcases h with ⟨h0,_⟩ | ⟨r,o,c,cs,e,f,b,ro,rfl,h2⟩
 ·rw [h0] at h1;cases h1
 have h:C4 A (.slice (some ⟨r,o,none⟩) l.length c) l F:=.inr ⟨r,o,c,cs,e,f,b,ro,rfl,h2⟩;simp only [AeM,Ab];refine Ag.2 ⟨λh=>by simp at h,λ_=>?_⟩;refine AfY hf (by omega) λA1 m1=>?_;have n1:=m1.next;have ho:CW 85 4 Pt.cells A1 (.slice (some ⟨A.next,0,none⟩) 0 0) ([]:List Pt) [A.next]:=.inr ⟨A.next,rfl,by simp,m1.Bk,rfl⟩;refine ho.LK etP (rdP.1 (h.keeps (m1.keeps hf) (by simp))) m1.Ay (by omega) (by simp) (by omega) λv2 A2 F2 o2 k2 hF2 n2 f2=>?_;rw [List.nil_append] at o2;obtain ⟨o',c',rfl⟩:=o2.slice;exact hk A2 o' c' F2 (rdP.2 (o2.rd etP.len)) (λy hy=>(hF2 y hy).elim (λh=>by have:=Ms.1 h;omega) λh=>by omega) (((Grow.made m1 hf).own k2 (by simp) (m:=1) n2 f2).more (by omega))
theorem Agl {o:Option Addr} {c:Nat} {l:List UInt8} (h:RdS 5 A (.slice o l.length c) l F) (hr:(rnS (l,false))=([],false)) (hx:DQ ⟨⟨rnG (l,false)⟩⟩ ⟨⟨rnB (l,false)⟩⟩=0) (hf:Aw A) (hA:A.next+60<Aj) (hl:l.length<1000000)
  (hk:∀ A',Grow A A' 40->K (.tuple ⟨[Fj (rnF (l,false):Int) ⟨⟨rnG (l,false)⟩⟩ ⟨⟨rnB (l,false)⟩⟩,.int .i64 (l.length:Int),.int .i64 0]⟩) A'):Wc Tp Al W0 m0 90 [.slice o l.length c] A K:=by
 refine w90 _ _ BD ?_;rw [e90];refine AH IE hf (by omega) rfl λA1 m1=>?_;have n1:=m1.next;have k1:=m1.keeps hf;refine ZS (h.keeps k1 (by simp)) m1.Ay (by omega) hl λA2 r v F2 g2 o2 hr2 hv2 hF2=>?_;have n2:=g2.next;have l2:=g2.le;have q2:Abs.Row1 A2 A.next [.int .u32 0,.string .empty,.string .empty] 32:=m1.Bk.keeps g2.keeps (by simp);refine Ry (w:=4) (s:=(l,false)) o2 g2.Ay (by omega) hl (by omega) λA3 F3 o3 k3 n3 f3 hF3=>?_;have l3:=k3.next;have hn4:(nm 4 (l,false)).1<4294967296:=Vc 4 (l,false);have hs3:=Gw 4 (l,false);simp only [Mi,AT];rw [wrap_u32 (by omega),AbR];simp only [Ab];have hvlt:v<A2.next:=by obtain ⟨bs,h1,_⟩:=o2.ex;exact h1.lt
 have hrlt:r<A2.next:=o2.rr.lt;have hF2lt:∀ y∈F2,y<A2.next:=by obtain ⟨bs,_,h2⟩:=o2.ex;exact h2.rd.lt
 refine AH IE f3 (by omega) rfl λA4 m4=>?_;have n4:=m4.next;have o4:=o3.keeps (m4.keeps f3) (by simp) (by simp) (by simp);have q4:=(q2.keeps k3 (by simp;omega)).keeps (m4.keeps f3) (by simp);refine m4.Bk.store m4.Ay (by omega) (Py _ _ _) rfl (by simp [Value.cells]) rfl λA5 p5 k5 n5 f5=>?_;have p5:Abs.Row1 A5 A3.next [.int .u32 ((nm 4 (l,false)).1:Int),.string .empty,.string .empty] 32:=p5;have o5:=o4.keeps k5 (by simp;omega) (by simp;omega) (λy hy=>by have:=hF2lt y (hF3 y hy);simp;omega);have q5:=q4.keeps k5 (by simp;omega);refine US o5 f5 (by omega) (by simp only at hs3;omega) λA6 F6 o6 k6 n6 f6 hF6=>?_;have l6:=k6.next;have hs6:=HZ (nm 4 (l,false)).2;have p6:=p5.keeps k6 (by simp;omega);have q6:=q5.keeps k6 (by simp;omega);simp only [LB,Is,Ab,Nat.zero_add];refine p6.store f6 (by omega) (RI _ _ _) rfl (by simp) rfl λA7 p7 k7 n7 f7=>?_;have p7:Abs.Row1 A7 A3.next [.int .u32 ((nm 4 (l,false)).1:Int),.string ⟨⟨(tx1 (nm 4 (l,false)).2).1⟩⟩,.string .empty] 32:=p7;have o7:=o6.keeps k7 (by simp;omega) (by simp;omega) (λy hy=>by have:=hF2lt y (hF3 y (hF6 y hy));simp;omega);have q7:=q6.keeps k7 (by simp;omega);refine US o7 f7 (by omega) (by simp only at hs3;omega) λA8 F8 o8 k8 n8 f8 hF8=>?_;have l8:=k8.next;have p8:=p7.keeps k8 (by simp;omega);have q8:=q7.keeps k8 (by simp;omega);refine p8.store f8 (by omega) (RI _ _ _) rfl (by simp) rfl λA9 p9 k9 n9 f9=>?_;have p9:Abs.Row1 A9 A3.next [.int .u32 (rnF (l,false):Int),.string ⟨⟨rnG (l,false)⟩⟩,.string ⟨⟨rnB (l,false)⟩⟩] 32:=p9;have o9:OR A9 r v (rnS (l,false)).1 (rnS (l,false)).2 F8:=o8.keeps k9 (by simp;omega) (by simp;omega) (λy hy=>by have:=hF2lt y (hF3 y (hF6 y (hF8 y hy)));simp;omega);have q9:=q8.keeps k9 (by simp;omega);rw [hr] at o9;refine VN o9 ?_;refine Ag.2 ⟨λh=>(by cases h),λ_=>?_⟩;have t9:A9.cells? ⟨A3.next,0,none⟩ 3=some [.int .u32 (rnF (l,false):Int),.string ⟨⟨rnG (l,false)⟩⟩,.string ⟨⟨rnB (l,false)⟩⟩]:=by rw [Bc p9.row];rfl
 simp only [EH,t9,Ab];refine UU f9 (by omega) λA10 g10=>?_;have n10:=g10.next;have l10:=g10.le;rw [hx];simp only [Bw,Ab];refine Ag.2 ⟨λh=>by simp at h,λ_=>?_⟩;have p10:=p9.keeps g10.keeps (by simp);have q10:=q9.keeps g10.keeps (by simp);have o10:=o9.keeps g10.keeps (by simp) (by simp) (by simp);have t10:A10.cells? ⟨A3.next,0,none⟩ 3=some [.int .u32 (rnF (l,false):Int),.string ⟨⟨rnG (l,false)⟩⟩,.string ⟨⟨rnB (l,false)⟩⟩]:=by rw [Bc p10.row];rfl
 simp only [EH,t10,N2,Ab];refine UT o10 ?_;simp only [N2,t10,Ab,AR,Db,Ln];rw [wrap_i64 (by omega) (by omega)];refine q10.store g10.Ay (by omega) (Py _ _ _) rfl (by simp [Value.cells,Fj]) rfl λA11 q11 k11 n11 f11=>?_;have t11:A11.cells? ⟨A.next,0,none⟩ 3=some [.int .u32 (rnF (l,false):Int),.string ⟨⟨rnG (l,false)⟩⟩,.string ⟨⟨rnB (l,false)⟩⟩]:=by rw [Bc q11.row];rfl
 simp only [N2,t11,Ab,AR];have e0:(l.length:Int)-((0:Nat):Int)=(l.length:Int):=by omega
 rw [e0];refine hk A11 ⟨?_,f11,by omega⟩;have a2:Ah A A2 []:=k1.trans g2.keeps (by simp);have a3:Ah A A3 []:=a2.trans k3 (by simp;omega);have a4:Ah A A4 []:=a3.trans (m4.keeps f3) (by simp);have a5:Ah A A5 []:=a4.trans k5 (by simp;omega);have a6:Ah A A6 []:=a5.trans k6 (by simp;omega);have a7:Ah A A7 []:=a6.trans k7 (by simp;omega);have a8:Ah A A8 []:=a7.trans k8 (by simp;omega);have a9:Ah A A9 []:=a8.trans k9 (by simp;omega);have a10:Ah A A10 []:=a9.trans g10.keeps (by simp);exact a10.trans k11 (by simp)
end
noncomputable def DW(L:List DV)(k:Nm):Option DV:=L.find? λv=>CL k v.d.x
theorem Vj(k:Nm):∀ {es:List (En Nm DV)},(∀ e∈es,e.k=e.v.d.x)->Dw CL es k=DW (es.map (·.v)) k
 |[],_=>rfl
 |e::r,h=>by
  show (if CL k e.k=true then some e.v else Dw CL r k)=_;rw [Mc,h e (by simp)];unfold DW;rw [List.find?_cons];cases hq:CL k e.v.d.x with
  |true=>rfl
  |false=>rw [Ff (by simp),Vj k λx hx=>h x (by simp [hx])];rfl
theorem Kw{L:List DV}{k:Nm}:DW L k=none↔k∉(L.map (·.d)).map Dc.x:=by
 unfold DW;rw [List.find?_eq_none];constructor
 ·intro h hm;obtain ⟨d,hd,he⟩:=List.mem_map.1 hm;obtain ⟨v,hv,rfl⟩:=List.mem_map.1 hd;exact h v hv (CK.2 he.symm)
 ·intro h v hv hk;exact h (List.mem_map.2 ⟨v.d,List.mem_map_of_mem hv,(CK.1 hk).symm⟩)
theorem Vk(L:List DV)(k:Nm):(DW L k).map (·.d)=getD (L.map (·.d)) k:=by
 unfold DW getD;rw [List.find?_map];rfl
theorem N1{L:List DV}{k:Nm}{v:DV}(h:DW L k=some v):v∈L/\v.d.x=k:=by
 unfold DW at h;exact ⟨List.mem_of_find?_eq_some h,(CK.1 (List.find?_some (p:=λv:DV=>CL k v.d.x) h)).symm⟩
theorem E0(L:List DV)(k:Nm):(DW L k).isSome=(getD (L.map (·.d)) k).isSome:=by rw [<- Vk];cases DW L k<;>rfl
theorem AcD{es:List (En Nm DV)}{k:Nm}(v:DV)(c:Nat)(h:∀ e∈es,e.k=e.v.d.x)(hn:DW (es.map (·.v)) k=none)(hk:k=v.d.x):(Kp CL es k v c).map (·.v)=es.map (·.v)++[v]/\∀ e∈Kp CL es k v c,e.k=e.v.d.x:=by
 have hne:∀ e∈es,CL k e.k=false:=λe he=>by
  rw [h e he,Sx];rintro rfl;exact Kw.1 hn (List.mem_map.2 ⟨e.v.d,List.mem_map.2 ⟨e.v,List.mem_map_of_mem he,rfl⟩,rfl⟩)
 rw [IV hne];refine ⟨by simp,λe he=>?_⟩;rcases Mz.1 he with he | he
 ·exact h e he
 ·rw [Ms.1 he];exact hk
theorem Zd(k:Nm){es:List (En Nm DV)}(h:∀ e∈es,e.k=e.v.d.x):(Mg CL es k).map (·.v)=(es.map (·.v)).filter (λv=>!CL k v.d.x)/\∀ e∈Mg CL es k,e.k=e.v.d.x:=by
 unfold Mg;refine ⟨?_,λe he=>h e (List.mem_filter.1 he).1⟩
 induction es with
 |nil=>rfl
 |cons e r ih=>
  rw [List.filter_cons,Mc,List.filter_cons,h e (by simp)]
  have:=ih λx hx=>h x (by simp [hx])
  split
  ·rw [Mc,this]
  ·exact this
theorem zD:Dt Tp 35=some Aao:=by kernel_rfl
theorem YT:Bn Tp (λ_=>undef) (.alloc 35)=some (.row [.int .u32 0,.string ⟨⟨[]⟩⟩,.string ⟨⟨[]⟩⟩,.slice none 0 0] 35):=by kernel_rfl
theorem GN{A:AW}{b:Nat}{p:Prop}(h:A.get b=some (.row [.int .u32 0,.string ⟨⟨[]⟩⟩,.string ⟨⟨[]⟩⟩,.slice none 0 0] 35 b 0 false))(hp:p):Cd (Bn Tp (λ_=>undef) (.alloc 35)) A (pP b 0) p:=by
 refine ⟨⟨_,YT,?_⟩,hp⟩;have hs:Go.Abs.DT 6 (.slice none 0 0) (.slice none 0 0)=true:=by rfl
 have ht:Go.Abs.DT 6 (.string ⟨⟨[]⟩⟩) (.string ⟨⟨[]⟩⟩)=true:=by rfl
 simp only [B4,Eu,h,EF,EV,ht,hs,Bool.and_self,Option.isNone_none,Nat.beq_refl]
theorem x35{A:AW}{q:Nat}{v:DV}{e:TypeId}(h:Abs.Row1 A q (fD v) e):Ae Tp A 32 (pP q 0)=some (kN v.d.x):=by
 rw [EH,Bc h.row];rfl
theorem Ky{A:AW}{q:Nat}{v:DV}(h:Abs.Row1 A q (fD v) 35):Ae Tp A 35 (pP q 0)=some (vD v):=Hi h rfl
noncomputable def N0(L:List DV)(k:Nm):Value:=match DW L k with | some v=>vD v | none=>Aao
theorem Lt(L:List DV)(k:Nm):∃ f g b sv,N0 L k=Fh f g b sv/\AK sv=true/\isTuple sv=false:=by
 unfold N0;cases DW L k with
 |none=>exact ⟨_,_,_,_,rfl,rfl,rfl⟩
 |some v=>exact ⟨_,_,_,_,rfl,rfl,rfl⟩
section
variable {A:AW} {lg j d mp pm ep:Nat} {q:JS} {s:DS} {Fl Fr:List Nat} {L:List DV}
theorem CM.look(h:CM A lg j d mp pm q s Fl Fr ep L)(k:Nm)(ok:Bool):Cu Tp A 72 (.map (some pm)) (kN k) ok=some (bif ok then .tuple #[N0 L k,.bool (DW L k).isSome] else N0 L k):=by
 obtain ⟨es,c,ho,rfl,hx⟩:=h.mo;rw [ho.look mtN zD k ok,Vj k hx];unfold N0;cases DW (es.map (·.v)) k<;>rfl
theorem CM.lt(h:CM A lg j d mp pm q s Fl Fr ep L):lg<A.next/\j<A.next/\d<A.next/\mp<A.next/\pm<A.next/\(∀ y∈Fl,y<A.next)/\∀ y∈Fr,y<A.next:=by
 obtain ⟨es,c,ho,he,hx⟩:=h.mo;have hdk:=h.jd.dk.lt;exact ⟨h.row.lt,h.jd.jn.lt,hdk.1,hdk.2,ho.ltA,by obtain ⟨_,_,_,_,a,_,_⟩:=h.jd.jn;exact a.lt,by obtain ⟨_,_,_,_,_,_,a⟩:=h.jd.jn;exact a.lt⟩
theorem CM.map{A':AW}{L':List DV}(h:CM A lg j d mp pm q s Fl Fr ep L)(k:Ah A A' [pm])(hm:∃ es c,DJ kN vD A' pm es c/\es.map (·.v)=L'/\∀ e∈es,e.k=e.v.d.x)(hr:∀ v∈L',EM A v (lg::j::d::mp::pm::1::(Fl++Fr))):CM A' lg j d mp pm q s Fl Fr ep L':=by
 obtain ⟨a1,a2,a3,a4,a5,a6,a7⟩:=h.ne;refine ⟨h.row.keeps k (by simp;exact a4),h.jd.keeps k (by simp;exact Ne.symm a5) (by simp;exact Ne.symm a6) (by simp;exact Ne.symm a7) (λx hx=>?_) (λx hx=>?_),hm,λv hv=>(hr v hv).keeps k (by simp),h.ne,h.nf,h.n1⟩
 ·have:=(h.nf x (List.mem_append_left _ hx)).2.1;simpa using this
 ·have:=(h.nf x (List.mem_append_right _ hx)).2.1;simpa using this
variable {W0:World} {m0:Inj Tp}
theorem Ab2 {v:DV} {K:Value->AW->Prop} (h:CM A lg j d mp pm q s Fl Fr ep L) (hn:DW L v.d.x=none) (hp:EM A v (lg::j::d::mp::pm::1::(Fl++Fr))) (hf:Aw A) (hA:A.next+5<Aj)
  (hk:∀ A',CM A' lg j d mp pm q s Fl Fr ep (L++[v])->Ah A A' [pm]->A'.next=A.next+2->Aw A'->K (.bool true) A'):Wc Tp Al W0 m0 47 [ptr lg,vD v] A K:=by
 obtain ⟨hlg,hj,hd,hmp,hpm,hFl,hFr⟩:=h.lt;refine w47 _ _ _ BD ?_;rw [e47];refine AZ (cs:=fD v) hf (by omega) rfl λA1 m1=>?_;have n1:=m1.next;have k1:=m1.keeps hf;refine AH zD m1.Ay (by omega) rfl λA2 m2=>?_;have n2:=m2.next;have k2:=m2.keeps m1.Ay;refine GN m2.row ?_;have H2:=(h.keeps k1 (by simp)).keeps k2 (by simp);have r2:=m1.Bk.keeps k2 (by simp);simp only [ptr,AD,Hb,Er,Lu,Af H2.row.row,cellOf,Bp,AI,AB,Cf,Ab,Nat.zero_add];rw [x35 r2];simp only [Ab,H2.look,Ct,Ap,List.getElem?_toArray,List.getElem?_cons_zero,List.getElem?_cons_succ,hn,Option.isSome_none];obtain ⟨f',g',b',sv',hlt,hsv1,hsv2⟩:=Lt L v.d.x;rw [hlt];refine DR m2.Bk rfl hsv1 m2.Ay (by omega) λA3 t3 k3 n3 f3=>?_;have hk3:Ah A A3 []:=((k1.trans k2 (by simp)).trans k3 (by simp;omega));have H3:=h.keeps hk3 (by simp);have r3:=r2.keeps k3 (by simp;omega);simp only [AR,Af H3.row.row,cellOf,Bp,AI,AB,Cf,Ab];rw [x35 r3];simp only [Ab];rw [Ky r3];simp only [Ab];obtain ⟨es,c,ho,he,hx⟩:=H3.mo;refine ho.put mtN f3 (by omega) λA4 c' ho4 k4 n4 f4=>?_;simp only [Bl,Ab];have hne:=AcD v c hx (by rw [he];exact hn) rfl;have H4:CM A4 lg j d mp pm q s Fl Fr ep (L++[v]):=H3.map k4 ⟨_,c',ho4,by rw [hne.1,he],hne.2⟩ λw hw=>by
  rcases Mz.1 hw with hw | hw
  ·exact H3.rd w hw
  ·rw [Ms.1 hw];exact hp.keeps hk3 (by simp)
 exact hk A4 H4 ((hk3.more (by simp)).trans k4 (λx hx=>.inl hx)) (by omega) f4
end
end Go.Proofs.YtnennggfoegcmaaGreatDoor
