/-
  This text prints what the functions reached ask of their memory, and shows what they answer. Conditions: those that each theorem states.
-/
import Derived.Test.YtnennggfoegcmaaGreatDoorPf
import Derived.KernelRfl
import Derived.Shelf.Strconv.AtoiAll
import Derived.Shelf.Strconv.Itoa3
import Derived.Shelf.Strings.OnBuilder
import Derived.Shelf.Strings.Repeat
import Derived.Test.YtnennggfoegcmaaGreatDoorProg
set_option maxRecDepth 100000
set_option maxHeartbeats 1000000
namespace Go.Proofs.YtnennggfoegcmaaGreatDoor
section
open Go.Abs Go.Jr
variable {K:Value->AW->Prop}
theorem XR{a b:List Nm}(hp:a.Perm b)(hb:b.Nodup):srt a=srt b:=
 Rn (Jz (hp.symm.nodup hb)) (Jz hb) λ_=>by rw [JG,JG];exact hp.mem_iff
theorem Ai1(A:AW)(f:Int)(g b:ByteArray)(o:Option Addr)(n c:Nat):Aq Tp A 29 1 [(0,.agg ⟨[.int .u32 f,.string g,.string b,.slice o n c]⟩)]=(match A.newRow [.int .u32 f,.string g,.string b,.slice o n c] 35 with | some (a,w')=>.ok (.slice (some a) 1 1) w' | none=>.fail "buildSlice new"):=by kernel_rfl
theorem Sk{A:AW}{v:DV}(hf:Aw A)(h:A.next<Aj)(hk:∀ A',Made A A' (fD v) 35->K (.slice (some ⟨A.next,0,none⟩) 1 1) A'):Ao (Aq Tp A 29 1 [(0,vD v)]) K:=
 Hp (Ai1 A _ _ _ _ _ _) rfl hf h hk
def RdD(A:AW)(lo:Nat)(M:List DV)(F:List Nat):Prop:=∀ w∈M,∃ G,C4 A w.sv w.d.ps G/\∀ y∈G,lo<=y/\y∉F
theorem RdD.keeps{A A':AW}{lo:Nat}{M:List DV}{F F' S:List Nat}(h:RdD A lo M F)(k:Ah A A' S)(hS:∀ y∈S,y∈F\/A.next<=y\/y<lo)(hF:∀ y∈F',y∈F\/A.next<=y):RdD A' lo M F':=by
 intro w hw;obtain ⟨G,h1,h2⟩:=h w hw;have hl:∀ y∈G,y<A.next:=h1.fam (A0:=A);refine ⟨G,h1.keeps k λy hy hm=>?_,λy hy=>⟨(h2 y hy).1,λhm=>?_⟩⟩
 ·rcases hS y hm with h | h | h
  ·exact (h2 y hy).2 h
  ·have:=hl y hy;omega
  ·have:=(h2 y hy).1;omega
 ·rcases hF y hm with h | h
  ·exact (h2 y hy).2 h
  ·have:=hl y hy;omega
section
variable {A:AW} {lg j d mp pm ep:Nat} {q:JS} {s:DS} {Fl Fr:List Nat} {L:List DV} {W0:World} {m0:Inj Tp}
theorem Agh(hf:Aw A)(hA:A.next<Aj)(hk:∀ A',Abs.Row1 A' A.next [.map (some mp)] 72->Ah A A' []->A'.next=A.next+1->Aw A'->K (.func (.func 161) ⟨[]⟩ ⟨[pP A.next 0]⟩) A'):
  Wc Tp Al W0 m0 98 [.map (some mp)] A K:=by
 refine w98 _ _ BD ?_;rw [e98];refine AZ (cs:=[.map (some mp)]) hf hA rfl λA1 m1=>?_;exact hk A1 m1.Bk (m1.keeps hf) m1.next m1.Ay
theorem AdM (h:CM A lg j d mp pm q s Fl Fr ep L) (hu:Uq (L.map (·.d))) (hL:L.length<1000) (hf:Aw A) (hA:A.next+100000<Aj)
  (hk:∀ A' v (M:List DV) F,BF 35 3 fD A' v M F->M.map (·.d)=Bx (L.map (·.d))->(∀ y∈F,A.next<=y)->RdD A' A.next M F->Ah A A' []->A'.next<=A.next+100+30*L.length->Aw A'->K v A'):Wc Tp Al W0 m0 39 [ptr lg] A K:=by
 have hmax:Aj=1099511627776:=rfl;obtain ⟨hlg,hj,hd,hmp,hpm,hFl,hFr⟩:=h.lt;let ns:=srt ((L.map (·.d)).map Dc.x);have hns:ns.length=L.length:=by show (srt _).length=_;unfold srt;rw [List.length_mergeSort,List.length_map,List.length_map]
 have hsx:(Bx (L.map (·.d))).map Dc.x=ns:=Nx _;have hsl:(Bx (L.map (·.d))).length=L.length:=by rw [DX,List.length_map]
 let I:Nat->Nat->List Value->AW->Prop:=λg id vals A'=>id=0/\∃ (i:Nat) (sv v:Value) (Fn F:List Nat) (M:List DV),vals=[ptr lg,v,sv,.int .i64 (L.length:Int),.int .i64 (i:Int)]/\i<=L.length/\g=L.length-i/\RdE 2 Nm.cells A' sv ns Fn/\(∀ y∈Fn,A.next<=y)/\
  BF 35 3 fD A' v M F/\(∀ y∈F,A.next<=y)/\(∀ y∈Fn,y∉F)/\M.map (·.d)=(Bx (L.map (·.d))).take i/\RdD A' A.next M F/\Ah A A' []/\Aw A'/\A'.next<=A.next+50+6*L.length+10*i
 refine w39 _ _ (c39 (I:=I) ?_) ?_
 ·rintro g id vals A' dd ⟨rfl,i,sv,v,Fn,F,M,rfl,hi,rfl,hn,hFn,ho,hF,hnF,hM,hR,k,f,hx⟩ hd';rw [Afe];simp only [L39,Mc,Mn,Li,and_true] at hd';obtain ⟨h0,h3,h12,h13,h14⟩:=hd';simp only [h0,h3,h12,h13,h14,Br,Ab,Az];have hle:=k.next;have hML:M.length=i:=by
   have:=congrArg List.length hM
   rw [List.length_map,List.length_take,hsl] at this;omega
  refine ⟨λhlt=>?_,λhge=>?_⟩
  ·have hlt:i<L.length:=by omega
   have hni:ns[i]? =some (ns[i]'(by omega)):=Ge _;obtain ⟨di,hdi⟩:∃ di,(Bx (L.map (·.d)))[i]? =some di:=⟨_,Ge (by omega)⟩;have hdx:di.x=ns[i]'(by omega):=by
    have h1:((Bx (L.map (·.d))).map Dc.x)[i]? =some di.x:=by rw [List.getElem?_map,hdi];rfl
    rw [hsx,hni] at h1;exact (Option.some.inj h1).symm
   have hdm:di∈L.map (·.d):=(EZ hu).1 (List.mem_of_getElem? hdi);have hgd:getD (L.map (·.d)) di.x=some di:=Oc hu.nd hdm;obtain ⟨w,hw,hwd⟩:∃ w,DW L di.x=some w/\w.d=di:=by
    have:=Vk L di.x
    rw [hgd] at this;cases hq:DW L di.x with
    |none=>rw [hq] at this;cases this
    |some w=>rw [hq] at this;exact ⟨w,rfl,by simpa using this⟩
   have hwL:=(N1 hw).1;have hok:=hu.ok w.d (List.mem_map_of_mem hwL);have hps:1<=w.d.ps.length:=(GQ.1 hok.2).2.2.1;have hps8:w.d.ps.length<=8:=(GQ.1 hok.2).2.2.2.1;obtain ⟨r,o,a1,a2,a3⟩:=hn.at etN hni;rw [a1];simp only [Ab,a3];refine AH IE f (by omega) rfl λA1 m1=>?_;have n1:=m1.next;have k1:=m1.keeps f;refine U6 (p:=ns[i]'(by omega)) m1.Bk rfl m1.Ay (by omega) λA2 h2 k2 n2 f2=>?_;have K2:Ah A' A2 []:=k1.trans k2 (by simp);refine AH zD f2 (by omega) rfl λA3 m3=>?_;have n3:=m3.next;have k3:=m3.keeps f2;refine GN m3.row ?_;have K3:Ah A' A3 []:=K2.trans k3 (by simp);have H3:=h.keeps (k.trans K3 (by simp)) (by simp);have h3':=h2.keeps k3 (by simp);simp only [ptr,AD,Hb,Lu,Af H3.row.row,cellOf,Bp,AI,AB,Cf,Ab,Nat.zero_add];rw [I3 h3'];simp only [Ab];have hkn:(Value.agg ⟨(ns[i]'(by omega)).cells⟩)=kN di.x:=by rw [hdx];rfl
   rw [hkn,H3.look di.x false];simp only [Cf,Ab];have hlt':N0 L di.x=Fh w.d.f w.d.g w.d.b w.sv:=by unfold N0;rw [hw];rfl
   rw [hlt'];refine DR m3.Bk rfl rfl m3.Ay (by omega) λA4 t4 k4 n4 f4=>?_;have K4:Ah A' A4 []:=K3.trans k4 (by simp;omega);have t4:Abs.Row1 A4 A2.next (fD w) 35:=t4;simp only [E4,I5,Af t4.row,fD,By,cellOf,DV.sv,CG,Cf,Ab,Nat.zero_add];obtain ⟨G,g1,g2⟩:=h.rd w hwL;have g4:C4 A4 w.sv w.d.ps G:=g1.keeps (k.trans K4 (by simp)) (by simp);refine AdH (l:=w.d.ps) g4 hps f4 (by omega) (by omega) λA5 o5 c5 G5 p5 hG5 gr5=>?_;have n5:=gr5.next;have l5:=gr5.le;have K5:Ah A' A5 []:=K4.trans gr5.keeps (by simp);have t5:=t4.keeps gr5.keeps (by simp);refine t5.store gr5.Ay (by omega) (XQ _ _ _) rfl (by show 3+1<=4;omega) rfl λA6 t6 k6 n6 f6=>?_;have t6:Abs.Row1 A6 A2.next (fD ⟨w.d,o5,c5⟩) 35:=t6;have k6:Ah A5 A6 [A2.next]:=k6;have K6:Ah A' A6 []:=K5.trans k6 (by simp;omega);rw [Ky t6];simp only [Ab];refine Sk f6 (by omega) λA7 m7=>?_;have n7:=m7.next;have k7:=m7.keeps f6;have K7:Ah A' A7 []:=K6.trans k7 (by simp);have ho7:=ho.keeps K7 (by simp);refine BF.append etD ho7 m7.Bk m7.Ay (by omega) (by omega) λv8 A8 F8 o8 k8 hF8 n8 f8=>?_;simp only [Bm,Ab];rw [wrap_i64 (by omega) (by omega)];have hFl:∀ y∈F,y<A'.next:=ho.lt;have K8:Ah A' A8 F:=(K7.more (by simp)).trans k8 (λy hy=>.inl hy);have hF8':∀ y∈F8,y∈F\/A'.next<=y:=λy hy=>by
    rcases hF8 y hy with h | h
    ·exact .inl h
    ·exact .inr (by omega)
   have hp8:C4 A8 (DV.sv ⟨w.d,o5,c5⟩) w.d.ps G5:=by
    have:=(p5.keeps k6 (λy hy=>by have:=hG5 y hy;simp;omega)).keeps k7 (by simp)
    exact this.keeps k8 λy hy hm=>by have:=hG5 y hy;have:=hFl y hm;omega
   have hG5lt:∀ y∈G5,y<A5.next:=p5.fam (A0:=A5);refine Au.2 ⟨L.length-(i+1),by omega,rfl,i+1,sv,v8,Fn,F8,M++[⟨w.d,o5,c5⟩],rfl,by omega,rfl,hn.keeps K8 hnF,hFn,o8,?_,?_,?_,?_,?_,f8,by omega⟩
   ·intro y hy;rcases hF8' y hy with h | h
    ·exact hF y h
    ·omega
   ·intro y hy hm
    have:=hn.fam y hy
    rcases hF8' y hm with h | h
    ·exact hnF y hy h
    ·omega
   ·rw [List.map_append,hM,B9 hdi];show _++[w.d]=_;rw [hwd]
   ·intro z hz;rcases Mz.1 hz with hz | hz
    ·exact (hR.keeps K8 (λy hy=>.inl hy) hF8') z hz
    ·obtain rfl:=Ms.1 hz;refine ⟨G5,hp8,λy hy=>⟨by have:=hG5 y hy;omega,λhm=>?_⟩⟩
     have:=hG5 y hy
     have:=hG5lt y hy
     rcases hF8 y hm with h | h
     ·have:=hFl y h;omega
     ·omega
   ·exact k.trans K8 λy hy=>.inr (hF y hy)
  ·have hi':i=L.length:=by omega
   subst hi';rw [List.take_of_length_le (by omega)] at hM;exact hk A' v M F ho hM hF hR k (by omega) f
 ·rw [e39];simp only [ptr,AD,Hb,Lu,Af h.row.row,cellOf,Bp,AI,AB,Cf,Ab,Nat.zero_add];refine Agh hf (by omega) λA1 r1 k1 n1 f1=>?_;obtain ⟨es,c,ho,he,hx⟩:=h.mo;have hel:es.length=L.length:=by have:=congrArg List.length he;rw [List.length_map] at this;exact this
  refine Agi r1 (ho.keeps k1 (by simp)) f1 (by omega) (by omega) λA2 sv F vs o2 hp hF k2 n2 f2=>?_;have hek:es.map En.k=(L.map (·.d)).map Dc.x:=by
   rw [<- he,List.map_map,List.map_map];exact List.map_congr_left λe hm=>hx e hm
  have hs:srt (vs.map En.k)=ns:=by
   show _=srt ((L.map (·.d)).map Dc.x);rw [<- hek];refine XR (hp.map _) ?_;rw [hek];exact hu.nd
  rw [hs] at o2;have hrd:RdE 2 Nm.cells A2 sv ns F:=BF.rd (λ_=>rfl) o2;rw [RdE.len etN hrd];simp only [Ab];rw [hns];exact Au.2 ⟨L.length,rfl,0,sv,.slice none 0 0,F,[],[],rfl,Nat.zero_le _,rfl,hrd,λy hy=>by have:=hF y hy;omega,.nil _,by simp,by simp,by simp,λw hw=>(by cases hw),k1.trans k2 (by simp),f2,by omega⟩
end
section
variable {A:AW} {lg j d mp pm ep:Nat} {q:JS} {s:DS} {Fl Fr:List Nat} {L:List DV} {W0:World} {m0:Inj Tp}
theorem WB{M:List DV}{i:Nat}{w:DV}(h:M[i]? =some w):((M.map (·.d)).take (i+1)).flatMap Dc.by=((M.map (·.d)).take i).flatMap Dc.by++w.d.by:=by
 have h':(M.map (·.d))[i]? =some w.d:=by rw [List.getElem?_map,h];rfl
 rw [B9 h',List.flatMap_append]
 simp
theorem AdN {K:Value->AW->Prop} (h:CM A lg j d mp pm q s Fl Fr ep L) (hu:Uq (L.map (·.d))) (hL:L.length<=43) (hep:ep<4294967296) (hf:Aw A) (hA:A.next+200000<Aj)
  (hk:∀ A',Grow A A' 50000->K (.string ⟨⟨stB ep (Bx (L.map (·.d)))⟩⟩) A'):Wc Tp Al W0 m0 35 [ptr lg] A K:=by
 have hmax:Aj=1099511627776:=rfl;have hroom:room=68719476736:=rfl;have hsl:(Bx (L.map (·.d))).length=L.length:=by rw [DX,List.length_map]
 have hB0:∀ i,((Bx (L.map (·.d))).take i |>.flatMap Dc.by).length<=1151*i:=λi=>by
  have h1:=Lw (l:=(Bx (L.map (·.d))).take i) λx hx=>(FH hu).ok x (List.mem_of_mem_take hx);have h2:((Bx (L.map (·.d))).take i).length<=i:=by rw [List.length_take];omega
  have:=Nat.mul_le_mul_left 1151 h2
  omega
 let I:Nat->Nat->List Value->AW->Prop:=λg id vals A'=>id=0/\∃ (i:Nat) (bv v:Value) (M:List DV) (F Fb:List Nat),vals=[bv,v,.int .i64 (L.length:Int),.int .i64 (i:Int)]/\i<=L.length/\g=L.length-i/\
  BF 35 3 fD A' v M F/\M.map (·.d)=Bx (L.map (·.d))/\(∀ y∈F,A.next<=y/\y∉Fb)/\(∀ w∈M,∃ G,C4 A' w.sv w.d.ps G/\∀ y∈G,A.next<=y/\y∉Fb)/\Buf 5 A' bv (be ep 4++be L.length 2++((M.map (·.d)).take i).flatMap Dc.by) Fb/\(∀ y∈Fb,A.next<=y)/\Ah A A' []/\Aw A'/\A'.next<=A.next+2000+500*i
 refine w35 _ _ (c35 (I:=I) ?_) ?_
 ·rintro g id vals A' dd ⟨rfl,i,bv,v,M,F,Fb,rfl,hi,rfl,ho,hM,hF,hG,hb,hFb,k,f,hx⟩ hd';rw [Aff];simp only [L35,Mc,Mn,Li,and_true] at hd';obtain ⟨h4,h19,h20,h21⟩:=hd';simp only [h4,h19,h20,h21,Br,Ab,Az];have hle:=k.next;have hML:M.length=L.length:=by
   have:=congrArg List.length hM
   rwa [List.length_map,hsl] at this
  refine ⟨λhlt=>?_,λhge=>?_⟩
  ·have hlt:i<L.length:=by omega
   obtain ⟨w,hw⟩:∃ w,M[i]? =some w:=⟨_,Ge (by omega)⟩;have hwm:w∈M:=List.mem_of_getElem? hw;have hok:w.d.ok:=(FH hu).ok w.d (by rw [<- hM];exact List.mem_map_of_mem hwm);have hrd:RdE 3 fD A' v M F:=ho.rd (λ_=>rfl);obtain ⟨r,o,a1,a2,a3⟩:=hrd.at etD hw;rw [a1];simp only [Ab,a3];refine AH zD f (by omega) rfl λA1 m1=>?_;have n1:=m1.next;have k1:=m1.keeps f;have hvd:(Value.agg ⟨fD w⟩)=Fh w.d.f w.d.g w.d.b w.sv:=rfl;rw [hvd];refine DR m1.Bk rfl rfl m1.Ay (by omega) λA2 t2 k2 n2 f2=>?_;have K2:Ah A' A2 []:=k1.trans k2 (by simp);have t2:Abs.Row1 A2 A'.next (fD w) 35:=t2;rw [Ky t2];simp only [Ab];obtain ⟨G,g1,g2⟩:=hG w hwm;refine AdI (l:=w.d.ps) f2 (by omega) (g1.keeps K2 (by simp)) hok.1.1 hok.1.2 hok.2 λA3 v3 F3 gr3 b3 hF3=>?_;have n3:=gr3.next;have l3:=gr3.le;have hdl:=hok.len;have hbl:=hB0 i;rw [<- hM] at hbl;have hb3:Buf 5 A3 v3 w.d.by F3:=b3
   have K3:Ah A' A3 []:=K2.trans gr3.keeps (by simp);refine DO tb (hb.keeps K3 (by simp)) (D9 tb hb3.rd) gr3.Ay (by omega) (by rw [Lq,Lq,BW,BW];omega) λv4 A4 F4 b4 k4 hF4 n4 f4=>?_;rw [Bm,wrap_i64 (by omega) (by omega)];simp only [Ab];have K4:Ah A' A4 Fb:=(K3.more (by simp)).trans k4 (λy hy=>.inl hy);have hFlt:∀ y∈F,y<A'.next:=ho.lt;refine Au.2 ⟨L.length-(i+1),by omega,rfl,i+1,v4,v,M,F,F4,rfl,by omega,rfl,ho.keeps K4 (λy hy=>(hF y hy).2),hM,λy hy=>⟨(hF y hy).1,λhm=>?_⟩,λz hz=>?_,?_,λy hy=>?_,?_,f4,by omega⟩
   ·rcases hF4 y hm with h | h
    ·exact (hF y hy).2 h
    ·have:=hFlt y hy;omega
   ·obtain ⟨G',p1,p2⟩:=hG z hz;have hl:∀ y∈G',y<A'.next:=p1.fam (A0:=A');refine ⟨G',p1.keeps K4 (λy hy=>(p2 y hy).2),λy hy=>⟨(p2 y hy).1,λhm=>?_⟩⟩;rcases hF4 y hm with h | h
    ·exact (p2 y hy).2 h
    ·have:=hl y hy;omega
   ·rw [WB hw,<- Mw];exact b4
   ·rcases hF4 y hy with h | h
    ·exact hFb y h
    ·omega
   ·exact k.trans K4 λy hy=>.inr (hFb y hy)
  ·have hi':i=L.length:=by omega
   subst hi';rw [List.take_of_length_le (by rw [List.length_map];omega),hM] at hb;rw [hb.rd.str tb];refine AT.2 ?_
   have:=hk A' ⟨k,f,by omega⟩
   unfold stB at this;rw [hsl] at this;exact this
 ·rw [e35];refine AdM h hu (by omega) hf (by omega) λA1 v M F ho hM hF hR k1 n1 f1=>?_;have h1:=h.keeps k1 (by simp);have hrd:RdE 3 fD A1 v M F:=ho.rd (λ_=>rfl);have hML:M.length=L.length:=by
   have:=congrArg List.length hM
   rwa [List.length_map,hsl] at this
  simp only [ptr,AD,LA,N5,Af h1.row.row,cellOf,Bp,AI,AB,Cf,Ab,Nat.zero_add,Qb,AT];rw [wrap_u64 (by omega) (by omega)];refine ZQ (n:=ep) (w:=4) f1 (by omega) (Buf.nil 5 _).rd (by simp) (by omega) λA2 v2 F2 g2 b2 hF2=>?_;have n2:=g2.next;have l2:=g2.le;have l1:=k1.next;have hrd2:RdE 3 fD A2 v M F:=hrd.keeps g2.keeps (by simp);rw [RdE.len etD hrd2];simp only [Ab,HP,AT];rw [wrap_u64 (by omega) (by omega),hML];rw [List.nil_append] at b2;refine ZQ (n:=L.length) (w:=2) g2.Ay (by omega) b2.rd (by rw [BW];omega) (by omega) λA3 v3 F3 g3 b3 hF3=>?_;have n3:=g3.next;have l3:=g3.le;have hrd3:RdE 3 fD A3 v M F:=hrd2.keeps g3.keeps (by simp);rw [RdE.len etD hrd3];simp only [Ab];rw [hML];have K3:Ah A1 A3 []:=g2.keeps.trans g3.keeps (by simp);have hFlt:∀ y∈F,y<A1.next:=ho.lt;refine Au.2 ⟨L.length,rfl,0,v3,v,M,F,F3,rfl,Nat.zero_le _,rfl,ho.keeps K3 (by simp),hM,λy hy=>⟨hF y hy,λhm=>by have:=hF3 y hm;have:=hFlt y hy;omega⟩,λz hz=>?_,by simpa using b3,λy hy=>by have:=hF3 y hy;omega,k1.trans K3 (by simp),g3.Ay,by omega⟩;obtain ⟨G',p1,p2⟩:=hR z hz;have hl:∀ y∈G',y<A1.next:=p1.fam (A0:=A1);exact ⟨G',p1.keeps K3 (by simp),λy hy=>⟨(p2 y hy).1,λhm=>by have:=hF3 y hm;have:=hl y hy;omega⟩⟩
end
variable {S S' X T:List Nat} {A':AW} {e:Nat} {K:Value->AW->Prop}
theorem EM.both{A:AW}{v:DV}(h:EM A v S)(k:EM A v S'):EM A v (S++S'):=by
 obtain ⟨F,h1,h2⟩:=h;obtain ⟨G,k1,k2⟩:=k;rcases h1 with ⟨h0,rfl,hx⟩ | ⟨r,o,c,cs,e,f,b,ro,hv,hr,hlt,rfl,hc⟩
 ·exact ⟨[],.inl ⟨h0,rfl,hx⟩,by simp⟩
 ·rcases k1 with ⟨k0,rfl,kx⟩ | ⟨r',o',c',cs',e',f',b',ro',kv,kr,klt,rfl,kc⟩
  ·exact ⟨[],.inl ⟨k0,rfl,kx⟩,by simp⟩
  ·rw [hv] at kv;simp only [Value.slice.injEq,Oi,Addr.mk.injEq,and_true] at kv;obtain ⟨⟨rfl,rfl⟩,-⟩:=kv;rw [hr] at kr;simp only [Oi,AO.row.injEq] at kr;obtain ⟨-,-,rfl,-⟩:=kr;refine ⟨[f],.inr ⟨r,o,c,cs,e,f,b,ro,hv,hr,hlt,rfl,hc⟩,λy hy hm=>?_⟩;rcases Mz.1 hm with h | h
   ·exact h2 y hy h
   ·exact k2 y hy h
theorem EM.mono{A:AW}{v:DV}(h:EM A v S)(hs:∀ y∈S',y∈S):EM A v S':=by
 obtain ⟨F,h1,h2⟩:=h;exact ⟨F,h1,λy hy hm=>h2 y hy (hs y hm)⟩
theorem EM.Ma{A:AW}{v:DV}(h:EM A v S)(hx:EM A v X)(k:Ah A A' T)(hT:∀ y∈T,y∈S\/y∈X\/A.next<=y):EM A' v S:=
 ((h.both hx).keeps k λy hy=>by
  rcases hT y hy with h | h | h
  ·exact .inl (List.mem_append_left _ h)
  ·exact .inl (List.mem_append_right _ h)
  ·exact .inr h).mono λy hy=>List.mem_append_left _ hy
section
variable {A:AW} {lg j d mp pm ep:Nat} {q:JS} {s:DS} {Fl Fr:List Nat} {L:List DV} {W0:World} {m0:Inj Tp}
theorem CM.Ma(h:CM A lg j d mp pm q s Fl Fr ep L)(k:Ah A A' T)(hT:∀ y∈T,y∈X\/A.next<=y)(hX:∀ y∈X,y∉lg::j::d::mp::pm::1::(Fl++Fr))(hp:∀ w∈L,EM A w X):CM A' lg j d mp pm q s Fl Fr ep L:=by
 obtain ⟨hlg,hj,hd,hmp,hpm,hFl,hFr⟩:=h.lt;have no:∀ {x:Nat},x<A.next->x∈lg::j::d::mp::pm::1::(Fl++Fr)->x∉T:=λhx hm ht=>by
  rcases hT _ ht with h | h
  ·exact hX _ h hm
  ·omega
 obtain ⟨es,c,ho,he,hx⟩:=h.mo;exact ⟨h.row.keeps k (no hlg (by simp)),h.jd.keeps k (no hj (by simp)) (no hd (by simp)) (no hmp (by simp)) (λx hx=>no (hFl x hx) (by simp [hx])) (λx hx=>no (hFr x hx) (by simp [hx])),⟨es,c,ho.keeps k (no hpm (by simp)),he,hx⟩,
  λv hv=>(h.rd v hv).Ma (hp v hv) k λy hy=>.inr (hT y hy),h.ne,h.nf,h.n1⟩
theorem CM.AbJ(h:CM A lg j d mp pm q s Fl Fr ep L)(k:Ah A A' [lg])(hr:Abs.Row1 A' lg [ptr j,.int .u32 (e:Int),.map (some pm)] 74):CM A' lg j d mp pm q s Fl Fr e L:=by
 obtain ⟨a1,a2,a3,a4,a5,a6,a7⟩:=h.ne;obtain ⟨es,c,ho,he,hx⟩:=h.mo;refine ⟨hr,h.jd.keeps k (by simp;exact a1.symm) (by simp;exact a2.symm) (by simp;exact a3.symm) (λx hx=>?_) (λx hx=>?_),⟨es,c,ho.keeps k (by simp;exact a4.symm),he,hx⟩,λv hv=>(h.rd v hv).keeps k (by simp),h.ne,h.nf,h.n1⟩
 ·have:=(h.nf x (List.mem_append_left _ hx)).1;simpa using this
 ·have:=(h.nf x (List.mem_append_right _ hx)).1;simpa using this
theorem Ab5(hk:K (.bool true) A):Wc Tp Al W0 m0 28 [ptr lg,.string ⟨⟨[]⟩⟩] A K:=by
 refine w28 _ _ _ BD ?_;rw [e28];simp only [FA,Ab];exact Ag.2 ⟨λ_=>hk,λh=>(by cases h)⟩
theorem Af1(e:Nat)(l:List Dc):stB e l≠[]:=by
 intro h
 have:=congrArg List.length h
 unfold stB at this;rw [Lq,Lq,BW,BW] at this;simp at this
theorem Agy {L0:List Dc} (h:CM A lg j d mp pm q s Fl Fr ep []) (hu:Uq L0) (hL:L0.length<=43) (he1:1<=e) (he2:e<=1000) (hf:Aw A) (hA:A.next+1000000<Aj)
  (hk:∀ A' (M:List DV),CM A' lg j d mp pm q s Fl Fr e M->M.map (·.d)=Bx L0->Ah A A' [lg,pm]->A'.next<=A.next+500000->Aw A'->K (.bool true) A'):
  Wc Tp Al W0 m0 28 [ptr lg,.string ⟨⟨stB e (Bx L0)⟩⟩] A K:=by
 have hmax:Aj=1099511627776:=rfl;obtain ⟨hlg,hj,hd,hmp,hpm,hFl,hFr⟩:=h.lt;have hsl:(Bx L0).length=L0.length:=DX;have hus:=FH hu;have hlen:∀ i,(((Bx L0).drop i).flatMap Dc.by).length<=1151*43:=λi=>by
  have h1:=Lw (l:=(Bx L0).drop i) λx hx=>hus.ok x (List.mem_of_mem_drop hx);have h2:((Bx L0).drop i).length<=43:=by rw [List.length_drop];omega
  have:=Nat.mul_le_mul_left 1151 h2
  omega
 let I:Nat->Nat->List Value->AW->Prop:=λg id vals A'=>id=0/\∃ (i r v:Nat) (F:List Nat) (M:List DV),vals=[ptr lg,.string ⟨⟨stB e (Bx L0)⟩⟩,pP r 0,.int .u64 ((L0.length-i:Nat):Int)]/\i<=L0.length/\g=L0.length-i/\
  OR A' r v (((Bx L0).drop i).flatMap Dc.by) false F/\A.next<=r/\A.next<=v/\(∀ y∈F,A.next<=y)/\CM A' lg j d mp pm q s Fl Fr e M/\M.map (·.d)=(Bx L0).take i/\(∀ w∈M,EM A' w [v])/\Ah A A' [lg,pm]/\Aw A'/\A'.next<=A.next+1000+6000*i
 have hprot:∀ v,A.next<=v->∀ y∈[v],y∉lg::j::d::mp::pm::1::(Fl++Fr):=by
  intro v hv y hy hm;rw [Ms.1 hy] at hm;have h1:(1:Nat)<A.next:=by have:=h.ne.1;omega
  simp only [Mk,Mz] at hm;rcases hm with h | h | h | h | h | h | h | h
  ·omega
  ·omega
  ·omega
  ·omega
  ·omega
  ·omega
  ·have:=hFl _ h;omega
  ·have:=hFr _ h;omega
 refine w28 _ _ _ (c28 (I:=I) ?_) ?_
 ·rintro g id vals A' dd ⟨rfl,i,r,v,F,M,rfl,hi,rfl,hor,hr,hv,hF,H,hM,hP,k,f,hx⟩ hd';rw [Afh];simp only [L28,Mc,Mn,Li,and_true] at hd';obtain ⟨h0,h1,h5,h6⟩:=hd';simp only [h0,h1,h5,h6,B3,Ab,Az];have hle:=k.next;have hML:M.length=i:=by
   have:=congrArg List.length hM
   rw [List.length_map,List.length_take,hsl] at this;omega
  refine ⟨λhlt=>?_,λhge=>?_⟩
  ·have hlt:i<L0.length:=by omega
   obtain ⟨di,hdi⟩:∃ di,(Bx L0)[i]? =some di:=⟨_,Ge (by omega)⟩;have hdrop:(Bx L0).drop i=di::(Bx L0).drop (i+1):=by
    obtain ⟨h1,h2⟩:=Gs.1 hdi;rw [List.drop_eq_getElem_cons h1,h2]
   have hok:di.ok:=hus.ok di (List.mem_of_getElem? hdi);have hb:((Bx L0).drop i).flatMap Dc.by=di.by++((Bx L0).drop (i+1)).flatMap Dc.by:=by rw [hdrop,List.flatMap_cons]
   obtain ⟨e1,e2,e3,e4,e5,e6⟩:=Zf hok (((Bx L0).drop (i+1)).flatMap Dc.by);have hln:=hlen i;rw [hb] at hor hln;refine AdC (s:=(di.by++((Bx L0).drop (i+1)).flatMap Dc.by,false)) hor f (by omega) (by simp only;omega) λA1 sv Fp F1 o1 p1 hp1 k1 n1 f1 hF1 _=>?_;rw [e1,e2,e3,Fe,Fe,e6];rw [e4] at p1;rw [e5] at o1;have l1:=k1.next;obtain ⟨so,sc,rfl⟩:=p1.slc;simp only [Ap,List.getElem?_cons_zero,List.getElem?_cons_succ,Ab];refine AH zD f1 (by omega) rfl λA2 m2=>?_;have n2:=m2.next;have k2:=m2.keeps f1;refine DR m2.Bk rfl rfl m2.Ay (by omega) λA3 t3 k3 n3 f3=>?_;have t3:Abs.Row1 A3 A1.next (fD ⟨di,so,sc⟩) 35:=t3;have K3:Ah A' A3 [v]:=(k1.trans k2 (by simp)).trans k3 (by simp;omega);simp only [Bl,Ab];refine Ag.2 ⟨λh=>by simp at h,λ_=>?_⟩;rw [Ky t3];simp only [Ab];have H3:=H.Ma K3 (λy hy=>.inl hy) (hprot v hv) hP;have hvA:v<A'.next:=by obtain ⟨bs,h1,_⟩:=hor.ex;exact h1.lt
   have hpl:∀ y∈Fp,y<A1.next:=p1.fam (A0:=A1);have hnew:DW M di.x=none:=by
    rw [Kw,hM];intro hm;obtain ⟨z,hz,hzx⟩:=List.mem_map.1 hm;obtain ⟨kk,hkk⟩:=List.mem_iff_getElem?.1 hz;have hk1:=(Gs.1 hkk).1;rw [List.length_take] at hk1;rw [List.getElem?_take] at hkk;rw [if_pos (by omega)] at hkk;have hnd:=hus.nd;have h1:((Bx L0).map Dc.x)[kk]? =some z.x:=by rw [List.getElem?_map,hkk];rfl
    have h2:((Bx L0).map Dc.x)[i]? =some di.x:=by rw [List.getElem?_map,hdi];rfl
    have:=(List.getElem?_inj (by rw [List.length_map];omega) hnd).1 (h1.trans (by rw [h2,hzx]))
    omega
   have hpt:∀ S:List Nat,(∀ y∈S,y<A'.next)->EM A3 ⟨di,so,sc⟩ S:=λS hS=>by
    refine ⟨Fp,(p1.keeps k2 (by simp)).keeps k3 (λy hy=>by have:=hpl y hy;simp;omega),λy hy hm=>?_⟩
    have:=hp1 y hy
    have:=hS y hm
    omega
   refine Ab2 (v:=⟨di,so,sc⟩) H3 hnew (hpt _ λy hy=>?_) f3 (by omega) λA4 H4 k4 n4 f4=>?_
   ·have h1:(1:Nat)<A'.next:=by have:=h.ne.1;omega
    simp only [Mk,Mz] at hy;rcases hy with h | h | h | h | h | h | h | h
    ·omega
    ·omega
    ·omega
    ·omega
    ·omega
    ·omega
    ·have:=hFl _ h;omega
    ·have:=hFr _ h;omega
   simp only [Bl,Ab];refine Ag.2 ⟨λh=>by simp at h,λ_=>?_⟩;rw [Db,wrap_u64 (by omega) (by omega)];simp only [Ab];have hvpm:v≠pm:=by omega
   have K4:Ah A' A4 [v,pm]:=(K3.more (by simp)).trans k4 (by simp);refine Au.2 ⟨L0.length-(i+1),by omega,rfl,i+1,r,v,F1,M++[⟨di,so,sc⟩],?_,by omega,rfl,?_,hr,hv,λy hy=>hF y (hF1 y hy),H4,?_,?_,?_,f4,by omega⟩
   ·have:((L0.length-i:Nat):Int)-1=((L0.length-(i+1):Nat):Int):=by omega
    rw [this]
   ·have ho:=o1.keeps k2 (by simp) (by simp) (by simp);have hrA:r<A1.next:=o1.rr.lt;have hF1l:∀ y∈F1,y<A1.next:=by obtain ⟨bs,_,h2⟩:=o1.ex;exact h2.rd.lt
    refine (ho.keeps k3 (by simp;omega) (by simp;omega) (λy hy=>by have:=hF1l y hy;simp;omega)).keeps k4 (by simp;omega) (by simp;omega) (λy hy=>by have:=hF y (hF1 y hy);simp;omega)
   ·rw [List.map_append,hM,B9 hdi];rfl
   ·intro z hz;rcases Mz.1 hz with hz | hz
    ·have h1:EM A3 z [v]:=(hP z hz).keeps K3 (λy hy=>.inl hy);exact h1.Ma (X:=[pm]) ((H3.rd z hz).mono (by simp)) k4 (λy hy=>.inr (.inl hy))
    ·rw [Ms.1 hz];have h1:=hpt [v,pm] λy hy=>by
      rcases Mk.1 hy with rfl | hy
      ·exact hvA
      ·rw [Ms.1 hy];omega
     exact (h1.keeps k4 (by simp)).mono (by simp)
   ·exact k.trans K4 λy hy=>by
     rcases Mk.1 hy with rfl | hy
     ·exact .inr hv
     ·rw [Ms.1 hy];exact .inl (by simp)
  ·have hi':i=L0.length:=by omega
   subst hi';rw [List.take_of_length_le (by omega)] at hM;refine VN hor ?_;simp only [Bl,Ab];refine Ag.2 ⟨λ_=>?_,λh=>by simp at h⟩;simp only [ptr,AD,LA,N5,Af H.row.row,cellOf,Bp,AI,AB,Cf,Ab,Nat.zero_add,JR,Rk,Az];refine ⟨λ_=>⟨λ_=>?_,λh=>absurd (by omega) h⟩,λh=>absurd (by omega) h⟩;refine AdN H (by rw [hM];exact hus) (by rw [hML];omega) (by omega) f (by omega) λA1 g1=>?_;have n1:=g1.next;rw [hM,VT hu];simp only [FA,Ab,BEq.rfl];exact hk A1 M (H.keeps g1.keeps (by simp)) hM (k.trans g1.keeps (by simp)) (by omega) g1.Ay
 ·rw [e28];simp only [FA,Ab];refine Ag.2 ⟨λhb=>absurd (by simpa using hb) (Af1 e (Bx L0)),λ_=>?_⟩;refine KI (s:=⟨⟨stB e (Bx L0)⟩⟩) hf (by omega) λA1 g1 s1=>?_;have n1:=g1.next;have l1:=g1.le;have hstl:=KT (ep:=e) hus.ok;have hsl0:(stB e (Bx L0)).length<=50000:=by rw [hsl] at hstl;omega
  refine ZS s1 g1.Ay (by omega) (by show (stB e (Bx L0)).length<1000000;omega) λA2 r v F2 g2 o2 hr2 hv2 hF2=>?_;have n2:=g2.next;have l2:=g2.le;have o2:OR A2 r v (stB e (Bx L0)) false F2:=o2;have hst:stB e (Bx L0)=be e 4++(be L0.length 2++(Bx L0).flatMap Dc.by):=by unfold stB;rw [hsl,Mw]
  have hn1:nm 4 (stB e (Bx L0),false)=(e,(be L0.length 2++(Bx L0).flatMap Dc.by,false)):=by rw [hst];exact L2 (by omega) _
  have hn2:nm 2 (be L0.length 2++(Bx L0).flatMap Dc.by,false)=(L0.length,((Bx L0).flatMap Dc.by,false)):=L2 (by omega) _;refine Ry (w:=4) (s:=(stB e (Bx L0),false)) o2 g2.Ay (by omega) (by simp only;omega) (by omega) λA3 F3 o3 k3 n3 f3 hF3=>?_;rw [hn1] at o3 ⊢;have l3:=k3.next;simp only [Mi,AT];rw [wrap_u32 (by omega)];have K2:Ah A A2 []:=g1.keeps.trans g2.keeps (by simp);have K3:Ah A A3 []:=K2.trans k3 (by simp;omega);have H3:=h.keeps K3 (by simp);have hvA:v<A2.next:=by obtain ⟨bs,h1,_⟩:=o2.ex;exact h1.lt
  have hrA:r<A2.next:=o2.rr.lt;simp only [ptr,AD,LA,Ab,Nat.zero_add];refine H3.row.store f3 (by omega) (Abq _ _ _) rfl (by show 1+1<=3;omega) rfl λA4 r4 k4 n4 f4=>?_;have r4:Abs.Row1 A4 lg [ptr j,.int .u32 (e:Int),.map (some pm)] 74:=r4;have k4:Ah A3 A4 [lg]:=k4;have H4:=H3.AbJ k4 r4;have o4:=o3.keeps k4 (by simp;omega) (by simp;omega) (λy hy=>by have:=hF2 y (hF3 y hy);simp;omega);refine Ry (w:=2) (s:=(be L0.length 2++(Bx L0).flatMap Dc.by,false)) o4 f4 (by omega) (by rw [hst] at hsl0;simp only [Lq,BW] at hsl0 ⊢;omega) (by omega) λA5 F5 o5 k5 n5 f5 hF5=>?_;rw [hn2] at o5 ⊢;have l5:=k5.next;have K4:Ah A A4 [lg]:=(K3.more (by simp)).trans k4 (λy hy=>.inl hy);have K5:Ah A A5 [lg,pm]:=(K4.more (by simp)).trans k5 (by simp;omega);have H5:=H4.Ma (X:=[v]) k5 (λy hy=>.inl hy) (hprot v (by omega)) (by simp);exact Au.2 ⟨L0.length,rfl,0,r,v,F5,[],by simp [ptr],Nat.zero_le _,rfl,by simpa using o5,by omega,by omega,λy hy=>by have:=hF2 y (hF3 y (hF5 y hy));omega,H5,by simp,by simp,K5,f5,by omega⟩
end
variable {K:Value->AW->Prop}
section
variable {A:AW} {lg j d mp pm ep:Nat} {q:JS} {s:DS} {Fl Fr:List Nat} {L:List DV} {W0:World} {m0:Inj Tp}
theorem CM.Sb(h:CM A lg j d mp pm q s Fl Fr ep L):∀ y∈lg::j::d::mp::pm::1::(Fl++Fr),y<A.next:=by
 obtain ⟨hlg,hj,hd,hmp,hpm,hFl,hFr⟩:=h.lt;intro y hy
 have:=h.ne.1
 simp only [Mk,Mz] at hy;rcases hy with h | h | h | h | h | h | h | h
 ·omega
 ·omega
 ·omega
 ·omega
 ·omega
 ·omega
 ·exact hFl _ h
 ·exact hFr _ h
theorem Agw {dc:Dc} (h:CM A lg j d mp pm q s Fl Fr ep L) (hok:dc.ok) (hn:DW L dc.x=none) (hf:Aw A) (hA:A.next+8000<Aj)
  (hk:∀ A' v,v.d=dc->CM A' lg j d mp pm q s Fl Fr ep (L++[v])->Ah A A' [pm]->A'.next<=A.next+6100->Aw A'->K (.bool true) A'):Wc Tp Al W0 m0 30 [ptr lg,.string ⟨⟨dc.by⟩⟩] A K:=by
 have hpr:=h.Sb;have hlen:=hok.len;obtain ⟨e1,e2,e3,e4,e5,e6⟩:=Adk hok;refine w30 _ _ _ BD ?_;rw [e30];refine Agm (s:=⟨⟨dc.by⟩⟩) hf (by omega) (by show dc.by.length<1000000;omega) λA1 sv Fp p1 hp1 k1 n1 f1=>?_;have p1:C4 A1 sv (gPs dc.by) Fp:=p1;rw [e5] at p1;have l1:=k1.next;obtain ⟨so,sc,rfl⟩:=p1.slc;simp only [e2,e3,e4,e6,Fe,Ap,List.getElem?_cons_zero,List.getElem?_cons_succ,Ab];refine AH zD f1 (by omega) rfl λA2 m2=>?_;have n2:=m2.next;have k2:=m2.keeps f1;refine DR m2.Bk rfl rfl m2.Ay (by omega) λA3 t3 k3 n3 f3=>?_;have t3:Abs.Row1 A3 A1.next (fD ⟨dc,so,sc⟩) 35:=t3;have K3:Ah A A3 []:=(k1.trans k2 (by simp)).trans k3 (by simp;omega);simp only [B8,Ab];refine Ag.2 ⟨λ_=>?_,λh=>by simp at h⟩;rw [Ky t3];simp only [Ab];have hpl:∀ y∈Fp,y<A1.next:=p1.fam (A0:=A1);refine Ab2 (v:=⟨dc,so,sc⟩) (h.keeps K3 (by simp)) hn ⟨Fp,(p1.keeps k2 (by simp)).keeps k3 (λy hy=>by have:=hpl y hy;simp;omega),λy hy hm=>by have:=hp1 y hy;have:=hpr y hm;omega⟩ f3 (by omega) λA4 H4 k4 n4 f4=>?_;exact hk A4 _ rfl H4 ((K3.more (by simp)).trans k4 (λy hy=>.inl hy)) (by omega) f4
theorem Agv {x:Nm} (h:CM A lg j d mp pm q s Fl Fr ep L) (hx:DQ x.g x.b=0) (hfx:x.f<4294967296) (hn:(DW L x).isSome=true) (hf:Aw A) (hA:A.next+100<Aj)
  (hk:∀ A',CM A' lg j d mp pm q s Fl Fr ep (L.filter λv=>!CL x v.d.x)->Ah A A' [pm]->A'.next<=A.next+60->Aw A'->K (.bool true) A'):Wc Tp Al W0 m0 31 [ptr lg,.string ⟨⟨xnB x⟩⟩] A K:=by
 obtain ⟨e1,e2,e3,e4,e5,e6⟩:=AbV hfx hx;obtain ⟨x1,x2,x3⟩:=CT hx;have hxl:(xnB x).length<=134:=by unfold xnB;rw [D3];omega
 refine w31 _ _ _ BD ?_;rw [e31];refine KI (s:=⟨⟨xnB x⟩⟩) hf (by omega) λA1 g1 s1=>?_;have n1:=g1.next;have l1:=g1.le;refine Agl (l:=xnB x) s1 e4 (by rw [e2,e3,Fe,Fe];exact hx) g1.Ay (by omega) (by omega) λA2 g2=>?_;have n2:=g2.next;have l2:=g2.le;rw [e1,e2,e3,Fe,Fe];simp only [Ap,List.getElem?_cons_zero,List.getElem?_cons_succ,Ab];have K2:Ah A A2 []:=g1.keeps.trans g2.keeps (by simp);refine AH IE g2.Ay (by omega) rfl λA3 m3=>?_;have n3:=m3.next;have k3:=m3.keeps g2.Ay;refine U6 (p:=x) m3.Bk rfl m3.Ay (by omega) λA4 h4 k4 n4 f4=>?_;have K4:Ah A A4 []:=(K2.trans k3 (by simp)).trans k4 (by simp;omega);refine AH zD f4 (by omega) rfl λA5 m5=>?_;have n5:=m5.next;have k5:=m5.keeps f4;refine GN m5.row ?_;have K5:Ah A A5 []:=K4.trans k5 (by simp);have H5:=h.keeps K5 (by simp);have h5:=h4.keeps k5 (by simp);simp only [ptr,AD,Hb,Lu,Af H5.row.row,cellOf,Bp,AI,AB,Cf,Ab,Nat.zero_add];rw [I3 h5];simp only [Ab];have hkn:(Value.agg ⟨x.cells⟩)=kN x:=rfl;rw [hkn,H5.look x true];simp only [Ct,Ab,Ap,List.getElem?_toArray,List.getElem?_cons_zero,List.getElem?_cons_succ,hn];obtain ⟨f',g',b',sv',hlt,hsv1,hsv2⟩:=Lt L x;rw [hlt];refine DR m5.Bk rfl hsv1 m5.Ay (by omega) λA6 t6 k6 n6 f6=>?_;have K6:Ah A A6 []:=K5.trans k6 (by simp;omega);have H6:=h.keeps K6 (by simp);have h6:=h5.keeps k6 (by simp;omega);simp only [AR,Af H6.row.row,cellOf,Bp,AI,AB,Cf,Ab];rw [I3 h6];simp only [Ab];rw [hkn];obtain ⟨es,c,ho,he,hxe⟩:=H6.mo;refine ho.del mtN f6 (by omega) λA7 ho7 k7 n7 f7=>?_;have hde:=Zd x hxe;simp only [B8,Hj,Ab];refine Ag.2 ⟨λ_=>?_,λh=>by simp at h⟩;refine Ag.2 ⟨λ_=>?_,λh=>by simp at h⟩;refine hk A7 (H6.map k7 ⟨_,c,ho7,by rw [hde.1,he],hde.2⟩ λw hw=>H6.rd w (List.mem_filter.1 hw).1) ((K6.more (by simp)).trans k7 (λy hy=>.inl hy)) (by omega) f7
theorem AdK (h:CM A lg j d mp pm q s Fl Fr ep L) (hl:q.l.length<64) (hf:Aw A) (hA:A.next<900000000000)
  (hk:∀ A',Grow A A' 2->K (.int .i64 0) A'):Wc Tp Al W0 m0 42 [ptr lg] A K:=by
 refine w42 _ _ BD ?_;rw [e42];simp only [ptr,AD,JL,PT,Af h.row.row,cellOf,Bp,AI,AB,Cf,Ab,Nat.zero_add];refine AdO h.jd.jn hf hA (by omega) λA1 v R F' hR o1 hF g1=>?_;rw [RdE.len etR (o1.rd etR.len)];have hRl:R.length=q.l.length:=by rw [hR,List.length_map]
 simp only [Ab,JR,Az];refine ⟨λh=>absurd h (by omega),λ_=>?_⟩;simp only [AR];exact hk A1 g1
end
end
section
open Go.Jr Go.Abs
variable {k c i e:Nat} {s:DS} {q:JS} {r:Rec}
theorem ON(h:OkS k s):OkS (k+2) (Ak s q r).1:=by
 unfold Ak;split
 ·exact h.more (by omega)
 ·split
  ·exact h.more (by omega)
  ·simp only;split
   ·split
    ·exact h.more (by omega)
    ·split
     ·exact (EQ h _).more (by omega)
     ·split
      ·exact (EC (EQ h _) _ _).more (by omega)
      ·exact (EC (EQ h _) _ _).more (by omega)
   ·split
    ·exact (EC h _ _).more (by omega)
    ·exact (EC h _ _).more (by omega)
theorem XI(h:OkS k s):OkS (k+1) (BJ s q).1:=by
 unfold BJ;split
 ·exact h.more (by omega)
 ·exact EQ h _
theorem OD{names:List (List UInt8)}{st:List UInt8}(h:OkS k s):OkS (k+5+q.row.length) (AE s names q st).1:=by
 have hrm:∀ (l:List Nat) (k:Nat) (s:DS),OkS k s->OkS (k+l.length) (C6 s l).1:=by
  intro l
  induction l with
  |nil=>intro k s h;exact h
  |cons a r ih=>
   intro k s h;unfold C6;split
   ·exact (Ew h _).more (by simp)
   ·exact (ih (k+1) _ (Ew h _)).more (by simp;omega)
 have h0:OkS (k+1) (if fresh∈names then BH s fresh else (s,0)).1:=by
  split
  ·exact Ew h _
  ·exact h.more (by omega)
 unfold AE;split
 ·exact h.more (by omega)
 ·split
  ·exact h.more (by omega)
  ·simp only;split
   ·exact h.more (by omega)
   ·generalize (if fresh∈names then BH s fresh else (s,0))=x0 at h0 ⊢;have h1:=EC h0 fresh (AL (0,st));generalize Bg x0.1 fresh (AL (0,st))=x1 at h1 ⊢;have h2:=EQ h1 fresh;generalize Ca x1.1 fresh=x2 at h2 ⊢;have h3:=Ko h2 fresh (Jr.nm (q.row.getLast?.getD 0+1));generalize Co x2.1 fresh (Jr.nm (q.row.getLast?.getD 0+1))=x3 at h3 ⊢;have h4:=hrm q.row _ _ h3;generalize C6 x3.1 q.row=x4 at h4 ⊢;split
    ·exact h0.more (by omega)
    ·split
     ·exact h1.more (by omega)
     ·split
      ·exact h2.more (by omega)
      ·split
       ·exact h3.more (by omega)
       ·split
        ·exact h4.more (by omega)
        ·exact h4.more (by omega)
theorem Rp(h:(Ak s q r).2.2≠0):(Ak s q r).2.1.row=q.row/\(Ak s q r).2.1.size=q.size/\(Ak s q r).2.1.limit=q.limit:=by
 revert h
 unfold Ak;split
 ·exact λ_=>⟨rfl,rfl,rfl⟩
 ·split
  ·exact λ_=>⟨rfl,rfl,rfl⟩
  ·simp only;split
   ·split
    ·exact λ_=>⟨rfl,rfl,rfl⟩
    ·split
     ·exact λ_=>⟨rfl,rfl,rfl⟩
     ·split
      ·exact λ_=>⟨rfl,rfl,rfl⟩
      ·exact λh=>absurd rfl h
   ·split
    ·exact λ_=>⟨rfl,rfl,rfl⟩
    ·exact λh=>absurd rfl h
theorem Nv(s:DS)(q:JS):(BJ s q).2.1.row=q.row/\(BJ s q).2.1.size=q.size/\(BJ s q).2.1.limit=q.limit/\(BJ s q).2.1.l=q.l:=by
 unfold BJ;split<;>exact ⟨rfl,rfl,rfl,rfl⟩
structure QB (c i:Nat) (s:DS) (q:JS):Prop where
 ok:OkS c s
 l:q.l.length<=i
 row:q.row.length<=100
 last:∃ n,q.row.getLast? =some n/\1<=n/\n<=100
 size:q.size<=200000
 lim:q.limit=300
theorem QB.append(h:QB c i s q)(hr:r.1≠0)(hx:s.down=true->q.broken=true)(hu:s.down=false->q.broken=false)(hk:(Ak s q r).2.2=0->∃ k had,k<=85/\KU 300 k (Ak s q r).1 (Ak s q r).2.1 had):QB (c+2) (i+1) (Ak s q r).1 (Ak s q r).2.1:=by
 have hl:=W9 s q r;have hl1:=h.l;by_cases he:(Ak s q r).2.2=0
 ·obtain ⟨kk,had,h1,h2⟩:=hk he;obtain ⟨n,f1,f2,f3,f4,f5,f6,f7,_⟩:=h2.facts (by omega);exact ⟨ON h.ok,by omega,by omega,⟨n,f1,f2,by omega⟩,by omega,f7⟩
 ·obtain ⟨h1,h2,h3⟩:=Rp he;exact ⟨ON h.ok,by omega,by rw [h1];exact h.row,by rw [h1];exact h.last,by rw [h2];exact h.size,by rw [h3];exact h.lim⟩
theorem QB.sync(h:QB c i s q):QB (c+1) i (BJ s q).1 (BJ s q).2.1:=by
 obtain ⟨h1,h2,h3,h4⟩:=Nv s q;exact ⟨XI h.ok,by rw [h4];exact h.l,by rw [h1];exact h.row,by rw [h1];exact h.last,by rw [h2];exact h.size,by rw [h3];exact h.lim⟩
theorem QB.more{j:Nat}(h:QB c i s q)(hc:c<=e)(hij:i<=j):QB e j s q:=⟨h.ok.more hc,Nat.le_trans h.l hij,h.row,h.last,h.size,h.lim⟩
theorem Inv.aku{L sure asked:List Dc}(h:Inv i s q e L sure asked)(hi:i<40){y:Say}(hy:ok1 L y)(he:(Ak s q y.rc).2.2=0):∃ k had,k<=85/\KU 300 k (Ak s q y.rc).1 (Ak s q y.rc).2.1 had:=by
 obtain ⟨k,had,hk,hh,hu,hx⟩:=h.ex;obtain ⟨hyl,hy0⟩:=hy.len h.uq;cases hd:s.down with
 |true=>rw [Jq (hx hd).2 hy0] at he;cases he
 |false=>
  obtain ⟨h1,_,_⟩:=hu hd;obtain ⟨af,_⟩:=Tg h1 (by omega) hy0 hyl;rcases OM hd h1.nb.1 hy0 with ⟨_,_,_,g4⟩ | ⟨g1,_⟩
  ·exact ⟨k+1,_,by omega,af g4⟩
  ·exact absurd he g1
theorem Inv.flags{L sure asked:List Dc}(h:Inv i s q e L sure asked):(s.down=true->q.broken=true)/\(s.down=false->q.broken=false):=by
 obtain ⟨k,had,hk,hh,hu,hx⟩:=h.ex;exact ⟨λhd=>(hx hd).2,λhd=>(hu hd).1.nb.1⟩
theorem Inv.q6{L sure asked:List Dc}(h:Inv i s q e L sure asked)(hi:i<40)(hq:QB c i s q)(hc:c<=898){y:Say}(hy:ok1 L y)(he:(Ak s q y.rc).2.2=0):QB 900 63 (Ak s q y.rc).1 (Ak s q y.rc).2.1:=by
 obtain ⟨hdn,hup⟩:=h.flags;exact (hq.append (hy.len h.uq).2 hdn hup λhe=>h.aku hi hy he).more (by omega) (by omega)
end
section
def aR:Go.Shelf.Ren:=⟨λ| 99=>188 | 105=>144 | 170=>191 | 206=>211 | 212=>187 | 263=>209 | 264=>210 | 129=>224 | 171=>142 | 172=>183 | 205=>260 | 243=>185 | 244=>206 | 245=>207 | 246=>208 | 247=>237 | 279=>238 | 280=>239 | 281=>240 | 282=>241 | 283=>242 | 284=>243 | 285=>244 | 286=>245 | 287=>258 | 316=>259 | 317=>261 | 318=>262 | 319=>263 | 320=>264 | 321=>267 | 322=>268 | 337=>269 | 338=>270 | 156=>186 | 165=>189 | 166=>190 | 169=>192 | 240=>212 | 241=>213 | 276=>246 | 277=>247 | x=>x,λ| 109=>220 | 146=>237 | 148=>239 | 31=>86 | 37=>92 | 46=>42 | 51=>30 | 53=>136 | 70=>222 | 72=>224 | 75=>214 | 76=>215 | 80=>76 | 85=>259 | 127=>241 | 143=>292 | 145=>294 | 164=>268 | 167=>258 | 168=>261 | 171=>264 | 173=>266 | 175=>279 | 210=>282 | 212=>285 | 213=>286 | 232=>295 | 233=>296 | x=>x,λ| 15=>2 | 16=>3 | 17=>4 | 18=>5 | 19=>6 | x=>x⟩
theorem atX:LaysC.n172 Tryz.prog aR:=by
 apply LaysC.n172.mk<;>first | (intros;kernel_rfl) | (apply LaysM.n172.mk<;>first | (intros;kernel_rfl) | (apply Lays.n172.mk<;>(intros;kernel_rfl)))
theorem joX:Lays.n156 Tryz.prog aR:=by apply Lays.n156.mk<;>(intros;kernel_rfl)
theorem rpX:Lays.n105 Tryz.prog aR:=by apply Lays.n105.mk<;>(intros;kernel_rfl)
theorem nuX:LaysM.n171 Tryz.prog aR:={ atX with }
theorem exX:Builder.Extra Tryz.prog aR:=by
 apply Builder.Extra.mk<;>first | (intros;kernel_rfl) | (apply Builder.X72.mk<;>(intros;kernel_rfl)) | (show (224:Nat)≠5;decide)
end
end Go.Proofs.YtnennggfoegcmaaGreatDoor
set_option linter.all false
namespace Go.Proofs.YtnennggfoegcmaaGreatDoor
open Go.Abs
variable {f sz:Nat} {T:Nat->List Item} {L:Nat->List Tmp}
def Dy:Bt:={ known:=[78,142,144,186,206,259] }
def Yf1(f sz:Nat)(T:Nat->List Item)(L:Nat->List Tmp):Prop:=∀ {W0:World} {m0:Inj Tp} {S:Nat->List Value->AW->Prop} {Q:Value->AW->Prop} (a0:Value) (A:AW),LQ Tp Dy W0 m0 f T L S Q sz->Cv Tp Dy W0 m0 f T L S Q none 4000 (Tm.fill ⟨sz,.nil⟩ 0 [a0]) [.code (cd f [])] false 0 0 0 [] A->Wc Tp Dy W0 m0 f [a0] A Q
theorem yf1(n:∀ (a0:Value),CD Tp f [a0] .normal=some (frM f (Tm.fill ⟨sz,.nil⟩ 0 [a0]) [.code (cd f [])] false))(hs:sz<Aj)(hz:∀ (a0:Value),(Tm.fill ⟨sz,.nil⟩ 0 [a0]).sz=sz):Yf1 f sz T L:=λa0 _ hc h=>Mt gP hs hc (n a0) (hz a0) h
def Yf2(f sz:Nat)(T:Nat->List Item)(L:Nat->List Tmp):Prop:=∀ {W0:World} {m0:Inj Tp} {S:Nat->List Value->AW->Prop} {Q:Value->AW->Prop} (a0 a1:Value) (A:AW),LQ Tp Dy W0 m0 f T L S Q sz->Cv Tp Dy W0 m0 f T L S Q none 4000 (Tm.fill ⟨sz,.nil⟩ 0 [a0,a1]) [.code (cd f [])] false 0 0 0 [] A->Wc Tp Dy W0 m0 f [a0,a1] A Q
theorem yf2(n:∀ (a0 a1:Value),CD Tp f [a0,a1] .normal=some (frM f (Tm.fill ⟨sz,.nil⟩ 0 [a0,a1]) [.code (cd f [])] false))(hs:sz<Aj)(hz:∀ (a0 a1:Value),(Tm.fill ⟨sz,.nil⟩ 0 [a0,a1]).sz=sz):Yf2 f sz T L:=λa0 a1 _ hc h=>Mt gP hs hc (n a0 a1) (hz a0 a1) h
def Yf5(f sz:Nat)(T:Nat->List Item)(L:Nat->List Tmp):Prop:=∀ {W0:World} {m0:Inj Tp} {S:Nat->List Value->AW->Prop} {Q:Value->AW->Prop} (a0 a1 a2 a3 a4:Value) (A:AW),LQ Tp Dy W0 m0 f T L S Q sz->Cv Tp Dy W0 m0 f T L S Q none 4000 (Tm.fill ⟨sz,.nil⟩ 0 [a0,a1,a2,a3,a4]) [.code (cd f [])] false 0 0 0 [] A->Wc Tp Dy W0 m0 f [a0,a1,a2,a3,a4] A Q
theorem yf5(n:∀ (a0 a1 a2 a3 a4:Value),CD Tp f [a0,a1,a2,a3,a4] .normal=some (frM f (Tm.fill ⟨sz,.nil⟩ 0 [a0,a1,a2,a3,a4]) [.code (cd f [])] false))(hs:sz<Aj)(hz:∀ (a0 a1 a2 a3 a4:Value),(Tm.fill ⟨sz,.nil⟩ 0 [a0,a1,a2,a3,a4]).sz=sz):Yf5 f sz T L:=λa0 a1 a2 a3 a4 _ hc h=>Mt gP hs hc (n a0 a1 a2 a3 a4) (hz a0 a1 a2 a3 a4) h
theorem YK(A:AW)(a:Addr):Ae Tp A 214 (.pointer (some a))=A.cell? a:=by kernel_rfl
section
variable (W0:World) (m0:Inj Tp) (S:Nat->List Value->AW->Prop) (Q:Value->AW->Prop) (d:Nat->Value) (a0 a1 a2 a3 a4 a5 a6:Value) (A:AW)
theorem e78:Cv Tp Dy W0 m0 78 Tz Lz S Q none 4000 (Tm.fill ⟨13,.nil⟩ 0 [a0]) [.code (cd 78 [])] false 0 0 0 [] A=(knW Tp W0 m0 142 [a0] A λt0 At0=>Aa (Bi Tp At0 9 t0) λt1=>Aa (An Tp .sub 3 (.const (.int .i64 8)) (.tmp 7) (.int .i64 8) t1) λt2=>knW Tp W0 m0 144 [(.string ⟨⟨[48]⟩⟩),t2] At0 λt3 At3=>Ao (Aq Tp At3 86 3 [(0,(.string ⟨⟨[106,46]⟩⟩)),(1,t3),(2,t0)]) λt4 At4=>Wc Tp Dy W0 m0 143 [t4] At4 λt5 At5=>Q t5 At5):=by kernel_rfl
theorem n78(a0:Value):CD Tp 78 [a0] .normal=some (frM 78 (Tm.fill ⟨13,.nil⟩ 0 [a0]) [.code (cd 78 [])] false):=by kernel_rfl
theorem w78:Yf1 78 13 Tz Lz:=yf1 n78 (by decide) λ_=>rfl
theorem Aiv:Cv Tp Dy W0 m0 143 Tz Lz S Q none 4000 (Tm.fill ⟨5,.nil⟩ 0 [a0]) [.code (cd 143 [])] false 0 0 0 [] A=(knW Tp W0 m0 186 [a0,(.string ⟨⟨[]⟩⟩)] A λt0 At0=>Q t0 At0):=by kernel_rfl
theorem n143(a0:Value):CD Tp 143 [a0] .normal=some (frM 143 (Tm.fill ⟨5,.nil⟩ 0 [a0]) [.code (cd 143 [])] false):=by kernel_rfl
theorem Ag9:Yf1 143 5 Tz Lz:=yf1 n143 (by decide) λ_=>rfl
theorem AiH:Cv Tp Dy W0 m0 130 Tz Lz S Q none 4000 (Tm.fill ⟨38,.nil⟩ 0 [a0]) [.code (cd 130 [])] false 0 0 0 [] A=(Wc Tp Dy W0 m0 182 [a0,(.string ⟨⟨[106,46]⟩⟩)] A λt0 At0=>Aa (Ap t0 0) λt1=>Aa (Ap t0 1) λt2=>Wc Tp Dy W0 m0 183 [t1] At0 λt3 At3=>Aa (Ap t3 0) λt4=>Aa (Ap t3 1) λt5=>Aa (unA Tp .not t2) λt6=>Ai t6 (Q (.int .i64 0) At3) (Aa (An Tp .neq 214 (.tmp 20) (.const .nilIface) t5 .nilIface) λt7=>Ai t7 (Q (.int .i64 0) At3) (Aa (An Tp .lss 3 (.tmp 24) (.const (.int .i64 1)) t4 (.int .i64 1)) λt8=>Ai t8 (Q (.int .i64 0) At3) (Aa (An Tp .gtr 3 (.tmp 28) (.const (.int .i64 99999999)) t4 (.int .i64 99999999)) λt9=>Ai t9 (Q (.int .i64 0) At3) (knW Tp W0 m0 78 [t4] At3 λt10 At10=>Aa (An Tp .neq 9 (.tmp 33) (.tmp 34) t10 a0) λt11=>Ai t11 (Q (.int .i64 0) At10) (Q t4 At10)))))):=by kernel_rfl
theorem n130(a0:Value):CD Tp 130 [a0] .normal=some (frM 130 (Tm.fill ⟨38,.nil⟩ 0 [a0]) [.code (cd 130 [])] false):=by kernel_rfl
theorem Ahl:Yf1 130 38 Tz Lz:=yf1 n130 (by decide) λ_=>rfl
theorem Aib:Cv Tp Dy W0 m0 182 Tz Lz S Q none 4000 (Tm.fill ⟨11,.nil⟩ 0 [a0,a1]) [.code (cd 182 [])] false 0 0 0 [] A=(Wc Tp Dy W0 m0 205 [a0,a1] A λt0 At0=>Aa (Ap t0 0) λt1=>Aa (Ap t0 1) λt2=>Q (.tuple ⟨[t1,t2]⟩) At0):=by kernel_rfl
theorem n182(a0 a1:Value):CD Tp 182 [a0,a1] .normal=some (frM 182 (Tm.fill ⟨11,.nil⟩ 0 [a0,a1]) [.code (cd 182 [])] false):=by kernel_rfl
theorem AgP:Yf2 182 11 Tz Lz:=yf2 n182 (by decide) λ_ _=>rfl
theorem Ah3:Cv Tp Dy W0 m0 205 Tz Lz S Q none 4000 (Tm.fill ⟨15,.nil⟩ 0 [a0,a1]) [.code (cd 205 [])] false 0 0 0 [] A=(Wc Tp Dy W0 m0 211 [a0,a1] A λt0 At0=>Aa (unA Tp .not t0) λt1=>Ai t1 (Q (.tuple ⟨[a0,(.bool false)]⟩) At0) (Aa (Bi Tp At0 9 a1) λt2=>Aa (AX Tp At0 9 a0 (some t2) none none) λt3=>Q (.tuple ⟨[t3,(.bool true)]⟩) At0)):=by kernel_rfl
theorem n205(a0 a1:Value):CD Tp 205 [a0,a1] .normal=some (frM 205 (Tm.fill ⟨15,.nil⟩ 0 [a0,a1]) [.code (cd 205 [])] false):=by kernel_rfl
theorem AgH:Yf2 205 15 Tz Lz:=yf2 n205 (by decide) λ_ _=>rfl
theorem Ah1:Cv Tp Dy W0 m0 211 Tz Lz S Q none 4000 (Tm.fill ⟨18,.nil⟩ 0 [a0,a1]) [.code (cd 211 [])] false 0 0 0 [] A=(Aa (Bi Tp A 9 a0) λt0=>Aa (Bi Tp A 9 a1) λt1=>Aa (An Tp .geq 3 (.tmp 6) (.tmp 8) t0 t1) λt2=>Ai t2 (Aa (Bi Tp A 9 a1) λt3=>Aa (AX Tp A 9 a0 none (some t3) none) λt4=>Aa (An Tp .eql 9 (.tmp 14) (.tmp 15) t4 a1) λt5=>Q t5 A) (Q (.bool false) A)):=by kernel_rfl
theorem n211(a0 a1:Value):CD Tp 211 [a0,a1] .normal=some (frM 211 (Tm.fill ⟨18,.nil⟩ 0 [a0,a1]) [.code (cd 211 [])] false):=by kernel_rfl
theorem AgF:Yf2 211 18 Tz Lz:=yf2 n211 (by decide) λ_ _=>rfl
theorem Aia:Cv Tp Dy W0 m0 183 Tz Lz S Q none 4000 (Tm.fill ⟨18,.nil⟩ 0 [a0]) [.code (cd 183 [])] false 0 0 0 [] A=(knW Tp W0 m0 206 [a0] A λt0 At0=>Aa (Ap t0 0) λt1=>Aa (Ap t0 1) λt2=>Aa (An Tp .neq 214 (.tmp 11) (.const .nilIface) t2 .nilIface) λt3=>Ai t3 (Wc Tp Dy W0 m0 207 [(.string ⟨⟨[65,116,111,105]⟩⟩),a0,(.int .i64 0),(.int .i64 0),t2] At0 λt4 At4=>Q (.tuple ⟨[t1,t4]⟩) At4) (Q (.tuple ⟨[t1,.nilIface]⟩) At0)):=by kernel_rfl
theorem n183(a0:Value):CD Tp 183 [a0] .normal=some (frM 183 (Tm.fill ⟨18,.nil⟩ 0 [a0]) [.code (cd 183 [])] false):=by kernel_rfl
theorem AgO:Yf1 183 18 Tz Lz:=yf1 n183 (by decide) λ_=>rfl
theorem Ah2:Cv Tp Dy W0 m0 207 Tz Lz S Q none 4000 (Tm.fill ⟨43,.nil⟩ 0 [a0,a1,a2,a3,a4]) [.code (cd 207 [])] false 0 0 0 [] A=(Aa (Ga Tp 258 (.int .i64 2)) λt0=>Aa (An Tp .eql 214 (.tmp 11) (.tmp 13) a4 t0) λt1=>Ai t1 (Wc Tp Dy W0 m0 238 [a0,a1] A λt2 At2=>Aa (Ga Tp 261 t2) λt3=>Q t3 At2) (Aa (Ga Tp 258 (.int .i64 1)) λt4=>Aa (An Tp .eql 214 (.tmp 11) (.tmp 20) a4 t4) λt5=>Ai t5 (Wc Tp Dy W0 m0 239 [a0,a1] A λt6 At6=>Aa (Ga Tp 261 t6) λt7=>Q t7 At6) (Aa (Ga Tp 258 (.int .i64 3)) λt8=>Aa (An Tp .eql 214 (.tmp 11) (.tmp 27) a4 t8) λt9=>Ai t9 (Wc Tp Dy W0 m0 240 [a0,a1,a2] A λt10 At10=>Aa (Ga Tp 261 t10) λt11=>Q t11 At10) (Aa (Ga Tp 258 (.int .i64 4)) λt12=>Aa (An Tp .eql 214 (.tmp 11) (.tmp 35) a4 t12) λt13=>Ai t13 (Wc Tp Dy W0 m0 241 [a0,a1,a3] A λt14 At14=>Aa (Ga Tp 261 t14) λt15=>Q t15 At14) (Q a4 A))))):=by kernel_rfl
theorem n207(a0 a1 a2 a3 a4:Value):CD Tp 207 [a0,a1,a2,a3,a4] .normal=some (frM 207 (Tm.fill ⟨43,.nil⟩ 0 [a0,a1,a2,a3,a4]) [.code (cd 207 [])] false):=by kernel_rfl
theorem AgG:Yf5 207 43 Tz Lz:=yf5 n207 (by decide) λ_ _ _ _ _=>rfl
theorem AhZ:Cv Tp Dy W0 m0 238 Tz Lz S Q none 4000 (Tm.fill ⟨11,.nil⟩ 0 [a0,a1]) [.code (cd 238 [])] false 0 0 0 [] A=(Aa (Ae Tp A 214 (pP 2 0)) λt0=>knW Tp W0 m0 259 [a1] A λt1 At1=>Aa (Ae Tp At1 214 (pP 2 0)) λt2=>eqW t2 t0 (eqW a0 a0 (Aa (Bd Tp 282 [(0,a0),(1,t1),(2,t0)]) λt3=>Ao (CO At1 (Value.cells t3).toList 282) λt4 At4=>Cd (Bn Tp (λ_=>t3) (.box 282 (.tmp 0))) At4 t4 (Aa (Bd Tp 282 [(0,a0),(1,t1),(2,t0)]) λt5=>eqW t5 t3 (Aa (Ae Tp At4 214 (pP 2 0)) λt6=>eqW t6 t0 (eqW a1 a1 (eqW a0 a0 (Q t4 At4)))))))):=by kernel_rfl
theorem n238(a0 a1:Value):CD Tp 238 [a0,a1] .normal=some (frM 238 (Tm.fill ⟨11,.nil⟩ 0 [a0,a1]) [.code (cd 238 [])] false):=by kernel_rfl
theorem AgD:Yf2 238 11 Tz Lz:=yf2 n238 (by decide) λ_ _=>rfl
theorem AhY:Cv Tp Dy W0 m0 239 Tz Lz S Q none 4000 (Tm.fill ⟨11,.nil⟩ 0 [a0,a1]) [.code (cd 239 [])] false 0 0 0 [] A=(Aa (Ae Tp A 214 (pP 3 0)) λt0=>knW Tp W0 m0 259 [a1] A λt1 At1=>Aa (Ae Tp At1 214 (pP 3 0)) λt2=>eqW t2 t0 (eqW a0 a0 (Aa (Bd Tp 282 [(0,a0),(1,t1),(2,t0)]) λt3=>Ao (CO At1 (Value.cells t3).toList 282) λt4 At4=>Cd (Bn Tp (λ_=>t3) (.box 282 (.tmp 0))) At4 t4 (Aa (Bd Tp 282 [(0,a0),(1,t1),(2,t0)]) λt5=>eqW t5 t3 (Aa (Ae Tp At4 214 (pP 3 0)) λt6=>eqW t6 t0 (eqW a1 a1 (eqW a0 a0 (Q t4 At4)))))))):=by kernel_rfl
theorem n239(a0 a1:Value):CD Tp 239 [a0,a1] .normal=some (frM 239 (Tm.fill ⟨11,.nil⟩ 0 [a0,a1]) [.code (cd 239 [])] false):=by kernel_rfl
theorem AgC:Yf2 239 11 Tz Lz:=yf2 n239 (by decide) λ_ _=>rfl
end
end Go.Proofs.YtnennggfoegcmaaGreatDoor
namespace Go.Jr
theorem KH:∀ (k n:Nat),(dig k n).length=k
 |0,_=>rfl
 |k+1,n=>by unfold dig;rw [List.length_append,KH k];rfl
theorem digit(m:Nat)(h:m<10):48<=UInt8.ofNat (48+m)/\UInt8.ofNat (48+m)<=57/\(UInt8.ofNat (48+m)).toNat-48=m:=by
 have:∀ m,m<10->48<=UInt8.ofNat (48+m)/\UInt8.ofNat (48+m)<=57/\(UInt8.ofNat (48+m)).toNat-48=m:=by decide
 exact this m h
theorem Q9:∀ (k n:Nat),(dig k n).all (λc=>decide (48<=c)&&decide (c<=57))=true
 |0,_=>rfl
 |k+1,n=>by
  unfold dig;obtain ⟨h1,h2,_⟩:=digit (n%10) (Nat.mod_lt _ (by decide));rw [List.all_append,Q9 k];show (true&&((decide (48<=UInt8.ofNat (48+n%10))&&decide (UInt8.ofNat (48+n%10)<=57))&&true))=true;rw [decide_eq_true h1,decide_eq_true h2];rfl
theorem Vu:∀ (k n a:Nat),n<10^k->(dig k n).foldl (λn c=>10*n+(c.toNat-48)) a=a*10^k+n
 |0,n,a,h=>by
  have:n=0:=by simpa using h
  subst this;simp [dig]
 |k+1,n,a,h=>by
  have h10:n/10<10^k:=by rw [Nat.div_lt_iff_lt_mul (by decide)];rw [Nat.pow_succ] at h;exact h
  unfold dig;rw [List.foldl_append,Vu k (n/10) a h10];obtain ⟨_,_,h3⟩:=digit (n%10) (Nat.mod_lt _ (by decide));show 10*(a*10^k+n/10)+((UInt8.ofNat (48+n%10)).toNat-48)=_;rw [h3,Nat.pow_succ,Nat.mul_add,<- Nat.mul_assoc a,Nat.mul_comm 10 (a*10^k)];omega
theorem Yv{n:Nat}(h:n<100000000):numOf (Jr.nm n)=n:=by
 unfold numOf Jr.nm;have hl:([106,46]++dig 8 n).length=10:=by rw [List.length_append,KH];rfl
 have hd:([106,46]++dig 8 n).drop 2=dig 8 n:=rfl;rw [hd,if_pos ⟨rfl,hl,Q9 8 n⟩,Vu 8 n 0 h];omega
theorem NS(f:List UInt8):numOf f<100000000\/numOf f=0:=by
 unfold numOf;split
 ·rename_i h
  left
  have key:∀ (l:List UInt8) (a:Nat),l.all (λc=>decide (48<=c)&&decide (c<=57))=true->l.foldl (λn c=>10*n+(c.toNat-48)) a+1<=(a+1)*10^l.length:=by
   intro l
   induction l with
   |nil=>intro a _;simp
   |cons c r ih=>
    intro a hh;simp only [List.all_cons,Bool.and_eq_true,decide_eq_true_eq] at hh;have h1:=ih (10*a+(c.toNat-48)) hh.2;have h2:c.toNat<=57:=UInt8.le_iff_toNat_le.1 hh.1.2;have h3:10*a+(c.toNat-48)+1<=(a+1)*10:=by omega
    show r.foldl _ (10*a+(c.toNat-48))+1<=(a+1)*10^(r.length+1);refine Nat.le_trans h1 ?_;rw [Nat.pow_succ,Nat.mul_comm (10^r.length) 10,<- Nat.mul_assoc];exact Nat.mul_le_mul_right _ h3
  have hk:=key (f.drop 2) 0 h.2.2;have hl:(f.drop 2).length=8:=by rw [List.length_drop,h.2.1]
  rw [hl] at hk;omega
 ·exact .inr rfl
theorem Adm{c:UInt8}(h1:48<=c)(h2:c<=57):UInt8.ofNat (48+(c.toNat-48))=c:=by
 have h1:48<=c.toNat:=UInt8.le_iff_toNat_le.1 h1;rw [show 48+(c.toNat-48)=c.toNat by omega]
 simp
theorem Zb:∀ (k:Nat) (l:List UInt8),l.length=k->l.all (λc=>decide (48<=c)&&decide (c<=57))=true->dig k (l.foldl (λn c=>10*n+(c.toNat-48)) 0)=l
 |0,l,hl,_=>by
  obtain rfl:=List.eq_nil_of_length_eq_zero hl;rfl
 |k+1,l,hl,ha=>by
  have hne:l≠[]:=λh=>by rw [h] at hl;cases hl
  obtain ⟨r,c,rfl⟩:∃ r c,l=r++[c]:=⟨l.dropLast,l.getLast hne,(List.dropLast_concat_getLast hne).symm⟩;rw [List.length_append] at hl;have hr:r.length=k:=by simpa using hl
  simp only [List.all_append,List.all_cons,List.all_nil,Bool.and_true,Bool.and_eq_true,decide_eq_true_eq] at ha;obtain ⟨hra,hc1,hc2⟩:=ha;have h2:c.toNat<=57:=UInt8.le_iff_toNat_le.1 hc2;rw [List.foldl_append];show dig (k+1) (10*(r.foldl (λn c=>10*n+(c.toNat-48)) 0)+(c.toNat-48))=_;generalize hv:r.foldl (λn c=>10*n+(c.toNat-48)) 0=v;unfold dig;rw [show (10*v+(c.toNat-48))/10=v by omega,show (10*v+(c.toNat-48))%10=c.toNat-48 by omega,Adm hc1 hc2,<- hv,Zb k r hr hra]
theorem Abx{f:List UInt8}(h:numOf f≠0):f=Jr.nm (numOf f):=by
 unfold numOf at h ⊢;split at h
 ·rename_i hc;rw [if_pos hc];unfold Jr.nm;rw [Zb 8 (f.drop 2) (by rw [List.length_drop,hc.2.1]) hc.2.2,<- hc.1,List.take_append_drop]
 ·exact absurd rfl h
end Go.Jr
namespace Go.Jr
open Go
theorem Mh{n:Nat}(h:n<10):Lib.decDigits n=[UInt8.ofNat (48+n)]:=by
 rw [Lib.decDigits,dif_pos h]
theorem P9{n:Nat}(h:¬ n<10):Lib.decDigits n=Lib.decDigits (n/10)++[UInt8.ofNat (48+n%10)]:=by
 rw [Lib.decDigits,dif_neg h]
theorem S0:∀ k,dig k 0=List.replicate k 48
 |0=>rfl
 |k+1=>by
  unfold dig;rw [Nat.zero_div,S0 k,List.replicate_succ'];rfl
theorem AaP(n:Nat):0<(Lib.decDigits n).length:=by
 by_cases h:n<10
 ·rw [Mh h];exact Nat.zero_lt_one
 ·rw [P9 h,Lq];simp
theorem Vv:∀ (k n:Nat),n<10^(k+1)->(Lib.decDigits n).length<=k+1/\dig (k+1) n=List.replicate (k+1-(Lib.decDigits n).length) 48++Lib.decDigits n
 |0,n,h=>by
  have h:n<10:=h;rw [Mh h];refine ⟨Nl _,?_⟩;show dig 0 (n/10)++[UInt8.ofNat (48+n%10)]=_;rw [Nat.mod_eq_of_lt h];rfl
 |k+1,n,h=>by
  have h10:n/10<10^(k+1):=by rw [Nat.div_lt_iff_lt_mul (by decide)];rw [Nat.pow_succ] at h;exact h
  obtain ⟨h1,h2⟩:=Vv k (n/10) h10;have e:dig (k+1+1) n=dig (k+1) (n/10)++[UInt8.ofNat (48+n%10)]:=rfl;rw [e];by_cases hs:n<10
  ·rw [Mh hs,Nat.div_eq_of_lt hs,S0,Nat.mod_eq_of_lt hs];exact ⟨by simp,by simp⟩
  ·rw [P9 hs,Lq,h2];refine ⟨by simp only [Lc,Ln];omega,?_⟩;rw [Mw]
   congr 2
   simp only [Lc,Ln];omega
theorem AcK{n:Nat}(h:n<100000000):(Lib.decDigits n).length<=8/\nm n=[106,46]++List.replicate (8-(Lib.decDigits n).length) 48++Lib.decDigits n:=by
 obtain ⟨h1,h2⟩:=Vv 7 n h;refine ⟨h1,?_⟩;unfold nm;rw [show (8:Nat)=7+1 from rfl,h2,Mw]
theorem PN:∀ (l r:List UInt8) (acc a:Nat),Lib.parseUint10 acc l=.ok a->Lib.parseUint10 acc (l++r)=Lib.parseUint10 a r
 |[],r,acc,a,h=>by
  simp only [Lib.parseUint10] at h;cases h;rfl
 |c::l,r,acc,a,h=>by
  simp only [List.cons_append,Lib.parseUint10] at h ⊢;split at h
  ·rename_i h1;rw [if_pos h1];split at h
   ·cases h
   ·rename_i h2;rw [Ff h2];split at h
    ·cases h
    ·rename_i h3;rw [Ff h3];exact PN l r _ a h
  ·cases h
theorem PM:∀ (k v:Nat),v<10^k->v<100000000->Lib.parseUint10 0 (dig k v)=.ok v
 |0,v,h,_=>by
  have:v=0:=by simpa using h
  subst this;rfl
 |k+1,v,h,h8=>by
  have h10:v/10<10^k:=by rw [Nat.div_lt_iff_lt_mul (by decide)];rw [Nat.pow_succ] at h;exact h
  unfold dig;rw [PN _ _ 0 (v/10) (PM k (v/10) h10 (by omega))];have h1:(UInt8.ofNat (48+v%10)).toNat=48+v%10:=by rw [UInt8.toNat_ofNat'];omega
  simp only [Lib.parseUint10,h1];rw [if_pos ⟨by omega,by omega⟩,Ff (by omega),Ff (by omega)]
  congr 1
  omega
theorem Zs{v:Nat}(h:v<100000000):Lib.atoiAll (dig 8 v)=.ok (v:Int):=by
 have hp:=PM 8 v h h;have ha:=Q9 8 v;have hl:=KH 8 v;generalize dig 8 v=l at hp ha hl ⊢
 match l,hl with
 |c::r,_=>
  simp only [List.all_cons,Bq,decide_eq_true_eq] at ha;have h1:48<=c.toNat:=UInt8.le_iff_toNat_le.1 ha.1.1;have h2:c.toNat<=57:=UInt8.le_iff_toNat_le.1 ha.1.2;have hm:Lib.parseMag (c::r)=.ok v:=by unfold Lib.parseMag;rw [Ff (by simp)];exact hp
  simp only [Lib.atoiAll];rw [Ff (by omega),hm];simp only;rw [Ff (by omega),Ff (by omega),Ff (by omega)]
end Go.Jr
namespace Go.Proofs.YtnennggfoegcmaaGreatDoor
open Go.Abs Go.Jr
variable {q:Prop} {n:Nat} {A:AW} {K:Value->AW->Prop}
def Pow(W:World):Prop:=Lib.TabIs Tp W "internal/strconv.uint64pow10" .u64 Lib.pow10Tab
theorem Pow.grow{W W':World}(h:Pow W)(hb:Go.RowKit.Below W.heap.size W W'):Pow W':=by
 unfold Pow Lib.TabIs World.var? at *;have hg:Tp.globalNamed "internal/strconv.uint64pow10"=some 4:=by kernel_rfl
 rw [hg] at h ⊢;simp only [Option.bind_some] at h ⊢;have hlt:4<W.heap.size:=by
  rcases Nat.lt_or_ge 4 W.heap.size with h' | h'
  ·exact h'
  ·rw [Array.getElem?_eq_none h'] at h;simp at h
 rw [hb.block 4 hlt];exact h
theorem Sq(w:World)(k:Nat)(os:Array Obj):Low q w (Go.Sort.grow (w.drewN k) os):=by
 refine ⟨⟨rfl,rfl,rfl,?_,λi hi=>?_⟩,λ_=>Nat.le_add_right _ _⟩
 ·simp [Go.Sort.grow,World.drewN]
 ·show (w.heap++os)[i]? =w.heap[i]?;rw [Array.getElem?_append_left hi]
theorem AcP(hq:¬ q)(w:World)(t:ByteArray):Low q w (Lib.bytesWorld w 5 t):=⟨⟨rfl,rfl,rfl,by rw [Lib.bytesWorld_size];omega,λk hk=>Lib.bytesWorld_at_old w 5 t k (by omega)⟩,λh=>absurd h hq⟩
theorem Yz(w:World):Low q w w:=⟨⟨rfl,rfl,rfl,Nl _,λ_ _=>rfl⟩,λ_=>Nl _⟩
section
variable {W0:World} {m0:Inj Tp} [Nfl m0]
theorem Aft(hp:Pow W0)(hn:n<100000000):KC.Holds Tp W0 m0 ⟨142,[.int .i64 (n:Int)],[.string ⟨⟨Lib.decDigits n⟩⟩]⟩:=by
 refine ⟨λe=>absurd e (show (142:Nat)≠Et by decide),λ_ m args' W hm hb ha=>?_⟩;cases ha with
 |cons h1 h2=>
  cases h2;cases h1;refine (Any.strconv_Itoa nuX (n:Int) (by omega) (by omega) W (hp.grow hb)).mono ?_;rintro e w' ⟨rfl,k,os,rfl⟩;exact ⟨_,Ms.2 rfl,by rw [Lib.itoa_nonneg],Sq W k os⟩
def Ajb(er:Value)(bad:Bool):Prop:=(bad=false/\er=.nilIface)\/(bad=true/\∃ c:Int,(c=1\/c=2)/\er=.iface 258 (.int .i64 c))
theorem Afr(s:ByteArray)(hs:s.data.toList.length<100000000):∃ n er bad,KC.Holds Tp W0 m0 ⟨206,[.string s],[.tuple ⟨[.int .i64 n,er]⟩]⟩/\Ajb er bad/\∀ v,Lib.atoiAll s.data.toList=.ok v↔bad=false/\n=v:=by
 have hsz:s.size=s.data.toList.length:=Lib.size_eq s;have key:∀ n er,Lib.intTuple 258 (Lib.atoiSat s.data.toList) (Lib.atoiAll s.data.toList)=.tuple #[.int .i64 n,er]->KC.Holds Tp W0 m0 ⟨206,[.string s],[.tuple ⟨[.int .i64 n,er]⟩]⟩:=λn er h=>by
  refine ⟨λe=>absurd e (show (206:Nat)≠Et by decide),λ_ m args' W hm _ ha=>?_⟩;cases ha with
  |cons h1 h2=>
   cases h2;cases h1;refine (Any.internal_strconv_Atoi_all { atX with } s (by omega) W).mono λe' W' ⟨he,hw⟩=>⟨_,Ms.2 rfl,by rw [he];exact congrArg _ h,?_⟩;rcases hw with rfl | ⟨t,rfl⟩
   ·exact Yz _
   ·exact AcP (Nfl.not hm) _ t
 cases hp:Lib.atoiAll s.data.toList
 case ok n=>exact ⟨n,.nilIface,false,key _ _ (by rw [hp];rfl),.inl ⟨rfl,rfl⟩,λv=>⟨λh=>by cases h;exact ⟨rfl,rfl⟩,λh=>by rw [h.2]⟩⟩
 case range=>exact ⟨_,_,true,key _ _ (by rw [hp];rfl),.inr ⟨rfl,1,.inl rfl,rfl⟩,λv=>⟨λh=>(by cases h),λh=>(by cases h.1)⟩⟩
 exact ⟨_,_,true,key _ _ (by rw [hp];rfl),.inr ⟨rfl,2,.inr rfl,rfl⟩,λv=>⟨λh=>(by cases h),λh=>(by cases h.1)⟩⟩
theorem Afs{k:Nat}(hk:k<9):KC.Holds Tp W0 m0 ⟨144,[.string ⟨⟨[48]⟩⟩,.int .i64 (k:Int)],[.string ⟨⟨List.replicate k 48⟩⟩]⟩:=by
 refine ⟨λe=>absurd e (show (144:Nat)≠Et by decide),λ_ m args' W hm _ ha=>?_⟩;cases ha with
 |cons h1 h2=>
  cases h2 with
  |cons h3 h4=>
   cases h4;cases h1;cases h3;have e:∀ k,Lib.repeatL [48] k=List.replicate k 48:=λk=>by
    induction k with
    |zero=>rfl
    |succ k ih=>rw [List.replicate_succ,<- ih];rfl
   have hs:(⟨⟨[48]⟩⟩:ByteArray).size=1:=rfl;refine (Any.strings_Repeat rpX exX ⟨⟨[48]⟩⟩ k W (by omega) (by rw [hs];omega)).mono λe' W' ⟨he,hw⟩=>⟨_,Ms.2 rfl,by rw [he,show (⟨⟨[48]⟩⟩:ByteArray).data.toList=[48] from rfl,e k],⟨hw,λf=>absurd f (Nfl.not hm)⟩⟩
theorem AbH(s:ByteArray)(hs:s.data.toList.length<100000000):KC.Holds Tp W0 m0 ⟨259,[.string s],[.string s]⟩:=by
 have hsz:s.size=s.data.toList.length:=Lib.size_eq s;refine ⟨λe=>absurd e (show (259:Nat)≠Et by decide),λ_ m args' W hm _ ha=>?_⟩;cases ha with
 |cons h1 h2=>
  cases h2;cases h1;exact (Any.stringslite_Clone { atX with } s W (by omega)).mono λe' W' ⟨he,hw⟩=>⟨_,Ms.2 rfl,he,⟨hw,λf=>absurd f (Nfl.not hm)⟩⟩
theorem AcT{rw:Nat}{x y z:ByteArray}(hrow:Abs.Row1 A rw [.string x,.string y,.string z] 9)(hl:(x.data.toList++y.data.toList++z.data.toList).length<1000)(hk:K (.string ⟨⟨x.data.toList++y.data.toList++z.data.toList⟩⟩) A):
  Aa8 Tp W0 m0 186 [.slice (some ⟨rw,0,none⟩) 3 3,.string ⟨⟨[]⟩⟩] A K:=by
 intro m w args' r hm0 _ ha;cases ha with
 |cons hv ht=>
 cases ht with
 |cons h2 h3=>
 cases h3;cases h2;cases hv with
 |@slice a a' n c c' hc hn har=>
 have hcap:c'=3:=by
  have:Bo=18446744073709551616:=rfl
  rcases hc with h | h<;>omega
 subst hcap;obtain ⟨_,hs',d,hm,hoff⟩:=har (by decide);obtain ⟨blk,off,sp⟩:=a';simp only at hs' hm hoff;subst hs';obtain ⟨o',q1,cs',fr,rfl,hr⟩:=r.obj rw _ blk d hrow.row hm;have hcell:∀ (j:Nat) s,[x,y,z][j]? =some s->w.cell? ⟨blk,off+j,none⟩=some (.string s):=λj s hj=>by
  have hj':[Value.string x,.string y,.string z][j]? =some (.string s):=by
   match j,hj with
   |0,hj=>cases hj;rfl
   |1,hj=>cases hj;rfl
   |2,hj=>cases hj;rfl
   |j+3,hj=>simp at hj
  obtain ⟨u,k1,k2,_⟩:=hr j _ hj';simp only [World.cell?,q1,Option.isSome_none,Bool.false_eq_true,if_false];rw [show off+j=d+j by omega,k1,DC 4 (.string s) u rfl (k2 rfl)]
 have hj:Lib.join ([x,y,z].map (·.data.toList)) []=x.data.toList++y.data.toList++z.data.toList:=by simp [Lib.join,List.intercalate]
 refine (Any.strings_Join_many joX exX blk off 3 [x,y,z] ⟨⟨[]⟩⟩ w hcell (Array.getElem?_eq_some_iff.1 q1).1 (show 2<=3 by decide) (show 3<=140737488355328 by decide) (show 3<=3 by decide) (by show (Lib.join ([x,y,z].map (·.data.toList)) []).length<=_;rw [hj];omega)).mono ?_;rintro e w' ⟨rfl,hw⟩;have e2:Lib.join ([x,y,z].map (·.data.toList)) (⟨⟨[]⟩⟩:ByteArray).data.toList=x.data.toList++y.data.toList++z.data.toList:=hj;exact ⟨_,.string ⟨⟨x.data.toList++y.data.toList++z.data.toList⟩⟩,m,A,hk,by rw [e2],.string _,EvL.grow r ⟨hw,λf=>absurd f (Nfl.not hm0)⟩ _⟩
theorem Adr(A:AW)(a b c:ByteArray):Aq Tp A 86 3 [(0,.string a),(1,.string b),(2,.string c)]=(match A.newRow [.string a,.string b,.string c] 9 with | some (a,w')=>.ok (.slice (some a) 3 3) w' | none=>.fail "buildSlice new"):=by kernel_rfl
theorem AaZ{a b c:ByteArray}(hf:Aw A)(h:A.next<Aj)(hk:∀ A',Made A A' [.string a,.string b,.string c] 9->K (.slice (some ⟨A.next,0,none⟩) 3 3) A'):Ao (Aq Tp A 86 3 [(0,.string a),(1,.string b),(2,.string c)]) K:=by
 rw [Adr];unfold AW.newRow AW.new;simp only [show ([Value.string a,.string b,.string c].all AK)=true from rfl,Ct,AA.2 h];exact AT.2 (hk (A.push (.row [Value.string a,.string b,.string c] 9 A.next 0 false)) ⟨AW.BR _ h,rfl,by rw [AW.BK _ h,if_pos rfl],hf.alone (Nl _),hf.push _ h⟩)
theorem Ago(hp:Pow W0)(hn:n<100000000)(hf:Aw A)(hA:A.next+20<Aj)(hk:∀ A',Grow A A' 3->K (.string ⟨⟨Jr.nm n⟩⟩) A'):Wc Tp Dy W0 m0 78 [.int .i64 (n:Int)] A K:=by
 obtain ⟨h8,hnm⟩:=AcK hn;have hpos:=AaP n;refine w78 _ _ BD ?_;rw [e78];refine .inl ⟨_,by decide,Aft hp hn,rfl,λv hv=>?_⟩;rw [Ms.1 hv];have hl:(⟨⟨Lib.decDigits n⟩⟩:ByteArray).data.toList.length=(Lib.decDigits n).length:=rfl;simp only [Hj,Ab,Db,hl];have e:IntKind.i64.wrap (8-((Lib.decDigits n).length:Int))=((8-(Lib.decDigits n).length:Nat):Int):=by rw [wrap_i64 (by omega) (by omega)];omega
 rw [e];refine .inl ⟨_,by decide,Afs (show 8-(Lib.decDigits n).length<9 by omega),rfl,λv hv=>?_⟩;rw [Ms.1 hv];refine AaZ hf (by omega) λA1 m1=>?_;have n1:=m1.next;refine Ag9 _ _ BD ?_;rw [Aiv];have hlen:(([106,46]:List UInt8)++List.replicate (8-(Lib.decDigits n).length) 48++Lib.decDigits n).length=9+1:=by
  rw [Lq,Lq,List.length_replicate];show 2+_+_=_;omega
 refine .inr (AcT (x:=⟨⟨[106,46]⟩⟩) (y:=⟨⟨List.replicate (8-(Lib.decDigits n).length) 48⟩⟩) (z:=⟨⟨Lib.decDigits n⟩⟩) m1.Bk (by show _<1000;rw [hlen];decide) ?_)
 have:=hk A1 ((Grow.made m1 hf).more (by omega))
 rw [hnm] at this;exact this
end
end Go.Proofs.YtnennggfoegcmaaGreatDoor
namespace Go.Abs
open Go.ChangeShapes Go.WideShapes Go.ChangeAt Go.RowKit
def okB(n:Nat)(l:List (Nat × List Value × TypeId)):Bool:=Nat.ble n Aj&&l.all λx=>Nat.blt x.1 n
def UR(P:Program)(W:World)(L:List Arg)(l:List (Nat × List Value × TypeId)):Prop:=∀ x∈l,∃ (cs':Array Value) (fr:Nat × Nat),W.heap[x.1]? =some (.cells cs' x.2.2 fr)/\∀ (i:Nat) v,x.2.1[i]? =some v->∃ v',cs'[i]? =some v'/\AM (mR P L) v v'
section
variable {P:Program} {W:World} {gl:List (Nat × List Value × TypeId)} {L:List Arg}
theorem Qn{n:Nat}(hok:okB n gl=true)(hk:n+L.length<=Aj){i:Nat}{o:AO}(h:(wR n gl L).get i=some o):
  (∃ x∈gl,x.1=i/\i<n/\o=.row x.2.1 x.2.2 i 0 true)\/∃ j p cs e,i=n+j/\L[j]? =some (p,some (cs,e))/\o=.row cs e (n+L.length) 0 true:=by
 have h:(Mp (n+L.length) n L (Lb gl)).get? i=some o:=h;rw [FY _ L n _ _ hk] at h;unfold okB at hok;simp only [Bq,List.all_eq_true] at hok;obtain ⟨hn,hl⟩:=hok;have hn:=Bb.1 hn;have glob:(Lb gl).get? i=some o->∃ x∈gl,x.1=i/\i<n/\o=.row x.2.1 x.2.2 i 0 true:=by
  intro h;obtain ⟨x,hx,rfl,rfl⟩:=LX gl (λx hx=>Nat.lt_of_lt_of_le (AA.1 (hl x hx)) hn) i o h;exact ⟨x,hx,rfl,AA.1 (hl x hx),rfl⟩
 split at h
 ·exact .inl (glob h)
 ·split at h
  ·rename_i hi p cs e hq;cases h;exact .inr ⟨i-n,p,cs,e,by omega,hq,rfl⟩
  ·exact .inl (glob h)
theorem Nq{n:Nat}(hok:okB n gl=true)(hk:n+L.length+1<=Aj):Aw (wR n gl L):=by
 refine ⟨λi hi=>?_,λi hi=>?_⟩
 ·have hi:n+L.length+1<=i:=hi;show ((Trie.nil:Trie (List Nat)).put depth (n+L.length) _).get? i=none;rw [Trie.get?_put depth _ _ i _ (by unfold depth Aj at *;omega),Ff (by omega)];rfl
 ·have hi:n+L.length+1<=i:=hi;cases hq:(wR n gl L).get i with
  |none=>rfl
  |some o=>
   rcases Qn hok (by omega) hq with ⟨x,_,_,h,_⟩ | ⟨j,p,cs,e,rfl,h,_⟩
   ·omega
   ·have:=(Gs.1 h).1
    omega
theorem Abt(hok:okB P.globals.size gl=true)(hk:P.globals.size+L.length+1<=Aj)(hW:UR P W L gl)(hA:Abb P W L):Rel (mR P L) (wR P.globals.size gl L) W:=by
 have hget:=λ{i:Nat} {o:AO} (h:(wR P.globals.size gl L).get i=some o)=>Qn hok (by omega) h;have hlen:(L.map (·.1)).length=L.length:=List.length_map _;have harg:∀ {j:Nat} {p:Nat × Nat} {q:Option (List Value × TypeId)},L[j]? =some (p,q)->mR P L (P.globals.size+j)=some p:=by
  intro j p q h;show mA P _ _=_;rw [Kv,List.getElem?_map,h];rfl
 refine ⟨?_,?_,?_,?_,?_,hk,?_⟩
 ·intro i o c d hi hm;rcases hget hi with ⟨x,hx,rfl,hlt,rfl⟩ | ⟨j,p,cs,e,rfl,hj,rfl⟩
  ·have hm:mA P (L.map (·.1)) x.1=some (c,d):=hm;rw [Hh hlt] at hm;cases hm;obtain ⟨cs',fr,hc,hv'⟩:=hW x hx;refine ⟨_,hc,cs',fr,rfl,λi v hv=>?_⟩;obtain ⟨v',g1,g2⟩:=hv' i v hv;exact ⟨v',by simpa using g1,λ_=>g2,λh=>by cases h⟩
  ·rw [harg hj] at hm;cases hm;obtain ⟨cs',fr,h1,h2,h3⟩:=hA j _ cs e hj;refine ⟨_,h1,cs',fr,rfl,λi v hv=>?_⟩;obtain ⟨v',g1,g2⟩:=h3 i v hv;exact ⟨v',g1,λ_=>g2,λh=>by cases h⟩
 ·intro i cs e b ro hi c d hm;rcases hget hi with ⟨x,hx,rfl,hlt,_⟩ | ⟨j,p,cs2,e2,rfl,hj,he⟩
  ·have hm:mA P (L.map (·.1)) x.1=some (c,d):=hm;rw [Hh hlt] at hm;cases hm;rfl
  ·have:=(Gs.1 hj).1
   simp only [AO.row.injEq] at he;omega
 ·intro i j oi oj c di dj hij hi hj hmi hmj;refine .inl ?_;rcases hget hi with ⟨x,hx,rfl,hlt,rfl⟩ | ⟨j,p,cs2,e2,rfl,_,rfl⟩<;>rcases hget hj with ⟨y,hy,rfl,hlt2,rfl⟩ | ⟨j2,p2,cs3,e3,rfl,_,rfl⟩<;>exact ⟨rfl,rfl⟩
 ·intro i o f b hi hf;have hmem:∀ f,(wR P.globals.size gl L).members f=if f=P.globals.size+L.length then (List.range L.length).map (P.globals.size+·) else [f]:=by
   intro f;show (match ((Trie.nil:Trie (List Nat)).put depth (P.globals.size+L.length) _).get? f with | some l=>l | none=>[f])=_;rw [Trie.get?_put depth _ _ f _ (by unfold depth Aj at *;omega)];by_cases h:f=P.globals.size+L.length
   ·rw [if_pos h,if_pos h]
   ·rw [Ff h,Ff h];rfl
  rcases hget hi with ⟨x,hx,rfl,hlt,rfl⟩ | ⟨j,p,cs2,e2,rfl,hj,rfl⟩
  ·simp only [AO.fam,Oi,Pj] at hf;obtain ⟨rfl,rfl⟩:=hf;rw [hmem,Ff (by omega)];exact ⟨by simp,by show x.1<P.globals.size+L.length+1;omega⟩
  ·simp only [AO.fam,Oi,Pj] at hf;obtain ⟨rfl,rfl⟩:=hf
   have:=(Gs.1 hj).1
   rw [hmem,if_pos rfl];exact ⟨List.mem_map.2 ⟨j,List.mem_range.2 this,rfl⟩,by show _<P.globals.size+L.length+1;omega⟩
 ·intro i hi;have hi:P.globals.size+L.length+1<=i:=hi;have hf:=Nq (n:=P.globals.size) hok hk;refine ⟨hf.get i hi,?_,hf.fams i hi⟩;show (if i<P.globals.size then some (i,0) else (L.map (·.1))[i-P.globals.size]?)=none;rw [Ff (by omega)];exact List.getElem?_eq_none (by omega)
 ·intro i cs e f b ro c d hi hm;rcases hget hi with ⟨x,hx,rfl,hlt,he⟩ | ⟨j,p,cs2,e2,rfl,hj,he⟩
  ·cases he;have hm:mA P (L.map (·.1)) x.1=some (c,d):=hm;rw [Hh hlt] at hm;cases hm;obtain ⟨cs',fr,hc,_⟩:=hW x hx;exact ⟨λh=>absurd rfl h,_,_,fr,hc,by show 0+0<=_;omega,λh=>by cases h⟩
  ·cases he;rw [harg hj] at hm;cases hm;obtain ⟨cs',fr,h1,h2,h3⟩:=hA j _ _ _ hj;exact ⟨λh=>absurd rfl h,cs',_,fr,h1,by show _+0<=_;omega,λh=>by cases h⟩
theorem U7(hok:okB P.globals.size gl=true)(hk:P.globals.size+L.length<=Aj)(c:Nat):¬ Own (mR P L) (wR P.globals.size gl L) c:=by
 rintro ⟨i,o,d,hi,hro,_⟩;rcases Qn hok hk hi with ⟨x,hx,rfl,hlt,rfl⟩ | ⟨j,p,cs2,e2,rfl,_,rfl⟩<;>cases hro
theorem YO{R:World->Prop}(hR:∀ W W':World,R W->Go.RowKit.Below W.heap.size W W'->R W'){g:FuncId}(hg:g≠Et)(h:∀ W,R W->Calls P g #[] W λe W'=>e=.returned (.bool true)/\Go.RowKit.Below W.heap.size W W'){W0:World}(hW:R W0)(m0:Inj P)[Nfl m0]:
  KC.Holds P W0 m0 ⟨g,[],[.bool true]⟩:=by
 refine ⟨λe=>absurd e hg,λ_=>?_⟩;intro m args' W hm hb ha;cases ha;refine (h W (hR W0 W hW hb)).mono ?_;rintro e W' ⟨rfl,hb'⟩;exact ⟨_,by simp,rfl,hb',λf=>absurd f (Nfl.not hm)⟩
variable {X:Bt} {W0:World} {m0:Inj P}
end
end Go.Abs
namespace Go.Proofs.YtnennggfoegcmaaGreatDoor
open Go.Abs Go.Jr
variable {p:Prop} {A:AW} {x s f:ByteArray} {K:Value->AW->Prop}
structure GE (A:AW):Prop where
 one:∃ (a f b:Nat) (ro:Bool),A.get 2=some (.row [.iface 292 (pP a 0)] 214 f b ro)/\f<A.next/\f<7
 two:∃ (a f b:Nat) (ro:Bool),A.get 3=some (.row [.iface 292 (pP a 0)] 214 f b ro)/\f<A.next/\f<7
theorem ckY{r:Option Value}{v:Value}(h:r=some v)(hp:p):Aa r λt=>eqW t v p:=⟨v,h,rfl,hp⟩
theorem VK(x y:ByteArray)(a:Nat):Bd Tp 282 [(0,.string x),(1,.string y),(2,.iface 292 (pP a 0))]=some (.agg ⟨[.string x,.string y,.iface 292 (pP a 0)]⟩):=by kernel_rfl
def WS(x y:ByteArray)(a:Nat):List Value:=[.string x,.string y,.iface 292 (pP a 0)]
theorem SC{q a:Nat}{y:ByteArray}(h:A.get q=some (.row (WS x y a) 282 q 0 false))(hp:p):Cd (Bn Tp (λ_=>.agg ⟨WS x y a⟩) (.box 282 (.tmp 0))) A (pP q 0) p:=by
 refine ⟨⟨.row (WS x y a) 282,rfl,?_⟩,hp⟩;have ha:Go.Abs.sameAddr ⟨a,0,none⟩ ⟨a,0,none⟩=true:=by simp [Go.Abs.sameAddr]
 simp only [B4,Eu,h,WS,EF,DT,ha,GF,Bool.and_self,Option.isNone_none,Bool.true_and,Nat.beq_refl]
theorem ifP(n:Int):Ga Tp 258 (.int .i64 n)=some (.iface 258 (.int .i64 n)):=by kernel_rfl
theorem Y5(xo yo:Operand):An Tp .eql 214 xo yo (.iface 258 (.int .i64 2)) (.iface 258 (.int .i64 2))=some (.bool true):=by kernel_rfl
theorem Y6(xo yo:Operand):An Tp .eql 214 xo yo (.iface 258 (.int .i64 1)) (.iface 258 (.int .i64 2))=some (.bool false):=by kernel_rfl
theorem Y7(xo yo:Operand):An Tp .eql 214 xo yo (.iface 258 (.int .i64 1)) (.iface 258 (.int .i64 1))=some (.bool true):=by kernel_rfl
theorem Sl(n:Nat):An Tp .neq 214 (.tmp n) (.const .nilIface) .nilIface .nilIface=some (.bool false):=by kernel_rfl
theorem Aau(xo yo:Operand):An Tp .neq 214 xo yo (.iface 258 (.int .i64 1)) .nilIface=some (.bool true):=by kernel_rfl
theorem Aat(xo yo:Operand):An Tp .neq 214 xo yo (.iface 258 (.int .i64 2)) .nilIface=some (.bool true):=by kernel_rfl
def Ve(q:Nat):Value:=.iface 261 (pP q 0)
theorem ifM(q:Nat):Ga Tp 261 (pP q 0)=some (Ve q):=by kernel_rfl
theorem Aas(xo yo:Operand)(q:Nat):An Tp .neq 214 xo yo (Ve q) .nilIface=some (.bool true):=by kernel_rfl
section
variable {W0:World} {m0:Inj Tp} [Nfl m0]
theorem AdQ(hl:s.data.toList.length<100000000)(hg:GE A)(hf:Aw A)(hA:A.next+8<Aj)(hk:∀ A' q,Grow A A' 2->K (pP q 0) A'):Wc Tp Dy W0 m0 238 [.string x,.string s] A K:=by
 refine AgD _ _ _ BD ?_;rw [AhZ];obtain ⟨⟨a,f,b,ro,h1,h2,h3⟩,h4⟩:=hg;have l0:∀ {B:AW},B.get 2=some (.row [.iface 292 (pP a 0)] 214 f b ro)->Ae Tp B 214 (pP 2 0)=some (.iface 292 (pP a 0)):=λh=>by rw [YK,Af h];rfl
 refine Dh (l0 h1) ?_;refine .inl ⟨_,by decide,AbH s hl,rfl,λv hv=>?_⟩;rw [Ms.1 hv];refine ckY (l0 h1) (AR.2 (Dh (VK x s a) ?_));refine AZ (cs:=WS x s a) hf (by omega) rfl λA2 m2=>?_;have n2:=m2.next;have h7:=(m2.keeps hf).get 2 _ h1 (show f<A.next from h2) (by simp);refine SC m2.row (ckY (VK x s a) (ckY (l0 h7) (AR.2 (AR.2 ?_))));exact hk A2 A.next ((Grow.made m2 hf).more (by omega))
theorem AdP(hl:s.data.toList.length<100000000)(hg:GE A)(hf:Aw A)(hA:A.next+8<Aj)(hk:∀ A' q,Grow A A' 2->K (pP q 0) A'):Wc Tp Dy W0 m0 239 [.string x,.string s] A K:=by
 refine AgC _ _ _ BD ?_;rw [AhY];obtain ⟨h4,⟨a,f,b,ro,h1,h2,h3⟩⟩:=hg;have l0:∀ {B:AW},B.get 3=some (.row [.iface 292 (pP a 0)] 214 f b ro)->Ae Tp B 214 (pP 3 0)=some (.iface 292 (pP a 0)):=λh=>by rw [YK,Af h];rfl
 refine Dh (l0 h1) ?_;refine .inl ⟨_,by decide,AbH s hl,rfl,λv hv=>?_⟩;rw [Ms.1 hv];refine ckY (l0 h1) (AR.2 (Dh (VK x s a) ?_));refine AZ (cs:=WS x s a) hf (by omega) rfl λA2 m2=>?_;have n2:=m2.next;have h7:=(m2.keeps hf).get 3 _ h1 (show f<A.next from h2) (by simp);refine SC m2.row (ckY (VK x s a) (ckY (l0 h7) (AR.2 (AR.2 ?_))));exact hk A2 A.next ((Grow.made m2 hf).more (by omega))
theorem AdS{v2 v3:Value}{c:Int}(hc:c=1\/c=2)(hl:s.data.toList.length<100000000)(hg:GE A)(hf:Aw A)(hA:A.next+8<Aj)(hk:∀ A' q,Grow A A' 2->K (Ve q) A'):Wc Tp Dy W0 m0 207 [.string x,.string s,v2,v3,.iface 258 (.int .i64 c)] A K:=by
 refine AgG _ _ _ _ _ _ BD ?_;rw [Ah2];rcases hc with rfl | rfl
 ·refine Dh (ifP _) (Dh (Y6 _ _) (Ag.2 ⟨λh=>(by cases h),λ_=>?_⟩));refine Dh (ifP _) (Dh (Y7 _ _) (Ag.2 ⟨λ_=>?_,λh=>(by cases h)⟩));exact AdP hl hg hf hA λA' q g=>Dh (ifM q) (hk A' q g)
 ·refine Dh (ifP _) (Dh (Y5 _ _) (Ag.2 ⟨λ_=>?_,λh=>(by cases h)⟩));exact AdQ hl hg hf hA λA' q g=>Dh (ifM q) (hk A' q g)
theorem AdW (hl:s.data.toList.length<100000000) (hg:GE A) (hf:Aw A) (hA:A.next+8<Aj)
  (hk0:∀ n:Int,Lib.atoiAll s.data.toList=.ok n->K (.tuple ⟨[.int .i64 n,.nilIface]⟩) A) (hk1:∀ A' n q,(∀ v,Lib.atoiAll s.data.toList≠ .ok v)->Grow A A' 2->K (.tuple ⟨[.int .i64 n,Ve q]⟩) A'):Wc Tp Dy W0 m0 183 [.string s] A K:=by
 refine AgO _ _ BD ?_;rw [Aia];obtain ⟨n,er,bad,hkc,her,hiff⟩:=Afr (W0:=W0) (m0:=m0) s hl;rcases her with ⟨rfl,rfl⟩ | ⟨rfl,c,hc,rfl⟩
 ·refine .inl ⟨_,by decide,hkc,rfl,λv hv=>?_⟩;rw [Ms.1 hv];simp only [Ci,Ch,Ab,Sl];exact Ag.2 ⟨λh=>(by cases h),λ_=>hk0 n ((hiff n).2 ⟨rfl,rfl⟩)⟩
 ·refine .inl ⟨_,by decide,hkc,by rcases hc with rfl | rfl<;>rfl,λv hv=>?_⟩;rw [Ms.1 hv];simp only [Ci,Ch,Ab];refine Dh (v:=.bool true) (by rcases hc with rfl | rfl;exact Aau _ _;exact Aat _ _) ?_;refine Ag.2 ⟨λ_=>?_,λh=>(by cases h)⟩;exact AdS hc hl hg hf hA λA' q g=>hk1 A' n q (λv h=>by have:=((hiff v).1 h).1;cases this) g
theorem AdX(hl:f.data.toList.length<100000000)(h1:f.data.toList.take 2=[106,46]->K (.tuple ⟨[.string ⟨⟨f.data.toList.drop 2⟩⟩,.bool true]⟩) A)(h0:f.data.toList.take 2≠[106,46]->K (.tuple ⟨[.string f,.bool false]⟩) A):
  Wc Tp Dy W0 m0 182 [.string f,.string ⟨⟨[106,46]⟩⟩] A K:=by
 refine AgP _ _ _ BD ?_;rw [Aib];refine AgH _ _ _ BD ?_;rw [Ah3];refine AgF _ _ _ BD ?_;rw [Ah1];have hl2:(⟨⟨[106,46]⟩⟩:ByteArray).data.toList.length=2:=rfl;simp only [Hj,hl2,Ab,JR,Az];refine ⟨λhge=>?_,λhlt=>?_⟩
 ·rw [XT (by omega)];simp only [Ab,XM,Bl];refine Ag.2 ⟨λh=>?_,λh=>?_⟩
  ·have h:f.data.toList.take 2≠[106,46]:=λhe=>by rw [he] at h;simp at h
   simp only [Ci,Ch,Ab];exact h0 h
  ·have h:f.data.toList.take 2=[106,46]:=by simpa using h
   rw [AeA (by omega)];simp only [Ab,Ci,Ch];exact h1 h
 ·simp only [Ab,Bl];refine Ag.2 ⟨λ_=>?_,λh=>by simp at h⟩;simp only [Ci,Ch,Ab];refine h0 λh=>?_
  have:=congrArg List.length h
  rw [List.length_take] at this
  have:min 2 f.data.toList.length=2:=this
  omega
theorem Aee(hp:Pow W0)(hl:f.data.toList.length<100000000)(hN:∀ n:Nat,n<100000000->KC.Holds Tp W0 m0 ⟨78,[.int .i64 (n:Int)],[.string ⟨⟨Jr.nm n⟩⟩]⟩)(hg:GE A)(hf:Aw A)(hA:A.next+8<Aj):
  Wc Tp Dy W0 m0 130 [.string f] A λv _=>v=.int .i64 (numOf f.data.toList:Int):=by
 have hno:∀ {P:Prop},(numOf f.data.toList≠0->False)->((Value.int .i64 0)=.int .i64 (numOf f.data.toList:Int)):=λh=>by
  have:numOf f.data.toList=0:=Classical.byContradiction h
  rw [this];rfl
 have hv:numOf f.data.toList≠0->f.data.toList.take 2=[106,46]/\Lib.atoiAll (f.data.toList.drop 2)=.ok (numOf f.data.toList:Int)/\numOf f.data.toList<100000000:=λh=>by
  have e:=Abx h;have hlt:numOf f.data.toList<100000000:=by
   rcases Go.Jr.NS f.data.toList with h1 | h1
   ·exact h1
   ·exact absurd h1 h
  have e2:f.data.toList.drop 2=dig 8 (numOf f.data.toList):=by
   conv=>lhs;rw [e]
   rfl
  refine ⟨?_,by rw [e2];exact Zs hlt,hlt⟩
  conv=>lhs;rw [e]
  rfl
 refine Ahl _ _ BD ?_;rw [AiH];have rest:∀ (s:ByteArray) (b:Bool),s.data.toList.length<100000000->(b=true->s.data.toList=f.data.toList.drop 2)->(b=false->f.data.toList.take 2≠[106,46])->
   Wc Tp Dy W0 m0 183 [.string s] A λt3 At3=>Aa (Ap t3 0) λt4=>Aa (Ap t3 1) λt5=>Aa (unA Tp .not (.bool b)) λt6=>Ai t6 ((.int .i64 0)=(.int .i64 (numOf f.data.toList:Int):Value)) (Aa (An Tp .neq 214 (.tmp 20) (.const .nilIface) t5 .nilIface) λt7=>Ai t7 ((.int .i64 0)=(.int .i64 (numOf f.data.toList:Int):Value)) (Aa (An Tp .lss 3 (.tmp 24) (.const (.int .i64 1)) t4 (.int .i64 1)) λt8=>Ai t8 ((.int .i64 0)=(.int .i64 (numOf f.data.toList:Int):Value)) (Aa (An Tp .gtr 3 (.tmp 28) (.const (.int .i64 99999999)) t4 (.int .i64 99999999)) λt9=>Ai t9 ((.int .i64 0)=(.int .i64 (numOf f.data.toList:Int):Value)) (knW Tp W0 m0 78 [t4] At3 λt10 At10=>Aa (An Tp .neq 9 (.tmp 33) (.tmp 34) t10 (.string f)) λt11=>Ai t11 ((.int .i64 0)=(.int .i64 (numOf f.data.toList:Int):Value)) (t4=(.int .i64 (numOf f.data.toList:Int):Value)))))):=by
  intro s b hs hb1 hb0;refine AdW hs hg hf hA (λn hok=>?_) (λA' n q hbad g=>?_)
  ·simp only [Ci,Ch,Ab,Bl];refine Ag.2 ⟨λh=>hno (P:=True) λh0=>hb0 (by simpa using h) (hv h0).1,λh=>?_⟩;have hb:b=true:=by simpa using h
   have hs2:=hb1 hb;rw [hs2] at hok;simp only [Sl,Ab];refine Ag.2 ⟨λh=>(by cases h),λ_=>?_⟩;have hn:numOf f.data.toList≠0->n=(numOf f.data.toList:Int):=λh0=>by
    have:=(hv h0).2.1
    rw [hok] at this;cases this;rfl
   simp only [Br,B3,Ab,Az];refine ⟨λh1=>hno (P:=True) λh0=>by have:=hn h0;have:=(hv h0).2.2;omega,λh1=>⟨λh2=>hno (P:=True) λh0=>by have:=hn h0;have:=(hv h0).2.2;omega,λh2=>?_⟩⟩;obtain ⟨u,rfl⟩:∃ u:Nat,n=(u:Int):=⟨n.toNat,by omega⟩;refine .inl ⟨_,by decide,hN u (by omega),rfl,λv hv'=>?_⟩;rw [Ms.1 hv'];simp only [OH,Ab];refine Ag.2 ⟨λh=>hno (P:=True) λh0=>?_,λh=>?_⟩
   ·have e1:=hn h0;have e2:=Abx h0;have e3:u=numOf f.data.toList:=by omega
    rw [e3] at h
    have:(Jr.nm (numOf f.data.toList)==f.data.toList)=true:=beq_iff_eq.2 e2.symm
    simp [this] at h
   ·have h:Jr.nm u=f.data.toList:=by simpa using h
    have e:=Yv (n:=u) (by omega);rw [h] at e;rw [e]
  ·simp only [Ci,Ch,Ab,Bl];have h00:numOf f.data.toList≠0->b=true->False:=λh0 hb=>hbad _ (by rw [hb1 hb];exact (hv h0).2.1);refine Ag.2 ⟨λh=>hno (P:=True) λh0=>hb0 (by simpa using h) (hv h0).1,λh=>?_⟩;have hb:b=true:=by simpa using h
   simp only [Aas,Ab];exact Ag.2 ⟨λ_=>hno (P:=True) λh0=>h00 h0 hb,λh=>(by cases h)⟩
 refine AdX hl (λh=>?_) (λh=>?_)
 ·simp only [Ci,Ch,Ab];exact rest ⟨⟨f.data.toList.drop 2⟩⟩ true (by show (f.data.toList.drop 2).length<_;rw [List.length_drop];omega) (λ_=>rfl) (λh=>by cases h)
 ·simp only [Ci,Ch,Ab];exact rest f false hl (λh=>by cases h) (λ_=>h)
end
theorem Tryz.nG:Tp.globals.size=7:=by kernel_rfl
instance nflR (L:List Arg):Nfl (mR Tp L):=⟨⟨(0,0),Hh (by rw [Tryz.nG];decide)⟩,λh=>by cases h⟩
def Jw(W:World):Prop:=∃ (a b:Addr) (fr fr':Nat × Nat),(a.spot=none/\W.heap[2]? =some (.cells #[.iface 292 (.pointer (some a))] 214 fr))/\b.spot=none/\W.heap[3]? =some (.cells #[.iface 292 (.pointer (some b))] 214 fr')
theorem Jw.grow{W W':World}(h:Jw W)(hb:Go.RowKit.Below W.heap.size W W'):Jw W':=by
 obtain ⟨a,b,fr,fr',⟨h1,h2⟩,h3,h4⟩:=h;exact ⟨a,b,fr,fr',⟨h1,by rw [hb.block 2 (Array.getElem?_eq_some_iff.1 h2).1];exact h2⟩,h3,by rw [hb.block 3 (Array.getElem?_eq_some_iff.1 h4).1];exact h4⟩
def RQ:List (Nat × List Value × TypeId):=[(2,[.iface 292 (pP 7 0)],214),(3,[.iface 292 (pP 8 0)],214)]
theorem okE:okB Tp.globals.size RQ=true:=by rw [Tryz.nG];rfl
theorem Afz(L:List Arg)(hk:7+L.length<=Aj):GE (wR Tp.globals.size RQ L):=by
 rw [Tryz.nG];refine ⟨⟨7,2,0,true,?_,?_,by decide⟩,⟨8,3,0,true,?_,?_,by decide⟩⟩
 ·show (Mp _ 7 L _).get? 2=_;rw [FY _ L 7 _ _ hk,if_pos (by decide)];rfl
 ·show 2<7+L.length+1;omega
 ·show (Mp _ 7 L _).get? 3=_;rw [FY _ L 7 _ _ hk,if_pos (by decide)];rfl
 ·show 3<7+L.length+1;omega
section
variable {W0:World} {m0:Inj Tp} [Nfl m0]
theorem I6(hp:Pow W0){n:Nat}(hn:n<100000000):HV W0 m0 n:=by
 refine ⟨λe=>absurd e (show (78:Nat)≠Et by decide),λ_ m args' W hm hb ha=>?_⟩;cases ha with
 |cons h1 h2=>
  cases h2;cases h1;have hW:UR Tp W [] []:=λx hx=>by cases hx
  have hok:okB Tp.globals.size []=true:=by rw [Tryz.nG];rfl
  have hk:Tp.globals.size+([]:List Arg).length+1<=Aj:=by rw [Tryz.nG];show 7+0+1<=Aj;decide
  have h:Wc Tp Dy W (mR Tp []) 78 [.int .i64 (n:Int)] (wR Tp.globals.size [] []) λv _=>v=.string ⟨⟨Jr.nm n⟩⟩:=
   Ago (hp.grow hb) hn (Nq hok hk) (by show Tp.globals.size+0+1+20<Aj;rw [Tryz.nG];decide) λ_ _=>rfl
  refine (Hd gP h (Abt hok hk hW λj p cs e hj=>by simp at hj) (λi hi=>Hh hi) (U7 hok (by omega)) (.cons (.int _ _) .nil)).mono ?_;rintro e w' ⟨v,v',m',A',rfl,rfl,h2,h3⟩;cases h2;exact ⟨_,Ms.2 rfl,rfl,(Ui h3 (U7 hok (by omega))).below,λf=>absurd f (Nfl.not hm)⟩
theorem QK{W:World}(hE:Jw W)(hp:Pow W){f:List UInt8}(hl:f.length<100000000):Calls Tp 130 #[.string ⟨⟨f⟩⟩] W λe W'=>e=.returned (.int .i64 (numOf f:Int))/\Go.RowKit.Below W.heap.size W W':=by
 obtain ⟨a,b,fr,fr',⟨ha4,h4⟩,hb5,h5⟩:=hE;have hk:Tp.globals.size+[(((a.block,a.off),none):Arg),((b.block,b.off),none)].length+1<=Aj:=by rw [Tryz.nG];show 7+2+1<=Aj;decide
 have hW:UR Tp W [(((a.block,a.off),none):Arg),((b.block,b.off),none)] RQ:=by
  have m7:mR Tp [(((a.block,a.off),none):Arg),((b.block,b.off),none)] 7=some (a.block,a.off):=by
   have:=Kv (P:=Tp) (l:=([(((a.block,a.off),none):Arg),((b.block,b.off),none)]).map (·.1)) (i:=0)
   rw [Tryz.nG] at this;exact this
  have m8:mR Tp [(((a.block,a.off),none):Arg),((b.block,b.off),none)] 8=some (b.block,b.off):=by
   have:=Kv (P:=Tp) (l:=([(((a.block,a.off),none):Arg),((b.block,b.off),none)]).map (·.1)) (i:=1)
   rw [Tryz.nG] at this;exact this
  intro x hx;simp only [RQ,Mk,List.not_mem_nil,or_false] at hx;rcases hx with rfl | rfl
  ·refine ⟨_,fr,h4,λi v hv=>?_⟩
   match i,hv with
   |0,hv=>
    obtain rfl:Value.iface 292 (pP 7 0)=v:=by simpa using hv
    exact ⟨_,rfl,.iface 292 (.ptr ⟨rfl,ha4,a.off,m7,rfl⟩)⟩
   |i+1,hv=>simp at hv
  ·refine ⟨_,fr',h5,λi v hv=>?_⟩
   match i,hv with
   |0,hv=>
    obtain rfl:Value.iface 292 (pP 8 0)=v:=by simpa using hv
    exact ⟨_,rfl,.iface 292 (.ptr ⟨rfl,hb5,b.off,m8,rfl⟩)⟩
   |i+1,hv=>simp at hv
 have h:Wc Tp Dy W (mR Tp [(((a.block,a.off),none):Arg),((b.block,b.off),none)]) 130 [.string ⟨⟨f⟩⟩] (wR Tp.globals.size RQ [(((a.block,a.off),none):Arg),((b.block,b.off),none)]) λv _=>v=.int .i64 (numOf f:Int):=
  Aee (f:=⟨⟨f⟩⟩) hp hl (λn hn=>I6 hp hn) (Afz _ (by show 7+2<=Aj;decide)) (Nq okE hk) (by show Tp.globals.size+2+1+8<Aj;rw [Tryz.nG];decide)
 refine (Hd gP h (Abt okE hk hW λj p cs e hj=>?_) (λi hi=>Hh hi) (U7 okE (by omega)) (.cons (.string _) .nil)).mono ?_
 ·match j,hj with
  |0,hj=>simp at hj
  |1,hj=>simp at hj
  |j+2,hj=>simp at hj
 ·rintro e w' ⟨v,v',m',A',rfl,rfl,h2,h3⟩;cases h2;exact ⟨rfl,(Ui h3 (U7 okE (by omega))).below⟩
theorem Afu(hE:Jw W0)(hp:Pow W0){f:List UInt8}(hl:f.length<100000000):Aa7 W0 m0 f:=by
 refine ⟨λe=>absurd e (show (130:Nat)≠Et by decide),λ_ m args' W hm hb ha=>?_⟩;cases ha with
 |cons h1 h2=>
  cases h2;cases h1;exact (QK (hE.grow hb) (hp.grow hb) hl).mono λe W' ⟨he,hw⟩=>⟨_,Ms.2 rfl,he,hw,λf=>absurd f (Nfl.not hm)⟩
end
theorem AbO(k:Int)(s:ByteArray):Bd Tp 80 [(0,.int .u8 k),(1,.string s)]=some (.agg ⟨[.int .u8 k,.string s]⟩):=by kernel_rfl
section
variable {A:AW} {lg j d mp pm ep:Nat} {q:JS} {s:DS} {Fl Fr:List Nat} {L:List DV} {W0:World} {m0:Inj Tp}
theorem CM.one(h:CM A lg j d mp pm q s Fl Fr ep L):1∉j::d::mp::(Fl++Fr):=by
 intro hm
 have:=h.n1
 simp only [Mk] at hm;rcases hm with h1 | h1 | h1 | h1
 ·omega
 ·omega
 ·omega
 ·exact (h.nf 1 h1).2.2 rfl
theorem CM.jdk{A':AW}{q':JS}{s':DS}{Fl' Fr':List Nat}(h:CM A lg j d mp pm q s Fl Fr ep L)(hj:JD A' j d mp q' s' Fl' Fr')(k:Ah A A' (j::d::mp::(Fl++Fr)))(hl:∀ y∈Fl',y∈Fl\/A.next<=y)(hr:∀ y∈Fr',y∈Fr\/A.next<=y):CM A' lg j d mp pm q' s' Fl' Fr' ep L:=by
 obtain ⟨a1,a2,a3,a4,a5,a6,a7⟩:=h.ne;obtain ⟨hlg,hjl,hd,hmp,hpm,hFl,hFr⟩:=h.lt;have hn:∀ y∈Fl'++Fr',y∈Fl++Fr\/A.next<=y:=λy hy=>by
  rcases Mz.1 hy with hy | hy
  ·rcases hl y hy with h | h
   ·exact .inl (List.mem_append_left _ h)
   ·exact .inr h
  ·rcases hr y hy with h | h
   ·exact .inl (List.mem_append_right _ h)
   ·exact .inr h
 have nlg:lg∉j::d::mp::(Fl++Fr):=by
  intro hm;simp only [Mk] at hm;rcases hm with h1 | h1 | h1 | h1
  ·exact a1 h1
  ·exact a2 h1
  ·exact a3 h1
  ·exact (h.nf _ h1).1 rfl
 have npm:pm∉j::d::mp::(Fl++Fr):=by
  intro hm;simp only [Mk] at hm;rcases hm with h1 | h1 | h1 | h1
  ·exact a5 h1
  ·exact a6 h1
  ·exact a7 h1
  ·exact (h.nf _ h1).2.1 rfl
 obtain ⟨es,c,ho,he,hx⟩:=h.mo;refine ⟨h.row.keeps k nlg,hj,⟨es,c,ho.keeps k npm,he,hx⟩,λv hv=>?_,h.ne,λy hy=>?_,h.n1⟩
 ·obtain ⟨F,h1,h2⟩:=h.rd v hv;have hF:∀ y∈F,y<A.next:=h1.fam (A0:=A);refine ⟨F,h1.keeps k λy hy hm=>h2 y hy ?_,λy hy hm=>?_⟩
  ·simp only [Mk] at hm ⊢;rcases hm with h | h | h | h
   ·exact .inr (.inl h)
   ·exact .inr (.inr (.inl h))
   ·exact .inr (.inr (.inr (.inl h)))
   ·exact .inr (.inr (.inr (.inr (.inr (.inr h)))))
  ·have:=hF y hy
   simp only [Mk] at hm;have h3:=h2 y hy;simp only [Mk,not_or] at h3;rcases hm with h | h | h | h | h | h | h
   ·exact h3.1 h
   ·exact h3.2.1 h
   ·exact h3.2.2.1 h
   ·exact h3.2.2.2.1 h
   ·exact h3.2.2.2.2.1 h
   ·exact h3.2.2.2.2.2.1 h
   ·rcases hn y h with h | h
    ·exact h3.2.2.2.2.2.2 h
    ·omega
 ·rcases hn y hy with h1 | h1
  ·exact h.nf y h1
  ·omega
theorem Aef {K:Value->AW->Prop} (h:CM A lg j d mp pm q s Fl Fr ep L) (hu:Uq (L.map (·.d))) (hL:L.length<1000) (hf:Aw A) (hA:A.next+100000<Aj)
  (hk:∀ A' v (M:List DV) F,BF 35 3 fD A' v M F->M.map (·.d)=Bx (L.map (·.d))->(∀ y∈F,A.next<=y)->RdD A' A.next M F->Ah A A' []->A'.next<=A.next+100+30*L.length->Aw A'->K v A'):Wc Tp Al W0 m0 13 [ptr lg] A K:=by
 refine w13 _ _ BD ?_;rw [e13];refine ZV h.row rfl ?_;simp only [Bl,Ab];refine Ag.2 ⟨λh=>by simp at h,λ_=>?_⟩;exact AdM h hu hL hf hA hk
structure Jok (W0:World) (m0:Inj Tp) (A:AW) (c i:Nat) (s:DS) (q:JS):Prop where
 gl:Glb A
 qb:QB c i s q
 c9:c<=900
 nm:∀ n,n<100000000->HV W0 m0 n
theorem Ab6 {v:DV} {c i:Nat} {K:Value->AW->Prop} (h:CM A lg j d mp pm q s Fl Fr ep L) (hi:i<1000) (hq6:v.d.ok->v.d.x∉(L.map (·.d)).map Dc.x->(Ak s q (1,v.d.by)).2.2=0->QB 900 63 (Ak s q (1,v.d.by)).1 (Ak s q (1,v.d.by)).2.1) (hJ:Jok W0 m0 A c i s q) (hp:EM A v (lg::j::d::mp::pm::1::(Fl++Fr))) (hw:v.d.wf) (hn:v.d.ps.length<1000000) (hf:Aw A) (hA:A.next<800000000000)
  (hk:∀ A' Fl' Fr' L',CM A' lg j d mp pm (Ei s q (L.map (·.d)) v.d).2.1 (Ei s q (L.map (·.d)) v.d).1 Fl' Fr' ep L'->L'.map (·.d)=(Ei s q (L.map (·.d)) v.d).2.2.1->Glb A'->(∀ y∈Fl'++Fr',y∈Fl++Fr\/A.next<=y)->Ah A A' (j::d::mp::pm::(Fl++Fr))->A'.next<=A.next+20000->Aw A'->K (.int .i64 (Ei s q (L.map (·.d)) v.d).2.2.2) A'):Wc Tp Al W0 m0 16 [ptr lg,vD v] A K:=by
 have hmax:Aj=1099511627776:=rfl;have hpr:=h.Sb;obtain ⟨hlg,hjl,hd,hmp,hpm,hFl,hFr⟩:=h.lt;have fin0:∀ {A':AW},Ah A A' []->Aw A'->A'.next<=A.next+20000->Ei s q (L.map (·.d)) v.d=(s,q,L.map (·.d),(Ei s q (L.map (·.d)) v.d).2.2.2)->K (.int .i64 (Ei s q (L.map (·.d)) v.d).2.2.2) A':=λ{A'} k f n he=>by
  refine hk A' Fl Fr L (by rw [he];exact h.keeps k (by simp)) (by rw [he]) (hJ.gl.keeps k (by simp)) (λy hy=>.inl hy) (k.more (by simp)) n f
 refine w16 _ _ _ BD ?_;rw [e16];refine AZ (cs:=fD v) hf (by omega) rfl λA1 m1=>?_;have n1:=m1.next;have k1:=m1.keeps hf;have H1:=h.keeps k1 (by simp);refine ZV H1.row rfl ?_;simp only [Bl,Ab];refine Ag.2 ⟨λh=>by simp at h,λ_=>?_⟩;rw [Ky m1.Bk];simp only [Ab];obtain ⟨Fp,p0,hp0⟩:=hp;refine AdJ (l:=v.d.ps) m1.Ay (by omega) (p0.keeps k1 (by simp)) hn λA2 g2=>?_;have n2:=g2.next;have l2:=g2.le;have K2:Ah A A2 []:=k1.trans g2.keeps (by simp);have r2:=m1.Bk.keeps g2.keeps (by simp);simp only [Bw,Ab,Bj];refine ⟨λhc=>?_,λhc=>?_⟩
 ·have he:Ei s q (L.map (·.d)) v.d=(s,q,L.map (·.d),260):=by unfold Ei;rw [if_pos hc]
  have:=fin0 K2 g2.Ay (by omega) (by rw [he])
  rwa [he] at this
 have hok:v.d.ok:=⟨hw,hc⟩;refine AH zD g2.Ay (by omega) rfl λA3 m3=>?_;have n3:=m3.next;have k3:=m3.keeps g2.Ay;refine GN m3.row ?_;have K3:Ah A A3 []:=K2.trans k3 (by simp);have H3:=h.keeps K3 (by simp);have r3:=r2.keeps k3 (by simp);simp only [ptr,AD,Hb,Er,Lu,Af H3.row.row,cellOf,Bp,AI,AB,Cf,Ab,Nat.zero_add];rw [x35 r3];simp only [Ab,H3.look,Ct,Ap,List.getElem?_toArray,List.getElem?_cons_zero,List.getElem?_cons_succ];obtain ⟨f',g',b',sv',hlt,hsv1,hsv2⟩:=Lt L v.d.x;rw [hlt];refine DR m3.Bk rfl hsv1 m3.Ay (by omega) λA4 t4 k4 n4 f4=>?_;have K4:Ah A A4 []:=K3.trans k4 (by simp;omega);have H4:=h.keeps K4 (by simp);have r4:=r3.keeps k4 (by simp;omega);simp only [AR];refine Ag.2 ⟨λhs=>?_,λhs=>?_⟩
 ·rw [E0] at hs;have he:Ei s q (L.map (·.d)) v.d=(s,q,L.map (·.d),8):=by unfold Ei;rw [Ff (by simpa using hc),if_pos hs]
  have:=fin0 K4 f4 (by omega) (by rw [he])
  rwa [he] at this
 have hnone:DW L v.d.x=none:=by
  cases hq:DW L v.d.x with
  |none=>rfl
  |some z=>rw [hq] at hs;cases hs
 rw [E0] at hs;simp only [JL,PT,Af H4.row.row,cellOf,Bp,AI,AB,Cf,Ab,Nat.zero_add];rw [Ky r4];simp only [Ab];refine AdI (l:=v.d.ps) f4 (by omega) (p0.keeps K4 (by simp)) hok.1.1 hok.1.2 hok.2 λA5 bv F5 g5 b5 hF5=>?_;have n5:=g5.next;have l5:=g5.le;have K5:Ah A A5 []:=K4.trans g5.keeps (by simp);have H5:=h.keeps K5 (by simp);have r5:=r4.keeps g5.keeps (by simp);have b5:Buf 5 A5 bv v.d.by F5:=b5
 have hby:=hok.len;simp only [JL,PT,Af H5.row.row,cellOf,Bp,AI,AB,Cf,Ab,AR,AD,Nat.zero_add];rw [b5.rd.str tb];refine AT.2 ?_;rw [AbO];simp only [Ab];obtain ⟨n,q1,q2,q3⟩:=hJ.qb.last;refine AdL (r:=((1:UInt8),⟨⟨v.d.by⟩⟩)) H5.jd (hJ.gl.keeps K5 (by simp)) hJ.qb.ok (by have:=hJ.c9;omega) g5.Ay (by omega) ⟨h.n1.2.1,h.n1.2.2.1,h.n1.2.2.2.1⟩ (by show v.d.by.length<=65536;omega) (by have:=hJ.qb.l;omega) (by have:=hJ.qb.row;omega) q1 (by omega) (by have:=hJ.qb.size;omega) (by rw [hJ.qb.lim];decide) (by rw [hJ.qb.lim];decide) (hJ.nm n (by omega)) (λ_=>hJ.nm (n+1) (by omega)) λA6 Fl6 Fr6 j6 hFl6 hFr6 k6 n6 f6=>?_;have ht:toR ((1:UInt8),(⟨⟨v.d.by⟩⟩:ByteArray))=(1,v.d.by):=rfl;rw [ht] at j6 ⊢;have l6:=k6.next;have hc9:=hJ.c9;have K6:Ah A A6 (j::d::mp::(Fl++Fr)):=(K5.more (by simp)).trans k6 (λy hy=>.inl hy);have hFl6':∀ y∈Fl6,y∈Fl\/A.next<=y:=λy hy=>(hFl6 y hy).imp id λh=>by omega
 have hFr6':∀ y∈Fr6,y∈Fr\/A.next<=y:=λy hy=>(hFr6 y hy).imp id λh=>by omega
 have H6:=h.jdk j6 K6 hFl6' hFr6';have G6:=hJ.gl.keeps K6 h.one;have hFF:∀ y∈Fl6++Fr6,y∈Fl++Fr\/A.next<=y:=λy hy=>by
  rcases Mz.1 hy with hy | hy
  ·exact (hFl6' y hy).imp (List.mem_append_left _) id
  ·exact (hFr6' y hy).imp (List.mem_append_right _) id
 have nA1:A.next∉j::d::mp::(Fl++Fr):=by
  intro hm;simp only [Mk,Mz] at hm;rcases hm with h | h | h | h | h
  ·omega
  ·omega
  ·omega
  ·have:=hFl _ h;omega
  ·have:=hFr _ h;omega
 have r6:=r5.keeps k6 nA1;refine Ab4 ?_;simp only [Bw,Ab,Bj];have hcom:∀ x,Ei s q (L.map (·.d)) v.d=x↔(if (Ak s q (1,v.d.by)).2.2≠0 then ((Ak s q (1,v.d.by)).1,(Ak s q (1,v.d.by)).2.1,L.map (·.d),HH (Ak s q (1,v.d.by)).2.2) else
   if (BJ (Ak s q (1,v.d.by)).1 (Ak s q (1,v.d.by)).2.1).2.2≠0 then
    ((BJ (Ak s q (1,v.d.by)).1 (Ak s q (1,v.d.by)).2.1).1,(BJ (Ak s q (1,v.d.by)).1 (Ak s q (1,v.d.by)).2.1).2.1,L.map (·.d),(BJ (Ak s q (1,v.d.by)).1 (Ak s q (1,v.d.by)).2.1).2.2) else
   ((BJ (Ak s q (1,v.d.by)).1 (Ak s q (1,v.d.by)).2.1).1,(BJ (Ak s q (1,v.d.by)).1 (Ak s q (1,v.d.by)).2.1).2.1,L.map (·.d)++[v.d],0))=x:=λx=>by
  unfold Ei;rw [Ff (by simpa using hc),Ff (by rw [hs];simp)]
 have hfe:HH (Ak s q (1,v.d.by)).2.2≠0↔(Ak s q (1,v.d.by)).2.2≠0:=by
  unfold HH;split
  ·rename_i h3;rw [h3];simp
  ·exact Iff.rfl
 refine ⟨λhe=>?_,λhe=>?_⟩
 ·have he':=hfe.1 he;have hq:=(hcom _).2 (if_pos he')
  have:=hk A6 Fl6 Fr6 L (by rw [hq];exact H6) (by rw [hq]) G6 hFF (K6.more (by simp;grind)) (by omega) f6
  rwa [hq] at this
 have he':(Ak s q (1,v.d.by)).2.2=0:=Classical.not_not.1 λhh=>absurd he (by simpa using hfe.2 hh);have qb6:=hq6 hok (λhm=>by rw [Dx.2 hm] at hs;cases hs) he';simp only [JL,PT,Af H6.row.row,cellOf,Bp,AI,AB,Cf,Ab,AD,Nat.zero_add];obtain ⟨n',q1',q2',q3'⟩:=qb6.last;refine Agt H6.jd qb6.ok f6 (by omega) (by have:=qb6.row;omega) q1' (hJ.nm n' (by omega)) λA7 j7 k7 n7 f7=>?_;have l7:=k7.next;have K7':Ah A6 A7 (j::d::mp::(Fl6++Fr6)):=k7.more (by simp);have H7:=H6.jdk j7 K7' (λy hy=>.inl hy) (λy hy=>.inl hy);have G7:=G6.keeps K7' H6.one;have K7:Ah A A7 (j::d::mp::(Fl++Fr)):=K6.trans k7 (by simp);have r7:=r6.keeps k7 (by simp;omega);simp only [Bw,Ab,Bj];refine ⟨λhse=>?_,λhse=>?_⟩
 ·have hq:=(hcom _).2 (by rw [Ff (by simpa using he'),if_pos hse])
  have:=hk A7 Fl6 Fr6 L (by rw [hq];exact H7) (by rw [hq]) G7 hFF (K7.more (by simp;grind)) (by omega) f7
  rwa [hq] at this
 have hq:=(hcom _).2 (by rw [Ff (by simpa using he'),Ff (by simpa using hse)]);simp only [E4,I5,Af r7.row,fD,By,cellOf,DV.sv,CG,Cf,Ab,Nat.zero_add];have hFp:∀ y∈Fp,y<A.next:=p0.fam (A0:=A);have p7:C4 A7 v.sv v.d.ps Fp:=p0.keeps K7 λy hy hm=>hp0 y hy (by simp only [Mk] at hm ⊢;grind);have h1:1<=v.d.ps.length:=(GQ.1 hok.2).2.2.1;refine AdH (l:=v.d.ps) p7 h1 f7 (by omega) hn λA8 o8 c8 G8 p8 hG8 g8=>?_;have n8:=g8.next;have l8:=g8.le;have r8:=r7.keeps g8.keeps (by simp);refine r8.store g8.Ay (by omega) (XQ _ _ _) rfl (by show 3+1<=4;omega) rfl λA9 t9 k9 n9 f9=>?_;have t9:Abs.Row1 A9 A.next (fD ⟨v.d,o8,c8⟩) 35:=t9;have k9:Ah A8 A9 [A.next]:=k9;rw [Ky t9];simp only [Ab];have K79:Ah A7 A9 [A.next]:=(g8.keeps.more (by simp)).trans k9 (λy hy=>.inl hy);have K9:Ah A A9 (j::d::mp::(Fl++Fr)):=K7.trans K79 (by simp);have H9:CM A9 lg j d mp pm (BJ (Ak s q (1,v.d.by)).1 (Ak s q (1,v.d.by)).2.1).2.1 (BJ (Ak s q (1,v.d.by)).1 (Ak s q (1,v.d.by)).2.1).1 Fl6 Fr6 ep L:=by
  refine H7.Ma (X:=[A.next]) K79 (λy hy=>.inl hy) (λy hy hm=>?_) λw hw=>?_
  ·rw [Ms.1 hy] at hm;simp only [Mk] at hm;rcases hm with h1 | h1 | h1 | h1 | h1 | h1 | h1
   ·omega
   ·omega
   ·omega
   ·omega
   ·omega
   ·have:=h.ne.1;omega
   ·rcases Mz.1 h1 with h1 | h1
    ·rcases hFl6 _ h1 with h2 | h2
     ·have:=hFl _ h2;omega
     ·omega
    ·rcases hFr6 _ h1 with h2 | h2
     ·have:=hFr _ h2;omega
     ·omega
  ·obtain ⟨F,w1,w2⟩:=h.rd w hw;have hF:∀ y∈F,y<A.next:=w1.fam (A0:=A);exact ⟨F,w1.keeps K7 λy hy hm=>w2 y hy (by simp only [Mk] at hm ⊢;grind),λy hy hm=>by have:=hF y hy;rw [Ms.1 hm] at this;omega⟩
 refine Ab2 (v:=⟨v.d,o8,c8⟩) H9 hnone ⟨G8,p8.keeps k9 (λy hy=>by have:=hG8 y hy;simp;omega),λy hy hm=>by have:=hG8 y hy;have:=H7.Sb y hm;omega⟩ f9 (by omega) λA10 H10 k10 n10 f10=>?_;refine AdK H10 (by rw [(Nv _ _).2.2.2];have:=qb6.l;omega) f10 (by omega) λA11 g11=>?_;have n11:=g11.next;have K11:Ah A A11 (j::d::mp::pm::(Fl++Fr)):=((K9.more (by simp;grind)).trans k10 (by simp)).trans g11.keeps (by simp);have o11:1∉j::d::mp::pm::(Fl++Fr):=by
  intro hm;have h1:=h.one;have h2:=h.n1.2.2.2.2;simp only [Mk] at hm h1
  grind
 have:=hk A11 Fl6 Fr6 (L++[⟨v.d,o8,c8⟩]) (by rw [hq];exact H10.keeps g11.keeps (by simp)) (by rw [hq];simp) (hJ.gl.keeps K11 o11) hFF K11 (by omega) g11.Ay
 rwa [hq] at this
end
section
variable {A:AW} {lg j d mp pm ep:Nat} {q:JS} {s:DS} {Fl Fr:List Nat} {L:List DV} {W0:World} {m0:Inj Tp}
theorem YY(L:List DV)(x:Nm):(L.filter λv=>!CL x v.d.x).map (·.d)=(L.map (·.d)).filter λd=>!CL x d.x:=by
 rw [List.filter_map];rfl
theorem Ab7 {x:Nm} {c i:Nat} {K:Value->AW->Prop} (h:CM A lg j d mp pm q s Fl Fr ep L) (hu:Uq (L.map (·.d))) (hi:i<1000) (hq6:x∈(L.map (·.d)).map Dc.x->(Ak s q (2,xnB x)).2.2=0->QB 900 63 (Ak s q (2,xnB x)).1 (Ak s q (2,xnB x)).2.1) (hJ:Jok W0 m0 A c i s q) (hf:Aw A) (hA:A.next<800000000000)
  (hk:∀ A' Fl' Fr' L',CM A' lg j d mp pm (FU s q (L.map (·.d)) x).2.1 (FU s q (L.map (·.d)) x).1 Fl' Fr' ep L'->L'.map (·.d)=(FU s q (L.map (·.d)) x).2.2.1->Glb A'->(∀ y∈Fl'++Fr',y∈Fl++Fr\/A.next<=y)->Ah A A' (j::d::mp::pm::(Fl++Fr))->A'.next<=A.next+20000->Aw A'->K (.int .i64 (FU s q (L.map (·.d)) x).2.2.2) A'):Wc Tp Al W0 m0 15 [ptr lg,kN x] A K:=by
 have hmax:Aj=1099511627776:=rfl;obtain ⟨hlg,hjl,hd,hmp,hpm,hFl,hFr⟩:=h.lt;refine w15 _ _ _ BD ?_;rw [e15];refine AZ (cs:=x.cells) hf (by omega) rfl λA1 m1=>?_;have n1:=m1.next;have k1:=m1.keeps hf;have H1:=h.keeps k1 (by simp);refine ZV H1.row rfl ?_;simp only [Bl,Ab];refine Ag.2 ⟨λh=>by simp at h,λ_=>?_⟩;refine AH zD m1.Ay (by omega) rfl λA3 m3=>?_;have n3:=m3.next;have k3:=m3.keeps m1.Ay;refine GN m3.row ?_;have K3:Ah A A3 []:=k1.trans k3 (by simp);have H3:=h.keeps K3 (by simp);have r3:=m1.Bk.keeps k3 (by simp);simp only [ptr,AD,Hb,Lu,Af H3.row.row,cellOf,Bp,AI,AB,Cf,Ab,Nat.zero_add];rw [I3 r3];simp only [Ab];have hkn:(Value.agg ⟨x.cells⟩)=kN x:=rfl;rw [hkn,H3.look x true];simp only [Ct,Ab,Ap,List.getElem?_toArray,List.getElem?_cons_zero,List.getElem?_cons_succ];obtain ⟨f',g',b',sv',hlt,hsv1,hsv2⟩:=Lt L x;rw [hlt];refine DR m3.Bk rfl hsv1 m3.Ay (by omega) λA4 t4 k4 n4 f4=>?_;have K4:Ah A A4 []:=K3.trans k4 (by simp;omega);have H4:=h.keeps K4 (by simp);have r4:=r3.keeps k4 (by simp;omega);simp only [AR,Bl,Ab];refine Ag.2 ⟨λhs=>?_,λhs=>?_⟩
 ·have hs:(getD (L.map (·.d)) x).isSome=false:=by rw [<- E0];simpa using hs
  have he:FU s q (L.map (·.d)) x=(s,q,L.map (·.d),7):=by unfold FU;rw [if_pos hs]
  have:=hk A4 Fl Fr L (by rw [he];exact H4) (by rw [he]) (hJ.gl.keeps K4 (by simp)) (λy hy=>.inl hy) (K4.more (by simp)) (by omega) f4
  rwa [he] at this
 have hs:(DW L x).isSome=true:=by simpa using hs
 obtain ⟨v,hv⟩:=Option.isSome_iff_exists.1 hs;obtain ⟨hvL,hvx⟩:=N1 hv;have hvok:=(hu.ok v.d (List.mem_map_of_mem hvL)).AbW;rw [E0] at hs;have hxx:DQ x.g x.b=0:=by rw [<- hvx];exact hvok.2.1
 have hxf:x.f<4294967296:=by rw [<- hvx];exact hvok.2.2
 obtain ⟨x1,x2,x3⟩:=CT hxx;have hxl:(xnB x).length<=134:=by unfold xnB;rw [D3];omega
 simp only [JL,PT,Af H4.row.row,cellOf,Bp,AI,AB,Cf,Ab,Nat.zero_add];rw [I3 r4];simp only [Ab];have hkx:(Value.agg ⟨x.cells⟩)=Fj (x.f:Int) x.g x.b:=rfl;rw [hkx];refine Ab3 (A0:=A4) (n:=0) (Grow.refl f4) (by omega) hxf hxx (Buf.nil 5 A4) (by simp) (by simp) λA5 bv F5 g5 kk5 nn5 b5 hF5=>?_;rw [List.nil_append] at b5;have n5:=g5.next;have l5:=g5.le;have K5:Ah A A5 []:=K4.trans g5.keeps (by simp);have H5:=h.keeps K5 (by simp);have r5:=r4.keeps g5.keeps (by simp);have b5:Buf 5 A5 bv (xnB x) F5:=b5;simp only [JL,PT,Af H5.row.row,cellOf,Bp,AI,AB,Cf,Ab,AR,AD,Nat.zero_add];rw [b5.rd.str tb];refine AT.2 ?_;rw [AbO];simp only [Ab];obtain ⟨n,q1,q2,q3⟩:=hJ.qb.last;refine AdL (r:=((2:UInt8),⟨⟨xnB x⟩⟩)) H5.jd (hJ.gl.keeps K5 (by simp)) hJ.qb.ok (by have:=hJ.c9;omega) g5.Ay (by omega) ⟨h.n1.2.1,h.n1.2.2.1,h.n1.2.2.2.1⟩ (by show (xnB x).length<=65536;omega) (by have:=hJ.qb.l;omega) (by have:=hJ.qb.row;omega) q1 (by omega) (by have:=hJ.qb.size;omega) (by rw [hJ.qb.lim];decide) (by rw [hJ.qb.lim];decide) (hJ.nm n (by omega)) (λ_=>hJ.nm (n+1) (by omega)) λA6 Fl6 Fr6 j6 hFl6 hFr6 k6 n6 f6=>?_;have ht:toR ((2:UInt8),(⟨⟨xnB x⟩⟩:ByteArray))=(2,xnB x):=rfl;rw [ht] at j6 ⊢;have l6:=k6.next;have hc9:=hJ.c9;have K6:Ah A A6 (j::d::mp::(Fl++Fr)):=(K5.more (by simp)).trans k6 (λy hy=>.inl hy);have hFl6':∀ y∈Fl6,y∈Fl\/A.next<=y:=λy hy=>(hFl6 y hy).imp id λh=>by omega
 have hFr6':∀ y∈Fr6,y∈Fr\/A.next<=y:=λy hy=>(hFr6 y hy).imp id λh=>by omega
 have H6:=h.jdk j6 K6 hFl6' hFr6';have G6:=hJ.gl.keeps K6 h.one;have hFF:∀ y∈Fl6++Fr6,y∈Fl++Fr\/A.next<=y:=λy hy=>by
  rcases Mz.1 hy with hy | hy
  ·exact (hFl6' y hy).imp (List.mem_append_left _) id
  ·exact (hFr6' y hy).imp (List.mem_append_right _) id
 have nA1:A.next∉j::d::mp::(Fl++Fr):=by
  intro hm;simp only [Mk,Mz] at hm;rcases hm with h | h | h | h | h
  ·omega
  ·omega
  ·omega
  ·have:=hFl _ h;omega
  ·have:=hFr _ h;omega
 have r6:=r5.keeps k6 nA1;refine Ab4 ?_;simp only [Bw,Ab,Bj];have hcom:∀ z,FU s q (L.map (·.d)) x=z↔(if (Ak s q (2,xnB x)).2.2≠0 then ((Ak s q (2,xnB x)).1,(Ak s q (2,xnB x)).2.1,L.map (·.d),HH (Ak s q (2,xnB x)).2.2) else
   ((Ak s q (2,xnB x)).1,(Ak s q (2,xnB x)).2.1,(L.map (·.d)).filter (λd=>!CL x d.x),0))=z:=λz=>by
  unfold FU;rw [Ff (by rw [hs];simp)]
 have hfe:HH (Ak s q (2,xnB x)).2.2≠0↔(Ak s q (2,xnB x)).2.2≠0:=by
  unfold HH;split
  ·rename_i h3;rw [h3];simp
  ·exact Iff.rfl
 refine ⟨λhe=>?_,λhe=>?_⟩
 ·have he':=hfe.1 he;have hq:=(hcom _).2 (if_pos he')
  have:=hk A6 Fl6 Fr6 L (by rw [hq];exact H6) (by rw [hq]) G6 hFF (K6.more (by simp;grind)) (by omega) f6
  rwa [hq] at this
 have he':(Ak s q (2,xnB x)).2.2=0:=Classical.not_not.1 λhh=>absurd he (by simpa using hfe.2 hh);have hq:=(hcom _).2 (Ff (by simpa using he'));have qb6:=hq6 (Dx.1 hs) he';simp only [Hb,Lu,Af H6.row.row,cellOf,Bp,AI,AB,Cf,Ab,AD,Nat.zero_add];rw [I3 r6];simp only [Ab];rw [hkn];obtain ⟨es,c',ho,he2,hxe⟩:=H6.mo;refine ho.del mtN f6 (by omega) λA7 ho7 k7 n7 f7=>?_;have hde:=Zd x hxe;have H7:=H6.map (L':=L.filter λv=>!CL x v.d.x) k7 ⟨_,c',ho7,by rw [hde.1,he2],hde.2⟩ λw hw=>H6.rd w (List.mem_filter.1 hw).1;refine AdK H7 (by have:=qb6.l;omega) f7 (by omega) λA11 g11=>?_;have n11:=g11.next;have K11:Ah A A11 (j::d::mp::pm::(Fl++Fr)):=((K6.more (by simp;grind)).trans k7 (by simp)).trans g11.keeps (by simp);have o11:1∉j::d::mp::pm::(Fl++Fr):=by
  intro hm;have h1:=h.one;have h2:=h.n1.2.2.2.2;simp only [Mk] at hm h1
  grind
 have:=hk A11 Fl6 Fr6 (L.filter λv=>!CL x v.d.x) (by rw [hq];exact H7.keeps g11.keeps (by simp)) (by rw [hq];exact YY L x) (hJ.gl.keeps K11 o11) hFF K11 (by omega) g11.Ay
 rwa [hq] at this
end
theorem Ai4(a b:Nat):Bd Tp 74 [(0,pP a 0),(2,.map (some b))]=some (.agg ⟨[pP a 0,.int .u32 0,.map (some b)]⟩):=by kernel_rfl
def fnV(f lg:Nat):Value:=.func (.func f) ⟨[ptr lg]⟩ ⟨[]⟩
theorem Ai3(lg:Nat):Bd Tp 77 [(1,fnV 30 lg),(2,fnV 31 lg)]=some (.agg ⟨[.nilFunc,fnV 30 lg,fnV 31 lg]⟩):=by kernel_rfl
theorem AbT:Dt Tp 77=some (.agg #[.nilFunc,.nilFunc,.nilFunc]):=by kernel_rfl
theorem AfO(A:AW)(lg:Nat)(x:Value):D2 Tp A (fnV 30 lg) [x]=.ok (.enter 30 [ptr lg,x]) A:=by kernel_rfl
theorem AfN(A:AW)(lg:Nat)(x:Value):D2 Tp A (fnV 31 lg) [x]=.ok (.enter 31 [ptr lg,x]) A:=by kernel_rfl
theorem AbS:Dt Tp 80=some (.agg #[.int .u8 0,.string .empty]):=by kernel_rfl
theorem AeB(y:Say):y.rc.1.toNat<=2/\1<=y.rc.1.toNat:=by
 cases y with
 |com d=>exact ⟨Nat.le_succ 1,Nl 1⟩
 |fin x=>exact ⟨Nl 2,Nat.le_succ 1⟩
section
variable {A:AW} {lg j d mp pm ep:Nat} {q:JS} {s:DS} {Fl Fr:List Nat} {L:List DV} {W0:World} {m0:Inj Tp}
theorem Tj{f lg:Nat}{x:Value}{K:Value->AW->Prop}(hd:D2 Tp A (fnV f lg) [x]=.ok (.enter f [ptr lg,x]) A)(hkn:NW f Al.known=false)(h:Wc Tp Al W0 m0 f [ptr lg,x] A K):anW Tp Al W0 m0 (D2 Tp A (fnV f lg) [x]) K:=by
 refine .inr (.inl ⟨f,_,A,hd,?_⟩);unfold toW;rw [hkn,Cf];exact h
structure Opn (c:Nat) (s3:DS) (q3:JS) (e:Nat) (Ls:List Dc) (acts:List Say):Prop where
 st:(q3.state=[]/\e=0/\Ls=[])\/(1<=e/\∃ L0,q3.state=stB e (Bx L0)/\Uq L0/\L0.length<=43/\Ls=Bx L0)
 e2:e<=1000
 l:q3.l=acts.map Say.rc
 ok:FC Ls acts
 few:Ls.length+acts.length<=43+80
 fin:(BY Ls acts).length<=43
 ck:(AE s3 (namesS s3.D) q3 (stB (e+1) (Bx (BY Ls acts)))).2.2=0
 qb:OkS c s3
 c9:c+q3.row.length<=900
 la:∃ n,q3.row.getLast? =some n/\n<=1000
 rw:∀ x∈q3.row,x<100000000
theorem wc6 {k9 LL c e:Nat} {s3:DS} {q3:JS} {Ls:List Dc} {acts:List Say} {K:Value->AW->Prop} (h:Dk A d mp s) (hg:Glb A) (hok:OkS k9 s) (hk9:k9<=1000) (hLf:∀ f∈s.D,f.2.1.length<=LL) (hL:LL<=160000) (hkL:k9*LL<12900000) (hf:Aw A) (hA:A.next<400000000000) (h0:1≠d/\1≠mp) (hmd:mp≠d)
  (hnum:∀ f∈namesS s.D,Aa7 W0 m0 f) (hnm:∀ n,n<100000000->HV W0 m0 n) (hseg:∀ x∈Cs s.D (namesS s.D),x.n<100000000)
  (ho:Cl s (namesS s.D) 300=(s3,some q3,0)) (hO:Opn c s3 q3 e Ls acts)
  (hk:∀ A' lg j pm Fl Fr L,CM A' lg j d mp pm (AE s3 (namesS s3.D) q3 (stB (e+1) (Bx (BY Ls acts)))).2.1 (AE s3 (namesS s3.D) q3 (stB (e+1) (Bx (BY Ls acts)))).1 Fl Fr (e+1) L->L.map (·.d)=BY Ls acts->Glb A'->(A.next<=lg/\A.next<=j/\A.next<=pm/\∀ y∈Fl++Fr,A.next<=y)->Ah A A' [d,mp]->A'.next<=A.next+400000000->Aw A'->K (.tuple ⟨[ptr lg,.int .i64 0]⟩) A'):
  Wc Tp Al W0 m0 6 [ptr d,.int .i64 300] A K:=by
 have hmax:Aj=1099511627776:=rfl;obtain ⟨hd,hmp⟩:=h.lt;have hus:Uq Ls:=by
  rcases hO.st with ⟨_,_,h⟩ | ⟨_,L0,_,h,_,h2⟩
  ·rw [h];exact Uq.nil
  ·rw [h2];exact FH h
 have hfinU:Uq (BY Ls acts):=by
  have:=Lg hus hO.ok acts.length (Nl _)
  rwa [List.take_length] at this
 have hact:=hO.few;let I:Nat->Nat->List Value->AW->Prop:=λg id vals A'=>id=0/\∃ (i lg j pm ar:Nat) (v:Value) (R:List RV) (Fl Fr Fv:List Nat) (L:List DV),vals=[ptr j,ptr lg,ptr ar,v,.int .i64 (R.length:Int),.int .i64 (i:Int)]/\i<=acts.length/\g=acts.length-i/\
  CM A' lg j d mp pm q3 s3 Fl Fr e L/\L.map (·.d)=BY Ls (acts.take i)/\R.map toR=acts.map Say.rc/\RdE 1 fR A' v R Fv/\pm∉Fv/\Abs.Row1 A' ar [.nilFunc,fnV 30 lg,fnV 31 lg] 77/\ar≠pm/\
  (A.next<=lg/\A.next<=j/\A.next<=pm/\∀ y∈Fl++Fr,A.next<=y)/\Ah A A' [d,mp]/\Aw A'/\A'.next<=A.next+330000000+7000*i
 refine w6 _ _ _ (c6 (I:=I) ?_) ?_
 ·rintro g id vals A' dd ⟨rfl,i,lg,j,pm,ar,v,R,Fl,Fr,Fv,L,rfl,hi,rfl,H,hLd,hR,hrd,hpv,har,harp,hfr,k,f,hx⟩ hd';rw [AhE];simp only [L6,Mc,Mn,Li,and_true] at hd';obtain ⟨h6,h8,h9,h37,h38,h39⟩:=hd';simp only [h6,h8,h9,h37,h38,h39,Br,Ab,Az];have hle:=k.next;have hRl:R.length=acts.length:=by have:=congrArg List.length hR;rwa [List.length_map,List.length_map] at this
  refine ⟨λhlt=>?_,λhge=>?_⟩
  ·have hlt:i<acts.length:=by omega
   obtain ⟨p,hp⟩:∃ p,R[i]? =some p:=⟨_,Ge (by omega)⟩;obtain ⟨y,hy⟩:∃ y,acts[i]? =some y:=⟨_,Ge hlt⟩;have hpy:toR p=y.rc:=by
    have h1:(R.map toR)[i]? =some (toR p):=by rw [List.getElem?_map,hp];rfl
    have h2:(acts.map Say.rc)[i]? =some y.rc:=by rw [List.getElem?_map,hy];rfl
    rw [hR,h2] at h1;exact (Option.some.inj h1).symm
   have hk1:p.1=y.rc.1:=congrArg Prod.fst hpy;have hk2:p.2.data.toList=y.rc.2:=congrArg Prod.snd hpy;have hyk:=AeB y;have hplay:=hO.ok i y hy;have hnext:BY Ls (acts.take (i+1))=nx (BY Ls (acts.take i)) y:=by rw [B9 hy,Kq]
   have huL:Uq (L.map (·.d)):=by rw [hLd];exact Lg hus hO.ok i (by omega)
   obtain ⟨r,o,a1,a2,a3⟩:=hrd.at etR hp;rw [a1];simp only [Ab,a3];refine AH AbS f (by omega) rfl λA1 m1=>?_;have n1:=m1.next;have k1:=m1.keeps f;refine m1.Bk.store m1.Ay (by omega) (XO _ _ _) rfl (by show 0+2<=2;omega) rfl λA2 r2 k2 n2 f2=>?_;have r2:Abs.Row1 A2 A'.next [.int .u8 (p.1.toNat:Int),.string p.2] 80:=r2;have k2:Ah A1 A2 [A'.next]:=k2;have K2:Ah A' A2 []:=k1.trans k2 (by simp);have H2:=H.keeps K2 (by simp);have har2:=har.keeps K2 (by simp);simp only [JK,JJ,L9,Eg,Af r2.row,cellOf,AI,AG,Cf,Ab,B3,Az,Nat.zero_add];rw [hk1];refine ⟨λh=>absurd h (by omega),λ_=>?_⟩;have hsv:(⟨⟨p.2.data.toList⟩⟩:ByteArray)=p.2:=Fe p.2;have hia:Ar Tp 77 (ptr ar) (.int .u8 (y.rc.1.toNat:Int))=some (.pointer (some ⟨ar,y.rc.1.toNat,none⟩)):=by
    show Ar Tp 77 (pP ar 0) (.int .u8 (.ofNat y.rc.1.toNat))=_;rw [Afv,AA.2 (by omega),Ct];unfold Ek;cases hb:Nat.beq (y.rc.1.toNat*1) 0 with
    |true=>have:=Nb hb;omega
    |false=>rw [Cf,Nat.mul_one,Nat.zero_add]
   rw [hia];simp only [Ab];have step:∀ (A3:AW) (L':List DV),CM A3 lg j d mp pm q3 s3 Fl Fr e L'->L'.map (·.d)=BY Ls (acts.take (i+1))->Ah A2 A3 [pm]->A3.next<=A2.next+6500->Aw A3->
     ∃ g2,g2<acts.length-i/\I g2 0 [ptr j,ptr lg,ptr ar,v,.int .i64 (R.length:Int),.int .i64 ((i+1:Nat):Int)] A3:=λA3 L' H3 hL3 k3 n3 f3=>by
    refine ⟨acts.length-(i+1),by omega,rfl,i+1,lg,j,pm,ar,v,R,Fl,Fr,Fv,L',rfl,by omega,rfl,H3,hL3,hR,(hrd.keeps K2 (by simp)).keeps k3 (λy hy hm=>by rw [Ms.1 hm] at hy;exact hpv hy),hpv,har2.keeps k3 (by simpa using harp),harp,hfr,?_,f3,by omega⟩;exact (k.trans K2 (by simp)).trans k3 λy hy=>by rw [Ms.1 hy];exact .inr hfr.2.2.1
   cases y with
   |com dc=>
    have hone:(Say.com dc).rc.1.toNat=1:=rfl;have hby:p.2.data.toList=dc.by:=hk2
    rw [hone];simp only [AbE,Af har2.row,cellOf,fnV,ptr,isTuple,Cf,Ab,JJ,Eg,Af r2.row,AI,AG,Nat.zero_add];rw [<- hsv,hby];refine Tj (AfO _ lg _) (by decide) ?_;refine Agw (dc:=dc) H2 hplay.1 ?_ f2 (by omega) λA3 w hw H3 k3 n3 f3=>?_
    ·rw [Kw,hLd];exact hplay.2
    simp only [Bl,Ab];refine Ag.2 ⟨λh=>by simp at h,λ_=>?_⟩;rw [Bm,wrap_i64 (by omega) (by omega)];simp only [Ab];exact Au.2 (step A3 _ H3 (by rw [List.map_append,hLd,hnext];show _++[w.d]=_;rw [hw];rfl) k3 (by omega) f3)
   |fin x=>
    have hone:(Say.fin x).rc.1.toNat=2:=rfl;have hby:p.2.data.toList=xnB x:=hk2;rw [hone];simp only [AbE,Af har2.row,cellOf,fnV,ptr,isTuple,Cf,Ab,JJ,Eg,Af r2.row,AI,AG,Nat.zero_add];rw [<- hsv,hby];have hm:x∈(L.map (·.d)).map Dc.x:=by rw [hLd];exact hplay
    obtain ⟨z,hz,hzx⟩:=List.mem_map.1 hm;have hzo:=(huL.ok z hz).AbW;refine Tj (AfN _ lg _) (by decide) ?_;refine Agv (x:=x) H2 (by rw [<- hzx];exact hzo.2.1) (by rw [<- hzx];exact hzo.2.2) (by rw [E0];exact Dx.2 hm) f2 (by omega) λA3 H3 k3 n3 f3=>?_;simp only [Bl,Ab];refine Ag.2 ⟨λh=>by simp at h,λ_=>?_⟩;rw [Bm,wrap_i64 (by omega) (by omega)];simp only [Ab];exact Au.2 (step A3 _ H3 (by rw [YY,hLd,hnext];rfl) k3 (by omega) f3)
  ·have hi':i=acts.length:=by omega
   subst hi';rw [List.take_length] at hLd;have he2:=hO.e2;have hLl:L.length<=43:=by have h1:=congrArg List.length hLd;rw [List.length_map] at h1;rw [h1];exact hO.fin
   simp only [ptr,AD,LA,N5,Af H.row.row,cellOf,Bp,AI,AB,Cf,Ab,Nat.zero_add,B8,Bm];have e1:(e:Int)+1=((e+1:Nat):Int):=by omega
   rw [e1,wrap_u32 (n:=e+1) (by omega)];refine Cg.2 ⟨λh=>absurd h (by omega),λ_=>?_⟩;refine H.row.store f (by omega) (Abq _ _ _) rfl (by show 1+1<=3;omega) rfl λA1 r1 k1 n1 f1=>?_;have r1:Abs.Row1 A1 lg [ptr j,.int .u32 ((e+1:Nat):Int),.map (some pm)] 74:=r1;have k1:Ah A' A1 [lg]:=k1;have H1:=H.AbJ k1 r1;have K1:Ah A A1 [d,mp]:=k.trans k1 λy hy=>by rw [Ms.1 hy];exact .inr hfr.1
   refine AdN H1 (by rw [hLd];exact hfinU) hLl (by omega) f1 (by omega) λA2 g2=>?_;have n2:=g2.next;have l2:=g2.le;have H2:=H1.keeps g2.keeps (by simp);have K2:Ah A A2 [d,mp]:=K1.trans g2.keeps (by simp);have hstl:(stB (e+1) (Bx (L.map (·.d)))).length<=50000:=by
    have:=KT (ep:=e+1) (FH (by rw [hLd];exact hfinU:Uq (L.map (·.d)))).ok
    rw [DX,List.length_map] at this;omega
   obtain ⟨n,la1,la2⟩:=hO.la;have h1dm:1∉[d,mp]:=by simp;exact h0
   have hc9:=hO.c9;obtain ⟨stb,hstb⟩:∃ x,x=stB (e+1) (Bx (L.map (·.d))):=⟨_,rfl⟩;rw [<- hstb] at hstl ⊢;have hs65:(⟨⟨stb⟩⟩:ByteArray).data.toList.length<=65536:=Nat.le_trans hstl (by decide);have hkq:c+q3.row.length<7000:=by omega
   have hA8:A2.next<800000000000:=by omega
   have hn8:n+1<100000000:=by omega
   refine Agu (st:=⟨⟨stb⟩⟩) H2.jd (hg.keeps K2 h1dm) hO.qb hkq g2.Ay hA8 ⟨H2.n1.2.1,H2.n1.2.2.1,H2.n1.2.2.2.1⟩ hs65 la1 hn8 (hnm _ hn8) (λx hx=>hnm x (hO.rw x hx)) λA3 Fl3 Fr3 j3 hFl3 hFr3 k3 n3 f3=>?_;have l3:=k3.next;have H3:=H2.jdk j3 k3 hFl3 hFr3;have hst:(⟨⟨stb⟩⟩:ByteArray).data.toList=stB (e+1) (Bx (BY Ls acts)):=by rw [<- hLd];exact hstb
   rw [hst] at H3 ⊢;have hck:=hO.ck;rw [hck];refine Ab4 ?_;have hf0:HH 0=0:=rfl;simp only [hf0,Bw,Ab];refine Ag.2 ⟨λh=>by simp at h,λ_=>?_⟩;have hFF:∀ y∈Fl3++Fr3,A.next<=y:=λy hy=>by
    have hle1:=k1.next;rcases Mz.1 hy with hy | hy
    ·rcases hFl3 y hy with h | h
     ·exact hfr.2.2.2 y (List.mem_append_left _ h)
     ·omega
    ·rcases hFr3 y hy with h | h
     ·exact hfr.2.2.2 y (List.mem_append_right _ h)
     ·omega
   have K3:Ah A A3 [d,mp]:=K2.trans k3 λy hy=>by
    simp only [Mk] at hy;rcases hy with rfl | rfl | rfl | hy
    ·exact .inr hfr.2.1
    ·exact .inl (by simp)
    ·exact .inl (by simp)
    ·exact .inr (hfr.2.2.2 y hy)
   exact hk A3 lg j pm Fl3 Fr3 L H3 hLd (hg.keeps K3 h1dm) ⟨hfr.1,hfr.2.1,hfr.2.2.1,hFF⟩ K3 (by omega) f3
 ·rw [e6];refine Agz h hg hok hk9 hLf (by omega) hkL hf (by omega) h0 hnum (λn hn=>hnm n (hn.elim (λh=>by omega) λ⟨x,hx,h⟩=>h▸hseg x hx)) (λe' A' s' hs=>by rw [ho] at hs;cases hs) λA1 s' q' j Fl Fr hs jd hj hFl hFr k1 n1 f1=>?_;rw [ho] at hs;simp only [Pj,Oi,and_true] at hs;obtain ⟨rfl,rfl⟩:=hs;have l1:=k1.next;simp only [Ap,List.getElem?_cons_zero,List.getElem?_cons_succ,Ab,Bw];refine Ag.2 ⟨λh=>by simp at h,λ_=>?_⟩;refine AeU (α:=Nm) (β:=DV) (ke:=kN) (ve:=vD) f1 (by omega) λA2 o2 k2 n2 f2=>?_;rw [ptr,Ai4];simp only [Ab];refine AZ (cs:=[pP j 0,.int .u32 0,.map (some A1.next)]) f2 (by omega) rfl λA3 m3=>?_;have n3:=m3.next;have k3:=m3.keeps f2;have K3:Ah A1 A3 []:=k2.trans k3 (by simp);have jlt:=jd.jn.lt;have dlt:=jd.dk.lt;have hFlA:∀ y∈Fl,y<A1.next:=by obtain ⟨_,_,_,_,a,_,_⟩:=jd.jn;exact a.lt
  have hFrA:∀ y∈Fr,y<A1.next:=by obtain ⟨_,_,_,_,_,_,a⟩:=jd.jn;exact a.lt
  have h1A:1<A.next:=hg.lt;have H3:CM A3 A2.next j d mp A1.next q3 s3 Fl Fr 0 []:=by
   refine ⟨m3.Bk,jd.keeps K3 (by simp) (by simp) (by simp) (by simp) (by simp),⟨[],0,o2.keeps k3 (by simp),rfl,by simp⟩,by simp,⟨by omega,by omega,by omega,by omega,by omega,by omega,by omega⟩,λy hy=>?_,⟨by omega,by omega,h0.1,h0.2,by omega⟩⟩;rcases Mz.1 hy with hy | hy
   ·have:=hFl y hy;have:=hFlA y hy;exact ⟨by omega,by omega,by omega⟩
   ·have:=hFr y hy;have:=hFrA y hy;exact ⟨by omega,by omega,by omega⟩
  have hfr:A.next<=A2.next/\A.next<=j/\A.next<=A1.next/\∀ y∈Fl++Fr,A.next<=y:=⟨by omega,hj,by omega,λy hy=>by
   rcases Mz.1 hy with hy | hy
   ·exact hFl y hy
   ·exact hFr y hy⟩
  have KA3:Ah A A3 [d,mp]:=k1.trans K3 (by simp);refine Agx H3.jd.jn ?_;have rest:∀ A4 (L4:List DV),CM A4 A2.next j d mp A1.next q3 s3 Fl Fr e L4->L4.map (·.d)=Ls->Ah A3 A4 [A2.next,A1.next]->A4.next<=A3.next+500000->Aw A4->
    Aa (unA Tp .not (.bool true)) λt9=>Ai t9 (K (.tuple ⟨[(.pointer none),(.int .i64 120)]⟩) A4) (Aa (Bd Tp 77 [(1,(.func (.func 30) ⟨[ptr A2.next]⟩ ⟨[]⟩)),(2,(.func (.func 31) ⟨[ptr A2.next]⟩ ⟨[]⟩))]) λt10=>Ao (BB Tp A4 77) λt11 At11=>Be (Av Tp At11 77 t11 t10) λAt12=>Wc Tp Al W0 m0 32 [ptr j] At12 λt13 At13=>Aa (Bi Tp At13 60 t13) λt14=>BE (T6 0) (T6 0) (∃ g2,I g2 0 [ptr j,ptr A2.next,t11,t13,t14,(.int .i64 0)] At13)):=λA4 L4 H4 hL4 k4 n4 f4=>by
   have l4:=k4.next;have hqll:q3.l.length<=123:=by rw [hO.l,List.length_map];omega
   simp only [Bl,Ab];refine Ag.2 ⟨λh=>by simp at h,λ_=>?_⟩;have hb:=Ai3 A2.next;unfold fnV at hb;rw [hb];simp only [Ab];refine AH AbT f4 (by omega) rfl λA5 m5=>?_;have n5:=m5.next;have k5:=m5.keeps f4;refine m5.Bk.store m5.Ay (by omega) (Aew _ _ _) rfl (by show 0+3<=3;omega) rfl λA6 r6 k6 n6 f6=>?_;have r6:Abs.Row1 A6 A4.next [.nilFunc,fnV 30 A2.next,fnV 31 A2.next] 77:=r6;have k6:Ah A5 A6 [A4.next]:=k6;have K6:Ah A4 A6 []:=k5.trans k6 (by simp);have H6:=H4.keeps K6 (by simp);refine AdO H6.jd.jn f6 (by omega) (by omega) λA7 v R F7 hR o7 hF7 g7=>?_;have n7:=g7.next;have l7:=g7.le;rw [RdE.len etR (o7.rd etR.len)];simp only [Ab];have KA4:Ah A A4 [d,mp]:=KA3.trans k4 λy hy=>by
    simp only [Mk,List.not_mem_nil,or_false] at hy;rcases hy with rfl | rfl
    ·exact .inr (by omega)
    ·exact .inr (by omega)
   exact Au.2 ⟨acts.length,rfl,0,A2.next,j,A1.next,A4.next,v,R,Fl,Fr,F7,L4,rfl,Nat.zero_le _,rfl,H6.keeps g7.keeps (by simp),by rw [List.take_zero,HC];exact hL4,by rw [<- hR,hO.l],o7.rd etR.len,λhm=>by have:=hF7 _ hm;omega,r6.keeps g7.keeps (by simp),by omega,hfr,(KA4.trans K6 (by simp)).trans g7.keeps (by simp),g7.Ay,by omega⟩
  rcases hO.st with ⟨hs0,he0,hLs⟩ | ⟨he1,L0,hs0,hu0,hl0,hLs⟩
  ·rw [hs0];refine Ab5 ?_;subst he0;exact rest A3 [] H3 (by rw [hLs];rfl) (Ah.refl _ _) (by omega) m3.Ay
  ·rw [hs0];refine Agy H3 hu0 hl0 he1 hO.e2 m3.Ay (by omega) λA4 M H4 hM k4 n4 f4=>?_;exact rest A4 M H4 (by rw [hM,hLs]) k4 n4 f4
end
end Go.Proofs.YtnennggfoegcmaaGreatDoor
namespace Go.Abs
variable {A:AW} {q:Nat} {v:Value} {F:List Nat}
section
variable {P:Program} {ts te:TypeId} {n:Nat} {β:Type} {f:β->List Value}
def AbK:Value->Value
 |.slice (some a) n _=>.slice (some a) n n
 |_=>.slice none 0 0
theorem Yk{m:Nat}{cs:List Value}(h:Row1 A q cs te)(hm:0<m)(hl:cs.length=m*(n+1)):LP 0 A te (n+1) m cs q q:=
 ⟨hm,h.row,hl,Nat.zero_le _,Nat.zero_le _,h.lt,λi hi=>by
  rw [h.mem] at hi;obtain rfl:=Ms.1 hi;exact ⟨Nat.zero_le _,h.lt,_,_,_,_,h.row⟩⟩
theorem BF.clip(T:ET P ts te n f){l:List β}(h:BF te n f A v l F)(hl:l.length<1000000):
  AX P A ts v none (some (.int .i64 (l.length:Int))) (some (.int .i64 (l.length:Int)))=some (AbK v):=by
 have hcap:Bo=18446744073709551616:=rfl;rcases h with ⟨rfl,h0,_,_⟩ | ⟨b,g,rfl,_,_⟩
 ·rw [h0];unfold AX;simp only [T.us,T.sz];rfl
 ·show AX P A ts _ none (some (.int .i64 (.ofNat l.length))) (some (.int .i64 (.ofNat l.length)))=_;have hm:Gc (some ⟨b,0,none⟩) (0*(n+1))=some ⟨b,0,none⟩:=by rw [Nat.zero_mul];rfl
  unfold AX;simp only [T.us,T.sz,Bb.2 (show Bo<=Bo+l.length by omega),Ct,bounds,FQ,Dn,Nat.add_sub_cancel_left,Bb.2 (Nl l.length),Nat.sub_zero,Option.isSome_some,Bool.or_true,Bool.true_or,Bool.and_self,Bb.2 (Nat.zero_le l.length),hm,AA.2 (show l.length<Bo by omega)];rfl
theorem BF.OC (T:ET P ts te n f) {l:List β} {p:β} {e:TypeId} {K:Value->AW->Prop} (h:BF te n f A v l F) (hq:Row1 A q (f p) e) (hf:Aw A) (hA:A.next<Aj) (hl:l.length<1000000)
  (hk:∀ v' A',BF te n f A' v' (l++[p]) [A.next]->Ah A A' []->A'.next=A.next+1->Aw A'->K v' A'):Ao (AU P A ts ts (AbK v) (.slice (some ⟨q,0,none⟩) 1 1)) K:=by
 have hcap:Bo=18446744073709551616:=rfl;have hroom:room=68719476736:=rfl;obtain ⟨b,hb,hb2⟩:=T.by'
 have hse:BG P ts=some te:=by unfold BG;rw [T.us]
 have hm:(l.length+(0+1))*b<=(l.length+(0+1))*256:=Nat.mul_le_mul_left _ hb2;have hrm:(Nat.blt (l.length+(0+1)) room&&Nat.blt ((l.length+(0+1))*b) room&&C9 P te (n+1))=true:=by rw [AA.2 (by omega),AA.2 (by omega),T.hz];rfl
 have hsrc:=Ny T hq;have hfl:(flat f (l++[p])).length=(l++[p]).length*(n+1):=CC T.len _;have ef:flat f [p]=f p:=by simp [flat]
 have made:∀ v',v'=.slice (some ⟨A.next,0,none⟩) (l.length+(0+1)) (Bo+(l.length+(0+1)))->K v' (A.push (.row (flat f (l++[p])) te A.next 0 false)):=by
  rintro v' rfl;have hfp:=hf.push (.row (flat f (l++[p])) te A.next 0 false) hA;have hrow:(A.push (.row (flat f (l++[p])) te A.next 0 false)).get A.next=some (.row (flat f (l++[p])) te A.next 0 false):=by rw [AW.BK _ hA,if_pos rfl]
  have hr1:Row1 (A.push (.row (flat f (l++[p])) te A.next 0 false)) A.next (flat f (l++[p])) te:=⟨hrow,hf.alone (Nl _),by rw [AW.B0];omega⟩;refine hk _ _ ?_ ((AW.BR _ hA).keeps hf) (AW.B0 _ _) hfp;show Dq _ te (n+1) _ (l++[p]).length _ _;have hle:(l++[p]).length=l.length+(0+1):=by simp
  refine .inr ⟨A.next,A.next,by rw [hle],Yk (n:=n) hr1 (by omega) hfl,rfl⟩
 rcases h with ⟨rfl,h0,hfl0,rfl⟩ | ⟨b',g,rfl,h2,rfl⟩
 ·have hl0:l=[]:=List.eq_nil_of_length_eq_zero h0;subst hl0;show Ao (AU P A ts ts (.slice none 0 0) _) K;rw [Js hse T.sz hb hsrc hrm hA]
  have:=made _ rfl
  rw [List.nil_append,ef] at this;exact AT.2 this
 ·show Ao (AU P A ts ts (.slice (some ⟨b',0,none⟩) l.length l.length) _) K;have hold:A.CE ⟨b',0,none⟩ (l.length*(n+1))=some (flat f l):=by
   unfold AW.CE;obtain ⟨k,hk⟩:∃ k,l.length*(n+1)=k+1:=⟨l.length*(n+1)-1,by have:0<l.length*(n+1):=Nat.mul_pos h2.pos (by omega);omega⟩;rw [hk];simp only [h2.row,List.drop_zero];rw [<- hk,<- h2.len];exact GZ _
  have e:AU P A ts ts (.slice (some ⟨b',0,none⟩) l.length l.length) (.slice (some ⟨q,0,none⟩) 1 1)=.ok (.slice (some ⟨A.next,0,none⟩) (l.length+(0+1)) (Bo+(l.length+(0+1)))) (A.push (.row (flat f l++f p) te A.next 0 false)):=by
   unfold AU;simp only [hse,T.sz,hb,hsrc];rw [hrm];have h1:Nat.ble Bo l.length=false:=BL.2 (by omega);have h3:Nat.ble (l.length+(0+1)) l.length=false:=BL.2 (by omega);simp only [Bool.not_true,Cf,h1,h3,hold];unfold AW.new;simp only [AA.2 hA,Ct];rfl
  rw [e]
  have:=made _ rfl
  rw [HI,ef] at this;exact AT.2 this
end
end Go.Abs
namespace Go.Proofs.YtnennggfoegcmaaGreatDoor
open Go.Abs Go.Jr
theorem AhS:quiet Tp (underlying 85)=some (.struct (Tp.fieldsOf 85)):=by kernel_rfl
noncomputable def F85(i:Nat):Field:=(Tp.fieldsOf 85).toList.getD i default
theorem AhT:(Tp.fieldsOf 85).toList=[F85 0,F85 1,F85 2]:=by kernel_rfl
theorem Ye(p:Pt):quiet Tp (part (F85 0).type ⟨p.cells⟩ (F85 0).offset)=some (.int .u8 (p.node:Int)):=by kernel_rfl
theorem Yd(p:Pt):quiet Tp (part (F85 1).type ⟨p.cells⟩ (F85 1).offset)=some (Fj p.f p.g p.b):=by kernel_rfl
theorem Yc(p:Pt):quiet Tp (part (F85 2).type ⟨p.cells⟩ (F85 2).offset)=some (.int .u8 (p.st:Int)):=by kernel_rfl
theorem Ack:quiet Tp (underlying (F85 0).type)=some (.int .u8):=by kernel_rfl
theorem Acj:(F85 1).type=32:=by kernel_rfl
theorem Aci:quiet Tp (underlying (F85 2).type)=some (.int .u8):=by kernel_rfl
theorem X7(f f':Int)(g g' b b':ByteArray):quiet Tp (Op.equalIn (9998+1) 32 (Fj f g b) (Fj f' g' b'))=some (Hy f f' g g' b b'):=by
 unfold Fj;rw [Ic 9998 32 _ _ AfA (by kernel_rfl),AfB];rw [CN (by kernel_rfl) (QH f g b) (QH f' g' b') (by rw [XC];exact Gj 9997 30 _ _ _ _ Aem)];rw [CN (by kernel_rfl) (QG f g b) (QG f' g' b') (by rw [XB];exact HB ut9)];rw [CN (by kernel_rfl) (QF f g b) (QF f' g' b') (by rw [XA];exact HB ut9)];unfold Hy;cases f==f'<;>cases g.data.toList==g'.data.toList<;>cases b.data.toList==b'.data.toList<;>rfl
def NC(p q:Pt):Bool:=(p.node:Int)==(q.node:Int)&&(Hy p.f q.f p.g q.g p.b q.b&&(p.st:Int)==(q.st:Int))
theorem PE{p q:Pt}:NC p q=true↔p=q:=by
 unfold NC;simp only [Bq,beq_iff_eq];constructor
 ·rintro ⟨h1,h2,h3⟩;obtain ⟨a,f,g,b,s⟩:=p;obtain ⟨a',f',g',b',s'⟩:=q;have hk:CL ⟨f,g,b⟩ ⟨f',g',b'⟩=true:=by rw [<- NB];exact h2
  have:=CK.1 hk
  simp only [Nm.mk.injEq] at this;obtain ⟨rfl,rfl,rfl⟩:=this;simp only at h1 h3;have h1:a=a':=by omega
  have h3:s=s':=by omega
  rw [h1,h3]
 ·rintro rfl;refine ⟨rfl,?_,rfl⟩;exact (NB ⟨p.f,p.g,p.b⟩ ⟨p.f,p.g,p.b⟩).trans (CK.2 rfl)
theorem Aah(p q:Pt):quiet Tp (Op.equal 85 (.agg ⟨p.cells⟩) (.agg ⟨q.cells⟩))=some (NC p q):=by
 show quiet Tp (Op.equalIn (9999+1) 85 _ _)=_;rw [Ic 9999 85 _ _ AhS (by kernel_rfl),AhT];rw [CN (by kernel_rfl) (Ye p) (Ye q) (Gj 9998 _ _ _ _ _ Ack)];rw [CN (by kernel_rfl) (Yd p) (Yd q) (by rw [Acj];exact X7 _ _ _ _ _ _)];rw [CN (by kernel_rfl) (Yc p) (Yc q) (Gj 9998 _ _ _ _ _ Aci)];unfold NC;cases (p.node:Int)==(q.node:Int)<;>cases Hy p.f q.f p.g q.g p.b q.b<;>cases (p.st:Int)==(q.st:Int)<;>rfl
theorem AeW(p q:Pt)(xo yo:Operand):An Tp .neq 85 xo yo (.agg ⟨p.cells⟩) (.agg ⟨q.cells⟩)=some (.bool !(NC p q)):=by
 have hg:DI Tp 85 xo yo (.agg ⟨p.cells⟩) (.agg ⟨q.cells⟩)=true:=by
  show (!Tp.eqGuardType Tp.depth 85)=true
  kernel_rfl
 have he:eqA Tp 85 (.agg ⟨p.cells⟩) (.agg ⟨q.cells⟩)=some (NC p q):=by
  unfold eqA;have hc:(Ax 4 (.agg ⟨p.cells⟩)&&Ax 4 (.agg ⟨q.cells⟩))=true:=rfl;rw [hc,Ct];exact Aah p q
 show (bif DI Tp 85 xo yo (.agg ⟨p.cells⟩) (.agg ⟨q.cells⟩) then (match eqA Tp 85 (.agg ⟨p.cells⟩) (.agg ⟨q.cells⟩) with | some b=>some (Value.bool !b) | none=>none) else none)=_;rw [hg,Ct,he]
section
variable {W0:World} {m0:Inj Tp}
theorem Agr {A:AW} {v w:Value} {l m:List Pt} {F G:List Nat} {K:Value->AW->Prop} (h:C4 A v l F) (h':C4 A w m G) (hl:l.length<1000000)
  (hk:∀ b:Bool,(b=true↔l=m)->K (.bool b) A):Wc Tp Al W0 m0 56 [v,w] A K:=by
 let I:Nat->Nat->List Value->AW->Prop:=λg id vals A'=>id=0/\A'=A/\l.length=m.length/\∃ i:Nat,vals=[v,w,.int .i64 (i:Int)]/\i<=l.length/\g=l.length-i/\l.take i=m.take i;refine w56 _ _ _ (c56 (I:=I) ?_) ?_
 ·rintro g id vals A' dd ⟨rfl,rfl,hlm,i,rfl,hi,rfl,ht⟩ hd';rw [Afb];simp only [L56,Mc,Mn,Li,and_true] at hd';obtain ⟨h0,h1,h5⟩:=hd';rw [h0,h1,h5,RdE.len etP (rdP.1 h)];simp only [Br,Ab,Az];refine ⟨λhlt=>?_,λhge=>?_⟩
  ·have hlt:i<l.length:=by omega
   obtain ⟨p,hp⟩:∃ p,l[i]? =some p:=⟨_,Ge hlt⟩;obtain ⟨q,hq⟩:∃ q,m[i]? =some q:=⟨_,Ge (by omega)⟩;obtain ⟨r1,o1,a1,a2,a3⟩:=(rdP.1 h).at etP hp;obtain ⟨r2,o2,b1,b2,b3⟩:=(rdP.1 h').at etP hq;rw [a1,b1];simp only [Ab,a3,b3];rw [AeW];simp only [Ab];refine Ag.2 ⟨λhn=>?_,λhn=>?_⟩
   ·refine hk false ⟨λh=>(by cases h),λhe=>?_⟩;subst he;rw [hp] at hq;rw [Option.some.inj hq,PE.2 rfl] at hn;cases hn
   ·have hs:NC p q=true:=by simpa using hn
    rw [Bm,wrap_i64 (by omega) (by omega)];simp only [Ab];exact Au.2 ⟨l.length-(i+1),by omega,rfl,rfl,hlm,i+1,rfl,by omega,rfl,by rw [B9 hp,B9 hq,ht,PE.1 hs]⟩
  ·have hi':i=l.length:=by omega
   subst hi';refine hk true ⟨λ_=>?_,λ_=>rfl⟩;rw [List.take_length,hlm,List.take_length] at ht;exact ht
 ·rw [e56,RdE.len etP (rdP.1 h),RdE.len etP (rdP.1 h')];simp only [Bw,Ab,Bj];refine ⟨λhn=>hk false ⟨λh=>(by cases h),λhe=>absurd (by rw [he]) hn⟩,λhe=>?_⟩;exact Au.2 ⟨l.length,rfl,rfl,by omega,0,rfl,Nat.zero_le _,rfl,rfl⟩
end
end Go.Proofs.YtnennggfoegcmaaGreatDoor
