/-
  This text prints what the functions reached ask of their memory, and shows what they answer. Conditions: none for the last theorem, those that each theorem states for the others.
-/
import Derived.Test.YtbchfeibhoobeaaGreatDoorPe
set_option maxRecDepth 100000
set_option maxHeartbeats 1000000
namespace Go.Proofs.YtbchfeibhoobeaaGreatDoor
open Go.Abs Go.Jr Go.Crc
variable {A:AW} {K:Value->AW->Prop} {s:ByteArray}
theorem GU(a b c:Value):Ap (.tuple ⟨[a,b,c]⟩) 0=some a:=rfl
theorem GS(a b c:Value):Ap (.tuple ⟨[a,b,c]⟩) 1=some b:=rfl
theorem GR(a b c:Value):Ap (.tuple ⟨[a,b,c]⟩) 2=some c:=rfl
section
variable {W0:World} {m0:Inj Tp}
abbrev ZN(st:Nat):Value:=.tuple ⟨[.agg ⟨fR (0,⟨⟨[]⟩⟩)⟩,.int .i64 0,.int .i64 (st:Int)]⟩
theorem HA{B:AW}{q st:Nat}{x:RV}(hq:Go.Abs.AS B q (fR x) 35)(hqA:A.next<=q)(g:Grow A B 45)(hB:B.next<Am)(hk:∀ A',Grow A A' 50->K (ZN st) A'):
  Aa (Bp Tp 35 []) λt2=>Bh (Az Tp B 35 (pP q 0) t2) λAt3=>Aa (Af Tp At3 35 (pP q 0)) λt4=>K (.tuple ⟨[t4,(.int .i64 0),(.int .i64 (st:Int))]⟩) At3:=by
 simp only [AdS,Ab];refine hq.store g.Ay (by omega) (O4 _ _ _) rfl (by show 0+2<=2;omega) rfl λA2 r2 k2 n2 f2=>?_;have r2:Go.Abs.AS A2 q (fR (0,⟨⟨[]⟩⟩)) 35:=r2;simp only [JL,LA r2,Ab];exact hk A2 ((g.own k2 (λy hy=>by rw [Ms.1 hy];exact hqA) (m:=0) (by omega) f2).more (by omega))
theorem Ab5 (hf:Aw A) (hl:s.data.toList.length<700000) (hA:A.next+60<Am)
  (hk0:∀ st,Tl s.data.toList=.inl st->∀ A',Grow A A' 50->K (ZN st) A')
  (hk1:∀ (r:RV) n,Tl s.data.toList=.inr (toR r,n)->∀ A',Grow A A' 50->K (.tuple ⟨[.agg ⟨fR r⟩,.int .i64 (n:Int),.int .i64 0]⟩) A'):
  Wc Tp An W0 m0 130 [.string s] A K:=by
 have hroom:room=68719476736:=rfl;refine Ae7 _ _ BF ?_;rw [Agb];refine Bl zR hf (by omega) rfl λA1 m1=>?_;have n1:=m1.next;have g1:Grow A A1 1:=.made m1 hf;have q1:Go.Abs.AS A1 A.next (fR (0,⟨⟨[]⟩⟩)) 35:=m1.BB;obtain ⟨t,ht⟩:∃ t,s.data.toList=t:=⟨_,rfl⟩;rw [ht] at hl hk0 hk1;unfold Tl at hk0 hk1;simp only [II,Ab,Ea,ht];refine Ag.2 ⟨λhe=>?_,λhe=>?_⟩
 ·have he:t=[]:=beq_iff_eq.1 he;rw [if_pos he] at hk0;exact HA (st:=0) q1 (Nl _) (g1.more (by omega)) (by omega) (hk0 0 rfl)
 have he:¬ t=[]:=λh=>by rw [h] at he;simp at he
 rw [if_neg he] at hk0 hk1;simp only [AU,Ab,Ao];refine ⟨λhs=>?_,λhs=>?_⟩
 ·rw [if_pos (by omega)] at hk0;exact HA (st:=1) q1 (Nl _) (g1.more (by omega)) (by omega) (hk0 1 rfl)
 have hs:9<=t.length:=by omega
 rw [if_neg (by omega)] at hk0 hk1;have e9:AP Tp A1 9 (.string s) none (some (.int .i64 9)) none=some (.string ⟨⟨t.take 9⟩⟩):=by
  have:=Q7 (A:=A1) (s:=s) (h:=9) (k:=.i64) (by rw [ht];exact hs)
  rw [ht] at this;exact this
 rw [e9];simp only [Ab];refine bytesRow m1.Ay (by omega) λA5 g5 b5 n5=>?_;have e9':(⟨⟨t.take 9⟩⟩:ByteArray).data.toList=t.take 9:=rfl;have hl9:(t.take 9).length=9:=by rw [List.length_take];omega
 have g5':=g1.trans g5;rw [e9'] at b5 ⊢;have q5:=q1.keeps g5.keeps (by simp);refine ZC b5 g5.Ay (by omega) (by omega) (λhsd A6 v6 F6 g6 b6 hF6=>?_) (λhsd A6 g6=>?_)
 rotate_left
 ·rw [if_pos hsd] at hk0;have n6:=g6.next;simp only [Bw,Bv,Ab,Bg];refine Ag.2 ⟨λ_=>?_,λh=>by simp at h⟩;exact HA (st:=2) (q5.keeps g6.keeps (by simp)) (Nl _) ((g5'.trans g6).more (by omega)) (by omega) (hk0 2 rfl)
 have n6:=g6.next;have le6:=g6.le;rw [if_neg (by rw [hsd];simp)] at hk0 hk1;simp only [Bw,Bv,Ab,Bg];refine Ag.2 ⟨λh=>by simp at h,λ_=>?_⟩;have e5:(t.take 9).take ((t.take 9).length-4)=t.take 5:=by rw [hl9,List.take_take];rfl
 rw [e5] at b6;have hl5:(t.take 5).length=5:=by rw [List.length_take];omega
 refine AbY b6 g6.Ay (by omega) (by omega) λA7 p F7 g7 o7 hp7 hF7=>?_;have n7:=g7.next;have le7:=g7.le;refine ZB (s:=(t.take 5,false)) (w:=1) o7 g7.Ay (by omega) (show (t.take 5).length<1000000 by omega) (by omega) λA8 F8 o8 k8 n8 f8 hF8=>?_;have etk:tk 1 (t.take 5,false)=((t.take 5).take 1,((t.take 5).drop 1,false)):=by
  unfold tk;rw [if_neg (by rw [hl5];simp)]
 have enm2:(nm 1 (t.take 5,false)).2=((t.take 5).drop 1,false):=by unfold nm;rw [etk]
 rw [enm2] at o8;have hl4:((t.take 5).drop 1).length=4:=by rw [List.length_drop];omega
 refine ZB (s:=((t.take 5).drop 1,false)) (w:=4) o8 f8 (by omega) (show ((t.take 5).drop 1).length<1000000 by omega) (by omega) λA9 F9 o9 k9 n9 f9 hF9=>?_;have etk4:tk 4 ((t.take 5).drop 1,false)=((t.take 5).drop 1,(((t.take 5).drop 1).drop 4,false)):=by
  unfold tk;rw [if_neg (by rw [hl4];simp),List.take_of_length_le (by rw [hl4];omega)]
 have enm:(nm 4 ((t.take 5).drop 1,false)).1=C4 ((t.take 5).drop 1):=by
  unfold nm;rw [etk4,Iq]
 have enm1:(nm 1 (t.take 5,false)).1=(t.headD 0).toNat:=by
  unfold nm;rw [etk];obtain ⟨c,t',rfl⟩:=List.exists_cons_of_ne_nil he;show FU [c]=c.toNat;unfold FU
  simp
 rw [enm,enm1];have hN:C4 ((t.take 5).drop 1)<4294967296:=by
  rw [<- Iq]
  have:=Jc ((t.take 5).drop 1)
  rw [hl4] at this;exact this
 generalize hNe:C4 ((t.take 5).drop 1)=N at *;have hpA:A.next<p:=by omega
 have le8:=k8.next;have le9:=k9.next;have K9:Aj A7 A9 [p]:=k8.trans k9 (by simp);have g9:Grow A A9 30:=((((g5'.trans g6).trans g7).own K9 (λy hy=>by rw [Ms.1 hy];omega) (m:=4) (by omega) f9)).more (by omega);have q9:=((q5.keeps g6.keeps (by simp)).keeps g7.keeps (by simp)).keeps K9 (by simp;omega);simp only [Sk,Ba,BN,Ab];rw [wrap_i64 (n:=(N:Int)) (by omega) (by omega)];simp only [Ao];refine ⟨λhgt=>?_,λhgt=>?_⟩
 ·rw [if_pos (by omega)] at hk0;exact HA (st:=2) q9 (Nl _) (g9.more (by omega)) (by have:=g9.next;omega) (hk0 2 rfl)
 rw [if_neg (by omega)] at hk0 hk1;simp only [AY,Ab,AU];rw [wrap_i64 (n:=(N:Int)+13) (by omega) (by omega)];simp only [Ao];refine ⟨λhlt=>?_,λhge=>?_⟩
 ·rw [if_pos (by omega)] at hk0;exact HA (st:=1) q9 (Nl _) (g9.more (by omega)) (by have:=g9.next;omega) (hk0 1 rfl)
 have hge:13+N<=t.length:=by omega
 rw [if_neg (by omega)] at hk0 hk1;have eend:(N:Int)+13=((13+N:Nat):Int):=by omega
 rw [eend];have es:=sl9 (A:=A9) (s:=s) (l:=9) (h:=13+N) (k1:=.i64) (k2:=.i64) (by omega) (by rw [ht];exact hge);have es':AP Tp A9 9 (.string s) (some (.int .i64 9)) (some (.int .i64 ((13+N:Nat):Int))) none=_:=es;rw [es'];simp only [Ab];have edt:(s.data.toList.take (13+N)).drop 9=(t.drop 9).take (N+4):=by
  rw [ht,List.drop_take];congr 1;omega
 rw [edt];have hld:((t.drop 9).take (N+4)).length=N+4:=by rw [List.length_take,List.length_drop];omega
 have n9':=g9.next;refine bytesRow f9 (by omega) λA10 g10 b10 n10=>?_;have en':(⟨⟨(t.drop 9).take (N+4)⟩⟩:ByteArray).data.toList=(t.drop 9).take (N+4):=rfl;rw [en'] at b10 ⊢;have g10':=g9.trans g10;have q10:=q9.keeps g10.keeps (by simp);refine ZC b10 g10.Ay (by omega) (by omega) (λhsd2 A11 v11 F11 g11 b11 hF11=>?_) (λhsd2 A11 g11=>?_)
 rotate_left
 ·rw [if_pos hsd2] at hk0;have n11:=g11.next;simp only [Bw,Bv,Ab,Bg];refine Ag.2 ⟨λ_=>?_,λh=>by simp at h⟩;exact HA (st:=2) (q10.keeps g11.keeps (by simp)) (Nl _) ((g10'.trans g11).more (by omega)) (by omega) (hk0 2 rfl)
 have n11:=g11.next;rw [if_neg (by rw [hsd2];simp)] at hk1;simp only [Bw,Bv,Ab,Bg];refine Ag.2 ⟨λh=>by simp at h,λ_=>?_⟩;have ed:((t.drop 9).take (N+4)).take (((t.drop 9).take (N+4)).length-4)=(t.drop 9).take N:=by rw [hld,List.take_take];congr 1;omega
 rw [ed] at b11;have hc:=(t.headD 0).toNat_lt;simp only [N9,Ba,b11.str tb,Abm,Ab];rw [show IntKind.u8.wrap ((t.headD 0).toNat:Int)=((t.headD 0).toNat:Int) by rw [wrap_u8];omega];have q11:=q10.keeps g11.keeps (by simp);refine q11.store g11.Ay (by omega) (O4 _ _ _) rfl (by show 0+2<=2;omega) rfl λA12 r12 k12 n12 f12=>?_;have r12:Go.Abs.AS A12 A.next (fR (t.headD 0,⟨⟨(t.drop 9).take N⟩⟩)) 35:=r12;simp only [JL,LA r12,Ab];exact hk1 (t.headD 0,⟨⟨(t.drop 9).take N⟩⟩) (13+N) rfl A12 (((g10'.trans g11).own k12 (λy hy=>by rw [Ms.1 hy];omega) (m:=0) (by omega) f12).more (by omega))
theorem Acg (hf:Aw A) (hl:s.data.toList.length<700000) (hA:A.next+6*s.data.toList.length+80<Am)
  (hk:∀ A' v (R:List RV) F,(scan s.data.toList).1=R.map toR->13*R.length<=s.data.toList.length->BO 35 1 fR A' v R F->(∀ y∈F,A.next<=y)->Grow A A' (6*s.data.toList.length+70)->
   K (.tuple ⟨[v,.int .i64 ((scan s.data.toList).2.1:Nat),.int .i64 ((scan s.data.toList).2.2:Nat)]⟩) A'):Wc Tp An W0 m0 107 [.string s] A K:=by
 have hroom:room=68719476736:=rfl;let I:Nat->Nat->List Value->AW->Prop:=λg id vals A'=>id=0/\∃ (u:Nat) (R:List RV) (v:Value) (F':List Nat),vals=[.string s,v,.int .i64 (u:Int)]/\u<=s.data.toList.length/\g=s.data.toList.length-u/\
  BO 35 1 fR A' v R F'/\(∀ y∈F',A.next<=y)/\Grow A A' (6*u)/\13*R.length<=u/\scan s.data.toList=Sz (R.map toR) u (scan (s.data.toList.drop u))
 refine Afk _ _ (c107 (I:=I) ?_) ?_
 ·rintro g id vals A' d ⟨rfl,u,R,v,F',rfl,hu,rfl,ho,hF,hgr,hR,hsc⟩ hd';rw [AaY];simp only [Ys,Mc,Mn,Li,and_true] at hd';obtain ⟨h0,h5,h6⟩:=hd';have hn:=hgr.next;have hle:=hgr.le;simp only [h0,h5,h6,Aaq hu,Ab];rw [WJ (s.data.toList.drop u)] at hsc;have er:(⟨⟨s.data.toList.drop u⟩⟩:ByteArray).data.toList=s.data.toList.drop u:=rfl;have hrl:(s.data.toList.drop u).length=s.data.toList.length-u:=List.length_drop;refine Ab5 (s:=⟨⟨s.data.toList.drop u⟩⟩) hgr.Ay (by rw [er];omega) (by omega) (λst hst A1 g1=>?_) λr n hrn A1 g1=>?_
  ·rw [er] at hst;rw [hst] at hsc;have n1:=g1.next;simp only [GU,GS,GR,Ab];refine Bl zR g1.Ay (by omega) rfl λA2 m2=>?_;have n2:=m2.next;refine m2.BB.store m2.Ay (by omega) (O4 _ _ _) rfl (by show 0+2<=2;omega) rfl λA3 r3 k3 n3 f3=>?_;simp only [Bo,Ab];refine Be.2 ⟨λ_=>?_,λh=>absurd rfl h⟩;have e:scan s.data.toList=(R.map toR,u,st):=by rw [hsc];simp [Sz]
   have hk:=hk A3 v R F' (by rw [e]) (by omega) (((ho.keeps g1.keeps (by simp)).keeps (m2.keeps g1.Ay) (by simp)).keeps k3 λx hx hm=>by have:=ho.lt x hx;have:=Ms.1 hm;have:=g1.le;omega) hF
    ((((hgr.trans g1).trans (.made m2 g1.Ay)).own k3 (λy hy=>by have:=Ms.1 hy;have:=g1.le;omega) (m:=0) (by omega) f3).more (by omega))
   rw [e] at hk;exact hk
  ·rw [er] at hrn;rw [hrn] at hsc;obtain ⟨hn13,hnl⟩:=YV hrn;have n1:=g1.next;have le1:=g1.le;simp only [GU,GS,GR,Ab];refine Bl zR g1.Ay (by omega) rfl λA2 m2=>?_;have n2:=m2.next;refine m2.BB.store m2.Ay (by omega) (O4 _ _ _) rfl (by show 0+2<=2;omega) rfl λA3 r3 k3 n3 f3=>?_;have r3:Go.Abs.AS A3 A1.next (fR r) 35:=r3;have k3:Aj A2 A3 [A1.next]:=k3;simp only [Bo,Ab];refine Be.2 ⟨λh=>absurd h (by omega),λ_=>?_⟩;simp only [JL,LA r3,Ab];refine MI (c:=r.1) (s:=r.2) f3 (by omega) λA4 m4=>?_;have n4:=m4.next;have K3:Aj A1 A3 []:=(m2.keeps g1.Ay).trans k3 λy hy=>.inr (by have:=Ms.1 hy;omega);have ho4:=((ho.keeps g1.keeps (by simp)).keeps K3 (by simp)).keeps (m4.keeps f3) (by simp);refine BO.append etR ho4 (p:=r) m4.BB m4.Ay (by omega) (by omega) λv5 A5 F5 o5 k5 hF5 n5 f5=>?_;rw [AY,wrap_i64 (by omega) (by omega)];simp only [Ab];have eu:(u:Int)+(n:Int)=((u+n:Nat):Int):=by omega
   rw [eu];have g4:Grow A A4 (6*u+52):=⟨((hgr.keeps.trans g1.keeps (by simp)).trans K3 (by simp)).trans (m4.keeps f3) (by simp),m4.Ay,by omega⟩;refine Ar.2 ⟨s.data.toList.length-(u+n),by omega,rfl,u+n,R++[r],v5,F5,rfl,by omega,rfl,o5,λy hy=>(hF5 y hy).elim (hF y) λh=>by omega,?_,by rw [Lq];simp;omega,?_⟩
   ·exact (g4.own k5 hF (m:=1) (by omega) f5).more (by omega)
   ·have edd:s.data.toList.drop (u+n)=(s.data.toList.drop u).drop n:=by rw [List.drop_drop]
    rw [hsc,edd];simp [Sz,Nat.add_assoc]
 ·rw [Agp];exact Ar.2 ⟨s.data.toList.length,rfl,0,[],_,[],rfl,by omega,rfl,BO.nil _,by simp,Grow.refl hf,by simp,by simp [Sz]⟩
end
end Go.Proofs.YtbchfeibhoobeaaGreatDoor
namespace Go.Jr
def DB(s:DS):DS × Bool:=if 0<s.B9 then ((if s.B9-1=0 then ⟨s.D,s.room,0,true⟩ else ⟨s.D,s.room,s.B9-1,s.down⟩),decide (s.B9-1=0)) else (s,false)
theorem Hm(s:DS):(DB s).1.D=s.D:=by
 unfold DB;split
 ·split<;>rfl
 ·rfl
theorem SB(s:DS)(f:Fls->Fls)(th:Bool):C5 s f th=if (DB s).2=true then ({ (DB s).1 with D:=if th=true then f s.D else s.D },100) else ({ (DB s).1 with D:=f s.D },0):=by
 unfold C5 DB;split
 ·split
  ·rename_i h;simp [h]
  ·rename_i h;simp [h]
 ·simp
end Go.Jr
namespace Go.Proofs.YtbchfeibhoobeaaGreatDoor
open Go.Abs Go.Jr
variable {A:AW} {K:Value->AW->Prop} {q dq i:Nat} {n:Int} {s:DS} {F:List Nat}
theorem AdY(n:Int):Bp Tp 108 [(1,.int .i64 n)]=some (.agg ⟨[.slice none 0 0,.int .i64 n,.int .i64 0,.bool false]⟩):=by kernel_rfl
theorem AdW(a b:ByteArray):Bp Tp 118 [(0,.string a),(1,.string b)]=some (.agg ⟨[.string a,.string b,.int .i64 0]⟩):=by kernel_rfl
theorem WG(A:AW):AP Tp A 106 (.slice none 0 0) none (some (.int .i64 0)) none=some (.slice none 0 0):=by kernel_rfl
theorem WH(A:AW):AP Tp A 106 (.slice none 0 0) (some (.int .i64 0)) none none=some (.slice none 0 0):=by kernel_rfl
theorem AdQ(A:AW)(a b:ByteArray)(n:Int):Av Tp A 106 1 [(0,.agg ⟨[.string a,.string b,.int .i64 n]⟩)]=(match A.newRow [.string a,.string b,.int .i64 n] 118 with | some (a,w')=>.ok (.slice (some a) 1 1) w' | none=>.fail "buildSlice new"):=by kernel_rfl
theorem Abk{x:FQ}(hf:Aw A)(h:A.next<Am)(hk:∀ A',Made A A' (fQ x) 118->K (.slice (some ⟨A.next,0,none⟩) 1 1) A'):Au (Av Tp A 106 1 [(0,.agg ⟨fQ x⟩)]) K:=by
 show Au (Av Tp A 106 1 [(0,.agg ⟨[.string x.1,.string x.2.1,.int .i64 (x.2.2:Int)]⟩)]) K;rw [AdQ];unfold AW.newRow AW.new;simp only [show ([Value.string x.1,.string x.2.1,.int .i64 (x.2.2:Int)].all AT)=true from rfl,Ct,AF.2 h];exact Ba.2 (hk (A.push (.row (fQ x) 118 A.next 0 false)) ⟨AW.B7 _ h,rfl,by rw [AW.BP _ h,if_pos rfl],hf.alone (Nl _),hf.push _ h⟩)
theorem cells3{x:FQ}(h:Go.Abs.AS A q (fQ x) 118):A.cells? ⟨q,0,none⟩ 3=some (fQ x):=by rw [Cg h.row];rfl
section
variable {W0:World} {m0:Inj Tp}
theorem AeD(hf:Aw A)(hA:A.next<Am)(hk:∀ A',DQ A' A.next ⟨[],max n 0,0,false⟩ []->Aj A A' []->A'.next=A.next+1->Aw A'->K (pP A.next 0) A'):
  Wc Tp An W0 m0 25 [.int .i64 n] A K:=by
 refine w25 _ _ BF ?_;rw [e25];simp only [Vw,Ab,AdY];refine Bk (cs:=[.slice none 0 0,.int .i64 (max n 0),.int .i64 0,.bool false]) hf hA rfl λA1 m1=>?_;exact hk A1 ⟨_,[],m1.BB,BO.nil _,rfl,by simp⟩ (m1.keeps hf) m1.next m1.Ay
theorem UU (h:DQ A dq s F) (hd:s.down=false) (h0:0<=s.B9) (h1:s.B9<9223372036854775808) (hf:Aw A) (hA:A.next<Am)
  (hk:∀ A',DQ A' dq (DB s).1 F->Aj A A' [dq]->A'.next=A.next->Aw A'->K (.bool (DB s).2) A'):
  Wc Tp An W0 m0 84 [pP dq 0] A K:=by
 obtain ⟨vl,fl,hr,ho,hD,hnd⟩:=h;have hvl:=ho.one;refine w84 _ _ BF ?_;rw [e84];simp only [Al,N0,D4,Ae hr.row,cellOf,hvl.2,AG,Cf,Ab,Nat.zero_add,Bo];unfold DB at hk;refine Be.2 ⟨λhz=>?_,λhz=>?_⟩
 ·rw [if_neg (by omega)] at hk;exact hk A ⟨vl,fl,hr,ho,hD,hnd⟩ (.refl _ _) rfl hf
 ·rw [if_pos (by omega)] at hk;simp only [Ci,Ab];rw [wrap_i64 (by omega) (by omega)];refine hr.store hf (by omega) (J0 _ _ _) rfl (by show 2+1<=4;omega) rfl λA1 r1 k1 n1 f1=>?_;have r1:Go.Abs.AS A1 dq [vl,.int .i64 s.room,.int .i64 (s.B9-1),.bool s.down] 108:=r1;simp only [Da,D4,Ae r1.row,cellOf,hvl.2,AG,Cf,Ab,Nat.zero_add,Bo];refine r1.store f1 (by omega) (JZ _ _ _) rfl (by show 3+1<=4;omega) rfl λA2 r2 k2 n2 f2=>?_;have r2:Go.Abs.AS A2 dq [vl,.int .i64 s.room,.int .i64 (s.B9-1),.bool (s.B9-1==0)] 108:=r2;have k1:Aj A A1 [dq]:=k1;have k2:Aj A1 A2 [dq]:=k2;have K2:Aj A A2 [dq]:=k1.trans k2 (by simp);simp only [Da,Fh,Ae r2.row,cellOf,hvl.2,AG,Bt,Cf,Ab,Nat.zero_add];have e:(s.B9-1==0)=decide (s.B9-1=0):=by rw [Bool.eq_iff_iff];simp
  have ho2:=ho.keeps K2 (λx hx hm=>hnd (by rw [Ms.1 hm] at hx;exact hx));rw [e] at r2 ⊢;refine hk A2 ⟨vl,fl,?_,ho2,?_,hnd⟩ K2 (by omega) f2
  ·by_cases hq:s.B9-1=0
   ·rw [if_pos hq];rw [decide_eq_true hq,hq] at r2;exact r2
   ·rw [if_neg hq];rw [decide_eq_false hq] at r2;show Go.Abs.AS A2 dq [vl,.int .i64 s.room,.int .i64 (s.B9-1),.bool s.down] 108;rw [hd];exact r2
  ·split<;>exact hD
theorem AeC (h:DQ A dq s F) (hf:Aw A) (hA:A.next<Am)
  (hk:∀ A' v,DQ A' dq (CZ s n) F->Aj A A' [dq]->A'.next=A.next->Aw A'->K v A'):
  Wc Tp An W0 m0 29 [pP dq 0,.int .i64 n] A K:=by
 obtain ⟨vl,fl,hr,ho,hD,hnd⟩:=h;have hvl:=ho.one;refine w29 _ _ _ BF ?_;rw [e29];simp only [Al,Da,Fh,Ae hr.row,cellOf,hvl.2,AG,Bt,Cf,Ab,Nat.zero_add,Bg];unfold CZ at hk;refine Ag.2 ⟨λhq=>?_,λhq=>?_⟩
 ·have hq:s.down=false:=by simpa using hq
  rw [if_neg (by rw [hq];simp)] at hk;simp only [Vw,Ab,N0];refine hr.store hf (by omega) (J0 _ _ _) rfl (by show 0+2+1<=4;omega) rfl λA1 r1 k1 n1 f1=>?_;have k1:Aj A A1 [dq]:=k1;exact hk A1 _ ⟨vl,fl,r1,ho.keeps k1 (λx hx hm=>hnd (by rw [Ms.1 hm] at hx;exact hx)),hD,hnd⟩ k1 n1 f1
 ·have hq:s.down=true:=by simpa using hq
  rw [if_pos hq] at hk;exact hk A _ ⟨vl,fl,hr,ho,hD,hnd⟩ (.refl _ _) rfl hf
theorem AeB (h:DQ A dq s F) (hf:Aw A) (hA:A.next<Am)
  (hk:∀ A' v,DQ A' dq (Hl s) F->Aj A A' [dq]->A'.next=A.next->Aw A'->K v A'):
  Wc Tp An W0 m0 30 [pP dq 0] A K:=by
 obtain ⟨vl,fl,hr,ho,hD,hnd⟩:=h;have hvl:=ho.one;refine w30 _ _ BF ?_;rw [e30];simp only [Al,Da,N0,Ab];refine hr.store hf (by omega) (JZ _ _ _) rfl (by show 0+3+1<=4;omega) rfl λA1 r1 k1 n1 f1=>?_;have r1:Go.Abs.AS A1 dq [vl,.int .i64 s.room,.int .i64 s.B9,.bool true] 108:=r1;refine r1.store f1 (by omega) (J0 _ _ _) rfl (by show 0+2+1<=4;omega) rfl λA2 r2 k2 n2 f2=>?_;have k1:Aj A A1 [dq]:=k1;have k2:Aj A1 A2 [dq]:=k2;have K2:Aj A A2 [dq]:=k1.trans k2 (by simp);exact hk A2 _ ⟨vl,fl,r2,ho.keeps K2 (λx hx hm=>hnd (by rw [Ms.1 hm] at hx;exact hx)),hD,hnd⟩ K2 (by omega) f2
noncomputable def KP(Q:Value->AW->Prop)(d:Nat->Value)(A:AW):Prop:=
 Aa (AD (d 0)) λt31=>Aa (Ad Tp 108 t31 0) λt32=>Aa (Af Tp A 106 t32) λt33=>Aa (AP Tp A 106 t33 none (some (d 5)) none) λt34=>Au (AJ Tp A 106 106 (d 4) t34) λt35 At35=>Aa (Af Tp At35 118 (d 3)) λt36=>Au (Av Tp At35 106 1 [(0,t36)]) λt37 At37=>Au (AJ Tp At37 106 106 t35 t37) λt38 At38=>Aa (AD (d 0)) λt39=>Aa (Ad Tp 108 t39 0) λt40=>Aa (Af Tp At38 106 t40) λt41=>Aa (AP Tp At38 106 t41 (some (d 5)) none none) λt42=>Au (AJ Tp At38 106 106 t38 t42) λt43 At43=>Aa (AD (d 0)) λt44=>Aa (Ad Tp 108 t44 0) λt45=>Bh (Az Tp At43 106 t45 t43) λAt46=>Q (.tuple ⟨[]⟩) At46
theorem WX {x:FQ} {vl:Value} {fl:List FQ} {K:Value->AW->Prop} (hr:Go.Abs.AS A dq [vl,.int .i64 s.room,.int .i64 s.B9,.bool s.down] 108) (ho:BO 118 2 fQ A vl fl F) (hnd:dq∉F) (hq:Go.Abs.AS A q (fQ x) 118)
  (hi:i<=fl.length) (hl:fl.length<100000) (hf:Aw A) (hA:A.next+10<Am) {d:Nat->Value} (h0:d 0=.pointer (some ⟨dq,0,none⟩)) (h3:d 3=.pointer (some ⟨q,0,none⟩)) (h4:d 4=.slice none 0 0) (h5:d 5=.int .i64 (i:Int))
  (hk:∀ A' v F',DQ A' dq { s with D:=(fl.take i).map toF++toF x::(fl.drop i).map toF } F'->Aj A A' [dq]->(∀ y∈F',A.next<=y)->A'.next<=A.next+4->Aw A'->K v A'):KP K d A:=by
 have hvl:=ho.one;have hdl:=hr.lt;unfold KP;rw [h0,h3,h4,h5];simp only [Al,BM,Cs,Ae hr.row,cellOf,hvl.2,Cf,Ab];obtain ⟨vt,Ft,et,ht,hFt⟩:=ho.to (A:=A) etQ hi (WG A);simp only [et,Ab];refine (BO.nil A).Gu etQ ht hf (by omega) (by simp) (by rw [List.length_take];omega) λv1 A1 F1 o1 k1 hF1 n1 f1=>?_;rw [List.nil_append] at o1;have hF1':∀ y∈F1,A.next<=y:=λy hy=>(hF1 y hy).elim (λh=>by simp at h) λh=>by omega
 have hq1:=hq.keeps k1 (by simp);simp only [NR,cells3 hq1,Ab];refine Abk f1 (by omega) λA2 m2=>?_;have n2:=m2.next;have k2:=m2.keeps f1;refine (o1.keeps k2 (by simp)).append etQ m2.BB m2.Ay (by omega) (by rw [List.length_take];omega) λv3 A3 F3 o3 k3 hF3 n3 f3=>?_;have K3:Aj A A3 []:=(k1.trans k2 (by simp)).trans k3 λy hy=>.inr (hF1' y hy);have hF3':∀ y∈F3,A.next<=y:=λy hy=>(hF3 y hy).elim (λh=>hF1' y h) λh=>by have:=k1.next;omega
 have hr3:=hr.keeps K3 (by simp);have ho3:=ho.keeps K3 (by simp);simp only [Al,BM,Cs,Ae hr3.row,cellOf,hvl.2,Cf,Ab];obtain ⟨vf,Ff,ef,hf4,hFf⟩:=ho3.from (A:=A3) etQ hi (WH A3)
 simp only [ef,Ab];have le3:=K3.next;refine o3.Gu etQ hf4 f3 (by omega) (by rw [Lq,List.length_take];simp;omega) (by rw [List.length_drop];omega) λv4 A4 F4 o4 k4 hF4 n4 f4=>?_;have K4:Aj A A4 []:=K3.trans k4 λy hy=>.inr (hF3' y hy);have hF4':∀ y∈F4,A.next<=y:=λy hy=>(hF4 y hy).elim (λh=>hF3' y h) λh=>by omega
 have hr4:=hr.keeps K4 (by simp);have hv4:=o4.one;have hs4:v4.cells.toList=[v4]:=by
  rcases o4 with ⟨rfl,_⟩ | ⟨b,g,rfl,_⟩<;>rfl
 refine hr4.store f4 (by omega) (WD _ _ _) (by rw [hs4];rfl) (by show 0+1<=4;omega) (by rw [hs4];simp [hv4.1]) λA5 r5 k5 n5 f5=>?_;rw [hs4] at r5;have r5:Go.Abs.AS A5 dq [v4,.int .i64 s.room,.int .i64 s.B9,.bool s.down] 108:=r5;have k5:Aj A4 A5 [dq]:=k5;have hdF:dq∉F4:=λhm=>by have:=hF4' dq hm;omega
 refine hk A5 _ F4 ⟨v4,_,r5,o4.keeps k5 (λy hy hm=>hdF (by rw [Ms.1 hm] at hy;exact hy)),?_,hdF⟩ ((K4.more (T:=[dq]) (by simp)).trans k5 (by simp)) hF4' (by omega) f5
 simp
theorem AbC {x:FQ} {K:Value->AW->Prop} (h:DQ A dq s F) (hl:s.D.length<100000) (hf:Aw A) (hA:A.next+20<Am)
  (hk:∀ A' v F',DQ A' dq { s with D:=Ii ltB s.D x.1.data.toList (toF x).2 } F'->Aj A A' [dq]->(∀ y∈F',A.next<=y)->A'.next<=A.next+5->Aw A'->K v A'):
  Wc Tp An W0 m0 83 [pP dq 0,.agg ⟨fQ x⟩] A K:=by
 have hdq:=h;obtain ⟨vl,fl,hr,ho,hD,hnd⟩:=h;have hvl:=ho.one;have hll:s.D.length=fl.length:=by rw [hD,List.length_map]
 have hdl:=hr.lt;let I:Nat->Nat->List Value->AW->Prop:=λg id vals A'=>id=0/\Aj A A' []/\A'.next=A.next+1/\Aw A'/\Go.Abs.AS A' A.next (fQ x) 118/\∃ i:Nat,vals=[pP dq 0,pP A.next 0,.slice none 0 0,.int .i64 (i:Int)]/\g=fl.length-i/\i<=fl.length/\∀ e∈s.D.take i,ltB e.1 x.1.data.toList=true;refine w83 _ _ _ (c83 (I:=I) ?_) ?_
 ·rintro g id vals A' d ⟨rfl,k1,n1,f1,q1,i,rfl,rfl,hi,hlt0⟩ hd;rw [Ac4];simp only [L83,Mc,Mn,Li,and_true] at hd;obtain ⟨h0,h3,h4,h5⟩:=hd;have hr1:=hr.keeps k1 (by simp);have ho1:=ho.keeps k1 (by simp);have hrd:=ho1.rd etQ.len;have q1':Go.Abs.AS A' A.next [.string x.1,.string x.2.1,.int .i64 (x.2.2:Int)] 118:=q1;have fin:(∀ e,s.D[i]? =some e->ltB e.1 x.1.data.toList=false)->KP K d A':=λhno=>by
   refine WX hr1 ho1 hnd q1 hi (by omega) f1 (by omega) h0 h3 h4 h5 λA2 v F2 d2 k2 hF2 n2 f2=>?_;have hins:=Xv (lt:=ltB) (k:=x.1.data.toList) (v:=(toF x).2) i (D:=s.D) (by omega) hlt0 hno;have e:s.D.take i++(x.1.data.toList,(toF x).2)::s.D.drop i=(fl.take i).map toF++toF x::(fl.drop i).map toF:=by rw [hD,List.map_take,List.map_drop];rfl
   rw [hins,e] at hk;exact hk A2 v F2 d2 ((k1.more (T:=[dq]) (by simp)).trans k2 (by simp)) (λy hy=>by have:=hF2 y hy;omega) (by omega) f2
  simp only [h0,h3,h4,h5,Al,BM,Cs,Ae hr1.row,cellOf,hvl.2,Cf,Ab,hrd.len etQ,AU,Ao];refine ⟨λhlt=>?_,λhge=>?_⟩
  ·have hlt:i<fl.length:=by omega
   obtain ⟨p,hp⟩:∃ p,fl[i]? =some p:=⟨_,Ge hlt⟩;obtain ⟨r,o,a1,a2,a3⟩:=hrd.at etQ hp;have hDi:s.D[i]? =some (toF p):=by rw [hD,List.getElem?_map,hp];rfl
   have hc0:A'.cell? ⟨r,o,none⟩=some (.string p.1):=cell_of a2 (k:=0) rfl;simp only [a1,Ab,GP,CG,hc0,Ae q1'.row,cellOf,AE,Cf,Aam];refine Ag.2 ⟨λhq=>?_,λhq=>?_⟩
   ·rw [AY,wrap_i64 (by omega) (by omega)];simp only [Ab];refine Ar.2 ⟨fl.length-(i+1),by omega,rfl,k1,n1,f1,q1,i+1,rfl,rfl,by omega,λe he=>?_⟩;rw [CB hDi] at he;rcases Mz.1 he with he | he
    ·exact hlt0 e he
    ·rw [Ms.1 he];exact hq
   ·have:=fin λe he=>by
     rw [hDi] at he;cases he;exact hq
    unfold KP at this;simp only [h0,h3,h4,h5,Al,BM,Cs,Ae hr1.row,cellOf,hvl.2,Cf,Ab] at this;exact this
  ·have:=fin λe he=>by
    have:=(Gs.1 he).1
    omega
   unfold KP at this;simp only [h0,h3,h4,h5,Al,BM,Cs,Ae hr1.row,cellOf,hvl.2,Cf,Ab] at this;exact this
 ·rw [e83];refine Bk (cs:=fQ x) hf (by omega) rfl λA1 m1=>?_;exact Ar.2 ⟨fl.length,rfl,m1.keeps hf,m1.next,m1.Ay,m1.BB,0,rfl,rfl,by omega,by simp⟩
theorem Wm {K:Value->AW->Prop} (h:DQ A dq s F) (hi:i<s.D.length) (hl:s.D.length<100000) (hf:Aw A) (hA:A.next+20<Am)
  (hk:∀ A' v F',DQ A' dq { s with D:=s.D.take i++s.D.drop (i+1) } F'->Aj A A' [dq]->(∀ y∈F',A.next<=y)->A'.next<=A.next+2->Aw A'->K v A'):
  Wc Tp An W0 m0 105 [pP dq 0,.int .i64 (i:Int)] A K:=by
 obtain ⟨vl,fl,hr,ho,hD,hnd⟩:=h;have hvl:=ho.one;have hll:s.D.length=fl.length:=by rw [hD,List.length_map]
 have hdl:=hr.lt;refine Afm _ _ _ BF ?_;rw [Agr];simp only [Al,BM,Cs,Ae hr.row,cellOf,hvl.2,Cf,Ab];obtain ⟨vt,Ft,et,ht,hFt⟩:=ho.to (A:=A) etQ (show i<=fl.length by omega) (WG A);simp only [et,Ab];refine (BO.nil A).Gu etQ ht hf (by omega) (by simp) (by rw [List.length_take];omega) λv1 A1 F1 o1 k1 hF1 n1 f1=>?_;rw [List.nil_append] at o1;have hF1':∀ y∈F1,A.next<=y:=λy hy=>(hF1 y hy).elim (λh=>by simp at h) λh=>by omega
 have hr1:=hr.keeps k1 (by simp);have ho1:=ho.keeps k1 (by simp);simp only [Al,BM,Cs,Ae hr1.row,cellOf,hvl.2,Cf,Ab,AY];rw [wrap_i64 (by omega) (by omega)];obtain ⟨vf,Ff,ef,hf4,hFf⟩:=ho1.from (A:=A1) etQ (show i+1<=fl.length by omega) (WH A1)
 have e1:((i:Int)+1)=((i+1:Nat):Int):=by omega
 simp only [e1,ef,Ab];refine o1.Gu etQ hf4 f1 (by have:=k1.next;omega) (by rw [List.length_take];omega) (by rw [List.length_drop];omega) λv4 A4 F4 o4 k4 hF4 n4 f4=>?_;have K4:Aj A A4 []:=k1.trans k4 λy hy=>.inr (hF1' y hy);have hF4':∀ y∈F4,A.next<=y:=λy hy=>(hF4 y hy).elim (λh=>hF1' y h) λh=>by have:=k1.next;omega
 have hr4:=hr.keeps K4 (by simp);have hv4:=o4.one;have hs4:v4.cells.toList=[v4]:=by
  rcases o4 with ⟨rfl,_⟩ | ⟨b,g,rfl,_⟩<;>rfl
 refine hr4.store f4 (by have:=k1.next;omega) (WD _ _ _) (by rw [hs4];rfl) (by show 0+1<=4;omega) (by rw [hs4];simp [hv4.1]) λA5 r5 k5 n5 f5=>?_;rw [hs4] at r5;have r5:Go.Abs.AS A5 dq [v4,.int .i64 s.room,.int .i64 s.B9,.bool s.down] 108:=r5;have k5:Aj A4 A5 [dq]:=k5;have hdF:dq∉F4:=λhm=>by have:=hF4' dq hm;omega
 refine hk A5 _ F4 ⟨v4,_,r5,o4.keeps k5 (λy hy hm=>hdF (by rw [Ms.1 hm] at hy;exact hy)),?_,hdF⟩ ((K4.more (T:=[dq]) (by simp)).trans k5 (by simp)) hF4' (by omega) f5;show s.D.take i++s.D.drop (i+1)=_;rw [hD,List.map_append,List.map_take,List.map_drop]
end
end Go.Proofs.YtbchfeibhoobeaaGreatDoor
namespace Go.Abs
variable {i k:Nat} {A:AW} {F:List Nat}
theorem O5:∀ (new c d:List Value) (k:Nat),k+new.length<=c.length->Ek (c++d) k new=Ek c k new++d
 |[],_,_,_,_=>rfl
 |v::r,c,d,k,h=>by
  rw [Lc] at h;show Ek ((c++d).set k v) (k+1) r=Ek (c.set k v) (k+1) r++d;rw [List.set_append_left _ _ (by omega),O5 r (c.set k v) d (k+1) (by rw [List.length_set];omega)]
theorem Nv:∀ (new a b:List Value) (k:Nat),Ek (a++b) (a.length+k) new=a++Ek b k new
 |[],_,_,_=>rfl
 |v::r,a,b,k=>by
  show Ek ((a++b).set (a.length+k) v) (a.length+k+1) r=a++Ek (b.set k v) (k+1) r;rw [List.set_append_right _ _ (by omega),Nat.add_sub_cancel_left];exact Nv r a (b.set k v) (k+1)
section
variable {P:Program} {ts te:TypeId} {n:Nat} {β:Type} {f:β->List Value}
theorem S6(hlen:∀ x,(f x).length=n+1){l:List β}{new:List Value}{x y:β}(hi:l[i]? =some x)(hk:k+new.length<=n+1)(hy:Ek (f x) k new=f y):Ek (flat f l) (i*(n+1)+k) new=flat f (l.set i y):=by
 have hlt:=(Gs.1 hi).1;have hsp:l=l.take i++x::l.drop (i+1):=by
  have:=List.take_append_drop i l
  rw [List.drop_eq_getElem_cons hlt,(Gs.1 hi).2] at this;exact this.symm
 have e1:flat f l=flat f (l.take i)++(f x++flat f (l.drop (i+1))):=by
  conv=>lhs;rw [hsp]
  rw [FC];rfl
 have e2:flat f (l.set i y)=flat f (l.take i)++(f y++flat f (l.drop (i+1))):=by
  rw [List.set_eq_take_append_cons_drop,if_pos hlt,FC];rfl
 have hl:(flat f (l.take i)).length=i*(n+1):=by rw [CW hlen,List.length_take,Nat.min_eq_left (by omega)]
 rw [e1,e2,<- hl,Nv,O5 _ _ _ _ (by rw [hlen];exact hk),hy]
theorem BO.addr(T:ET P ts te n f){v:Value}{l:List β}(h:BO te n f A v l F){x:β}(hi:l[i]? =some x):
  ∃ b,v=.slice (some ⟨b,0,none⟩) l.length (Bx+l.length)/\(∀ c,Ak P ts (.slice (some ⟨b,0,none⟩) l.length c) (.int .i64 (i:Int))=some (.pointer (some ⟨b,i*(n+1),none⟩)))/\A.cells? ⟨b,i*(n+1),none⟩ (n+1)=some (f x):=by
 have hlt:=(Gs.1 hi).1;rcases h with ⟨_,h2,_⟩ | ⟨b,g,rfl,h2,rfl⟩
 ·omega
 ·refine ⟨b,rfl,λc=>?_,?_⟩
  ·have:=M8 T (b:=b) (o:=0) (c:=c) hlt
   rwa [Nat.zero_add] at this
  ·obtain ⟨rest,hr⟩:=Eb T.len l i x hi;rw [Cg h2.row,hr]
   have:=Dc (f x) rest (T.noT x)
   rwa [T.len] at this
theorem BO.store (hlen:∀ x,(f x).length=n+1) {b m:Nat} {l:List β} {x y:β} {w:Value} {r:Option AW} {K:AW->Prop} (h:BO te n f A (.slice (some ⟨b,0,none⟩) l.length (Bx+l.length)) l F) (hi:l[i]? =some x) (hf:Aw A) (hA:A.next<=Am)
  (hr:r=(bif Nat.beq w.cells.toList.length m then A.setCells ⟨b,i*(n+1)+k,none⟩ w.cells.toList else none)) (hm:w.cells.toList.length=m) (hkm:k+m<=n+1) (ho:w.cells.toList.all AT=true) (hy:Ek (f x) k w.cells.toList=f y)
  (hk:∀ A',BO te n f A' (.slice (some ⟨b,0,none⟩) l.length (Bx+l.length)) (l.set i y) F->Aj A A' F->A'.next=A.next->Aw A'->K A'):Bh r K:=by
 have hlt:=(Gs.1 hi).1;have hmul:i*(n+1)+(n+1)<=l.length*(n+1):=by
  rw [<- Nat.succ_mul];exact Nat.mul_le_mul_right _ (by omega)
 refine Aan h hf hA hr hm (by rw [CW hlen];omega) ho λA' h1 h2 h3 h4=>hk A' ?_ h2 h3 h4;rw [S6 hlen hi (by rw [hm];exact hkm) hy] at h1;show DJ A' te (n+1) _ (l.set i y).length _ F;rw [List.length_set];exact h1
end
end Go.Abs
namespace Go.Jr
theorem PC(s:DS)(E:Fls):DB { s with D:=E }=({ (DB s).1 with D:=E },(DB s).2):=by
 unfold DB;split
 ·split<;>rfl
 ·rfl
theorem SA(s:DS)(f:Fls->Fls):C5 s f true=({ (DB s).1 with D:=f s.D },if (DB s).2=true then 100 else 0):=by
 rw [SB];split<;>rfl
theorem JA(s:DS)(f:Fls->Fls):C5 s f false=if (DB s).2=true then ((DB s).1,100) else ({ (DB s).1 with D:=f s.D },0):=by
 rw [SB];split
 ·have:=Hm s
  have e:({ (DB s).1 with D:=s.D }:DS)=(DB s).1:=by rw [<- this]
  simp only [Bool.false_eq_true,if_false,e]
 ·rfl
end Go.Jr
namespace Go.Proofs.YtbchfeibhoobeaaGreatDoor
open Go.Abs Go.Jr
variable {A:AW} {dq:Nat} {s:DS} {F:List Nat} {n:ByteArray} {K:Value->AW->Prop}
theorem Uf{fl:List FQ}{i:Nat}{p:FQ}(h:fl[i]? =some p){D:Fls}(hD:D=fl.map toF):D[i]? =some (toF p):=by rw [hD,List.getElem?_map,h];rfl
section
variable {W0:World} {m0:Inj Tp}
theorem Aem (h:DQ A dq s F) (hl:s.D.length<100000) (h0:0<=s.B9) (h1:s.B9<9223372036854775808) (hf:Aw A) (hA:A.next<Am)
  (hk:∀ A',DQ A' dq (Bn s n.data.toList).1 F->Aj A A' (dq::F)->A'.next=A.next->Aw A'->K (.int .i64 (Bn s n.data.toList).2) A'):
  Wc Tp An W0 m0 72 [pP dq 0,.string n] A K:=by
 refine w72 _ _ _ BF ?_;rw [e72];refine PI h (by omega) ?_;have hdq:=h;obtain ⟨vl,fl,hr,ho,hD,hnd⟩:=h;have hvl:=ho.one;unfold Bn at hk;simp only [Al,Da,Fh,Ae hr.row,cellOf,hvl.2,AG,Bt,Cf,Ab,Nat.zero_add];refine Ag.2 ⟨λhd=>?_,λhd=>?_⟩
 ·rw [if_pos hd] at hk;exact hk A hdq (.refl _ _) rfl hf
 rw [if_neg (by rw [hd];simp)] at hk;rcases Eo n.data.toList s.D 0 with ⟨g1,g2,_⟩ | ⟨i,f,g1,g2,g3,g4⟩
 ·rw [g1];rw [g2] at hk;simp only [AU,Ab,Ao];exact ⟨λ_=>hk A hdq (.refl _ _) rfl hf,λh=>absurd h (by decide)⟩
 ·rw [g1,Nat.zero_add];rw [g3] at hk;simp only at hk;rw [JA] at hk;simp only [AU,Ab,Ao];refine ⟨λh=>by omega,λ_=>?_⟩;refine UU hdq hd h0 h1 hf hA λA1 d1 k1 n1 f1=>?_;refine Ag.2 ⟨λhb=>?_,λhb=>?_⟩
  ·rw [if_pos hb] at hk;exact hk A1 d1 (k1.more (by simp)) n1 f1
  ·rw [if_neg (by rw [hb];simp)] at hk;obtain ⟨vl,fl,hr,ho,hD1,hnd⟩:=d1;rw [Hm] at hD1;obtain ⟨p,hp,hpf⟩:∃ p,fl[i]? =some p/\toF p=(n.data.toList,f):=by
    rw [hD1,List.getElem?_map] at g2;cases hq:fl[i]? with
    |none=>rw [hq] at g2;cases g2
    |some p=>rw [hq] at g2;exact ⟨p,rfl,by simpa using g2⟩
   obtain ⟨b,rfl,a1,a2⟩:=ho.addr etQ hp;have hc1:A1.cell? ⟨b,i*(2+1)+1,none⟩=some (.string p.2.1):=cell_of a2 (k:=1) rfl;simp only [Al,BM,Cs,Ae hr.row,cellOf,isTuple,Cf,Ab,a1,Dr,FN,CG,hc1,Ea];refine BO.store (y:=(p.1,p.2.1,p.2.1.data.toList.length)) etQ.len ho hp f1 (by omega) (J0 _ _ _) rfl (by omega) rfl rfl λA2 o2 k2 n2 f2=>?_;have e1:f=(p.2.1.data.toList,p.2.2):=by
    have:=congrArg Prod.snd hpf
    exact this.symm
   have e2:p.1.data.toList=n.data.toList:=congrArg Prod.fst hpf;refine hk A2 ⟨_,_,hr.keeps k2 (by simpa using hnd),o2,?_,hnd⟩ ((k1.more (T:=dq::F) (by simp)).trans k2 (λx hx=>.inl (List.mem_cons_of_mem _ hx))) (by omega) f2;show Cm s.D _ _=_;rw [P6 g2 g4,e1,hD1,List.map_set];show _=(fl.map toF).set i (p.1.data.toList,_);rw [e2]
theorem Aek {k:Nat} (h:DQ A dq s F) (hl:s.D.length<100000) (h0:0<=s.B9) (h1:s.B9<9223372036854775808) (hf:Aw A) (hA:A.next<Am)
  (hk:∀ A',DQ A' dq (FF s n.data.toList k).1 F->Aj A A' (dq::F)->A'.next=A.next->Aw A'->K (.int .i64 (FF s n.data.toList k).2) A'):
  Wc Tp An W0 m0 77 [pP dq 0,.string n,.int .i64 (k:Int)] A K:=by
 refine w77 _ _ _ _ BF ?_;rw [e77];refine PI h (by omega) ?_;have hdq:=h;obtain ⟨vl,fl,hr,ho,hD,hnd⟩:=h;have hvl:=ho.one;unfold FF at hk;simp only [Al,Da,Fh,Ae hr.row,cellOf,hvl.2,AG,Bt,Cf,Ab,Nat.zero_add];refine Ag.2 ⟨λhd=>?_,λhd=>?_⟩
 ·rw [if_pos hd] at hk;exact hk A hdq (.refl _ _) rfl hf
 rw [if_neg (by rw [hd];simp)] at hk;rw [if_neg (by omega)] at hk;simp only [AU,Ab,Ao];refine ⟨λh=>by omega,λ_=>?_⟩;rcases Eo n.data.toList s.D 0 with ⟨g1,g2,_⟩ | ⟨i,f,g1,g2,g3,g4⟩
 ·rw [g1];rw [g2] at hk;exact ⟨λ_=>hk A hdq (.refl _ _) rfl hf,λh=>absurd h (by decide)⟩
 ·rw [g1,Nat.zero_add];rw [g3] at hk;simp only at hk;refine ⟨λh=>by omega,λ_=>?_⟩;obtain ⟨p,hp,hpf⟩:∃ p,fl[i]? =some p/\toF p=(n.data.toList,f):=by
   have g2:=g2;rw [hD,List.getElem?_map] at g2;cases hq:fl[i]? with
   |none=>rw [hq] at g2;cases g2
   |some p=>rw [hq] at g2;exact ⟨p,rfl,by simpa using g2⟩
  have e1:f=(p.2.1.data.toList,p.2.2):=by
   have:=congrArg Prod.snd hpf
   exact this.symm
  obtain ⟨b,rfl,a1,a2⟩:=ho.addr etQ hp;have hc1:A.cell? ⟨b,i*(2+1)+1,none⟩=some (.string p.2.1):=cell_of a2 (k:=1) rfl;simp only [Al,BM,Cs,Ae hr.row,cellOf,isTuple,Cf,Ab,a1,Dr,CG,hc1,Ea,BN,Ao];rw [e1] at hk;refine ⟨λhgt=>?_,λhgt=>?_⟩
  ·rw [if_pos hgt] at hk;exact hk A hdq (.refl _ _) rfl hf
  rw [if_neg hgt,JA] at hk;refine UU hdq hd h0 h1 hf hA λA1 d1 k1 n1 f1=>?_;refine Ag.2 ⟨λhb=>?_,λhb=>?_⟩
  ·rw [if_pos hb] at hk;exact hk A1 d1 (k1.more (by simp)) n1 f1
  ·rw [if_neg (by rw [hb];simp)] at hk;obtain ⟨vl,fl,hr,ho,hD1,hnd⟩:=d1;rw [Hm] at hD1;obtain ⟨p,hp,hpf⟩:∃ p,fl[i]? =some p/\toF p=(n.data.toList,f):=by
    rw [hD1,List.getElem?_map] at g2;cases hq:fl[i]? with
    |none=>rw [hq] at g2;cases g2
    |some p=>rw [hq] at g2;exact ⟨p,rfl,by simpa using g2⟩
   have e3:f=(p.2.1.data.toList,p.2.2):=by
    have:=congrArg Prod.snd hpf
    exact this.symm
   rw [e3] at e1;obtain ⟨e4,e5⟩:=Prod.mk.inj e1;rw [<- e4,<- e5] at hk;rw [<- e4] at hgt;have e2:p.1.data.toList=n.data.toList:=congrArg Prod.fst hpf;obtain ⟨b,rfl,a1,a2⟩:=ho.addr etQ hp;have hc1:A1.cell? ⟨b,i*(2+1)+1,none⟩=some (.string p.2.1):=cell_of a2 (k:=1) rfl;simp only [Al,BM,Cs,Ae hr.row,cellOf,isTuple,Cf,Ab,a1,Dr,CG,hc1,Q7 (show k<=p.2.1.data.toList.length by omega)];refine BO.store (y:=((p.1,(⟨⟨p.2.1.data.toList.take k⟩⟩,p.2.2)):FQ)) etQ.len ho hp f1 (by omega) (S2 _ _ _) rfl (by omega) rfl rfl λA2 o2 k2 n2 f2=>?_;have hr2:=hr.keeps k2 (by simpa using hnd);have hp2:(fl.set i ((p.1,(⟨⟨p.2.1.data.toList.take k⟩⟩,p.2.2)):FQ))[i]? =some ((p.1,(⟨⟨p.2.1.data.toList.take k⟩⟩,p.2.2)):FQ):=by
    rw [List.getElem?_set_self (Gs.1 hp).1]
   have hlen2:(fl.set i ((p.1,(⟨⟨p.2.1.data.toList.take k⟩⟩,p.2.2)):FQ)).length=fl.length:=List.length_set;rw [<- hlen2] at o2;obtain ⟨b',hb',a3,a4⟩:=o2.addr etQ hp2;simp only [Value.slice.injEq,Oi,Addr.mk.injEq,and_true,true_and] at hb';subst hb';have hc2:A2.cell? ⟨b,i*(2+1)+2,none⟩=some (.int .i64 (p.2.2:Int)):=cell_of a4 (k:=2) rfl;rw [hlen2] at a3;have emin:min (p.2.2:Int) (k:Int)=((min p.2.2 k:Nat):Int):=by omega
   simp only [Al,BM,Cs,Ae hr2.row,cellOf,isTuple,Cf,Ab,a3,FN,D4,hc2,Y3,emin];refine BO.store (y:=((p.1,(⟨⟨p.2.1.data.toList.take k⟩⟩,min p.2.2 k)):FQ)) etQ.len o2 hp2 f2 (by omega) (J0 _ _ _) rfl (by omega) rfl rfl λA3 o3 k3 n3 f3=>?_;rw [List.set_set,hlen2] at o3;refine hk A3 ⟨_,_,hr2.keeps k3 (by simpa using hnd),o3,?_,hnd⟩ ((k1.more (T:=dq::F) (by simp)).trans (k2.trans k3 (λx hx=>.inl hx)) (λx hx=>.inl (List.mem_cons_of_mem _ hx))) (by omega) f3;show Cm s.D _ _=_;rw [P6 g2 g4,hD1,List.map_set,Int.toNat_natCast];show _=(fl.map toF).set i (p.1.data.toList,_);rw [e2]
theorem Aen (h:DQ A dq s F) (hN:(Aq s.D).Nodup) (hl:s.D.length<100000) (h0:0<=s.B9) (h1:s.B9<9223372036854775808) (hf:Aw A) (hA:A.next+40<Am)
  (hk:∀ A' F',DQ A' dq (AQ s n.data.toList).1 F'->Aj A A' (dq::F)->(∀ y∈F',y∈F\/A.next<=y)->A'.next<=A.next+5->Aw A'->K (.int .i64 (AQ s n.data.toList).2) A'):
  Wc Tp An W0 m0 70 [pP dq 0,.string n] A K:=by
 refine w70 _ _ _ BF ?_;rw [e70];refine PI h (by omega) ?_;have hdq:=h;obtain ⟨vl,fl,hr,ho,hD,hnd⟩:=h;have hvl:=ho.one;unfold AQ at hk;simp only [Al,Da,Fh,Ae hr.row,cellOf,hvl.2,AG,Bt,Cf,Ab,Nat.zero_add];refine Ag.2 ⟨λhd=>?_,λhd=>?_⟩
 ·rw [if_pos hd] at hk;exact hk A F hdq (.refl _ _) (λy hy=>.inl hy) (by omega) hf
 rw [if_neg (by rw [hd];simp)] at hk;rcases Eo n.data.toList s.D 0 with ⟨g1,g2,_⟩ | ⟨i,f,g1,g2,g3,g4⟩
 ·rw [g1];rw [g2] at hk;simp only [AU,Ab,Ao];exact ⟨λ_=>hk A F hdq (.refl _ _) (λy hy=>.inl hy) (by omega) hf,λh=>absurd h (by decide)⟩
 ·rw [g1,Nat.zero_add];rw [g3] at hk;simp only at hk;rw [JA] at hk;simp only [AU,Ab,Ao];refine ⟨λh=>by omega,λ_=>?_⟩;refine UU hdq hd h0 h1 hf (by omega) λA1 d1 k1 n1 f1=>?_;refine Ag.2 ⟨λhb=>?_,λhb=>?_⟩
  ·rw [if_pos hb] at hk;exact hk A1 F d1 (k1.more (by simp)) (λy hy=>.inl hy) (by omega) f1
  ·rw [if_neg (by rw [hb];simp)] at hk;have hil:=(Gs.1 g2).1;refine Wm d1 (by rw [Hm];exact hil) (by rw [Hm];exact hl) f1 (by omega) λA2 v F2 d2 k2 hF2 n2 f2=>?_;rw [Hm,<- L3 hN g2] at d2;exact hk A2 F2 d2 ((k1.more (T:=dq::F) (by simp)).trans k2 (by simp)) (λy hy=>.inr (by have:=hF2 y hy;omega)) (by omega) f2
end
end Go.Proofs.YtbchfeibhoobeaaGreatDoor
namespace Go.Proofs.YtbchfeibhoobeaaGreatDoor
open Go.Abs Go.Jr
theorem zQ:Ei Tp 118=some (.agg ⟨fQ (⟨⟨[]⟩⟩,⟨⟨[]⟩⟩,0)⟩):=by kernel_rfl
theorem US{fl:List FQ}{D:Fls}(hD:D=fl.map toF){i:Nat}{n:List UInt8}{f:Fil}(g:D[i]? =some (n,f)):∃ p:FQ,fl[i]? =some p/\p.1.data.toList=n/\f=(p.2.1.data.toList,p.2.2):=by
 rw [hD,List.getElem?_map] at g;cases hq:fl[i]? with
 |none=>rw [hq] at g;cases g
 |some p=>
  rw [hq] at g;have g:toF p=(n,f):=by simpa using g
  exact ⟨p,rfl,congrArg Prod.fst g,(congrArg Prod.snd g).symm⟩
section
variable {W0:World} {m0:Inj Tp}
theorem Ael {A:AW} {dq:Nat} {s:DS} {F:List Nat} {n t:ByteArray} {K:Value->AW->Prop} (h:DQ A dq s F) (hN:(Aq s.D).Nodup) (hl:s.D.length<90000) (h0:0<=s.B9) (h1:s.B9<9223372036854775808) (hn:n.data.toList.length<1000000000) (ht:t.data.toList.length<1000000000) (hf:Aw A) (hA:A.next+60<Am)
  (hk:∀ A' F',DQ A' dq (B4 ltB s n.data.toList t.data.toList).1 F'->Aj A A' (dq::F)->(∀ y∈F',y∈F\/A.next<=y)->A'.next<=A.next+20->Aw A'->K (.int .i64 (B4 ltB s n.data.toList t.data.toList).2) A'):
  Wc Tp An W0 m0 73 [pP dq 0,.string n,.string t] A K:=by
 refine w73 _ _ _ _ BF ?_;rw [e73];refine PI h (by omega) ?_;have hdq:=h;obtain ⟨vl,fl,hr,ho,hD,hnd⟩:=h;have hvl:=ho.one;unfold B4 at hk;simp only [Al,Da,Fh,Ae hr.row,cellOf,hvl.2,AG,Bt,Cf,Ab,Nat.zero_add];refine Ag.2 ⟨λhd=>?_,λhd=>?_⟩
 ·rw [if_pos hd] at hk;exact hk A F hdq (.refl _ _) (λy hy=>.inl hy) (by omega) hf
 rw [if_neg (by rw [hd];simp)] at hk;refine Z0 hn ?_;simp only [Bg,Ab];refine Ag.2 ⟨λhm=>?_,λhm=>?_⟩
 ·have hm:Df n.data.toList=false:=by simpa using hm
  rw [if_pos (by rw [hm];rfl)] at hk;exact hk A F hdq (.refl _ _) (λy hy=>.inl hy) (by omega) hf
 have hm:Df n.data.toList=true:=by simpa using hm
 refine Z0 ht ?_;simp only [Bg,Ab];refine Ag.2 ⟨λhm2=>?_,λhm2=>?_⟩
 ·have hm2:Df t.data.toList=false:=by simpa using hm2
  rw [if_pos (by rw [hm,hm2];rfl)] at hk;exact hk A F hdq (.refl _ _) (λy hy=>.inl hy) (by omega) hf
 have hm2:Df t.data.toList=true:=by simpa using hm2
 rw [if_neg (by rw [hm,hm2];simp)] at hk;rcases Eo n.data.toList s.D 0 with ⟨g1,g2,_⟩ | ⟨i,f,g1,g2,g3,g4⟩
 ·rw [g1];rw [g2] at hk;simp only [AU,Ab,Ao];exact ⟨λ_=>hk A F hdq (.refl _ _) (λy hy=>.inl hy) (by omega) hf,λh=>absurd h (by decide)⟩
 ·rw [g1,Nat.zero_add];rw [g3] at hk;simp only at hk;rw [JA] at hk;simp only [AU,Ab,Ao];refine ⟨λh=>by omega,λ_=>?_⟩;refine UU hdq hd h0 h1 hf (by omega) λA1 d1 k1 n1 f1=>?_;refine Ag.2 ⟨λhb=>?_,λhb=>?_⟩
  ·rw [if_pos hb] at hk;exact hk A1 F d1 (k1.more (by simp)) (λy hy=>.inl hy) (by omega) f1
  ·rw [if_neg (by rw [hb];simp)] at hk;have hd1:=d1;obtain ⟨vl,fl,hr,ho,hD1,hnd⟩:=d1;rw [Hm] at hD1;obtain ⟨p,hp,hp1,hp2⟩:=US hD1 g2;obtain ⟨b,rfl,a1,a2⟩:=ho.addr etQ hp;have hil:=(Gs.1 g2).1;have hrl:=hr.lt;simp only [Al,BM,Cs,Ae hr.row,cellOf,isTuple,Cf,Ab,a1,NR,show A1.cells? ⟨b,i*(2+1),none⟩ 3=some (fQ p) from a2];refine Bl zQ f1 (by omega) rfl λA3 m3=>?_;have n3:=m3.next;have k3:=m3.keeps f1;refine m3.BB.store m3.Ay (by omega) (S3 _ _ _) rfl (by show 0+3<=3;omega) rfl λA4 r4 k4 n4 f4=>?_;have r4:Go.Abs.AS A4 A1.next (fQ p) 118:=r4;have k4:Aj A3 A4 [A1.next]:=k4;have K4:Aj A1 A4 []:=k3.trans k4 λx hx=>.inr (by rw [Ms.1 hx];omega);have d4:=hd1.keeps K4 (by simp) (by simp);refine Wm d4 (by rw [Hm];exact hil) (by rw [Hm];omega) f4 (by omega) λA5 v5 F5 d5 k5 hF5 n5 f5=>?_;rw [Hm,<- L3 hN g2] at d5;have r5:=r4.keeps k5 (by simp;omega);have K5:Aj A A5 [dq]:=(k1.trans K4 (by simp)).trans k5 (by simp);have hF5':∀ y∈F5,A.next<=y:=λy hy=>by have:=hF5 y hy;omega
   have hdl:(Cu s.D n.data.toList).length<=s.D.length:=Lw _ _;have le5:=k5.next;refine PI d5 (by show (Cu s.D _).length<1000000;omega) ?_;have fin:∀ A6 F6,DQ A6 dq { (DB s).1 with D:=Cu (Cu s.D n.data.toList) t.data.toList } F6->Aj A5 A6 [dq]->(∀ y∈F6,A4.next<=y)->A6.next<=A5.next+5->Aw A6->
     (Aa (Ad Tp 118 (pP A1.next 0) 0) λt25=>Bh (Az Tp A6 9 t25 (.string t)) λAt26=>Aa (Af Tp At26 118 (pP A1.next 0)) λt27=>Wc Tp An W0 m0 83 [pP dq 0,t27] At26 λ_ At28=>K (.int .i64 0) At28):=by
    intro A6 F6 d6 k6 hF6 n6 f6;have r6:=r5.keeps k6 (by simp;omega);have hq6:A1.next∉F6:=λhm=>by have:=hF6 _ hm;omega
    have le6:=k6.next;simp only [GP,Ab];refine r6.store f6 (by omega) (S2 _ _ _) rfl (by show 0+1<=3;omega) rfl λA7 r7 k7 n7 f7=>?_;have r7:Go.Abs.AS A7 A1.next (fQ (t,p.2.1,p.2.2)) 118:=r7;have k7:Aj A6 A7 [A1.next]:=k7;simp only [NR,cells3 r7,Ab];have d7:=d6.keeps k7 (by simp;omega) (λy hy hm=>hq6 (by rw [<- Ms.1 hm];exact hy));have hdl2:(Cu (Cu s.D n.data.toList) t.data.toList).length<=(Cu s.D n.data.toList).length:=Lw _ _;refine AbC (x:=(t,p.2.1,p.2.2)) d7 (by show (Cu (Cu s.D _) _).length<100000;omega) f7 (by omega) λA8 v8 F8 d8 k8 hF8 n8 f8=>?_;rw [hp2] at hk;have K8:Aj A A8 [dq]:=((K5.trans k6 (by simp)).trans k7 λx hx=>.inr (by rw [Ms.1 hx];omega)).trans k8 (by simp);exact hk A8 F8 d8 (K8.more (by simp)) (λy hy=>.inr (by have:=hF8 y hy;omega)) (by omega) f8
   rcases Eo t.data.toList (Cu s.D n.data.toList) 0 with ⟨j1,j2,j3⟩ | ⟨j,fj,j1,j2,j3,j4⟩
   ·rw [j1];simp only [DZ,Ab,Ao];refine ⟨λh=>absurd h (by decide),λ_=>?_⟩;exact fin A5 F5 (by rw [Lv j3];exact d5) (.refl _ _) hF5 (by omega) f5
   ·rw [j1,Nat.zero_add];simp only [DZ,Ab,Ao];refine ⟨λ_=>?_,λh=>absurd h (by omega)⟩;have hjl:=(Gs.1 j2).1;refine Wm d5 (by show j<(Cu s.D _).length;exact hjl) (by show (Cu s.D _).length<100000;omega) f5 (by omega) λA6 v6 F6 d6 k6 hF6 n6 f6=>?_;have hN1:=FE hN n.data.toList;have d6:DQ A6 dq { (DB s).1 with D:=(Cu s.D n.data.toList).take j++(Cu s.D n.data.toList).drop (j+1) } F6:=d6;rw [<- L3 hN1 j2] at d6;exact fin A6 F6 d6 k6 (λy hy=>by have:=hF6 y hy;omega) (by omega) f6
end
end Go.Proofs.YtbchfeibhoobeaaGreatDoor
namespace Go.Jr
theorem Sh:∀ (i n:Nat),dig (i+1) n=UInt8.ofNat (48+n/10^i%10)::dig i n
 |0,n=>by simp [dig]
 |i+1,n=>by
  have ih:=Sh i (n/10);show dig (i+1) (n/10)++[UInt8.ofNat (48+n%10)]=_;rw [ih,Nat.div_div_eq_div_mul,<- Nat.pow_succ'];rfl
theorem Py:∀ (l:List UInt8) (a:Nat),l.all (λc=>decide (48<=c)&&decide (c<=57))=true->l.foldl (λn c=>10*n+(c.toNat-48)) a+1<=(a+1)*10^l.length
 |[],a,_=>by simp
 |c::r,a,hh=>by
  simp only [List.all_cons,Bq,decide_eq_true_eq] at hh;have h1:=Py r (10*a+(c.toNat-48)) hh.2;have h2:c.toNat<=57:=UInt8.le_iff_toNat_le.1 hh.1.2;have h3:10*a+(c.toNat-48)+1<=(a+1)*10:=by omega
  show r.foldl _ (10*a+(c.toNat-48))+1<=(a+1)*10^(r.length+1);refine Nat.le_trans h1 ?_;rw [Nat.pow_succ,Nat.mul_comm (10^r.length) 10,<- Nat.mul_assoc];exact Nat.mul_le_mul_right _ h3
end Go.Jr
namespace Go.Proofs.YtbchfeibhoobeaaGreatDoor
open Go.Abs Go.Jr Go.Crc
variable {A:AW} {n dq:Nat} {K:Value->AW->Prop} {s:DS} {F:List Nat}
section
variable {W0:World} {m0:Inj Tp}
theorem Ot(hf:Aw A)(hn:n<1000000000000)(hA:A.next+20<Am)(hk:∀ A',Grow A A' 8->K (.string ⟨⟨Jr.nm n⟩⟩) A'):Wc Tp An W0 m0 74 [.int .i64 (n:Int)] A K:=by
 have hroom:room=68719476736:=rfl;let I:Nat->Nat->List Value->AW->Prop:=λg id vals A'=>id=0/\∃ i:Nat,vals=[.int .i64 ((n/10^i:Nat):Int),.string ⟨⟨dig i n⟩⟩,.int .i64 (i:Int)]/\i<=8/\g=8-i/\Grow A A' i;refine w74 _ _ (c74 (I:=I) ?_) ?_
 ·rintro g id vals A' d ⟨rfl,i,rfl,hi,rfl,hgr⟩ hd';rw [Ac9];simp only [L74,Mc,Mn,Li,and_true] at hd';obtain ⟨h0,h3,h4⟩:=hd';have hnx:=hgr.next;simp only [h0,h3,h4,AU,Ab,Ao];refine ⟨λhlt=>?_,λhge=>?_⟩
  ·have hlt:i<8:=by omega
   have hm:((n/10^i:Nat):Int).tmod 10=((n/10^i%10:Nat):Int):=rfl;have hq:((n/10^i:Nat):Int).tdiv 10=((n/10^(i+1):Nat):Int):=by
    rw [Nat.pow_succ,<- Nat.div_div_eq_div_mul];rfl
   have hlm:n/10^i%10<10:=Nat.mod_lt _ (by decide);have hle:n/10^(i+1)<=n:=Nat.div_le_self _ _;have hle1:((n/10^(i+1):Nat):Int)<=(n:Int):=Int.ofNat_le.2 hle;have hle0:0<=((n/10^(i+1):Nat):Int):=Int.natCast_nonneg _;rw [QB (by decide),QC (by decide),hm,hq];simp only [Ab,AY];rw [wrap_i64 (n:=48+((n/10^i%10:Nat):Int)) (by omega) (by omega),wrap_i64 (n:=((n/10^(i+1):Nat):Int)) (by omega) (by omega)];simp only [Aa5,Ba];have hw:IntKind.u8.wrap (48+((n/10^i%10:Nat):Int))=((UInt8.ofNat (48+n/10^i%10)).toNat:Int):=by
    rw [wrap_u8,NK];rfl
   rw [hw];refine X7 hgr.Ay (by omega) λA1 m1=>?_;have n1:=m1.next;have hb:Buf 5 A1 (.slice (some ⟨A'.next,0,none⟩) 1 1) [UInt8.ofNat (48+n/10^i%10)] [A'.next]:=X0 (l:=[UInt8.ofNat (48+n/10^i%10)]) m1.BB (by simp);have hstr:=hb.rd.str tb;rw [hstr];simp only [Ba];rw [T7 (a:=⟨⟨[UInt8.ofNat (48+n/10^i%10)]⟩⟩) (b:=⟨⟨dig i n⟩⟩) (by show 1+(dig i n).length<_;rw [Dg];omega)];simp only [Ab];rw [wrap_i64 (by omega) (by omega)];refine Ar.2 ⟨8-(i+1),by omega,rfl,i+1,?_,by omega,rfl,hgr.trans (.made m1 hgr.Ay)⟩;rw [Sh];rfl
  ·have hi:i=8:=by omega
   subst hi;rw [T7 (a:=⟨⟨[106,46]⟩⟩) (b:=⟨⟨dig 8 n⟩⟩) (by show 2+(dig 8 n).length<_;rw [Dg];omega)];simp only [Ab];exact hk A' hgr
 ·rw [e74];refine Ar.2 ⟨8,rfl,0,?_,by omega,rfl,Grow.refl hf⟩;simp [dig]
theorem Ach{f:ByteArray}(hk:K (.int .i64 (numOf f.data.toList:Int)) A):Wc Tp An W0 m0 106 [.string f] A K:=by
 obtain ⟨l,hl⟩:∃ l,f.data.toList=l:=⟨_,rfl⟩;rw [hl] at hk;have hbad:(∀ v:Nat,numOf l=v->K (.int .i64 (v:Int)) A):=λv hv=>by rw [<- hv];exact hk
 let I:Nat->Nat->List Value->AW->Prop:=λg id vals A'=>id=0/\A'=A/\∃ i:Nat,vals=[.string f,.int .i64 (((l.take i).drop 2).foldl (λn c=>10*n+(c.toNat-48)) 0:Nat),.int .i64 (i:Int)]/\2<=i/\i<=10/\g=10-i/\l.length=10/\l.take 2=[106,46]/\
  ((l.take i).drop 2).all (λc=>decide (48<=c)&&decide (c<=57))=true
 refine Afl _ _ (Agy (I:=I) ?_) ?_
 ·rintro g id vals A' d ⟨rfl,rfl,i,rfl,h2,hi,rfl,h10,ht2,hall⟩ hd';rw [AaZ];simp only [Yt,Mc,Mn,Li,and_true] at hd';obtain ⟨h0,h3,h4⟩:=hd';simp only [h0,h3,h4,AU,Ab,Ao];refine ⟨λhlt=>?_,λhge=>?_⟩
  ·have hlt:i<l.length:=by omega
   have hc:f.data.toList[i]? =some l[i]:=by rw [hl];exact Ge hlt
   have hdr:l[i]∈l.drop 2:=by
    have:(l.drop 2)[i-2]? =some l[i]:=by rw [List.getElem?_drop,show 2+(i-2)=i by omega];exact Ge hlt
    exact List.mem_of_getElem? this
   have hno:¬ (48<=l[i]/\l[i]<=57)->numOf l=0:=λhn=>by
    unfold numOf;rw [if_neg];rintro ⟨_,_,h⟩
    have:=List.all_eq_true.1 h _ hdr
    simp only [Bq,decide_eq_true_eq] at this;exact hn this
   have h48:48<=l[i]↔48<=(l[i]).toNat:=UInt8.le_iff_toNat_le;have h57:l[i]<=57↔(l[i]).toNat<=57:=UInt8.le_iff_toNat_le;simp only [ix9 hc,Ab,AU,BN,Ao];refine ⟨λh1=>?_,λh1=>⟨λh2=>?_,λh3=>?_⟩⟩
   ·exact hbad 0 (hno λh=>by have:=h48.1 h.1;omega)
   ·exact hbad 0 (hno λh=>by have:=h57.1 h.2;omega)
   ·have hb:=Py _ 0 hall;have hln:((l.take i).drop 2).length=i-2:=by rw [List.length_drop,List.length_take];omega
    rw [hln,Nat.zero_add,Nat.one_mul] at hb;have hp:10^(i-2)<=10^8:=Nat.pow_le_pow_right (by decide) (by omega);have hcs:(l.take (i+1)).drop 2=(l.take i).drop 2++[l[i]]:=by
     rw [CB (Ge hlt),List.drop_append_of_le_length (by rw [List.length_take];omega)]
    have hgt:=(l[i]).toNat_lt;simp only [LD,Ab,Ci,Aa4,Ba,AY];have e1:IntKind.u8.wrap (((l[i]).toNat:Int)-48)=(((l[i]).toNat-48:Nat):Int):=by rw [wrap_u8];omega
    rw [e1];generalize hv:((l.take i).drop 2).foldl (λn c=>10*n+(c.toNat-48)) 0=v at *;rw [wrap_i64 (n:=10*(v:Int)) (by omega) (by omega),wrap_i64 (n:=(((l[i]).toNat-48:Nat):Int)) (by omega) (by omega),wrap_i64 (n:=10*(v:Int)+(((l[i]).toNat-48:Nat):Int)) (by omega) (by omega),wrap_i64 (n:=(i:Int)+1) (by omega) (by omega)];refine Ar.2 ⟨10-(i+1),by omega,rfl,rfl,i+1,?_,by omega,by omega,rfl,h10,ht2,?_⟩
    ·rw [hcs,List.foldl_append,hv];rfl
    ·rw [hcs,List.all_append,hall];have a1:decide (48<=l[i])=true:=decide_eq_true (h48.2 (by omega));have a2:decide (l[i]<=57)=true:=decide_eq_true (h57.2 (by omega));simp [a1,a2]
  ·have hi':i=10:=by omega
   subst hi';rw [List.take_of_length_le (by omega)] at hall ⊢;refine hbad _ ?_;unfold numOf;rw [if_pos ⟨ht2,h10,hall⟩]
 ·rw [Agq];simp only [Ea,hl,Ab,BC];refine Bb.2 ⟨λh=>?_,λh=>?_⟩
  ·refine hbad 0 ?_;unfold numOf;rw [if_neg λg=>h (by rw [g.2.1];rfl)]
  have h10:l.length=10:=by omega
  obtain ⟨a,b,r,rfl⟩:∃ a b r,l=a::b::r:=by
   cases l with
   |nil=>simp at h10
   |cons a l=>
    cases l with
    |nil=>simp at h10
    |cons b r=>exact ⟨a,b,r,rfl⟩
  have i0:DU Tp 9 (.string f) (.int .i64 0)=some (.int .u8 (a.toNat:Int)):=ix9 (i:=0) (by rw [hl];rfl);have i1:DU Tp 9 (.string f) (.int .i64 1)=some (.int .u8 (b.toNat:Int)):=ix9 (i:=1) (by rw [hl];rfl);rw [i0,i1];simp only [Ab,BC];refine Bb.2 ⟨λh=>?_,λh=>?_⟩
  ·refine hbad 0 ?_;unfold numOf;rw [if_neg];rintro ⟨g,_⟩;have g:[a,b]=[106,46]:=g
   have:a=106:=(List.cons.inj g).1
   exact h (by rw [this];rfl)
  have ha:a=106:=UInt8.toNat_inj.1 (by show a.toNat=106;omega);refine Bb.2 ⟨λh=>?_,λh=>?_⟩
  ·refine hbad 0 ?_;unfold numOf;rw [if_neg];rintro ⟨g,_⟩;have g:[a,b]=[106,46]:=g
   have:b=46:=(List.cons.inj (List.cons.inj g).2).1
   exact h (by rw [this];rfl)
  have hb:b=46:=UInt8.toNat_inj.1 (by show b.toNat=46;omega);exact Ar.2 ⟨8,rfl,rfl,2,rfl,by omega,by omega,rfl,h10,by rw [ha,hb];rfl,rfl⟩
theorem YB (h:DQ A dq s F) (hl:s.D.length<100000) (hf:Aw A) (hA:A.next+10+2*s.D.length<Am)
  (hk:∀ A' v F',BO 3 0 fI A' v (AA s.D) F'->(∀ y∈F',A.next<=y)->Grow A A' (2*s.D.length)->K v A'):Wc Tp An W0 m0 75 [pP dq 0] A K:=by
 obtain ⟨vl,fl,hr,ho,hD,hnd⟩:=h;have hvl:=ho.one;have hll:s.D.length=fl.length:=by rw [hD,List.length_map]
 have hnl:∀ D:Fls,(AA D).length<=D.length:=λD=>by
  unfold AA;refine Nat.le_trans (List.length_filterMap_le _ _) ?_;unfold Aq;rw [List.length_map];exact Nl _
 let I:Nat->Nat->List Value->AW->Prop:=λg id vals A'=>id=0/\∃ (i:Nat) (v:Value) (F':List Nat),vals=[pP dq 0,v,.int .i64 (i:Int)]/\g=fl.length-i/\i<=fl.length/\BO 3 0 fI A' v (AA (s.D.take i)) F'/\(∀ y∈F',A.next<=y)/\Grow A A' (2*i);refine w75 _ _ (c75 (I:=I) ?_) ?_
 ·rintro g id vals A' d ⟨rfl,i,v,F',rfl,rfl,hi,hs,hF',g1⟩ hd;rw [Ac8];simp only [L75,Mc,Mn,Li,and_true] at hd;obtain ⟨h0,h3,h4⟩:=hd;have n1:=g1.next;have hr1:=hr.keeps g1.keeps (by simp);have ho1:=ho.keeps g1.keeps (by simp);have hrd:=ho1.rd etQ.len;simp only [h0,h3,h4,Al,BM,Cs,Ae hr1.row,cellOf,hvl.2,Cf,Ab,hrd.len etQ,AU,Ao];refine ⟨λhlt=>?_,λhge=>?_⟩
  ·have hlt:i<fl.length:=by omega
   obtain ⟨p,hp⟩:∃ p,fl[i]? =some p:=⟨_,Ge hlt⟩;obtain ⟨r,o,a1,a2,a3⟩:=hrd.at etQ hp;have hDi:s.D[i]? =some (toF p):=by rw [hD,List.getElem?_map,hp];rfl
   have hc0:A'.cell? ⟨r,o,none⟩=some (.string p.1):=cell_of a2 (k:=0) rfl;have hsn:AA (s.D.take (i+1))=AA (s.D.take i)++(if numOf p.1.data.toList=0 then [] else [numOf p.1.data.toList]):=by
    rw [CB hDi];unfold AA Aq;rw [List.map_append,List.filterMap_append]
    congr 1
    show ([p.1.data.toList]:List (List UInt8)).filterMap _=_;by_cases hz:numOf p.1.data.toList=0
    ·simp [hz]
    ·simp [hz]
   simp only [a1,Ab,GP,CG,hc0];refine Ach ?_;simp only [BN,Ab,Ao];refine ⟨λhpos=>?_,λhpos=>?_⟩
   ·refine Io (cs:=[.int .i64 (numOf p.1.data.toList:Int)]) (e:=3) (X6 A' _) rfl g1.Ay (by omega) λA2 m2=>?_;have n2:=m2.next;have hlen:=hnl (s.D.take i);rw [List.length_take] at hlen;refine esI.append (p:=numOf p.1.data.toList) (hs.keeps (m2.keeps g1.Ay) (by simp)) m2.BB m2.Ay (by omega) (by omega) λv3 A3 F3 o3 k3 hF3 n3 f3=>?_;simp only [AY,Ab];rw [wrap_i64 (by omega) (by omega)];have le1:=g1.le;refine Ar.2 ⟨fl.length-(i+1),by omega,rfl,i+1,v3,F3,rfl,rfl,by omega,?_,λy hy=>(hF3 y hy).elim (λh=>hF' y h) λh=>by omega,?_⟩
    ·rw [hsn,if_neg (by omega)];exact o3
    ·exact (((g1.trans (.made m2 g1.Ay)).own k3 hF' (m:=1) (by omega) f3).more (by omega))
   ·simp only [AY,Ab];rw [wrap_i64 (by omega) (by omega)];refine Ar.2 ⟨fl.length-(i+1),by omega,rfl,i+1,v,F',rfl,rfl,by omega,?_,hF',g1.more (by omega)⟩;rw [hsn,if_pos (by omega),List.append_nil];exact hs
  ·have hi':i=fl.length:=by omega
   subst hi';rw [<- hll,List.take_length] at hs;exact hk A' v F' hs hF' (g1.more (by omega))
 ·rw [e75];exact Ar.2 ⟨fl.length,rfl,0,_,[],rfl,rfl,by omega,BO.nil _,by simp,(Grow.refl hf).more (by omega)⟩
theorem YA {f:Fil} (h:DQ A dq s F) (hl:s.D.length<100000) (hn:n<100000000) (hin:AB s.D (Jr.nm n)=some f) (hfl:f.1.length<700000) (hf:Aw A) (hA:A.next+6*f.1.length+120<Am)
  (hk:∀ A' v (R:List RV) F',(scan f.1).1=R.map toR->13*R.length<=f.1.length->BO 35 1 fR A' v R F'->(∀ y∈F',A.next<=y)->Grow A A' (6*f.1.length+80)->
   K (.tuple ⟨[v,.int .i64 ((scan f.1).2.1:Nat),.int .i64 ((scan f.1).2.2:Nat)]⟩) A'):Wc Tp An W0 m0 76 [pP dq 0,.int .i64 (n:Int)] A K:=by
 refine w76 _ _ _ BF ?_;rw [e76];have hdq:=h;obtain ⟨vl,fl,hr,ho,hD,hnd⟩:=h;have hvl:=ho.one;simp only [Al,BM,Cs,Ae hr.row,cellOf,hvl.2,Cf,Ab];refine Ot hf (by omega) (by omega) λA1 g1=>?_;have n1:=g1.next;have hd1:=hdq.keeps g1.keeps (by simp) (by simp);have hr1:=hr.keeps g1.keeps (by simp);simp only [Al,BM,Cs,Ae hr1.row,cellOf,hvl.2,Cf,Ab,AR];refine PI (n:=⟨⟨Jr.nm n⟩⟩) hd1 (by omega) ?_;have e:(⟨⟨Jr.nm n⟩⟩:ByteArray).data.toList=Jr.nm n:=rfl;rw [e];rcases Eo (Jr.nm n) s.D 0 with ⟨g2,g3,_⟩ | ⟨i,f',g2,g3,g4,_⟩
 ·rw [g3] at hin;cases hin
 rw [g4] at hin;cases hin;rw [g2,Nat.zero_add];obtain ⟨p,hp,hp1,hp2⟩:=US hD g3;have ho1:=ho.keeps g1.keeps (by simp);obtain ⟨r,o,a1,a2,a3⟩:=(ho1.rd etQ.len).at etQ hp;have hc1:A1.cell? ⟨r,o+1,none⟩=some (.string p.2.1):=cell_of a2 (k:=1) rfl;simp only [Al,BM,Cs,Ae hr1.row,cellOf,hvl.2,Cf,Ab,AR,a1,Dr,CG,hc1];have e1:f.1=p.2.1.data.toList:=by rw [hp2]
 rw [e1] at hfl hA hk;refine Acg g1.Ay hfl (by omega) λA2 v R F2 h1 h2 h3 h4 h5=>?_;simp only [GU,GS,GR,Ab];exact hk A2 v R F2 h1 h2 h3 (λy hy=>by have:=h4 y hy;have:=g1.le;omega) ((g1.trans h5).more (by omega))
end
end Go.Proofs.YtbchfeibhoobeaaGreatDoor
namespace Go.Jr
open Go.Proofs.YtbchfeibhoobeaaGreatDoor (lastB_snoc all_zip all_zip_not okC okSeg_eq)
variable {c0:Rec} {l0:List Rec} {n0 i:Nat}
def WI(D:Fls)(n:Nat):Seg:=Hx n (fileOf D (Jr.nm n)).1
theorem Q8(D:Fls):Bi D (Aq D)=(AA D).map (WI D):=by
 unfold Bi AA;rw [List.map_filterMap]
 congr 1
 funext f
 by_cases h:numOf f=0
 ·rw [if_pos h,if_pos h];rfl
 ·rw [if_neg h,if_neg h];show some (Hx (numOf f) (fileOf D f).1)=some (WI D (numOf f));unfold WI;rw [<- KX h]
theorem Ta(l:List Seg):Ga l=match D5 l with | none=>if l=[] then some ([],0) else none | some f=>if FL (l.drop f)=true then some (l.drop f,f) else none:=rfl
theorem kinds{r:List Seg}{x0:Seg}{xs:List Seg}(hr:r=x0::xs)(h0:x0.l=c0::l0):
  (∀ c∈(Gf r).tail,c.1≠0)↔∀ (i:Nat) (x:Seg),r[i]? =some x->∀ (k:Nat) (c:Rec),x.l[k]? =some c->c.1=0->i+k=0:=by
 have ht:(Gf r).tail=l0++Gf xs:=by
  rw [hr];show (x0.l++Gf xs).tail=_;rw [h0];rfl
 rw [ht];constructor
 ·intro h i x hi k c hk hc;cases i with
  |zero=>
   rw [hr] at hi;obtain rfl:x0=x:=by simpa using hi
   cases k with
   |zero=>rfl
   |succ k=>
    rw [h0] at hk
    have:c∈l0:=List.mem_of_getElem? (by simpa using hk)
    exact absurd hc (h c (List.mem_append_left _ this))
  |succ i=>
   rw [hr] at hi;have hx:x∈xs:=List.mem_of_getElem? (by simpa using hi)
   have:c∈Gf xs:=List.mem_flatMap.2 ⟨x,hx,List.mem_of_getElem? hk⟩
   exact absurd hc (h c (List.mem_append_right _ this))
 ·intro h c hc hz;rcases List.mem_append.1 hc with hc | hc
  ·obtain ⟨k,hk⟩:=List.mem_iff_getElem?.1 hc
   have:=h 0 x0 (by rw [hr];rfl) (k+1) c (by rw [h0];simpa using hk) hz
   omega
  ·obtain ⟨x,hx,hcx⟩:=List.mem_flatMap.1 hc;obtain ⟨i,hi⟩:=List.mem_iff_getElem?.1 hx;obtain ⟨k,hk⟩:=List.mem_iff_getElem?.1 hcx
   have:=h (i+1) x (by rw [hr];simpa using hi) k c hk hz
   omega
def Abu(n0 len j:Nat)(x:Seg):Prop:=x.n=n0+j/\x.st≠2/\(x.st=1->j+1=len)/\x.st<=2
theorem To {r:List Seg} (hn:(r.head?.map (·.n)).getD 0=n0) (hfit:∀ (j:Nat) (x:Seg),r[j]? =some x->Abu n0 r.length j x) {x0:Seg} {xs:List Seg} (hr:r=x0::xs) (h0:x0.l=c0::l0)
  (hk:∀ c∈(Gf r).tail,c.1≠0):FL r=true:=by
 unfold FL;rw [hn];refine (all_zip r _).2 λi x hi=>?_;obtain ⟨h1,h2,h3,h4⟩:=hfit i x hi;have hkk:=(kinds hr h0).1 hk i x hi;rw [okSeg_eq];have e1:decide (x.n=n0+i)=true:=decide_eq_true h1;have e2:(decide (i+1=r.length) || decide (x.st=0))=true:=by
  by_cases hz:x.st=0
  ·simp [hz]
  ·have:x.st=1:=by omega
   simp [h3 this]
 have e3:decide (x.st≠2)=true:=decide_eq_true h2;rw [e1,e2,e3];simp only [Bool.true_and];refine (all_zip x.l _).2 λk c hc=>?_;unfold okC;by_cases hz:c.1=0
 ·have:=hkk k c hc hz
  simp [hz];omega
 ·simp [hz]
theorem Vt{r:List Seg}(hn:(r.head?.map (·.n)).getD 0=n0){j:Nat}{x:Seg}(hj:r[j]? =some x)(h:x.n≠n0+j\/x.st=2\/(x.st=1/\j+1<r.length)):FL r=false:=by
 unfold FL;rw [hn];refine all_zip_not hj ?_;show Iw n0 r.length j x=false;rw [okSeg_eq];rcases h with h | h | ⟨h1,h2⟩
 ·rw [decide_eq_false h];rfl
 ·rw [h];simp
 ·have e:(decide (j+1=r.length) || decide (x.st=0))=false:=by
   rw [decide_eq_false (by omega),decide_eq_false (by omega)];rfl
  rw [e];simp
theorem Tq{r:List Seg}{x0:Seg}{xs:List Seg}(hr:r=x0::xs)(h0:x0.l=c0::l0){c:Rec}(hc:c∈(Gf r).tail)(hz:c.1=0):FL r=false:=by
 cases hq:FL r with
 |false=>rfl
 |true=>
  exfalso
  have:∀ c∈(Gf r).tail,c.1≠0:=by
   refine (kinds hr h0).2 λi x hi k c hk hz=>?_;unfold FL at hq;have h1:=(all_zip r _).1 hq i x hi;have h1:Iw ((r.head?.map (·.n)).getD 0) r.length i x=true:=h1;rw [okSeg_eq] at h1;simp only [Bool.and_eq_true] at h1;have h2:=(all_zip x.l _).1 h1.2.2.2 k c hk;unfold okC at h2;simp [hz] at h2;omega
  exact this c hc hz
theorem Ig:∀ {l:List Seg} {f:Nat},D5 l=some f->∃ x,l[f]? =some x/\DI x=true
 |[],f,h=>by cases h
 |x::r,f,h=>by
  unfold D5 at h;split at h
  ·rename_i i hi;cases h;obtain ⟨y,h1,h2⟩:=Ig hi;exact ⟨y,by simpa using h1,h2⟩
  ·split at h
   ·rename_i hb;cases h;exact ⟨x,rfl,hb⟩
   ·cases h
theorem FW{x:Seg}(h:DI x=true):∃ c0 l0,x.l=c0::l0/\c0.1=0:=by
 obtain ⟨n,l,size,st⟩:=x;cases l with
 |nil=>cases h
 |cons c r=>exact ⟨c,r,rfl,by simpa [DI] using h⟩
theorem T1{x:Seg}:DI x=true↔∃ c0 l0,x.l=c0::l0/\c0.1=0:=by
 refine ⟨FW,?_⟩;rintro ⟨c0,l0,h1,h2⟩;obtain ⟨n,l,size,st⟩:=x;have h1:l=c0::l0:=h1;subst h1;simp [DI,h2]
theorem IF{α:Type}{l:List α}{p:α}(h:l[i]? =some p):l.take (i+1)=l.take i++[p]:=by rw [List.take_add_one,h];rfl
theorem Il{α:Type}{l:List α}{p:α}(h:l[i]? =some p):l.drop i=p::l.drop (i+1):=by
 obtain ⟨h1,h2⟩:=List.getElem?_eq_some_iff.1 h;rw [List.drop_eq_getElem_cons h1,h2]
end Go.Jr
namespace Go.Proofs.YtbchfeibhoobeaaGreatDoor
open Go.Abs Go.Jr
theorem TQ(a b c e:Value):Ap (.tuple ⟨[a,b,c,e]⟩) 0=some a:=rfl
theorem TP(a b c e:Value):Ap (.tuple ⟨[a,b,c,e]⟩) 1=some b:=rfl
theorem TO(a b c e:Value):Ap (.tuple ⟨[a,b,c,e]⟩) 2=some c:=rfl
theorem TN(a b c e:Value):Ap (.tuple ⟨[a,b,c,e]⟩) 3=some e:=rfl
theorem Acv(A:AW):AP Tp A 22 (.slice none 0 0) (some (.int .i64 0)) none none=some (.slice none 0 0):=by kernel_rfl
def Qh:Option Nat->Int
 |none=> -1
 |some f=>f
theorem IU(D:Fls):(AA D).length<=D.length:=by
 unfold AA;refine Nat.le_trans (List.length_filterMap_le _ _) ?_;unfold Aq;rw [List.length_map];exact Nl _
theorem Aat{D:Fls}{L:Nat}(hL:∀ e∈D,e.2.1.length<=L){i:Nat}(hi:i<(AA D).length):∃ n f,(AA D)[i]? =some n/\n<100000000/\AB D (Jr.nm n)=some f/\f.1.length<=L/\(Bi D (Aq D))[i]? =some ⟨n,(scan f.1).1,(scan f.1).2.1,(scan f.1).2.2⟩:=by
 have hg:=Ge hi;have hm:(AA D)[i]∈AA D:=List.getElem_mem hi;obtain ⟨h1,h2,h3⟩:=BK.1 hm;cases hk:AB D (Jr.nm (AA D)[i]) with
 |none=>have:=B0.2 h3;rw [hk] at this;cases this
 |some f=>
  refine ⟨_,f,hg,h2,hk,hL _ (EI hk),?_⟩;rw [Q8,List.getElem?_map,hg];show some (WI D (AA D)[i])=_;unfold WI Hx fileOf;rw [hk];rfl
section
variable {W0:World} {m0:Inj Tp}
theorem Aeo {A:AW} {dq L:Nat} {s:DS} {F:List Nat} {K:Value->AW->Prop} (h:DQ A dq s F) (hl:s.D.length<=1000) (hL:∀ e∈s.D,e.2.1.length<=L) (hL2:L<700000) (hkL:s.D.length*L<900000) (hf:Aw A) (hA:A.next+2*(s.D.length*(6*L+100))+4000<Am)
  (hk0:Ga (Bi s.D (Aq s.D))=none->∀ A',Grow A A' (2*(s.D.length*(6*L+100))+2500)->K (.tuple ⟨[.int .i64 0,.string ⟨⟨[]⟩⟩,.slice none 0 0,.bool false]⟩) A')
  (hk1:Ga (Bi s.D (Aq s.D))=some ([],0)->∀ A',Grow A A' (2*(s.D.length*(6*L+100))+2500)->K (.tuple ⟨[.int .i64 0,.string ⟨⟨[]⟩⟩,.slice none 0 0,.bool true]⟩) A')
  (hk2:∀ r f,Ga (Bi s.D (Aq s.D))=some (r,f)->r≠[]->∀ A' v (R:List RV) F' (st:ByteArray) (n0:Nat),r.head?.map (·.n)=some n0->(Gf r).tail=R.map toR->st.data.toList=((Gf r).head?.map (·.2)).getD []->RdE 1 fR A' v R F'->(∀ y∈F',A.next<=y)->R.length<100000->Grow A A' (2*(s.D.length*(6*L+100))+2500)->
   K (.tuple ⟨[.int .i64 (n0:Int),.string st,v,.bool true]⟩) A'):Wc Tp An W0 m0 68 [pP dq 0] A K:=by
 have hNl:=IU s.D;have hsegl:(Bi s.D (Aq s.D)).length=(AA s.D).length:=by rw [Q8,List.length_map]
 have segAt:=λ{i:Nat} (hi:i<(AA s.D).length)=>Aat hL hi;have hrow:=Ta (Bi s.D (Aq s.D));obtain ⟨M,hM⟩:∃ M,6*L+100=M:=⟨_,rfl⟩;obtain ⟨Z,hZ⟩:∃ Z,s.D.length*M=Z:=⟨_,rfl⟩;rw [hM,hZ] at hA hk0 hk1 hk2;have hNM:(AA s.D).length*M<=Z:=by rw [<- hZ];exact Nat.mul_le_mul_right _ hNl
 have hNL:(AA s.D).length*L<900000:=Nat.lt_of_le_of_lt (Nat.mul_le_mul_right _ hNl) hkL;generalize hns:AA s.D=BX at *;generalize hsg:Bi s.D (Aq s.D)=segs at *;let I:Nat->Nat->List Value->AW->Prop:=λg id vals A'=>
  (id=0/\∃ (i:Nat) (fo:Option Nat) (vn:Value) (Fn:List Nat),vals=[pP dq 0,vn,.int .i64 (Qh fo),.int .i64 (i:Int)]/\i<=BX.length/\g=2000000+3*(BX.length+1)-i/\BX≠[]/\D5 (segs.take i)=fo/\RdE 0 fI A' vn BX Fn/\Grow A A' (2000+i*M))\/
  (id=2/\∃ (i f n0:Nat) (vn:Value) (Fn:List Nat) (va:Value) (R:List RV) (Fa:List Nat),vals=[pP dq 0,vn,.int .i64 (f:Int),va,.int .i64 (i:Int)]/\f<=i/\i<=BX.length/\f<BX.length/\g=2000000+2*(BX.length+1)-i/\D5 segs=some f/\BX[f]? =some n0/\RdE 0 fI A' vn BX Fn/\
   BO 35 1 fR A' va R Fa/\(∀ y∈Fa,A.next<=y)/\(∀ y∈Fn,y∉Fa)/\R.map toR=Gf ((segs.take i).drop f)/\(∀ j x,(segs.take i)[f+j]? =some x->Abu n0 (BX.length-f) j x)/\13*R.length<=(i-f)*L/\Grow A A' (2000+BX.length*M+(i-f)*M))\/
  (id=4/\∃ (j f n0:Nat) (vn:Value) (Fn:List Nat) (va:Value) (R:List RV) (Fa:List Nat),vals=[vn,.int .i64 (f:Int),va,.int .i64 (j:Int)]/\1<=j/\f<BX.length/\g=R.length+1-j/\D5 segs=some f/\BX[f]? =some n0/\RdE 0 fI A' vn BX Fn/\
   BO 35 1 fR A' va R Fa/\(∀ y∈Fa,A.next<=y)/\R.map toR=Gf (segs.drop f)/\(∀ i x,(segs.drop f)[i]? =some x->Abu n0 (segs.drop f).length i x)/\13*R.length<900000/\(∀ k c,k<j->1<=k->(R.map toR)[k]? =some c->c.1≠0)/\j<=R.length/\Grow A A' (2000+BX.length*M+BX.length*M))
 have headOf:∀ {f n0:Nat},BX[f]? =some n0->f<BX.length->((segs.drop f).head?.map (·.n))=some n0:=by
  intro f n0 hn hf;obtain ⟨n,fi,h1,h2,h3,h4,h5⟩:=segAt hf;rw [hn] at h1;cases h1;rw [Il h5];rfl
 refine w68 _ _ (c68 (I:=I) ?_) ?_
 ·rintro g id vals A' d (⟨rfl,i,fo,vn,Fn,rfl,hi,rfl,hne,hfo,hrn,hg⟩ | ⟨rfl,i,f,n0,vn,Fn,va,R,Fa,rfl,hfi,hi,hfl,rfl,hlb,hn0,hrn,hoa,hFa,hdis,hR,hfit,hR13,hg⟩ | ⟨rfl,j,f,n0,vn,Fn,va,R,Fa,rfl,hj1,hfl,rfl,hlb,hn0,hrn,hoa,hFa,hR,hfit,hR13,hkn,hjR,hg⟩) hd
  ·
   rw [Adf];simp only [L68,Mc,Mn,Li,and_true] at hd;obtain ⟨h0,h6,h7,h8⟩:=hd;have hgn:=hg.next;have hiM:i*M<=BX.length*M:=Nat.mul_le_mul_right _ hi;simp only [h0,h6,h7,h8,ES.HG esI hrn,AU,Ab,Ao];refine ⟨λhlt=>?_,λhge=>?_⟩
   ·have hlt:i<BX.length:=by omega
    obtain ⟨n,fi,g1,g2,g3,g4,g5⟩:=segAt hlt;have hiM1:(i+1)*M<=BX.length*M:=Nat.mul_le_mul_right _ hlt;have hsucc:(i+1)*M=i*M+M:=Nat.succ_mul i M;obtain ⟨a,a1,a2⟩:=esI.at hrn g1 rfl;simp only [a1,a2,Ab];refine YA (h.keeps hg.keeps (by simp) (by simp)) (by omega) g2 g3 (by omega) hg.Ay (by omega) λA1 v R F1 r1 r2 r3 r4 r5=>?_;have n1:=r5.next;have hgr:Grow A A1 (2000+(i+1)*M):=(hg.trans r5).more (by omega);have hrn1:=hrn.keeps r5.keeps (by simp);have hsn:segs.take (i+1)=segs.take i++[⟨n,(scan fi.1).1,(scan fi.1).2.1,(scan fi.1).2.2⟩]:=IF g5;have hlen:(segs.take i).length=i:=by rw [List.length_take];omega
    have hrd:=r3.rd etR.len;have next:∀ fo',D5 (segs.take (i+1))=fo'->Bm (T68 0) (T68 0) (∃ g2,g2<2000000+3*(BX.length+1)-i/\I g2 0 [pP dq 0,vn,.int .i64 (Qh fo'),.int .i64 (IntKind.i64.wrap ((i:Int)+1))] A1):=by
     intro fo' hfo';rw [wrap_i64 (by omega) (by omega)];exact Ar.2 ⟨2000000+3*(BX.length+1)-(i+1),by omega,.inl ⟨rfl,i+1,fo',vn,Fn,rfl,by omega,rfl,hne,hfo',hrn1,hgr⟩⟩
    simp only [GU,GS,GR,Ab,hrd.len etR,BN,Ao];refine ⟨λhpos=>?_,λhpos=>?_⟩
    ·obtain ⟨x,Rr,rfl⟩:=List.exists_cons_of_length_pos (show 0<R.length by omega);obtain ⟨r,o,b1,b2,b3⟩:=hrd.at etR (i:=0) rfl;have b1:Ak Tp 22 v (.int .i64 0)=some (pP r o):=b1;have hc0:A1.cell? ⟨r,o,none⟩=some (.int .u8 (x.1.toNat:Int)):=cell_of b2 (k:=0) rfl;simp only [b1,E5,Kg,hc0,Ab,Bo,AY];refine Be.2 ⟨λhz=>?_,λhz=>?_⟩
     ·refine next (some i) ?_;have hx:x.1=0:=UInt8.toNat_inj.1 (by show x.1.toNat=0;omega);rw [hsn,lastB_snoc,if_pos,hlen];refine T1.2 ⟨toR x,Rr.map toR,r1,hx⟩
     ·refine next fo ?_;rw [hsn,lastB_snoc,if_neg,hfo];intro hb;obtain ⟨c0,l0,q1,q2⟩:=FW hb;have q1:(scan fi.1).1=c0::l0:=q1;rw [r1,Mc] at q1;obtain ⟨q3,_⟩:=List.cons.inj q1;rw [<- q3] at q2;have q2:x.1=0:=q2;exact hz (by rw [q2];rfl)
    ·have hR0:R=[]:=List.eq_nil_of_length_eq_zero (by omega);subst hR0;simp only [AY,Ab];refine next fo ?_;rw [hsn,lastB_snoc,if_neg,hfo];intro hb;obtain ⟨c0,l0,q1,q2⟩:=FW hb;have q1:(scan fi.1).1=c0::l0:=q1;rw [r1] at q1;cases q1
   ·have hi':i=BX.length:=by omega
    subst hi';rw [List.take_of_length_le (by omega)] at hfo;rw [hfo] at hrow;cases fo with
    |none=>
     have hse:segs≠[]:=λh=>hne (List.eq_nil_of_length_eq_zero (by rw [<- hsegl,h];rfl));simp only [Qh];refine ⟨λ_=>?_,λh=>absurd (show (-1:Int)<0 by decide) h⟩;exact hk0 (by rw [hrow];show (if segs=[] then _ else _)=_;rw [if_neg hse]) A' (hg.more (by omega))
    |some f=>
     have hf1:=Jr.NS hfo;simp only [Qh];refine ⟨λh=>by omega,λ_=>?_⟩;obtain ⟨n,fi,g1,g2,g3,g4,g5⟩:=segAt (i:=f) (by omega);refine Ar.2 ⟨2000000+2*(BX.length+1)-f,by omega,.inr (.inl ⟨rfl,f,f,n,vn,Fn,_,[],[],rfl,Nl _,by omega,by omega,rfl,hfo,g1,hrn,BO.nil _,by simp,by simp,?_,λj x hx=>?_,by simp,by rw [Nat.sub_self,Nat.zero_mul];exact hg⟩)⟩
     ·have:(segs.take f).drop f=[]:=List.drop_eq_nil_of_le (by rw [List.length_take];omega)
      rw [this];rfl
     ·have:=(Gs.1 hx).1
      rw [List.length_take] at this;omega
  ·
   rw [Ade];simp only [L68,Mc,Mn,Li,and_true] at hd;obtain ⟨h0,h6,h7,h12,h13⟩:=hd;have hgn:=hg.next;have hiM:(i-f)*M<=BX.length*M:=Nat.mul_le_mul_right _ (by omega);have hrow:Ga segs=if FL (segs.drop f)=true then some (segs.drop f,f) else none:=by rw [hrow,hlb]
   have hdl:(segs.drop f).length=BX.length-f:=by rw [List.length_drop,hsegl]
   have hh0:((segs.drop f).head?.map (·.n)).getD 0=n0:=by rw [headOf hn0 hfl];rfl
   simp only [h0,h6,h7,h12,h13,ES.HG esI hrn,AU,Ab,Ao];refine ⟨λhlt=>?_,λhge=>?_⟩
   ·have hlt:i<BX.length:=by omega
    obtain ⟨n,fi,g1,g2,g3,g4,g5⟩:=segAt hlt;have hiM1:(i+1-f)*M<=BX.length*M:=Nat.mul_le_mul_right _ (by omega);have hsucc:(i+1-f)*M=(i-f)*M+M:=by rw [show i+1-f=(i-f)+1 by omega,Nat.succ_mul]
    have hsuccL:(i+1-f)*L=(i-f)*L+L:=by rw [show i+1-f=(i-f)+1 by omega,Nat.succ_mul]
    have hiL1:(i+1-f)*L<=BX.length*L:=Nat.mul_le_mul_right _ (by omega);obtain ⟨a,a1,a2⟩:=esI.at hrn g1 rfl;simp only [a1,a2,Ab];refine YA (h.keeps hg.keeps (by simp) (by simp)) (by omega) g2 g3 (by omega) hg.Ay (by omega) λA1 v R1 F1 r1 r2 r3 r4 r5=>?_;have n1:=r5.next;have le1:=r5.le;have hgr:Grow A A1 (2000+BX.length*M+(i-f)*M+(6*L+80)):=(hg.trans r5).more (by omega);have hrn1:=hrn.keeps r5.keeps (by simp);have hrd:=r3.rd etR.len;have hst2:=(H3 fi.1).2.2.2.2;have hn08:n0<100000000:=(BK.1 (by rw [hns];exact List.mem_of_getElem? hn0)).2.1;have hdj:(segs.drop f)[i-f]? =some ⟨n,(scan fi.1).1,(scan fi.1).2.1,(scan fi.1).2.2⟩:=by rw [List.getElem?_drop,show f+(i-f)=i by omega];exact g5
    have bad:(n≠n0+(i-f)\/(scan fi.1).2.2=2\/((scan fi.1).2.2=1/\i+1<BX.length))->K (.tuple ⟨[.int .i64 0,.string ⟨⟨[]⟩⟩,.slice none 0 0,.bool false]⟩) A1:=by
     intro hb;refine hk0 ?_ A1 (hgr.more (by omega));rw [hrow,if_neg];rw [Vt hh0 hdj ?_]
     ·simp
     ·rcases hb with hb | hb | ⟨hb1,hb2⟩
      ·exact .inl hb
      ·exact .inr (.inl hb)
      ·exact .inr (.inr ⟨hb1,by rw [hdl];omega⟩)
    obtain ⟨a',a1',a2'⟩:=esI.at hrn1 g1 rfl;obtain rfl:a=a':=by rw [a1] at a1';simpa using a1'
    obtain ⟨a0,b1,b2⟩:=esI.at hrn1 hn0 rfl;simp only [GU,GS,GR,Ab,a1,a2',b1,b2,AY,Ci,BC];rw [wrap_i64 (n:=(n0:Int)+i) (by omega) (by omega),wrap_i64 (n:=(n0:Int)+i-f) (by omega) (by omega)];refine Bb.2 ⟨λhq=>?_,λhq=>?_⟩
    ·exact bad (.inl (by omega))
    have hnq:n=n0+(i-f):=by omega
    simp only [Bo,Ab];refine Be.2 ⟨λhq=>?_,λhq=>?_⟩
    ·exact bad (.inr (.inl (by omega)))
    have go:((scan fi.1).2.2=1->i+1=BX.length)->Au (AJ Tp A1 22 22 va v) λt20 At20=>Bm (T68 2) (T68 2) (∃ g2,g2<2000000+2*(BX.length+1)-i/\I g2 2 [pP dq 0,vn,.int .i64 (f:Int),t20,.int .i64 (IntKind.i64.wrap ((i:Int)+1))] At20):=by
     intro ht;refine (hoa.keeps r5.keeps (by simp)).Gu etR hrd r5.Ay (show A1.next<Am by omega) (show R.length<1000000 by omega) (show R1.length<1000000 by omega) λv2 A2 F2 o2 k2 hF2 n2 f2=>?_;rw [wrap_i64 (by omega) (by omega)];have hsn:segs.take (i+1)=segs.take i++[⟨n,(scan fi.1).1,(scan fi.1).2.1,(scan fi.1).2.2⟩]:=IF g5;have hlen:(segs.take i).length=i:=by rw [List.length_take];omega
     have hFnA:∀ y∈Fn,y<A1.next:=hrn1.fam;refine Ar.2 ⟨2000000+2*(BX.length+1)-(i+1),by omega,.inr (.inl ⟨rfl,i+1,f,n0,vn,Fn,v2,R++R1,F2,rfl,by omega,by omega,hfl,rfl,hlb,hn0,hrn1.keeps k2 hdis,o2,λy hy=>(hF2 y hy).elim (hFa y) λh=>by have:=hgr.le;omega,λy hy hm=>(hF2 y hm).elim (λh=>hdis y hy h) (λh=>by have:=hFnA y hy;omega),?_,λj x hx=>?_,?_,?_⟩)⟩
     ·rw [hsn,List.drop_append_of_le_length (by omega),List.map_append,hR];unfold Gf;rw [List.flatMap_append]
      congr 1
      show R1.map toR=_;simp [r1]
     ·rw [hsn] at hx;by_cases hji:f+j<i
      ·rw [List.getElem?_append_left (by omega)] at hx;exact hfit j x hx
      ·have hlt2:=(Gs.1 hx).1;rw [Lq,hlen] at hlt2;have hje:f+j=i:=by simp at hlt2;omega
       rw [hje,List.getElem?_append_right (by omega),hlen,Nat.sub_self] at hx;obtain rfl:(⟨n,(scan fi.1).1,(scan fi.1).2.1,(scan fi.1).2.2⟩:Seg)=x:=by simpa using hx
       refine ⟨by show n=n0+j;omega,by show (scan fi.1).2.2≠2;omega,λh1=>?_,hst2⟩
       have:=ht h1
       omega
     ·rw [Lq];omega
     ·have:=hgr.own k2 hFa (m:=1) n2 f2
      exact this.more (by omega)
    refine Be.2 ⟨λhq1=>?_,λhq1=>?_⟩
    ·simp only [AU,Ab];rw [wrap_i64 (n:=(i:Int)+1) (by omega) (by omega)];simp only [Ao];refine ⟨λhq2=>bad (.inr (.inr ⟨by omega,by omega⟩)),λhq2=>?_⟩
     have:=go λ_=>by omega
     rw [wrap_i64 (n:=(i:Int)+1) (by omega) (by omega)] at this;exact this
    ·exact go λh=>absurd (by rw [h];rfl) hq1
   ·have hi':i=BX.length:=by omega
    subst hi';have htk:segs.take BX.length=segs:=List.take_of_length_le (by omega);rw [htk] at hR hfit;have hfL:(BX.length-f)*L<=BX.length*L:=Nat.mul_le_mul_right _ (by omega);obtain ⟨x0,q1,q2⟩:=Ig hlb;obtain ⟨c0,l0,q3,q4⟩:=FW q2;have hRpos:1<=R.length:=by
     have:(R.map toR).length=(Gf (segs.drop f)).length:=by rw [hR]
     rw [List.length_map,Il q1] at this;have e:Gf (x0::segs.drop (f+1))=x0.l++Gf (segs.drop (f+1)):=rfl;rw [e,q3,Lq,Lc] at this;omega
    refine Ar.2 ⟨R.length+1-1,by omega,.inr (.inr ⟨rfl,1,f,n0,vn,Fn,va,R,Fa,rfl,Nl _,hfl,rfl,hlb,hn0,hrn,hoa,hFa,hR,λi x hx=>?_,by omega,λk c hk1 hk2=>by omega,hRpos,hg.more (by omega)⟩)⟩;rw [hdl];exact hfit i x (by rw [List.getElem?_drop] at hx;exact hx)
  ·
   rw [Adc];simp only [L68,Mc,Mn,Li,and_true] at hd;obtain ⟨h6,h7,h12,h17⟩:=hd;have hgn:=hg.next;have hrow:Ga segs=if FL (segs.drop f)=true then some (segs.drop f,f) else none:=by rw [hrow,hlb]
   have hh:=headOf hn0 hfl;have hh0:((segs.drop f).head?.map (·.n)).getD 0=n0:=by rw [hh];rfl
   have hrd:=hoa.rd etR.len;obtain ⟨x0,q1,q2⟩:=Ig hlb;obtain ⟨c0,l0,q3,q4⟩:=FW q2;have hsd:=Il q1;simp only [h6,h7,h12,h17,hrd.len etR,AU,Ab,Ao];refine ⟨λhlt=>?_,λhge=>?_⟩
   ·have hlt:j<R.length:=by omega
    obtain ⟨p,hp⟩:∃ p,R[j]? =some p:=⟨_,Ge hlt⟩;obtain ⟨r,o,b1,b2,b3⟩:=hrd.at etR hp;have hc0:A'.cell? ⟨r,o,none⟩=some (.int .u8 (p.1.toNat:Int)):=cell_of b2 (k:=0) rfl;have hpj:(R.map toR)[j]? =some (toR p):=by rw [List.getElem?_map,hp];rfl
    simp only [b1,E5,Kg,hc0,Ab,Bo,AY];refine Be.2 ⟨λhz=>?_,λhz=>?_⟩
    ·refine hk0 ?_ A' (hg.more (by omega));have hp0:(toR p).1=0:=UInt8.toNat_inj.1 (by show p.1.toNat=0;omega);rw [hrow,Tq hsd q3 (c:=toR p) ?_ hp0]
     ·simp
     ·rw [<- hR,<- List.drop_one]
      have:((R.map toR).drop 1)[j-1]? =some (toR p):=by rw [List.getElem?_drop,show 1+(j-1)=j by omega];exact hpj
      exact List.mem_of_getElem? this
    ·rw [wrap_i64 (by omega) (by omega)];refine Ar.2 ⟨R.length+1-(j+1),by omega,.inr (.inr ⟨rfl,j+1,f,n0,vn,Fn,va,R,Fa,rfl,by omega,hfl,rfl,hlb,hn0,hrn,hoa,hFa,hR,hfit,hR13,λk c hk1 hk2 hk3=>?_,by omega,hg⟩)⟩;by_cases hkj:k=j
     ·rw [hkj,hpj] at hk3;cases hk3;intro h0;have h0:p.1=0:=h0;exact hz (by rw [h0];rfl)
     ·exact hkn k c (by omega) hk2 hk3
   ·have hj:j=R.length:=by omega
    subst hj;have hok:FL (segs.drop f)=true:=by
     refine To hh0 hfit hsd q3 λc hc=>?_;rw [<- hR,<- List.drop_one] at hc;obtain ⟨k,hk⟩:=List.mem_iff_getElem?.1 hc;rw [List.getElem?_drop] at hk
     have:=(Gs.1 hk).1
     rw [List.length_map] at this;exact hkn (1+k) c (by omega) (by omega) hk
    rw [if_pos hok] at hrow;obtain ⟨x,Rr,rfl⟩:=List.exists_cons_of_length_pos (show 0<R.length by omega);obtain ⟨a0,b1,b2⟩:=esI.at hrn hn0 rfl;obtain ⟨r,o,e1,e2,e3⟩:=hrd.at etR (i:=0) rfl;have e1:Ak Tp 22 va (.int .i64 0)=some (pP r o):=e1;have hc1:A'.cell? ⟨r,o+1,none⟩=some (.string x.2):=cell_of e2 (k:=1) rfl;obtain ⟨vt,Ft,u1,u2,u3⟩:=hoa.from (A:=A') etR (i:=1) (by simp) (Acv A')
    have u1:AP Tp A' 22 va (some (.int .i64 1)) none none=some vt:=u1;simp only [b1,b2,e1,Ec,CG,hc1,u1,Ab,AR];refine hk2 (segs.drop f) f hrow (by rw [hsd];simp) A' vt ((x::Rr).drop 1) Ft x.2 n0 hh ?_ ?_ u2 (λy hy=>hFa y (u3 y hy)) (by rw [List.length_drop];simp at hR13 ⊢;omega) (hg.more (by omega))
    ·rw [<- hR];rfl
    ·rw [<- hR];rfl
 ·rw [e68];refine YB h (by omega) hf (by omega) λA1 vn Fn o1 hFn g1=>?_;have hns':=hns;rw [hns] at o1;have hrn:=o1.rd esI.len;rw [ES.HG esI hrn];simp only [Ab,Bo];refine Be.2 ⟨λhz=>?_,λhz=>?_⟩
  ·have hn0:BX=[]:=List.eq_nil_of_length_eq_zero (by omega);have hs0:segs=[]:=List.eq_nil_of_length_eq_zero (by rw [hsegl,hn0];rfl);refine hk1 ?_ A1 (g1.more (by omega));rw [hs0];rfl
  ·refine Ar.2 ⟨2000000+3*(BX.length+1),.inl ⟨rfl,0,none,vn,Fn,rfl,by omega,rfl,λh=>hz (by rw [h];rfl),rfl,hrn,g1.more (by omega)⟩⟩
end
end Go.Proofs.YtbchfeibhoobeaaGreatDoor
namespace Go.Proofs.YtbchfeibhoobeaaGreatDoor
open Go.Jr
theorem foldr_add(l:List Nat):l.foldr (·+·) 0=l.sum:=rfl
end Go.Proofs.YtbchfeibhoobeaaGreatDoor
namespace Go.Proofs.YtbchfeibhoobeaaGreatDoor
open Go.Abs Go.Jr
theorem esZ:ES Tp 46 3 fZ where
 us:=by kernel_rfl
 sz:=by kernel_rfl
 by':=⟨8,by kernel_rfl,by decide⟩
 hz:=by kernel_rfl
 ld:=D4
 len:=λ_=>rfl
 one:=λ_=>rfl
 noT:=λ_=>rfl
theorem Vx{es:List (En ByteArray Fv)}(p:ByteArray):fF ((DR E2 es p).getD (⟨⟨[]⟩⟩,0))=fileOf (es.map fE) p.data.toList:=by
 unfold fileOf;rw [<- E1];cases DR E2 es p with
 |none=>rfl
 |some v=>rfl
theorem Vn{D:Fls}{k:List UInt8}{v:Fil}(h:∀ f∈D,f.2.2<=f.2.1.length)(hv:v.2<=v.1.length):∀ f∈Cm D k v,f.2.2<=f.2.1.length:=by
 intro f hf;rcases GI hf with rfl | h1
 ·exact hv
 ·exact h f h1
theorem Vo{D:Fls}{k:List UInt8}{v:Fil}(h:∀ f∈D,f.2.1.length<=1048576)(hv:v.1.length<=1048576):∀ f∈Cm D k v,f.2.1.length<=1048576:=by
 intro f hf;rcases GI hf with rfl | h1
 ·exact hv
 ·exact h f h1
theorem Qj(D:Fls)(p:List UInt8):fileOf D p=([],0)\/(p,fileOf D p)∈D:=by
 unfold fileOf;cases h:AB D p with
 |none=>exact .inl rfl
 |some f=>exact .inr (EI h)
section
variable {W0:World} {m0:Inj Tp}
theorem AeE {A:AW} {d mp:Nat} {s:DS} {kv:Value} {kl:List Int} {Fk:List Nat} {K:Value->AW->Prop} (h:Dk A d mp s) (hdn:s.down=true) (hok:OkD s) (hk':RdE 0 fZ A kv kl Fk) (hFk:∀ y∈Fk,y≠d/\y≠mp) (hf:Aw A) (hA:A.next<900000000000)
  (hk:∀ A',Dk A' d mp (QV s (namesS s.D) kl)->Aj A A' [d,mp]->A'.next<=A.next+30+5*s.D.length->Aw A'->K (.tuple ⟨[]⟩) A'):Wc Tp An W0 m0 24 [ptr d,kv] A K:=by
 have hmax:Am=1099511627776:=rfl;have hfew:=hok.few;have hlt0:=h.lt;have hws:QV s (namesS s.D) kl=⟨Gz s.D kl (namesS s.D) 0,s.room,s.B9,false⟩:=by unfold QV;rw [if_pos hdn]
 rw [hws] at hk;have hnl:(namesS s.D).length=s.D.length:=by unfold namesS;rw [List.length_mergeSort,List.length_map]
 let I:Nat->Nat->List Value->AW->Prop:=λg id vals A'=>id=0/\∃ (i:Nat) (sv:Value) (Fn:List Nat) (D':Fls),vals=[ptr d,kv,sv,.int .i64 (s.D.length:Int),.int .i64 (i:Int)]/\i<=s.D.length/\g=s.D.length-i/\Dk A' d mp ⟨D',s.room,s.B9,false⟩/\(∀ y∈Fn,A.next<=y)/\RdE 0 fS A' sv (namesS s.D) Fn/\
  Gz D' kl ((namesS s.D).drop i) i=Gz s.D kl (namesS s.D) 0/\(∀ f∈D',f.2.2<=f.2.1.length)/\(∀ f∈D',f.2.1.length<=1048576)/\Aj A A' [d,mp]/\Aw A'/\A'.next<=A.next+20+3*s.D.length+2*i
 refine w24 _ _ _ (c24 (I:=I) λg id vals A' dd hI hd'=>?_) ?_
 ·obtain ⟨rfl,i,sv,Fn,D',rfl,hi,rfl,hdk,hFn,hrd,hwl,hsf,hln,hkp,hfn,hnx⟩:=hI;have hnm:=hkp.next;have hkr:=hk'.keeps hkp (λy hy hm=>by have:=hFk y hy;simp only [Mk,List.not_mem_nil,or_false] at hm;omega);rw [Adr];simp only [L24,Mc,Mn,Li,and_true] at hd';obtain ⟨h0,h1,h22,h23,h24⟩:=hd';simp only [h0,h1,h22,h23,h24,AU,Ab,Ao];refine ⟨λhlt=>?_,λhge=>?_⟩
  ·have hlt:i<s.D.length:=by omega
   obtain ⟨p,hp⟩:∃ p,(namesS s.D)[i]? =some p:=⟨_,Ge (by omega)⟩;obtain ⟨a,a1,a2⟩:=esS.at hrd hp rfl;obtain ⟨es,c,hr,hm,hne,hD⟩:=hdk;have hD:D'=es.map fE:=hD;have hv:=Vx (es:=es) ⟨⟨p⟩⟩;rw [<- hD] at hv;have hv:fF ((DR E2 es ⟨⟨p⟩⟩).getD (⟨⟨[]⟩⟩,0))=fileOf D' p:=hv;obtain ⟨v,hve⟩:∃ v,(DR E2 es ⟨⟨p⟩⟩).getD (⟨⟨[]⟩⟩,0)=v:=⟨_,rfl⟩;rw [hve] at hv;have hv1:(fileOf D' p).1=v.1.data.toList:=by rw [<- hv];rfl
   have hv2:(fileOf D' p).2=v.2:=by rw [<- hv];rfl
   have hvs:v.2<=v.1.data.toList.length/\v.1.data.toList.length<=1048576:=by
    rw [<- hv1,<- hv2];rcases Qj D' p with h | h
    ·rw [h];exact ⟨Nat.zero_le _,Nat.zero_le _⟩
    ·exact ⟨hsf _ h,hln _ h⟩
   have hdrop:(namesS s.D).drop i=p::(namesS s.D).drop (i+1):=by
    have hlt2:=(Gs.1 hp);rw [List.drop_eq_getElem_cons hlt2.1,hlt2.2]
   rw [hdrop] at hwl;have hwl:Gz (Cm D' p (EU (fileOf D' p) kl[i]?)) kl ((namesS s.D).drop (i+1)) (i+1)=Gz s.D kl (namesS s.D) 0:=hwl;have htx:(txV p:Value)=.string ⟨⟨p⟩⟩:=rfl;have hlk:Dl Tp A' 74 (.map (some mp)) (.string ⟨⟨p⟩⟩) false=some (vF v):=by rw [ZP hm,hve]
   simp only [a1,a2,Ab,ptr,Al,CS,EJ,Ae hr.row,cellOf,Cc,Cf,Nat.zero_add,htx,hlk];refine Bl zF hfn (by omega) rfl λA1 m1=>?_;have n1:=m1.next;refine m1.BB.store m1.Ay (by omega) (CY _ _ _) rfl (by show 0+2<=2;omega) rfl λA2 r2 k2 n2 f2=>?_;have r2:Go.Abs.AS A2 A'.next [.string v.1,.int .i64 (v.2:Int)] 100:=r2;have k12:Aj A' A2 []:=(m1.keeps hfn).trans k2 (λx hx=>by have:=Ms.1 hx;exact .inr (by omega));have hr2:=hr.keeps k12 (by simp);have hm2:=hm.keeps k12 (by simp);have hkr2:=hkr.keeps k12 (by simp);have fin:∀ (n:Nat),v.2<=n->n<=v.1.data.toList.length->EU (fileOf D' p) kl[i]? =(v.1.data.toList.take n,n)->
     Bh (CC Tp A2 74 (.map (some mp)) (.string ⟨⟨p⟩⟩) (.agg ⟨[.string ⟨⟨v.1.data.toList.take n⟩⟩,.int .i64 (n:Int)]⟩)) λAt31=>Bm (T24 0) (T24 0) (∃ g2,g2<s.D.length-i/\I g2 0 [dd 0,dd 1,dd 22,dd 23,.int .i64 (IntKind.i64.wrap ((i:Int)+1))] At31):=by
    intro n hn1 hn2 hn3;refine hm2.put mtF f2 (by omega) (k:=⟨⟨p⟩⟩) (v:=(⟨⟨v.1.data.toList.take n⟩⟩,n)) λA3 c3 hm3 k3 n3 f3=>?_;rw [wrap_i64 (by omega) (by omega)];have K3:Aj A' A3 [mp]:=(k12.more (T:=[mp]) (λy hy=>by cases hy)).trans k3 (λy hy=>.inl hy);rw [hn3] at hwl;refine Ar.2 ⟨s.D.length-(i+1),by omega,rfl,i+1,sv,Fn,Cm D' p (v.1.data.toList.take n,n),by rw [h0,h1,h22,h23];rfl,by omega,rfl,⟨_,c3,hr2.keeps k3 (by simp;exact hne),hm3,hne,by show Cm D' p _=_;rw [hD,Jj];rfl⟩,hFn,hrd.keeps K3 (λy hy hm=>by have:=hFn y hy;have:=Ms.1 hm;omega),?_,?_,?_,hkp.trans K3 (λy hy=>.inl (by simp [Ms.1 hy])),f3,by omega⟩
    ·exact hwl
    ·exact Vn hsf (by show n<=(v.1.data.toList.take n).length;rw [List.length_take];omega)
    ·exact Vo hln (by show (v.1.data.toList.take n).length<=_;rw [List.length_take];omega)
   simp only [FO,Lr,D4,CG,Ae r2.row,Ae hr2.row,cellOf,AG,AE,Cc,Cf,Ab,Nat.zero_add,esZ.HG hkr2,AU,Ao,EJ,Al,CS,Ea];refine ⟨λhik=>?_,λhik=>?_⟩
   ·have hik:i<kl.length:=by omega
    obtain ⟨z,hz⟩:∃ z,kl[i]? =some z:=⟨_,Ge hik⟩;obtain ⟨b,b1,b2⟩:=esZ.at hkr2 hz rfl;rw [hz] at fin;simp only [b1,b2,Ab,Vw,Ci];rw [wrap_i64 (n:=(v.1.data.toList.length:Int)-(v.2:Int)) (by omega) (by omega)];simp only [Ab,Y3,AY];obtain ⟨m,hm'⟩:∃ m:Nat,min (max z 0) ((v.1.data.toList.length:Int)-(v.2:Int))=(m:Int):=⟨(min (max z 0) ((v.1.data.toList.length:Int)-(v.2:Int))).toNat,by omega⟩;rw [hm',wrap_i64 (by omega) (by omega)];have e2:(v.2:Int)+(m:Int)=((v.2+m:Nat):Int):=by omega
    rw [e2];simp only [Ab,Q7 (show v.2+m<=v.1.data.toList.length by omega),Of]
    have:=fin (v.2+m) (by omega) (by omega) (by
     show (_,_)=_;rw [hv1,hv2,hm'];rfl)
    rw [h0,h1,h22,h23] at this;exact this
   ·have hz:kl[i]? =none:=List.getElem?_eq_none (by omega);rw [hz] at fin;simp only [Q7 hvs.1,Of,Ab,AY]
    have:=fin v.2 (Nl _) hvs.1 (by
     show (_,_)=_;rw [hv1,hv2])
    rw [h0,h1,h22,h23] at this;exact this
  ·have hi':i=s.D.length:=by omega
   subst hi';rw [List.drop_of_length_le (by omega)] at hwl;have hwl:D'=Gz s.D kl (namesS s.D) 0:=hwl;rw [<- hwl] at hk;exact hk A' hdk hkp (by omega) hfn
 ·rw [e24];have h0:=h;refine QT h ?_;simp only [Bg,Ab];refine Ag.2 ⟨λh=>by simp at h,λ_=>?_⟩;obtain ⟨es,c,hr,hm,hne,hD⟩:=h;simp only [ptr,Al,Ij,Fh,Ae hr.row,cellOf,Bt,Cf,Ab,hdn,Bg,Nat.zero_add];refine Ag.2 ⟨λh=>by simp at h,λ_=>?_⟩;refine hr.store hf (by omega) (JZ _ _ _) rfl (by show 3+1<=4;omega) rfl λA2 r2 k2 n2 f2=>?_;have r2:Go.Abs.AS A2 d [.map (some mp),.int .i64 s.room,.int .i64 s.B9,.bool false] 76:=r2;have k2:Aj A A2 [d]:=k2;have d2:Dk A2 d mp ⟨s.D,s.room,s.B9,false⟩:=⟨es,c,r2,hm.keeps k2 (by simp;exact λh=>hne h.symm),hne,hD⟩;refine SQ d2 f2 (by show s.D.length<100000;omega) (by show A2.next+30+3*s.D.length<_;omega) λA3 sv Fn h3 hFn k3 n3 f3=>?_;have h3:DJ A3 9 1 sv (namesS s.D).length ((namesS s.D).map txV) Fn:=h3;have n3:A3.next<=A2.next+15+3*s.D.length:=n3;have hrd:=HE h3;simp only [esS.HG hrd,hnl,Ab];have K3:Aj A A3 [d]:=k2.trans k3 (by simp);exact Ar.2 ⟨s.D.length-0,rfl,0,sv,Fn,s.D,rfl,by omega,rfl,d2.keeps k3 (by simp) (by simp),λy hy=>by have:=hFn y hy;omega,hrd,by rw [List.drop_zero],hok.safe,hok.len,K3.more (λy hy=>.inl (by simp [Ms.1 hy])),f3,by omega⟩
end
variable {A:AW} {dq:Nat} {s:DS} {F:List Nat} {K:Value->AW->Prop}
section
variable {W0:World} {m0:Inj Tp}
theorem AbJ {n b:ByteArray} (h:DQ A dq s F) (hl:s.D.length<10000) (hM:∀ e∈s.D,e.2.1.length<=1048576) (hr0:0<=s.room) (hr1:s.room<9223372036854775808) (h0:0<=s.B9) (h1:s.B9<9223372036854775808)
  (hn:n.data.toList.length<1000000000) (hb:b.data.toList.length<1000000000) (hf:Aw A) (hA:A.next+60<Am)
  (hk:∀ A' F',DQ A' dq (BA ltB s n.data.toList b.data.toList).1 F'->Aj A A' (dq::F)->(∀ y∈F',y∈F\/A.next<=y)->A'.next<=A.next+10->Aw A'->K (.int .i64 (BA ltB s n.data.toList b.data.toList).2) A'):
  Wc Tp An W0 m0 32 [pP dq 0,.string n,.string b] A K:=by
 have hdq:=h;obtain ⟨vl,fl,hr,ho,hD,hnd⟩:=h;have hvl:=ho.one;have hu:=Ub hM;have hdl:=hr.lt;refine w32 _ _ _ _ BF ?_;rw [e32];unfold BA at hk;simp only [Al,Da,Fh,Ae hr.row,cellOf,hvl.2,AG,Bt,Cf,Ab,Nat.zero_add];refine Ag.2 ⟨λhd=>?_,λhd=>?_⟩
 ·rw [if_pos hd] at hk;exact hk A F hdq (.refl _ _) (λy hy=>.inl hy) (by omega) hf
 rw [if_neg (by rw [hd];simp)] at hk;refine Z0 hn ?_;simp only [Bg,Ab];refine Ag.2 ⟨λhm=>?_,λhm=>?_⟩
 ·have hm:Df n.data.toList=false:=by simpa using hm
  rw [if_pos hm] at hk;exact hk A F hdq (.refl _ _) (λy hy=>.inl hy) (by omega) hf
 have hm:Df n.data.toList=true:=by simpa using hm
 rw [if_neg (by rw [hm];simp)] at hk;refine PI hdq (by omega) ?_;rcases Eo n.data.toList s.D 0 with ⟨g1,g2,g3⟩ | ⟨i,f,g1,g2,g3,g4⟩
 ·have hfo:fileOf s.D n.data.toList=([],0):=by unfold fileOf;rw [g2];rfl
  rw [hfo] at hk;rw [g1];simp only [DZ,Ab,Ao];refine ⟨λh=>absurd h (by decide),λ_=>?_⟩;simp only [Ea,Ab,Ci,BN];rw [wrap_i64 (by omega) (by omega)];simp only [Ao];refine ⟨λhq=>?_,λhq=>?_⟩
  ·rw [if_pos (by simpa using hq)] at hk;exact hk A F hdq (.refl _ _) (λy hy=>.inl hy) (by omega) hf
  rw [if_neg (by simpa using hq)] at hk;simp only [Al,Lp,D4,Ae hr.row,cellOf,hvl.2,AG,Cf,Ab,Nat.zero_add];refine AbD hdq (by omega) hM ?_;simp only [AR,Ci,Ab,BN];simp only [Al,Lp,D4,Ae hr.row,cellOf,hvl.2,AG,Cf,Ab,Nat.zero_add,AR];rw [wrap_i64 (by omega) (by omega)];simp only [Ao];refine ⟨λhq=>?_,λhq=>?_⟩
  ·rw [if_pos hq] at hk;exact hk A F hdq (.refl _ _) (λy hy=>.inl hy) (by omega) hf
  rw [if_neg hq,SA] at hk;simp only [AU,Ab,Ao];refine ⟨λ_=>?_,λh=>absurd (show (-1:Int)<0 by decide) h⟩;simp only [AdW,Ab];refine AbC (x:=(n,b,0)) hdq (by omega) hf (by omega) λA1 v F1 d1 k1 hF1 n1 f1=>?_;refine UU d1 hd h0 h1 f1 (by omega) λA2 d2 k2 n2 f2=>?_;rw [PC] at d2 ⊢;have e:upF ltB s.D n.data.toList (([]:List UInt8)++b.data.toList,0)=Ii ltB s.D n.data.toList (toF (n,b,0)).2:=by
   unfold upF;rw [g2];rfl
  rw [e] at hk
  have:=hk A2 F1 d2 ((k1.trans k2 (by simp)).more (by simp)) (λy hy=>.inr (hF1 y hy)) (by omega) f2
  refine Ag.2 ⟨λhb=>?_,λhb=>?_⟩
  ·have hb:(DB s).2=true:=hb;rw [if_pos hb] at this;exact this
  ·have hb:(DB s).2=false:=hb;rw [if_neg (by rw [hb];simp)] at this;exact this
 ·rw [g1,Nat.zero_add];obtain ⟨p,hp,hp1,hp2⟩:=US hD g2;obtain ⟨bb,rfl,a1,a2⟩:=ho.addr etQ hp;have hfo:fileOf s.D n.data.toList=f:=by unfold fileOf;rw [g3];rfl
  rw [hfo,hp2] at hk;have hMp:p.2.1.data.toList.length<=1048576:=by
   have:=hM _ (List.mem_of_getElem? g2)
   rw [hp2] at this;exact this
  have hc1:A.cell? ⟨bb,i*(2+1)+1,none⟩=some (.string p.2.1):=cell_of a2 (k:=1) rfl;simp only [DZ,Ab,Ao];refine ⟨λ_=>?_,λh=>absurd h (by omega)⟩;simp only [Al,BM,Cs,Ae hr.row,cellOf,isTuple,Cf,Ab,a1,Dr,CG,hc1,Ea,Ci,BN];rw [wrap_i64 (by omega) (by omega)];simp only [Ao];refine ⟨λhq=>?_,λhq=>?_⟩
  ·rw [if_pos hq] at hk;exact hk A F hdq (.refl _ _) (λy hy=>.inl hy) (by omega) hf
  rw [if_neg hq] at hk;simp only [Al,Lp,D4,Ae hr.row,cellOf,isTuple,Cf,Ab,Nat.zero_add];refine AbD hdq (by omega) hM ?_;simp only [AR,Ci,Ab,BN,Al,Lp,D4,Ae hr.row,cellOf,isTuple,Cf,Nat.zero_add];rw [wrap_i64 (by omega) (by omega)];simp only [Ao];refine ⟨λhq=>?_,λhq=>?_⟩
  ·rw [if_pos hq] at hk;exact hk A F hdq (.refl _ _) (λy hy=>.inl hy) (by omega) hf
  rw [if_neg hq,SA] at hk;simp only [AU,Ab,Ao];refine ⟨λh=>absurd h (by omega),λ_=>?_⟩;simp only [Al,BM,Cs,Ae hr.row,cellOf,isTuple,Cf,Ab,a1,Dr,CG,hc1,T7 (show p.2.1.data.toList.length+b.data.toList.length<1099511627776 by omega)];refine BO.store (y:=((p.1,(⟨⟨p.2.1.data.toList++b.data.toList⟩⟩,p.2.2)):FQ)) etQ.len ho hp hf (by omega) (S2 _ _ _) rfl (by omega) rfl rfl λA1 o1 k1 n1 f1=>?_;have e:upF ltB s.D n.data.toList (p.2.1.data.toList++b.data.toList,p.2.2)=(fl.set i ((p.1,(⟨⟨p.2.1.data.toList++b.data.toList⟩⟩,p.2.2)):FQ)).map toF:=by
   unfold upF;rw [g3,if_pos (show (some f).isSome=true from rfl),P6 g2 g4,hD,List.map_set];show _=(fl.map toF).set i (p.1.data.toList,_);rw [hp1]
  have d1:DQ A1 dq { s with D:=upF ltB s.D n.data.toList (p.2.1.data.toList++b.data.toList,p.2.2) } F:=⟨_,_,hr.keeps k1 (by simpa using hnd),o1,e,hnd⟩;refine UU d1 hd h0 h1 f1 (by omega) λA2 d2 k2 n2 f2=>?_;rw [PC] at d2 ⊢
  have:=hk A2 F d2 ((k1.more (T:=dq::F) (λx hx=>.inl (List.mem_cons_of_mem _ hx))).trans k2 (by simp)) (λy hy=>.inl hy) (by omega) f2
  refine Ag.2 ⟨λhb=>?_,λhb=>?_⟩
  ·have hb:(DB s).2=true:=hb;rw [if_pos hb] at this;exact this
  ·have hb:(DB s).2=false:=hb;rw [if_neg (by rw [hb];simp)] at this;exact this
theorem Abi(A:AW)(s:ByteArray):Av Tp A 37 1 [(0,.string s)]=(match A.newRow [.string s] 9 with | some (a,w')=>.ok (.slice (some a) 1 1) w' | none=>.fail "buildSlice new"):=by kernel_rfl
theorem AdO{s:ByteArray}(hf:Aw A)(h:A.next<Am)(hk:∀ A',Made A A' (fS s.data.toList) 9->K (.slice (some ⟨A.next,0,none⟩) 1 1) A'):Au (Av Tp A 37 1 [(0,.string s)]) K:=by
 rw [Abi];unfold AW.newRow AW.new;simp only [show ([Value.string s].all AT)=true from rfl,Ct,AF.2 h];exact Ba.2 (hk (A.push (.row (fS s.data.toList) 9 A.next 0 false)) ⟨AW.B7 _ h,rfl,by rw [AW.BP _ h,if_pos rfl],hf.alone (Nl _),hf.push _ h⟩)
theorem Aej (h:DQ A dq s F) (hl:s.D.length<100000) (hf:Aw A) (hA:A.next+10+2*s.D.length<Am)
  (hk:∀ A' sv F',BO 9 0 fS A' sv (Aq s.D) F'->(∀ y∈F',A.next<=y)->Aj A A' []->A'.next<=A.next+2*s.D.length->Aw A'->K sv A'):Wc Tp An W0 m0 78 [pP dq 0] A K:=by
 obtain ⟨vl,fl,hr,ho,hD,hnd⟩:=h;have hvl:=ho.one;have hll:s.D.length=fl.length:=by rw [hD,List.length_map]
 let I:Nat->Nat->List Value->AW->Prop:=λg id vals A'=>id=0/\∃ (i:Nat) (sv:Value) (F':List Nat),vals=[pP dq 0,sv,.int .i64 (i:Int)]/\g=fl.length-i/\i<=fl.length/\BO 9 0 fS A' sv (Aq (s.D.take i)) F'/\(∀ y∈F',A.next<=y)/\Aj A A' []/\A'.next<=A.next+2*i/\Aw A';refine w78 _ _ (c78 (I:=I) ?_) ?_
 ·rintro g id vals A' d ⟨rfl,i,sv,F',rfl,rfl,hi,hs,hF',k1,n1,f1⟩ hd;rw [Ac7];simp only [L78,Mc,Mn,Li,and_true] at hd;obtain ⟨h0,h3,h4⟩:=hd;have hr1:=hr.keeps k1 (by simp);have ho1:=ho.keeps k1 (by simp);have hrd:=ho1.rd etQ.len;simp only [h0,h3,h4,Al,BM,Cs,Ae hr1.row,cellOf,hvl.2,Cf,Ab,hrd.len etQ,AU,Ao];refine ⟨λhlt=>?_,λhge=>?_⟩
  ·have hlt:i<fl.length:=by omega
   obtain ⟨p,hp⟩:∃ p,fl[i]? =some p:=⟨_,Ge hlt⟩;obtain ⟨r,o,a1,a2,a3⟩:=hrd.at etQ hp;have hDi:s.D[i]? =some (toF p):=Uf hp hD;have hc0:A'.cell? ⟨r,o,none⟩=some (.string p.1):=cell_of a2 (k:=0) rfl;simp only [a1,Ab,GP,CG,hc0];refine AdO f1 (by omega) λA2 m2=>?_;have n2:=m2.next;have k2:=m2.keeps f1;refine esS.append (hs.keeps k2 (by simp)) m2.BB m2.Ay (by omega) (by unfold Aq;rw [List.length_map,List.length_take];omega) λv3 A3 F3 o3 k3 hF3 n3 f3=>?_;simp only [AY,Ab];rw [wrap_i64 (by omega) (by omega)];have k1n:=k1.next;refine Ar.2 ⟨fl.length-(i+1),by omega,rfl,i+1,v3,F3,rfl,rfl,by omega,?_,λy hy=>(hF3 y hy).elim (λh=>hF' y h) λh=>by omega,(k1.trans k2 (by simp)).trans k3 (λy hy=>.inr (hF' y hy)),by omega,f3⟩;have e:Aq (s.D.take (i+1))=Aq (s.D.take i)++[p.1.data.toList]:=by
    rw [CB hDi];unfold Aq;rw [List.map_append];rfl
   rw [e];exact o3
  ·have hi':i=fl.length:=by omega
   subst hi';rw [<- hll,List.take_length] at hs;exact hk A' sv F' hs hF' k1 (by omega) f1
 ·rw [e78];exact Ar.2 ⟨fl.length,rfl,0,_,[],rfl,rfl,by omega,BO.nil _,by simp,.refl _ _,by omega,hf⟩
end
end Go.Proofs.YtbchfeibhoobeaaGreatDoor
namespace Go.Jr
theorem O0(keep:List Int):∀ (D:Fls) (b i:Nat) (e:List UInt8 × Fil),D[i]? =some e->(Gh keep b D)[i]? =some (e.1,EU e.2 keep[b+i]?)
 |[],_,i,e,h=>by simp at h
 |x::r,b,0,e,h=>by
  obtain rfl:x=e:=by simpa using h
  rfl
 |x::r,b,i+1,e,h=>by
  show (Gh keep (b+1) r)[i]? =_;rw [O0 keep r (b+1) i e (by simpa using h),show b+1+i=b+(i+1) by omega]
theorem Fp(keep:List Int):∀ (D:Fls) (b:Nat),(Gh keep b D).length=D.length
 |[],_=>rfl
 |x::r,b=>by
  show (Gh keep (b+1) r).length+1=_;rw [Fp keep r (b+1)];rfl
def G4(keep:List Int)(D:Fls)(i:Nat):Fls:=(Gh keep 0 D).take i++D.drop i
theorem SS(keep:List Int)(D:Fls):G4 keep D 0=D:=by simp [G4]
theorem UZ(keep:List Int)(D:Fls):G4 keep D D.length=Gh keep 0 D:=by
 unfold G4;rw [List.drop_length,List.append_nil,List.take_of_length_le (by rw [Fp];omega)]
theorem UY(keep:List Int)(D:Fls)(i:Nat)(h:i<=D.length):(G4 keep D i).length=D.length:=by
 unfold G4;rw [Lq,List.length_take,List.length_drop,Fp];omega
theorem Wo(keep:List Int){D:Fls}{i:Nat}(h:i<D.length):(G4 keep D i)[i]? =D[i]? :=by
 unfold G4;rw [List.getElem?_append_right (by rw [List.length_take,Fp];omega),List.length_take,Fp,Nat.min_eq_left (by omega),Nat.sub_self,List.getElem?_drop,Nat.add_zero]
theorem SU(keep:List Int){D:Fls}{i:Nat}{e:List UInt8 × Fil}(h:D[i]? =some e):G4 keep D (i+1)=(G4 keep D i).set i (e.1,EU e.2 keep[i]?):=by
 have hlt:=(Gs.1 h).1;have hg:=O0 keep D 0 i e h;rw [Nat.zero_add] at hg;unfold G4;have hl:((Gh keep 0 D).take i).length=i:=by rw [List.length_take,Fp];omega
 rw [List.set_append_right _ _ (by omega),hl,Nat.sub_self,List.drop_eq_getElem_cons hlt,List.set_cons_zero,List.take_add_one,hg,Mw];rfl
end Go.Jr
namespace Go.Proofs.YtbchfeibhoobeaaGreatDoor
open Go.Abs Go.Jr
variable {A:AW} {dq:Nat} {F:List Nat} {kv:Value}
noncomputable def IE(W0:World)(m0:Inj Tp)(S:Nat->List Value->AW->Prop)(d:Nat->Value)(t10:Value)(k:Value)(At11:AW):Prop:=
 Aa (Ad Tp 118 t10 2) λt43=>Aa (Af Tp At11 3 t43) λt44=>Aa (Ai Tp .add 3 (.tmp 48) (.tmp 49) t44 k) λt45=>Aa (Ad Tp 118 t10 2) λt46=>Bh (Az Tp At11 3 t46 t45) λAt47=>Aa (Ad Tp 118 t10 1) λt48=>Aa (Af Tp At47 9 t48) λt49=>Aa (Ad Tp 118 t10 2) λt50=>Aa (Af Tp At47 3 t50) λt51=>Aa (AP Tp At47 9 t49 none (some t51) none) λt52=>Aa (Ad Tp 118 t10 1) λt53=>Bh (Az Tp At47 9 t53 t52) λAt54=>Aa (AD (d 0)) λt55=>Aa (Ad Tp 108 t55 0) λt56=>Aa (Af Tp At54 106 t56) λt57=>Aa (Af Tp At54 118 t10) λt58=>Aa (Ak Tp 106 t57 (d 4)) λt59=>Bh (Az Tp At54 118 t59 t58) λAt60=>Aa (Ai Tp .add 3 (.tmp 22) (.const (.int .i64 1)) (d 4) (.int .i64 1)) λt61=>Bm (T31 0) (T31 0) (S 0 [(d 0),(d 1),t61] At60)
section
variable {W0:World} {m0:Inj Tp}
theorem UX {q i k:Nat} {r x y:Int} {dn:Bool} {p:FQ} {vl:Value} {fl:List FQ} {S:Nat->List Value->AW->Prop} (hr:Go.Abs.AS A dq [vl,.int .i64 x,.int .i64 y,.bool dn] 108) (ho:BO 118 2 fQ A vl fl F) (hnd:dq∉F) (hq:Go.Abs.AS A q (fQ p) 118) (hqd:q≠dq) (hqF:q∉F)
  (hp:fl[i]? =some p) (hl:fl.length<100000) (hk:p.2.2+k<=p.2.1.data.toList.length) (hpl:p.2.1.data.toList.length<=1048576) (hf:Aw A) (hA:A.next<Am) {d:Nat->Value} (h0:d 0=.pointer (some ⟨dq,0,none⟩)) (h1:d 1=kv) (h4:d 4=.int .i64 (i:Int))
  (hS:∀ A' vl',Go.Abs.AS A' dq [vl',.int .i64 x,.int .i64 y,.bool dn] 108->BO 118 2 fQ A' vl' (fl.set i ((p.1,(⟨⟨p.2.1.data.toList.take (p.2.2+k)⟩⟩,p.2.2+k)):FQ)) F->Aj A A' (q::F)->A'.next=A.next->Aw A'->S 0 [pP dq 0,kv,.int .i64 ((i+1:Nat):Int)] A'):
  IE W0 m0 S d (pP q 0) (.int .i64 (k:Int)) A:=by
 unfold IE;rw [h0,h1,h4];have hq:Go.Abs.AS A q [.string p.1,.string p.2.1,.int .i64 (p.2.2:Int)] 118:=hq;simp only [Dr,FN,D4,Ae hq.row,cellOf,AE,AG,Cf,Ab,Nat.zero_add,AY];rw [wrap_i64 (by omega) (by omega)];have e1:(p.2.2:Int)+(k:Int)=((p.2.2+k:Nat):Int):=by omega
 rw [e1];refine hq.store hf (by omega) (J0 _ _ _) rfl (by show 2+1<=3;omega) rfl λA1 q1 k1 n1 f1=>?_;have q1:Go.Abs.AS A1 q [.string p.1,.string p.2.1,.int .i64 ((p.2.2+k:Nat):Int)] 118:=q1;have k1:Aj A A1 [q]:=k1;simp only [Dr,FN,D4,CG,Ae q1.row,cellOf,AE,AG,Cf,Ab,Nat.zero_add,Q7 hk];refine q1.store f1 (by omega) (S2 _ _ _) rfl (by show 1+1<=3;omega) rfl λA2 q2 k2 n2 f2=>?_;have q2:Go.Abs.AS A2 q (fQ (p.1,(⟨⟨p.2.1.data.toList.take (p.2.2+k)⟩⟩,p.2.2+k))) 118:=q2;have k2:Aj A1 A2 [q]:=k2;have K2:Aj A A2 [q]:=k1.trans k2 (by simp);have hr2:=hr.keeps K2 (by simpa using Ne.symm hqd);have ho2:=ho.keeps K2 (λz hz hm=>hqF (by rw [<- Ms.1 hm];exact hz));obtain ⟨b,rfl,a1,a2⟩:=ho2.addr etQ hp;simp only [Al,BM,Cs,Ae hr2.row,cellOf,isTuple,Cf,Ab,NR,cells3 q2,a1];refine BO.store (k:=0) (y:=((p.1,(⟨⟨p.2.1.data.toList.take (p.2.2+k)⟩⟩,p.2.2+k)):FQ)) etQ.len ho2 hp f2 (by omega) (S3 _ _ _) rfl (by omega) rfl rfl λA3 o3 k3 n3 f3=>?_;have hi:=(Gs.1 hp).1;rw [wrap_i64 (by omega) (by omega)];refine Ar.2 ?_;have e2:(i:Int)+1=((i+1:Nat):Int):=by omega
 rw [e2];exact hS A3 _ (hr2.keeps k3 (by simpa using hnd)) o3 ((K2.more (T:=q::F) (by simp)).trans k3 (λz hz=>.inl (List.mem_cons_of_mem _ hz))) (by omega) f3
theorem AeA {s:DS} {kl:List Int} {Fk:List Nat} {K:Value->AW->Prop} (h:DQ A dq s F) (hl:s.D.length<10000) (hM:∀ e∈s.D,e.2.1.length<=1048576) (hS:∀ e∈s.D,e.2.2<=e.2.1.length)
  (hkr:RdE 0 fZ A kv kl Fk) (hFk:∀ y∈Fk,y≠dq/\y∉F) (hf:Aw A) (hA:A.next+10+2*s.D.length<Am)
  (hk:∀ A' v,DQ A' dq (Me s kl) F->Aj A A' (dq::F)->A'.next<=A.next+2*s.D.length->Aw A'->K v A'):
  Wc Tp An W0 m0 31 [pP dq 0,kv] A K:=by
 have hdq:=h;obtain ⟨vl,fl,hr,ho,hD,hnd⟩:=h;have hvl:=ho.one;have hll:s.D.length=fl.length:=by rw [hD,List.length_map]
 have hdlt:=hr.lt;have hFlt:=ho.lt;unfold Me at hk;let I:Nat->Nat->List Value->AW->Prop:=λg id vals A'=>id=0/\∃ i:Nat,vals=[pP dq 0,kv,.int .i64 (i:Int)]/\g=s.D.length-i/\i<=s.D.length/\s.down=true/\DQ A' dq ⟨G4 kl s.D i,s.room,s.B9,false⟩ F/\Aj A A' (dq::F)/\A'.next<=A.next+2*i/\Aw A';refine w31 _ _ _ (c31 (I:=I) ?_) ?_
 ·rintro g id vals A' d ⟨rfl,i,rfl,rfl,hi,hdn,d1,k1,n1,f1⟩ hd;rw [Ado];simp only [L31,Mc,Mn,Li,and_true] at hd;obtain ⟨h0,h1,h4⟩:=hd;rw [if_pos hdn] at hk;have hd1:=d1;obtain ⟨vl1,fl1,hr1,ho1,hD1,hnd1⟩:=d1;have hD1:G4 kl s.D i=fl1.map toF:=hD1;have hvl1:=ho1.one;have hrd:=ho1.rd etQ.len;have hl1:fl1.length=s.D.length:=by
   rw [<- UY kl s.D i hi,hD1,List.length_map]
  have hkr1:=hkr.keeps k1 λy hy hm=>by
   rcases Mk.1 hm with h | h
   ·exact (hFk y hy).1 h
   ·exact (hFk y hy).2 h
  simp only [h0,h1,h4,Al,BM,Cs,Ae hr1.row,cellOf,hvl1.2,Cf,Ab,hrd.len etQ,AU,Ao];refine ⟨λhlt=>?_,λhge=>?_⟩
  ·have hlt:i<s.D.length:=by omega
   obtain ⟨e0,he0⟩:∃ e,s.D[i]? =some e:=⟨_,Ge hlt⟩;have hat:=Wo kl hlt;rw [he0,hD1] at hat;obtain ⟨p,hp,hp1,hp2⟩:=US (fl:=fl1) rfl (n:=e0.1) (f:=e0.2) hat;have hem:=List.mem_of_getElem? he0;have hM0:=hM e0 hem;have hS0:=hS e0 hem;rw [hp2] at hM0 hS0;have hM0:p.2.1.data.toList.length<=1048576:=hM0;have hS0:p.2.2<=p.2.1.data.toList.length:=hS0;obtain ⟨r,o,a1,a2,a3⟩:=hrd.at etQ hp;simp only [a1,Ab,NR,show A'.cells? ⟨r,o,none⟩ 3=some (fQ p) from a2];refine Bl zQ f1 (by omega) rfl λA3 m3=>?_;have n3:=m3.next;have k3:=m3.keeps f1;refine m3.BB.store m3.Ay (by omega) (S3 _ _ _) rfl (by show 0+3<=3;omega) rfl λA4 r4 k4 n4 f4=>?_;have r4:Go.Abs.AS A4 A'.next (fQ p) 118:=r4;have k4:Aj A3 A4 [A'.next]:=k4;have K4:Aj A' A4 []:=k3.trans k4 λx hx=>.inr (by rw [Ms.1 hx];omega);have hr4:=hr1.keeps K4 (by simp);have ho4:=ho1.keeps K4 (by simp);have hkr4:=hkr1.keeps K4 (by simp);have hr1l:=hr1.lt;have ho1l:=ho1.lt;have r4':Go.Abs.AS A4 A'.next [.string p.1,.string p.2.1,.int .i64 (p.2.2:Int)] 118:=r4;have k1n:=k1.next;have fin:∀ k:Nat,p.2.2+k<=p.2.1.data.toList.length->EU e0.2 kl[i]? =(p.2.1.data.toList.take (p.2.2+k),p.2.2+k)->IE W0 m0 (λid v A''=>∃ g2,g2<s.D.length-i/\I g2 id v A'') d (pP A'.next 0) (.int .i64 (k:Int)) A4:=by
    intro k hkk hw;refine UX (kv:=kv) (r:=0) hr4 ho4 hnd1 r4 (by omega) (λhm=>by have:=ho1l _ hm;omega) hp (by omega) hkk hM0 f4 (by omega) h0 h1 h4 λA5 vl5 r5 o5 k5 n5 f5=>?_;have K5:Aj A A5 (dq::F):=(k1.trans K4 (by simp)).trans k5 λz hz=>by
     rcases Mk.1 hz with h | h
     ·exact .inr (by omega)
     ·exact .inl (List.mem_cons_of_mem _ h)
    refine ⟨s.D.length-(i+1),by omega,rfl,i+1,rfl,rfl,by omega,hdn,⟨vl5,_,r5,o5,?_,hnd1⟩,K5,by omega,f5⟩;show G4 kl s.D (i+1)=_;rw [SU kl he0,hD1,hw,List.map_set];show _=(fl1.map toF).set i (p.1.data.toList,_);rw [hp1]
   simp only [ES.HG esZ hkr4,Ab,AU,Ao];refine ⟨λhkl=>?_,λhkl=>?_⟩
   ·have hkl:i<kl.length:=by omega
    obtain ⟨z,hz⟩:∃ z,kl[i]? =some z:=⟨_,Ge hkl⟩;obtain ⟨a,b1,b2⟩:=esZ.at hkr4 hz rfl;simp only [b1,Ab,b2,Vw,Dr,FN,CG,D4,Ae r4'.row,cellOf,AE,AG,Cf,Nat.zero_add,Ea,Ci];rw [wrap_i64 (by omega) (by omega),Y3];simp only [Ab];have hw:EU e0.2 kl[i]? =(p.2.1.data.toList.take (p.2.2+(min (max z 0) ((p.2.1.data.toList.length:Int)-p.2.2)).toNat),p.2.2+(min (max z 0) ((p.2.1.data.toList.length:Int)-p.2.2)).toNat):=by
     rw [hz,hp2];rfl
    have:=fin (min (max z 0) ((p.2.1.data.toList.length:Int)-p.2.2)).toNat (by omega) hw
    rw [Int.toNat_of_nonneg (by omega)] at this;unfold IE at this;simp only [Dr,FN,CG,D4,Ae r4'.row,cellOf,AE,AG,Cf,Nat.zero_add,Ab,h0,h1,h4,Al,BM,Cs] at this ⊢;exact this
   ·have hkl:kl[i]? =none:=List.getElem?_eq_none (by omega);have hw:EU e0.2 kl[i]? =(p.2.1.data.toList.take (p.2.2+0),p.2.2+0):=by
     rw [hkl,hp2];rfl
    have:=fin 0 (by omega) hw
    unfold IE at this;simp only [Dr,FN,CG,D4,Ae r4'.row,cellOf,AE,AG,Cf,Nat.zero_add,Ab,h0,h1,h4,Al,BM,Cs] at this ⊢;exact this
  ·have hi':i=s.D.length:=by omega
   subst hi';rw [UZ] at hd1;exact hk A' _ hd1 k1 (by omega) f1
 ·rw [e31];simp only [Al,Da,Fh,Ae hr.row,cellOf,hvl.2,AG,Bt,Cf,Ab,Nat.zero_add,Bg];refine Ag.2 ⟨λhq=>?_,λhq=>?_⟩
  ·have hq:s.down=false:=by simpa using hq
   rw [if_neg (by rw [hq];simp)] at hk;exact hk A _ hdq (.refl _ _) (by omega) hf
  ·have hq:s.down=true:=by simpa using hq
   refine hr.store hf (by omega) (JZ _ _ _) rfl (by show 3+1<=4;omega) rfl λA1 r1 k1 n1 f1=>?_;have k1:Aj A A1 [dq]:=k1;have ho1:=ho.keeps k1 (λx hx hm=>hnd (by rw [Ms.1 hm] at hx;exact hx));refine Ar.2 ⟨s.D.length,rfl,0,rfl,rfl,by omega,hq,⟨vl,fl,r1,ho1,?_,hnd⟩,k1.more (by simp),by omega,f1⟩;rw [SS];exact hD
end
end Go.Proofs.YtbchfeibhoobeaaGreatDoor
namespace Go.Jr
variable {k L k' L':Nat} {q:DS} {n:List UInt8}
structure IQ (k L:Nat) (q:DS):Prop where
 ris:Ris ltB (Aq q.D)
 few:q.D.length<=k
 len:∀ e∈q.D,e.2.1.length<=L
 safe:∀ e∈q.D,e.2.2<=e.2.1.length
 r0:0<=q.room
 r1:q.room<9223372036854775808
 f0:0<=q.B9
 f1:q.B9<9223372036854775808
theorem IQ.nd(h:IQ k L q):(Aq q.D).Nodup:=Ris.nodup ltk h.ris
theorem IQ.more(h:IQ k L q)(hk:k<=k')(hL:L<=L'):IQ k' L' q:=⟨h.ris,Nat.le_trans h.few hk,λe he=>Nat.le_trans (h.len e he) hL,h.safe,h.r0,h.r1,h.f0,h.f1⟩
theorem IQ.act{g:Fls->Fls}{th:Bool}(h:IQ k L q)(hk:k<=k')(hL:L<=L')(hr:Ris ltB (Aq (g q.D)))(hf:(g q.D).length<=k')(hl:∀ e∈g q.D,e.2.1.length<=L'/\e.2.2<=e.2.1.length):IQ k' L' (C5 q g th).1:=by
 have h':=h.more hk hL;have h0:=h.f0;have h1:=h.f1;have a:∀ f d,0<=f->f<9223372036854775808->IQ k' L' ⟨q.D,q.room,f,d⟩:=λf d h2 h3=>⟨h.ris,h'.few,h'.len,h.safe,h.r0,h.r1,h2,h3⟩;have b:∀ f d,0<=f->f<9223372036854775808->IQ k' L' ⟨g q.D,q.room,f,d⟩:=λf d h2 h3=>⟨hr,hf,λe he=>(hl e he).1,λe he=>(hl e he).2,h.r0,h.r1,h2,h3⟩;unfold C5;split
 ·split
  ·cases th
   ·exact a _ _ (by omega) (by omega)
   ·exact b _ _ (by omega) (by omega)
  ·exact b _ _ (by omega) (by omega)
 ·exact b _ _ h0 h1
theorem IQ.remove(h:IQ k L q)(n:List UInt8):IQ k L (AQ q n).1:=by
 unfold AQ;split
 ·exact h
 cases AB q.D n with
 |none=>exact h
 |some f=>
  refine h.act (Nat.le_refl _) (Nat.le_refl _) (Jw h.ris n) (Nat.le_trans (List.length_filter_le _ _) h.few) λe he=>?_;have he:=(List.mem_filter.1 he).1;exact ⟨h.len e he,h.safe e he⟩
theorem KO{D:Fls}{k:List UInt8}{v:Fil}{e:List UInt8 × Fil}(h:e∈Cm D k v):e=(k,v)\/e∈D:=GI h
theorem Kb{D:Fls}{k:List UInt8}{v:Fil}(h:k∈Aq D):(Cm D k v).length=D.length:=by
 have:=congrArg List.length (IP k v h)
 unfold Aq at this;rw [List.length_map,List.length_map] at this;exact this
theorem Dp{D:Fls}{k:List UInt8}{f:Fil}(h:AB D k=some f):(k,f)∈D:=EI h
theorem IQ.sync(h:IQ k L q)(n:List UInt8):IQ k L (Bn q n).1:=by
 unfold Bn;split
 ·exact h
 cases hk:AB q.D n with
 |none=>exact h
 |some f=>
  have hin:n∈Aq q.D:=B0.1 (by rw [hk];rfl);refine h.act (Nat.le_refl _) (Nat.le_refl _) (by rw [IP n _ hin];exact h.ris) (by rw [Kb hin];exact h.few) λe he=>?_;rcases KO he with rfl | he
  ·have h1:=h.len (n,f) (Dp hk);exact ⟨h1,Nat.le_refl _⟩
  ·exact ⟨h.len e he,h.safe e he⟩
theorem IQ.cut(h:IQ k L q)(n:List UInt8)(m:Int):IQ k L (FF q n m).1:=by
 unfold FF;split
 ·exact h
 split
 ·exact h
 cases hk:AB q.D n with
 |none=>exact h
 |some f=>
  simp only;split
  ·exact h
  rename_i hm;have hin:n∈Aq q.D:=B0.1 (by rw [hk];rfl);refine h.act (Nat.le_refl _) (Nat.le_refl _) (by rw [IP n _ hin];exact h.ris) (by rw [Kb hin];exact h.few) λe he=>?_;rcases KO he with rfl | he
  ·have h1:=h.len _ (Dp hk);have h2:=h.safe _ (Dp hk);simp only [List.length_take] at *;omega
  ·exact ⟨h.len e he,h.safe e he⟩
theorem Qf{D:Fls}{k:List UInt8}{v:Fil}{e:List UInt8 × Fil}(h:e∈Ii ltB D k v):e=(k,v)\/e∈D:=List.mem_cons.1 ((HH ltB k v D).mem_iff.1 h)
theorem UA(D:Fls)(k:List UInt8)(v:Fil):(Ii ltB D k v).length=D.length+1:=(HH ltB k v D).length_eq
theorem Wv{D:Fls}{k:List UInt8}{v:Fil}{e:List UInt8 × Fil}(h:e∈upF ltB D k v):e=(k,v)\/e∈D:=by
 unfold upF at h;split at h
 ·exact KO h
 ·exact Qf h
theorem Aaf(D:Fls)(k:List UInt8)(v:Fil):(upF ltB D k v).length<=D.length+1:=by
 unfold upF;split
 ·rename_i h;rw [Kb (B0.1 h)];omega
 ·rw [UA];omega
theorem Kl(D:Fls)(n:List UInt8):fileOf D n=([],0)\/(n,fileOf D n)∈D:=by
 unfold fileOf;cases hk:AB D n with
 |none=>exact .inl rfl
 |some f=>exact .inr (Dp hk)
theorem IQ.append(h:IQ k L q)(n b:List UInt8):IQ (k+1) (L+b.length) (BA ltB q n b).1:=by
 have h':=h.more (Nat.le_succ k) (Nat.le_add_right L b.length);unfold BA;split
 ·exact h'
 split
 ·exact h'
 split
 ·exact h'
 split
 ·exact h'
 refine h.act (by omega) (by omega) (Wu ltk h.ris _ _) (by have:=Aaf q.D n ((fileOf q.D n).1++b,(fileOf q.D n).2);have:=h.few;omega) λe he=>?_;rcases Wv he with rfl | he
 ·simp only [List.length_append];rcases Kl q.D n with h1 | h1
  ·rw [h1];simp
  ·have:=h.len _ h1
   have:=h.safe _ h1
   simp only at *;omega
 ·exact ⟨Nat.le_trans (h.len e he) (by omega),h.safe e he⟩
theorem IQ.rename(h:IQ k L q)(n t:List UInt8):IQ k L (B4 ltB q n t).1:=by
 unfold B4;split
 ·exact h
 split
 ·exact h
 cases hk:AB q.D n with
 |none=>exact h
 |some f=>
  have hno:t∉Aq (Cu (Cu q.D n) t):=λhh=>by
   rw [GV] at hh
   have:=(List.mem_filter.1 hh).2
   simp at this
  have hlt:(Cu q.D n).length+1<=q.D.length:=by
   have hin:=Dp hk
   have:(Cu q.D n).length<q.D.length:=by
    unfold Cu;refine Nat.lt_of_le_of_ne (List.length_filter_le _ _) λhe=>?_
    have:=(List.length_filter_eq_length_iff.1 he) _ hin
    simp at this
   omega
  refine h.act (Nat.le_refl _) (Nat.le_refl _) (M7 ltk f (Jw (Jw h.ris n) t) hno) ?_ λe he=>?_
  ·rw [UA];have h1:(Cu (Cu q.D n) t).length<=(Cu q.D n).length:=List.length_filter_le _ _
   have:=h.few
   omega
  ·rcases Qf he with rfl | he
   ·exact ⟨h.len (n,f) (Dp hk),h.safe (n,f) (Dp hk)⟩
   ·have he:=(List.mem_filter.1 (List.mem_filter.1 he).1).1;exact ⟨h.len e he,h.safe e he⟩
def Cq(x:DS × Int)(a:Ac):DS × Int:=if x.2=0 then a.EP ltB x.1 else x
theorem Nt:∀ (l:List Ac) {x:DS × Int},x.2≠0->l.foldl Cq x=x
 |[],_,_=>rfl
 |a::l,x,h=>by
  rw [List.foldl_cons]
  have:Cq x a=x:=if_neg h
  rw [this];exact Nt l h
theorem H4:∀ (l:List Ac) (s:DS),BI ltB s l=l.foldl Cq (s,0)
 |[],_=>rfl
 |a::l,s=>by
  rw [List.foldl_cons];have e:Cq (s,0) a=a.EP ltB s:=if_pos rfl;rw [e];have e2:BI ltB s (a::l)=if (a.EP ltB s).2=0 then BI ltB (a.EP ltB s).1 l else a.EP ltB s:=rfl
  rw [e2];split
  ·rename_i h;rw [H4 l,<- h]
  ·rename_i h;rw [Nt l h]
theorem H5{m:List UInt8}(h:m≠n):AB (AQ q n).1.D m=AB q.D m:=by
 by_cases h0:(AQ q n).2=0
 ·rw [(Gv h0).1,FM,if_neg h]
 ·unfold AQ at h0 ⊢;split
  ·rfl
  rename_i h1;rw [if_neg h1] at h0;cases hk:AB q.D n with
  |none=>rfl
  |some f=>
   rw [hk] at h0;simp only;unfold C5 at h0 ⊢;split
   ·split
    ·rfl
    ·rename_i g1 g2;simp only [if_pos g1,if_neg g2] at h0;exact absurd trivial h0
   ·rename_i g1;simp only [if_neg g1] at h0;exact absurd trivial h0
theorem Rj(h:Ris ltB (Aq q.D))(hn:∀ i,n≠Jr.nm i):AA (AQ q n).1.D=AA q.D:=by
 have hr:Ris ltB (Aq (AQ q n).1.D):=((RQ.Dd h).remove n).1.r;refine LR hr h λi _ _=>?_;rw [<- B0,<- B0,H5 (λhe=>hn i he.symm)]
end Go.Jr
namespace Go.Proofs.YtbchfeibhoobeaaGreatDoor
open Go.Abs Go.Jr
structure Sq (A:AW) (dq:Nat) (F:List Nat) (A':AW) (q:DS) (Fq:List Nat) (k L c:Nat):Prop where
 dk:DQ A' dq q Fq
 iq:IQ k L q
 kp:Aj A A' (dq::F)
 fq:∀ y∈Fq,y∈F\/A.next<=y
 nx:A'.next<=A.next+c
 fn:Aw A'
theorem Sq.start{A:AW}{dq:Nat}{F:List Nat}{q:DS}{k L:Nat}(h:DQ A dq q F)(iq:IQ k L q)(hf:Aw A):Sq A dq F A q F k L 0:=⟨h,iq,.refl _ _,λ_ hy=>.inl hy,Nl _,hf⟩
theorem Sq.more{A A':AW}{dq:Nat}{F Fq:List Nat}{q:DS}{k L c k' L' c':Nat}(h:Sq A dq F A' q Fq k L c)(hk:k<=k')(hL:L<=L')(hc:c<=c'):Sq A dq F A' q Fq k' L' c':=⟨h.dk,h.iq.more hk hL,h.kp,h.fq,Nat.le_trans h.nx (by omega),h.fn⟩
theorem Sq.grow{A A' A2:AW}{dq:Nat}{F Fq:List Nat}{q:DS}{k L c n:Nat}(h:Sq A dq F A' q Fq k L c)(g:Grow A' A2 n):Sq A dq F A2 q Fq k L (c+n):=
 ⟨h.dk.keeps g.keeps (by simp) (by simp),h.iq,h.kp.trans g.keeps (by simp),h.fq,by have:=h.nx;have:=g.next;omega,g.Ay⟩
theorem Sq.step{A A' A2:AW}{dq:Nat}{F Fq F2:List Nat}{q q2:DS}{k L c k' L' n:Nat}(h:Sq A dq F A' q Fq k L c)(hd:DQ A2 dq q2 F2)(iq:IQ k' L' q2)(kp:Aj A' A2 (dq::Fq))(hF:∀ y∈F2,y∈Fq\/A'.next<=y)(hn:A2.next<=A'.next+n)(hf:Aw A2):Sq A dq F A2 q2 F2 k' L' (c+n):=by
 have hl:=h.kp.next;refine ⟨hd,iq,h.kp.trans kp λx hx=>?_,λy hy=>?_,by have:=h.nx;omega,hf⟩
 ·rcases Mk.1 hx with rfl | hx
  ·exact .inl List.mem_cons_self
  ·exact (h.fq x hx).imp (λh=>List.mem_cons_of_mem _ h) id
 ·rcases hF y hy with h1 | h1
  ·exact h.fq y h1
  ·exact .inr (by omega)
section
variable {W0:World} {m0:Inj Tp}
variable {A A':AW} {dq:Nat} {F Fq:List Nat} {q:DS} {k L c:Nat} {n:ByteArray} {K:Value->AW->Prop}
theorem YK(h:Sq A dq F A' q Fq k L c)(hk9:k<9000)(hA:A'.next+60<Am)(hk:∀ A2 F2,Sq A dq F A2 (AQ q n.data.toList).1 F2 k L (c+5)->K (.int .i64 (AQ q n.data.toList).2) A2):Wc Tp An W0 m0 70 [pP dq 0,.string n] A' K:=by
 have:=h.iq.few
 exact Aen h.dk h.iq.nd (by omega) h.iq.f0 h.iq.f1 h.fn (by omega) λA2 F2 d2 k2 hF2 n2 f2=>hk A2 F2 (h.step d2 (h.iq.remove _) k2 hF2 n2 f2)
theorem WE(h:Sq A dq F A' q Fq k L c)(hk9:k<9000)(hA:A'.next+60<Am)(hk:∀ A2 F2,Sq A dq F A2 (Bn q n.data.toList).1 F2 k L c->K (.int .i64 (Bn q n.data.toList).2) A2):Wc Tp An W0 m0 72 [pP dq 0,.string n] A' K:=by
 have:=h.iq.few
 exact Aem h.dk (by omega) h.iq.f0 h.iq.f1 h.fn (by omega) λA2 d2 k2 n2 f2=>hk A2 Fq (h.step d2 (h.iq.sync _) k2 (λy hy=>.inl hy) (n:=0) (by omega) f2)
theorem Afr{m:Nat}(h:Sq A dq F A' q Fq k L c)(hk9:k<9000)(hA:A'.next+60<Am)(hk:∀ A2 F2,Sq A dq F A2 (FF q n.data.toList m).1 F2 k L c->K (.int .i64 (FF q n.data.toList m).2) A2):Wc Tp An W0 m0 77 [pP dq 0,.string n,.int .i64 (m:Int)] A' K:=by
 have:=h.iq.few
 exact Aek h.dk (by omega) h.iq.f0 h.iq.f1 h.fn (by omega) λA2 d2 k2 n2 f2=>hk A2 Fq (h.step d2 (h.iq.cut _ _) k2 (λy hy=>.inl hy) (n:=0) (by omega) f2)
theorem Acu{t:ByteArray}(h:Sq A dq F A' q Fq k L c)(hk9:k<9000)(hn:n.data.toList.length<1000000000)(ht:t.data.toList.length<1000000000)(hA:A'.next+80<Am)(hk:∀ A2 F2,Sq A dq F A2 (B4 ltB q n.data.toList t.data.toList).1 F2 k L (c+20)->K (.int .i64 (B4 ltB q n.data.toList t.data.toList).2) A2):
  Wc Tp An W0 m0 73 [pP dq 0,.string n,.string t] A' K:=by
 have:=h.iq.few
 exact Ael h.dk h.iq.nd (by omega) h.iq.f0 h.iq.f1 hn ht h.fn (by omega) λA2 F2 d2 k2 hF2 n2 f2=>hk A2 F2 (h.step d2 (h.iq.rename _ _) k2 hF2 n2 f2)
theorem Aap{b:ByteArray}(h:Sq A dq F A' q Fq k L c)(hk9:k<9000)(hL:L<=1048576)(hn:n.data.toList.length<1000000000)(hb:b.data.toList.length<1000000000)(hA:A'.next+80<Am)(hk:∀ A2 F2,Sq A dq F A2 (BA ltB q n.data.toList b.data.toList).1 F2 (k+1) (L+b.data.toList.length) (c+10)->K (.int .i64 (BA ltB q n.data.toList b.data.toList).2) A2):
  Wc Tp An W0 m0 32 [pP dq 0,.string n,.string b] A' K:=by
 have:=h.iq.few
 exact AbJ h.dk (by omega) (λe he=>Nat.le_trans (h.iq.len e he) hL) h.iq.r0 h.iq.r1 h.iq.f0 h.iq.f1 hn hb h.fn (by omega) λA2 F2 d2 k2 hF2 n2 f2=>hk A2 F2 (h.step d2 (h.iq.append _ _) k2 hF2 n2 f2)
end
def KQ(A:AW)(kq dq:Nat)(k:KS)(Fl:List Nat):Prop:=
 ∃ v rl,Go.Abs.AS A kq [pP dq 0,.int .i64 k.limit,.string ⟨⟨k.state⟩⟩,v,.bool k.broken] 116/\RdE 1 fR A v rl Fl/\k.l=rl.map toR
theorem KQ.keeps{A A':AW}{kq dq:Nat}{k:KS}{Fl S:List Nat}(h:KQ A kq dq k Fl)(kp:Aj A A' S)(h1:kq∉S)(h2:∀ x∈Fl,x∉S):KQ A' kq dq k Fl:=by
 obtain ⟨v,rl,hr,hl,he⟩:=h;exact ⟨v,rl,hr.keeps kp h1,hl.keeps kp h2,he⟩
theorem KQ.lt{A:AW}{kq dq:Nat}{k:KS}{Fl:List Nat}(h:KQ A kq dq k Fl):kq<A.next/\∀ y∈Fl,y<A.next:=by
 obtain ⟨v,rl,hr,hl,he⟩:=h;exact ⟨hr.lt,hl.fam⟩
structure QD (A:AW) (kq dq:Nat) (k:KS) (q:DS) (Fl Fq:List Nat):Prop where
 jn:KQ A kq dq k Fl
 dk:DQ A dq q Fq
 nd:kq∉dq::Fq
 fl:∀ x∈Fl,x≠kq/\x∉dq::Fq
theorem AdX(a:Option Addr)(n:Int)(s:ByteArray)(o:Option Addr)(m c:Nat):Bp Tp 116 [(0,.pointer a),(1,.int .i64 n),(2,.string s),(3,.slice o m c)]=some (.agg ⟨[.pointer a,.int .i64 n,.string s,.slice o m c,.bool false]⟩):=by kernel_rfl
noncomputable def opF(Q:Value->AW->Prop)(a0 a1 t6 t7 e:Value)(A:AW):Prop:=
 Aa (Ai Tp .neq 3 (.tmp 108) (.const (.int .i64 0)) e (.int .i64 0)) λt25=>Ah t25 (Q (.tuple ⟨[(.pointer none),e]⟩) A) (Aa (Bp Tp 116 [(0,a0),(1,a1),(2,t6),(3,t7)]) λt26=>Au (DF A (Value.cells t26).toList 116) λt27 At27=>Q (.tuple ⟨[t27,(.int .i64 0)]⟩) At27)
noncomputable def op3(W0:World)(m0:Inj Tp)(Q:Value->AW->Prop)(a0 a1 t6 t7 e:Value)(A:AW):Prop:=
 Aa (Ai Tp .eql 3 (.tmp 48) (.const (.int .i64 0)) e (.int .i64 0)) λt19=>Ah t19 (Wc Tp An W0 m0 74 [(.int .i64 1)] A λt20 At20=>Wc Tp An W0 m0 73 [a0,(.string ⟨⟨[106,46,110,101,119]⟩⟩),t20] At20 λt21 At21=>opF Q a0 a1 t6 t7 t21 At21) (opF Q a0 a1 t6 t7 e A)
noncomputable def op2(W0:World)(m0:Inj Tp)(Q:Value->AW->Prop)(a0 a1 t6 t7 e:Value)(A:AW):Prop:=
 Aa (Ai Tp .eql 3 (.tmp 44) (.const (.int .i64 0)) e (.int .i64 0)) λt17=>Ah t17 (Wc Tp An W0 m0 72 [a0,(.string ⟨⟨[106,46,110,101,119]⟩⟩)] A λt18 At18=>op3 W0 m0 Q a0 a1 t6 t7 t18 At18) (op3 W0 m0 Q a0 a1 t6 t7 e A)
noncomputable def op1(W0:World)(m0:Inj Tp)(Q:Value->AW->Prop)(a0 a1 t6 t7 e:Value)(A:AW):Prop:=
 Aa (Ai Tp .eql 3 (.tmp 39) (.const (.int .i64 0)) e (.int .i64 0)) λt14=>Ah t14 (Wc Tp An W0 m0 71 [(.string ⟨⟨[]⟩⟩)] A λt15 At15=>Wc Tp An W0 m0 32 [a0,(.string ⟨⟨[106,46,110,101,119]⟩⟩),t15] At15 λt16 At16=>op2 W0 m0 Q a0 a1 t6 t7 t16 At16) (op2 W0 m0 Q a0 a1 t6 t7 e A)
noncomputable def op0(W0:World)(m0:Inj Tp)(S:Nat->List Value->AW->Prop)(Q:Value->AW->Prop)(a0 a1 t5 t6 t7 e:Value)(A:AW):Prop:=
 Aa (Ai Tp .eql 3 (.tmp 37) (.const (.int .i64 0)) t5 (.int .i64 0)) λt13=>Ah t13 (op1 W0 m0 Q a0 a1 t6 t7 e A) (Wc Tp An W0 m0 75 [a0] A λt57 At57=>Bm (T26 0) (T26 0) (S 0 [a0,a1,t5,t6,t7,e,t57,(.int .i64 0)] At57))
theorem AfO(W0:World)(m0:Inj Tp)(S:Nat->List Value->AW->Prop)(Q:Value->AW->Prop)(a0 a1:Value)(A:AW):gE W0 m0 S Q 26 117 T26 L26 [a0,a1] A=
  (Aa (Ai Tp .lss 3 (.tmp 17) (.const (.int .i64 1)) a1 (.int .i64 1)) λt0=>Ah t0 (Q (.tuple ⟨[(.pointer none),(.int .i64 2)]⟩) A) (Aa (AD a0) λt1=>Aa (Ad Tp 108 t1 3) λt2=>Aa (Af Tp A 4 t2) λt3=>Ah t3 (Q (.tuple ⟨[(.pointer none),(.int .i64 100)]⟩) A) (Wc Tp An W0 m0 68 [a0] A λt4 At4=>Aa (Ap t4 0) λt5=>Aa (Ap t4 1) λt6=>Aa (Ap t4 2) λt7=>Aa (Ap t4 3) λt8=>Aa (unA Tp .not t8) λt9=>Ah t9 (Q (.tuple ⟨[(.pointer none),(.int .i64 120)]⟩) At4)
   (Wc Tp An W0 m0 69 [a0,(.string ⟨⟨[106,46,110,101,119]⟩⟩)] At4 λt10 At10=>Aa (Ai Tp .geq 3 (.tmp 33) (.const (.int .i64 0)) t10 (.int .i64 0)) λt11=>Ah t11 (Wc Tp An W0 m0 70 [a0,(.string ⟨⟨[106,46,110,101,119]⟩⟩)] At10 λt12 At12=>op0 W0 m0 S Q a0 a1 t5 t6 t7 t12 At12) (op0 W0 m0 S Q a0 a1 t5 t6 t7 (.int .i64 0) At10))))):=by kernel_rfl
noncomputable def opS(W0:World)(m0:Inj Tp)(Q:Value->AW->Prop)(a0 a1 t6 t7 n e:Value)(A:AW):Prop:=
 Aa (Ai Tp .eql 3 (.tmp 102) (.const (.int .i64 0)) e (.int .i64 0)) λt24=>Ah t24 (Wc Tp An W0 m0 74 [n] A λt25 At25=>Wc Tp An W0 m0 72 [a0,t25] At25 λt26 At26=>opF Q a0 a1 t6 t7 t26 At26) (opF Q a0 a1 t6 t7 e A)
noncomputable def opL(W0:World)(m0:Inj Tp)(Q:Value->AW->Prop)(a0 a1 t6 t7 vn e:Value)(A:AW):Prop:=
 Aa (Bd Tp A 46 vn) λt12=>Aa (Ai Tp .sub 3 (.tmp 80) (.const (.int .i64 1)) t12 (.int .i64 1)) λt13=>Aa (Ak Tp 46 vn t13) λt14=>Aa (Af Tp A 3 t14) λt15=>Wc Tp An W0 m0 76 [a0,t15] A λt16 At16=>Aa (Ap t16 0) λ_=>Aa (Ap t16 1) λt18=>Aa (Ap t16 2) λt19=>Aa (Ai Tp .eql 3 (.tmp 91) (.const (.int .i64 0)) e (.int .i64 0)) λt20=>Ah t20
  (Aa (Ai Tp .eql 3 (.tmp 94) (.const (.int .i64 1)) t19 (.int .i64 1)) λt21=>Ah t21 (Wc Tp An W0 m0 74 [t15] At16 λt22 At22=>Wc Tp An W0 m0 77 [a0,t22,t18] At22 λt23 At23=>opS W0 m0 Q a0 a1 t6 t7 t15 t23 At23) (opS W0 m0 Q a0 a1 t6 t7 t15 e At16)) (opS W0 m0 Q a0 a1 t6 t7 t15 e At16)
theorem AfE(W0:World)(m0:Inj Tp)(S:Nat->List Value->AW->Prop)(Q:Value->AW->Prop)(d:Nat->Value)(A:AW):gL W0 m0 S Q 26 117 T26 L26 d 0 A=
  (Aa (Bd Tp A 46 (d 11)) λt0=>Aa (Ai Tp .lss 3 (.tmp 55) (.tmp 57) (d 12) t0) λt1=>Ah t1 (Aa (Ak Tp 46 (d 11) (d 12)) λt2=>Aa (Af Tp A 3 t2) λt3=>Aa (Ai Tp .lss 3 (.tmp 63) (.tmp 64) t3 (d 6)) λt4=>Ah t4 (Aa (Ai Tp .eql 3 (.tmp 69) (.const (.int .i64 0)) (d 10) (.int .i64 0)) λt5=>Ah t5 (Aa (Ak Tp 46 (d 11) (d 12)) λt6=>Aa (Af Tp A 3 t6) λt7=>Wc Tp An W0 m0 74 [t7] A λt8 At8=>Wc Tp An W0 m0 70 [(d 0),t8] At8 λt9 At9=>Aa (Ai Tp .add 3 (.tmp 67) (.const (.int .i64 1)) (d 12) (.int .i64 1)) λt10=>Bm (T26 0) (T26 0) (S 0 [(d 0),(d 1),(d 6),(d 7),(d 8),t9,(d 11),t10] At9))
   (Aa (Ai Tp .add 3 (.tmp 67) (.const (.int .i64 1)) (d 12) (.int .i64 1)) λt11=>Bm (T26 0) (T26 0) (S 0 [(d 0),(d 1),(d 6),(d 7),(d 8),(d 10),(d 11),t11] A))) (opL W0 m0 Q (d 0) (d 1) (d 7) (d 8) (d 11) (d 10) A)) (opL W0 m0 Q (d 0) (d 1) (d 7) (d 8) (d 11) (d 10) A)):=by kernel_rfl
section
variable {W0:World} {m0:Inj Tp}
variable {A A':AW} {dq:Nat} {F Fq:List Nat} {k L c C:Nat} {limit:Int} {st:ByteArray} {v:Value} {x X:DS × Int} {K:Value->AW->Prop}
def Oq(A:AW)(dq:Nat)(F:List Nat)(limit:Int)(st:ByteArray)(v:Value)(X:DS × Int)(C:Nat)(K:Value->AW->Prop):Prop:=
 ∀ A' Fq k L,Sq A dq F A' X.1 Fq k L C->opF K (pP dq 0) (.int .i64 limit) (.string st) v (.int .i64 X.2) A'
theorem W9(hC:A.next+C+200<Am)(he:Oq A dq F limit st v X C K)(h:Sq A dq F A' x.1 Fq k L c)(hk:k<8000)(hc:c+30<=C)(hX:Cq x .rn1=X):op3 W0 m0 K (pP dq 0) (.int .i64 limit) (.string st) v (.int .i64 x.2) A':=by
 have hnx:=h.nx;unfold op3;simp only [Bo,Ab];refine Be.2 ⟨λh0=>?_,λh0=>?_⟩
 ·have hX:(Ac.rn1).EP ltB x.1=X:=by rw [<- hX];exact (if_pos h0).symm
  refine Ot (n:=1) h.fn (by omega) (by omega) λA2 g2=>?_;have h2:=h.grow g2;have hnx2:=h2.nx;refine Acu (n:=⟨⟨fresh⟩⟩) (t:=⟨⟨Jr.nm 1⟩⟩) h2 (by omega) (by show fresh.length<_;decide) (by show (Jr.nm 1).length<_;decide) (by omega) λA3 F3 h3=>?_;have hr:B4 ltB x.1 fresh (Jr.nm 1)=X:=hX;have h3:Sq A dq F A3 (B4 ltB x.1 fresh (Jr.nm 1)).1 F3 k L (c+8+20):=h3;rw [hr] at h3
  have:=he A3 F3 k L (h3.more (Nl _) (Nl _) (by omega))
  rw [<- hr] at this;exact this
 ·have hX:x=X:=by rw [<- hX];exact (if_neg h0).symm
  rw [hX] at h ⊢;exact he A' Fq k L (h.more (Nl _) (Nl _) (by omega))
theorem Xa(hC:A.next+C+200<Am)(he:Oq A dq F limit st v X C K)(h:Sq A dq F A' x.1 Fq k L c)(hk:k<8000)(hc:c+30<=C)(hX:Cq (Cq x .syF) .rn1=X):op2 W0 m0 K (pP dq 0) (.int .i64 limit) (.string st) v (.int .i64 x.2) A':=by
 have hnx:=h.nx;unfold op2;simp only [Bo,Ab];refine Be.2 ⟨λh0=>?_,λh0=>?_⟩
 ·have e:Cq x .syF=Bn x.1 fresh:=if_pos h0;rw [e] at hX;refine WE (n:=⟨⟨fresh⟩⟩) h (by omega) (by omega) λA3 F3 h3=>?_;exact W9 hC he h3 hk hc hX
 ·have e:Cq x .syF=x:=if_neg h0;rw [e] at hX;exact W9 hC he h hk hc hX
theorem AaF(hC:A.next+C+200<Am)(he:Oq A dq F limit st v X C K)(h:Sq A dq F A' x.1 Fq k L c)(hk:k<7000)(hL:L<=1048576)(hc:c+110<=C)(hX:[Ac.ap0,.syF,.rn1].foldl Cq x=X):op1 W0 m0 K (pP dq 0) (.int .i64 limit) (.string st) v (.int .i64 x.2) A':=by
 have hnx:=h.nx;have hX:Cq (Cq (Cq x .ap0) .syF) .rn1=X:=hX;unfold op1;simp only [Bo,Ab];refine Be.2 ⟨λh0=>?_,λh0=>?_⟩
 ·have e:Cq x .ap0=BA ltB x.1 fresh Gd:=if_pos h0;rw [e] at hX;refine AbE (s:=⟨⟨[]⟩⟩) h.fn (by show (0:Nat)<=65536;omega) (by omega) λA2 g2=>?_;have h2:=h.grow g2;have hnx2:=h2.nx;refine Aap (n:=⟨⟨fresh⟩⟩) (b:=⟨⟨Gd⟩⟩) h2 (by omega) hL (by show fresh.length<_;decide) (by show Gd.length<_;decide) (by omega) λA3 F3 h3=>?_;exact Xa hC he h3 (by omega) (by omega) hX
 ·have e:Cq x .ap0=x:=if_neg h0;rw [e] at hX;exact Xa hC he h (by omega) (by omega) hX
theorem Tj{n:Nat}(hC:A.next+C+200<Am)(he:Oq A dq F limit st v X C K)(h:Sq A dq F A' x.1 Fq k L c)(hn:n<100000000)(hk:k<8000)(hc:c+30<=C)(hX:Cq x (.sy n)=X):opS W0 m0 K (pP dq 0) (.int .i64 limit) (.string st) v (.int .i64 (n:Int)) (.int .i64 x.2) A':=by
 have hnx:=h.nx;unfold opS;simp only [Bo,Ab];refine Be.2 ⟨λh0=>?_,λh0=>?_⟩
 ·have hX:Bn x.1 (Jr.nm n)=X:=by rw [<- hX];exact (if_pos h0).symm
  refine Ot (n:=n) h.fn (by omega) (by omega) λA2 g2=>?_;have h2:=h.grow g2;have hnx2:=h2.nx;refine WE (n:=⟨⟨Jr.nm n⟩⟩) h2 (by omega) (by omega) λA3 F3 h3=>?_;have h3:Sq A dq F A3 (Bn x.1 (Jr.nm n)).1 F3 k L (c+8):=h3;rw [hX] at h3
  have:=he A3 F3 k L (h3.more (Nl _) (Nl _) (by omega))
  rw [<- hX] at this;exact this
 ·have hX:x=X:=by rw [<- hX];exact (if_neg h0).symm
  rw [hX] at h ⊢;exact he A' Fq k L (h.more (Nl _) (Nl _) (by omega))
theorem AaE {vn:Value} {Fn:List Nat} {BX:List Nat} {y:Seg} {f:Fil} (hC:A.next+C+200<Am) (he:Oq A dq F limit st v X C K) (h:Sq A dq F A' x.1 Fq k L c) (hL:L<700000) (hk:k<8000) (hvn:RdE 0 fI A' vn BX Fn) (hnl:BX.length<100000) (hlast:BX.getLast? =some y.n) (hy:y.n<100000000) (hlk:AB x.1.D (Jr.nm y.n)=some f) (hye:y=Hx y.n f.1)
  (hc:c+6*L+200<=C) (hX:((if y.st=1 then [Ac.ct y.n y.size] else [])++[Ac.sy y.n]).foldl Cq x=X):opL W0 m0 K (pP dq 0) (.int .i64 limit) (.string st) v vn (.int .i64 x.2) A':=by
 have hnx:=h.nx;have hne:BX≠[]:=λh=>by rw [h] at hlast;cases hlast
 have hpos:=List.length_pos_iff.2 hne;unfold opL;rw [ES.HG esI hvn];simp only [Ab,Ci];rw [wrap_i64 (by omega) (by omega)];have hg:BX[BX.length-1]? =some y.n:=by rw [<- List.getLast?_eq_getElem?];exact hlast
 have ei:(BX.length:Int)-1=((BX.length-1:Nat):Int):=by omega
 obtain ⟨a,a1,a2⟩:=esI.at hvn hg rfl;rw [ei];simp only [a1,a2,Ab];have hfl:=h.iq.len _ (Jr.Dp hlk);have hfl:f.1.length<=L:=hfl;have hfew:=h.iq.few;refine YA h.dk (by omega) hy hlk (by omega) h.fn (by omega) λA1 v1 R F1 _ _ _ _ g1=>?_;have h1:=h.grow g1;have hnx1:=h1.nx;have ey1:(scan f.1).2.1=y.size:=by rw [hye];rfl
 have ey2:(scan f.1).2.2=y.st:=by rw [hye];rfl
 rw [ey1,ey2];simp only [GU,GS,GR,Ab,Bo];refine Be.2 ⟨λh0=>?_,λh0=>?_⟩
 ·refine Be.2 ⟨λh2=>?_,λh2=>?_⟩
  ·have h2:y.st=1:=by omega
   rw [if_pos h2] at hX;have hX:Cq (Cq x (.ct y.n y.size)) (.sy y.n)=X:=hX;have e:Cq x (.ct y.n y.size)=FF x.1 (Jr.nm y.n) y.size:=if_pos h0;rw [e] at hX;refine Ot (n:=y.n) h1.fn (by omega) (by omega) λA2 g2=>?_;have h3:=h1.grow g2;have hnx2:=h3.nx;refine Afr (n:=⟨⟨Jr.nm y.n⟩⟩) h3 (by omega) (by omega) λA3 F3 h4=>?_;exact Tj hC he h4 hy (by omega) (by omega) hX
  ·rw [if_neg (λh=>h2 (by rw [h];rfl))] at hX;exact Tj hC he h1 hy (by omega) (by omega) hX
 ·have hX':Cq x (.sy y.n)=X:=by
   have hs:∀ a,Cq x a=x:=λa=>if_neg h0;rw [<- hX];by_cases h2:y.st=1
   ·rw [if_pos h2];show _=Cq (Cq x (.ct y.n y.size)) (.sy y.n);rw [hs,hs,hs]
   ·rw [if_neg h2];rfl
  exact Tj hC he h1 hy (by omega) (by omega) hX'
end
end Go.Proofs.YtbchfeibhoobeaaGreatDoor
namespace Go.Jr
theorem Ld{m:List UInt8}:∀ (l:List Nat) {x:DS × Int},(∀ n∈l,m≠Jr.nm n)->AB ((l.map Ac.rm).foldl Cq x).1.D m=AB x.1.D m
 |[],_,_=>rfl
 |n::l,x,h=>by
  rw [Mc,List.foldl_cons,Ld l λi hi=>h i (List.mem_cons_of_mem _ hi)];unfold Cq;split
  ·exact H5 (h n List.mem_cons_self)
  ·rfl
theorem YP{l:List Nat}(h:l.Pairwise (· < ·)){i j a b:Nat}(hij:i<j)(hi:l[i]? =some a)(hj:l[j]? =some b):a<b:=by
 obtain ⟨h1,rfl⟩:=Gs.1 hi;obtain ⟨h2,rfl⟩:=Gs.1 hj;exact List.pairwise_iff_getElem.1 h i j h1 h2 hij
theorem Yj{D:Fls}{r:List Seg}{f:Nat}:Du (Aq D) (Bi D (Aq D)) r f=(if fresh∈Aq D then [.rmF] else [])++((if r=[] then [.ap0,.syF,.rn1] else [])++(((AA D).take f).map Ac.rm++(match r.getLast? with | none=>[] | some x=>(if x.st=1 then [.ct x.n x.size] else [])++[.sy x.n]))):=by
 unfold Du;rw [<- Nw,<- List.map_take,List.map_map];rfl
end Go.Jr
namespace Go.Proofs.YtbchfeibhoobeaaGreatDoor
open Go.Abs Go.Jr
variable {A A1:AW} {dq k1 L1 c1 C:Nat} {F F1:List Nat} {q1:DS} {limit:Int} {st:ByteArray} {v:Value} {X:DS × Int} {K:Value->AW->Prop}
theorem Sq.trans{A2:AW}{F2:List Nat}{q2:DS}{k2 L2 c2:Nat}(h1:Sq A dq F A1 q1 F1 k1 L1 c1)(h2:Sq A1 dq F1 A2 q2 F2 k2 L2 c2):Sq A dq F A2 q2 F2 k2 L2 (c1+c2):=
 h1.step h2.dk h2.iq h2.kp h2.fq h2.nx h2.fn
theorem Oq.trans{C':Nat}(he:Oq A dq F limit st v X C K)(h1:Sq A dq F A1 q1 F1 k1 L1 c1)(hC:c1+C'<=C):Oq A1 dq F1 limit st v X C' K:=
 λA' Fq k L h=>he A' Fq k L ((h1.trans h).more (Nl _) (Nl _) hC)
structure Ad1 (dq:Nat) (limit:Int) (K:Value->AW->Prop) (A5:AW) (Fq:List Nat) (k L C n0 f:Nat) (st:ByteArray) (v vn:Value) (Fn:List Nat) (BX:List Nat) (x0 X:DS × Int) (y:Seg) (fl:Fil):Prop where
 hC:A5.next+C+200<Am
 he:Oq A5 dq Fq limit st v X C K
 hk:k<=1000
 hL:L<700000
 hvn:RdE 0 fI A5 vn BX Fn
 hFn:∀ z∈Fn,z∉dq::Fq
 hNl:BX.length<=1000
 hn8:∀ n∈BX,n<100000000
 hrise:BX.Pairwise (· < ·)
 hf:BX[f]? =some n0
 hlast:BX.getLast? =some y.n
 hy:y.n<100000000
 hlk:AB x0.1.D (Jr.nm y.n)=some fl
 hye:y=Hx y.n fl.1
 hno:∀ n∈BX.take f,Jr.nm y.n≠Jr.nm n
 hc:20*f+6*L+300<=C
 hX:((if y.st=1 then [Ac.ct y.n y.size] else [])++[Ac.sy y.n]).foldl Cq (((BX.take f).map Ac.rm).foldl Cq x0)=X
def IO(dq:Nat)(limit:Int)(K:Value->AW->Prop)(g id:Nat)(vals:List Value)(A'':AW):Prop:=
 id=0/\∃ (A5:AW) (Fq:List Nat) (k L C n0 f:Nat) (st:ByteArray) (v vn:Value) (Fn:List Nat) (BX:List Nat) (x0 X:DS × Int) (y:Seg) (fl:Fil) (i:Nat) (x:DS × Int) (Fx:List Nat),Ad1 dq limit K A5 Fq k L C n0 f st v vn Fn BX x0 X y fl/\
  vals=[pP dq 0,.int .i64 limit,.int .i64 (n0:Int),.string st,v,.int .i64 x.2,vn,.int .i64 (i:Int)]/\i<=f/\g=f-i/\x=((BX.take i).map Ac.rm).foldl Cq x0/\Sq A5 dq Fq A'' x.1 Fx k L (20*i)
section
variable {W0:World} {m0:Inj Tp}
theorem AcS(g id:Nat)(vals:List Value)(A'':AW)(dd:Nat->Value)(hI:IO dq limit K g id vals A'')(hd:(L26 id).map dd=vals):
  gL W0 m0 (λid v A''=>∃ g2,g2<g/\IO dq limit K g2 id v A'') K 26 117 T26 L26 dd id A'':=by
 obtain ⟨rfl,A5,Fq,k,L,C,n0,f,st,v,vn,Fn,BX,x0,X,y,fl,i,x,Fx,lo,rfl,hi,rfl,hx,hsq⟩:=hI;have hf:=lo.hf;have hfl:=(Gs.1 hf).1;have hC:=lo.hC;have hc:=lo.hc;have hk:=lo.hk;have hNl:=lo.hNl;rw [AfE];simp only [L26,Mc,Mn,Li,and_true] at hd;obtain ⟨d0,d1,d6,d7,d8,d10,d11,d12⟩:=hd;have hnxx:=hsq.nx;have hvnx:RdE 0 fI A'' vn BX Fn:=lo.hvn.keeps hsq.kp lo.hFn;simp only [d0,d1,d6,d7,d8,d10,d11,d12,ES.HG esI hvnx,AU,Ab,Ao];refine ⟨λhlt=>?_,λhge=>absurd hge (by omega)⟩;have hil:i<BX.length:=by omega
 obtain ⟨n,hn⟩:∃ n,BX[i]? =some n:=⟨_,Ge hil⟩;obtain ⟨a,a1,a2⟩:=esI.at hvnx hn rfl;simp only [a1,a2,Ab];simp only [AU,Ab,Ao];refine ⟨λhlt0=>?_,λhge0=>?_⟩
 ·have hif:i<f:=by
   rcases Nat.lt_or_ge i f with h | h
   ·exact h
   ·exfalso
    have:i=f:=by omega
    rw [this,hf] at hn;cases hn;omega
  have hn8:=lo.hn8 n (List.mem_of_getElem? hn);have hsn:BX.take (i+1)=BX.take i++[n]:=IF hn;have hx1:((BX.take (i+1)).map Ac.rm).foldl Cq x0=Cq x (.rm n):=by
   rw [hsn,List.map_append,List.foldl_append,<- hx];rfl
  simp only [Bo,Ab];refine Be.2 ⟨λh0=>?_,λh0=>?_⟩
  ·have e:Cq x (.rm n)=AQ x.1 (Jr.nm n):=if_pos h0;refine Ot (n:=n) hsq.fn (by omega) (by omega) λA2 g2=>?_;have hs2:=hsq.grow g2;have hnx2:=hs2.nx;refine YK (n:=⟨⟨Jr.nm n⟩⟩) hs2 (by omega) (by omega) λA3 F3 hs3=>?_;simp only [AY,Ab];rw [wrap_i64 (by omega) (by omega)];refine Ar.2 ⟨f-(i+1),by omega,rfl,A5,Fq,k,L,C,n0,f,st,v,vn,Fn,BX,x0,X,y,fl,i+1,Cq x (.rm n),F3,lo,?_,by omega,rfl,hx1.symm,?_⟩
   ·rw [e];rfl
   ·rw [e];exact Sq.more hs3 (Nl _) (Nl _) (by omega)
  ·have e:Cq x (.rm n)=x:=if_neg h0;simp only [AY,Ab];rw [wrap_i64 (by omega) (by omega)];refine Ar.2 ⟨f-(i+1),by omega,rfl,A5,Fq,k,L,C,n0,f,st,v,vn,Fn,BX,x0,X,y,fl,i+1,x,Fx,lo,rfl,by omega,rfl,?_,hsq.more (Nl _) (Nl _) (by omega)⟩;rw [hx1,e]
 ·have hif:i=f:=by
   rcases Nat.lt_or_ge i f with h | h
   ·have:=YP lo.hrise h hn hf
    omega
   ·omega
  subst hif;refine AaE (y:=y) (f:=fl) (BX:=BX) (C:=C) hC lo.he hsq lo.hL (by omega) hvnx (by omega) lo.hlast lo.hy ?_ lo.hye (by omega) ?_
  ·rw [hx,Ld _ lo.hno];exact lo.hlk
  ·rw [hx];exact lo.hX
theorem YU {A':AW} {Fq:List Nat} {k L c n0 f:Nat} {x0:DS × Int} {y:Seg} {fl:Fil}
  (hC:A.next+C+200<Am) (he:Oq A dq F limit st v X C K) (h:Sq A dq F A' x0.1 Fq k L c) (hk:k<=1000) (hL:L<700000) (hn0:n0≠0) (hf:(AA x0.1.D)[f]? =some n0) (hlast:(AA x0.1.D).getLast? =some y.n) (hy:y.n<100000000)
  (hlk:AB x0.1.D (Jr.nm y.n)=some fl) (hye:y=Hx y.n fl.1) (hno:∀ n∈(AA x0.1.D).take f,Jr.nm y.n≠Jr.nm n) (hc:c+6*L+25000<=C)
  (hX:((if y.st=1 then [Ac.ct y.n y.size] else [])++[Ac.sy y.n]).foldl Cq ((((AA x0.1.D).take f).map Ac.rm).foldl Cq x0)=X):
  op0 W0 m0 (λid v A''=>∃ g,IO dq limit K g id v A'') K (pP dq 0) (.int .i64 limit) (.int .i64 (n0:Int)) (.string st) v (.int .i64 x0.2) A':=by
 have hnx:=h.nx;have hfew:=h.iq.few;unfold op0;simp only [Bo,Ab];refine Be.2 ⟨λh0=>absurd h0 (by omega),λ_=>?_⟩;refine YB h.dk (by omega) h.fn (by omega) λA5 vn Fn o1 hFn g5=>?_;have h5:=h.grow g5;have hnx5:=h5.nx;have hFqA:=h.dk.lt;have hNl:=IU x0.1.D;have hfl:=(Gs.1 hf).1;have he5:=he.trans h5 (C':=C-(c+2*x0.1.D.length)) (by omega);refine Ar.2 ⟨f,rfl,A5,Fq,k,L,C-(c+2*x0.1.D.length),n0,f,st,v,vn,Fn,AA x0.1.D,x0,X,y,fl,0,x0,Fq,⟨by omega,he5,hk,hL,o1.rd esI.len,λz hz hm=>by have h1:=hFn z hz;have h2:=hFqA z hm;omega,by omega,λn hn=>(BK.1 hn).2.1,FB h.iq.ris,hf,hlast,hy,hlk,hye,hno,by omega,hX⟩,rfl,Nat.zero_le _,rfl,rfl,Sq.start h5.dk h5.iq h5.fn⟩
end
end Go.Proofs.YtbchfeibhoobeaaGreatDoor
