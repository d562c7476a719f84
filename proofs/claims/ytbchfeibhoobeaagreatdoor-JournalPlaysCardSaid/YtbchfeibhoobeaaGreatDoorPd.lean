/-
  This text prints what the functions reached ask of their memory, and shows what they answer. Conditions: none for the last theorem, those that each theorem states for the others.
-/
import Derived.Test.YtbchfeibhoobeaaGreatDoorPc
set_option maxRecDepth 100000
set_option maxHeartbeats 1000000
namespace Go.Proofs.YtbchfeibhoobeaaGreatDoor
open Go.Abs Go.Jr
variable {A:AW} {s:ByteArray} {l h:Nat} {K:Value->AW->Prop}
theorem Aae:Tp.underlying 9=some .string:=by kernel_rfl
theorem sl9{k1 k2:IntKind}(h1:l<=h)(h2:h<=s.data.toList.length):AP Tp A 9 (.string s) (some (.int k1 (l:Int))) (some (.int k2 (h:Int))) none=some (.string ⟨⟨(s.data.toList.take h).drop l⟩⟩):=by
 show AP Tp A 9 (.string s) (some (.int k1 (.ofNat l))) (some (.int k2 (.ofNat h))) none=_;unfold AP;simp only [Aae,bounds,GK,DW,Option.isSome_some,Bool.true_or,Ct,Bj.2 h2,Bj.2 h1]
theorem Q7{k:IntKind}(h2:h<=s.data.toList.length):AP Tp A 9 (.string s) none (some (.int k (h:Int))) none=some (.string ⟨⟨s.data.toList.take h⟩⟩):=by
 show AP Tp A 9 (.string s) none (some (.int k (.ofNat h))) none=_;unfold AP;simp only [Aae,bounds,GK,DW,Option.isSome_some,Option.isSome_none,Bool.true_or,Ct,Bj.2 h2];rfl
theorem Aaq{k:IntKind}(h2:l<=s.data.toList.length):AP Tp A 9 (.string s) (some (.int k (l:Int))) none none=some (.string ⟨⟨s.data.toList.drop l⟩⟩):=by
 show AP Tp A 9 (.string s) (some (.int k (.ofNat l))) none none=_;unfold AP;simp only [Aae,bounds,GK,DW,Option.isSome_none,Bool.not_false,Bool.or_true,Ct,Bj.2 h2];rw [List.take_length]
theorem AgD(A:AW)(n:Int)(s:ByteArray):Av Tp A 22 1 [(0,.agg ⟨[.int .u8 n,.string s]⟩)]=(match A.newRow [.int .u8 n,.string s] 35 with | some (a,w')=>.ok (.slice (some a) 1 1) w' | none=>.fail "buildSlice new"):=by kernel_rfl
theorem MI{c:UInt8}(hf:Aw A)(h:A.next<Am)(hk:∀ A',Made A A' (fR (c,s)) 35->K (.slice (some ⟨A.next,0,none⟩) 1 1) A'):Au (Av Tp A 22 1 [(0,.agg ⟨[.int .u8 (c.toNat:Int),.string s]⟩)]) K:=by
 rw [AgD];unfold AW.newRow AW.new;simp only [show ([Value.int .u8 (c.toNat:Int),.string s].all AT)=true from rfl,Ct,AF.2 h];exact Ba.2 (hk (A.push (.row [.int .u8 c.toNat,.string s] 35 A.next 0 false)) ⟨AW.B7 _ h,rfl,by rw [AW.BP _ h,if_pos rfl];rfl,hf.alone (Nl _),hf.push _ h⟩)
theorem UC(n:Int)(s:ByteArray):BQ Tp (Co (Tm.fill ⟨1,.nil⟩ 0 [.agg ⟨[.int .u8 n,.string s]⟩])) (.buildSlice 22 1 #[(0,.tmp 0)])=some (.slice [.int .u8 n,.string s] 35 1):=by kernel_rfl
theorem Abm(n:Int)(s:ByteArray):Bp Tp 35 [(0,.int .u8 n),(1,.string s)]=some (.agg ⟨[.int .u8 n,.string s]⟩):=by kernel_rfl
theorem Vd{f:Nat}{s:List UInt8}(h:s.length<f):D2 f s=scan s:=Nx _ _ _ h (by omega)
theorem Jh(s:List UInt8):scan s=(if s=[] then ([],0,0) else
  if s.length<9 then ([],0,1) else
  if Go.Crc.Ck (s.take 9)=false then ([],0,2) else
  if 65536<C4 ((s.take 5).drop 1) then ([],0,2) else
  if s.length<13+C4 ((s.take 5).drop 1) then ([],0,1) else
  if Go.Crc.Ck ((s.drop 9).take (C4 ((s.take 5).drop 1)+4))=false then ([],0,2) else
  ((s.headD 0,(s.drop 9).take (C4 ((s.take 5).drop 1)))::(scan (s.drop (13+C4 ((s.take 5).drop 1)))).1,13+C4 ((s.take 5).drop 1)+(scan (s.drop (13+C4 ((s.take 5).drop 1)))).2.1,(scan (s.drop (13+C4 ((s.take 5).drop 1)))).2.2)):=by
 by_cases h0:s=[]
 ·subst h0;rfl
 ·have:0<s.length:=List.length_pos_iff.2 h0
  have e:=Vd (f:=s.length) (s:=s.drop (13+C4 ((s.take 5).drop 1))) (by rw [List.length_drop];omega)
  conv=>lhs;unfold scan
  rw [J7,e]
def Sz(R:List Rec)(u:Nat)(q:List Rec × Nat × Nat):List Rec × Nat × Nat:=(R++q.1,u+q.2.1,q.2.2)
section
variable {W0:World} {m0:Inj Tp}
theorem Aef (hg:Glb A) (hf:Aw A) (hl:s.data.toList.length<900000) (hA:A.next+20*s.data.toList.length+20<Am)
  (hk:∀ A' v (R:List RV) F,(scan s.data.toList).1=R.map toR->13*R.length<=s.data.toList.length->BO 35 1 fR A' v R F->(∀ y∈F,A.next<=y)->Grow A A' (s.data.toList.length+20)->
   K (.tuple ⟨[v,.int .i64 ((scan s.data.toList).2.1:Nat),.int .u8 ((scan s.data.toList).2.2:Nat)]⟩) A'):Wc Tp An W0 m0 89 [.string s] A K:=by
 have hroom:room=68719476736:=rfl;let I:Nat->Nat->List Value->AW->Prop:=λg id vals A'=>id=0/\∃ (u:Nat) (R:List RV) (v:Value) (F':List Nat),vals=[.string s,v,.int .i64 (u:Int),.int .u8 0]/\u<=s.data.toList.length/\g=s.data.toList.length-u/\
  BO 35 1 fR A' v R F'/\(∀ y∈F',A.next<=y)/\Grow A A' u/\13*R.length<=u/\scan s.data.toList=Sz (R.map toR) u (scan (s.data.toList.drop u))
 refine w89 _ _ (c89 (I:=I) ?_) ?_
 ·rintro g id vals A' d ⟨rfl,u,R,v,F',rfl,hu,rfl,ho,hF,hgr,hR,hsc⟩ hd';rw [Ac2];simp only [L89,Mc,Mn,Li,and_true] at hd';obtain ⟨h0,h5,h6,h7⟩:=hd';have hn:=hgr.next;have hle:=hgr.le;have fin:∀ (st:Nat) (A1:AW),BO 35 1 fR A1 v R F'->Grow A A1 (s.data.toList.length+20)->scan (s.data.toList.drop u)=([],0,st)->K (.tuple ⟨[v,.int .i64 (u:Int),.int .u8 (st:Int)]⟩) A1:=by
   intro st A1 h1 g1 he;have e:scan s.data.toList=(R.map toR,u,st):=by rw [hsc,he];simp [Sz]
   have:=hk A1 v R F' (by rw [e]) (by omega) h1 hF g1
   rw [e] at this;exact this
  rw [Jh] at fin;rw [Jh (s.data.toList.drop u)] at hsc;simp only [h0,h5,h6,h7,Aaq hu,Ab,L9,Ea];generalize hrest:s.data.toList.drop u=rest at *;have hrl:rest.length=s.data.toList.length-u:=by rw [<- hrest,List.length_drop]
  refine Ag.2 ⟨λhe=>?_,λhe=>?_⟩
  ·have he:rest=[]:=by simpa using he
   rw [if_pos he] at fin;exact fin 0 A' ho (hgr.more (by omega)) rfl
  have he:rest≠[]:=by simpa using he
  rw [if_neg he] at fin hsc;simp only [AU,Ab,Ao];refine ⟨λhs=>?_,λhs=>?_⟩
  ·rw [if_pos (by omega)] at fin;exact fin 1 A' ho (hgr.more (by omega)) rfl
  have hs:9<=rest.length:=by omega
  rw [if_neg (by omega)] at fin hsc;have e9:AP Tp A' 9 (.string ⟨⟨rest⟩⟩) none (some (.int .i64 9)) none=some (.string ⟨⟨rest.take 9⟩⟩):=Q7 (A:=A') (s:=⟨⟨rest⟩⟩) (h:=9) (k:=.i64) hs;rw [e9];simp only [Ab];refine bytesRow hgr.Ay (by omega) λA5 g5 b5 n5=>?_;have e9':(⟨⟨rest.take 9⟩⟩:ByteArray).data.toList=rest.take 9:=rfl;have hl9:(rest.take 9).length=9:=by rw [List.length_take];omega
  have g5':=hgr.trans g5;rw [e9'] at b5 ⊢;refine ZG b5 (hg.keeps g5'.keeps (by simp)) g5.Ay (by omega) (by omega) (λhsd A6 v6 F6 g6 b6 hF6=>?_) (λhsd=>?_)
  rotate_left
  ·rw [if_pos hsd] at fin;simp only [Bw,Bv,Ab,Bg];exact Ag.2 ⟨λ_=>fin 2 A5 (ho.keeps g5.keeps (by simp)) (g5'.more (by omega)) rfl,λh=>by simp at h⟩
  rw [if_neg (by rw [hsd];simp)] at fin hsc;simp only [Bw,Bv,Ab,Bg];refine Ag.2 ⟨λh=>by simp at h,λ_=>?_⟩;have e5:(rest.take 9).take ((rest.take 9).length-4)=rest.take 5:=by rw [hl9,List.take_take];rfl
  rw [e5] at b6;have hl5:(rest.take 5).length=5:=by rw [List.length_take];omega
  obtain ⟨v7,hv7,b7⟩:=b6.from tb (n:=1) (by omega)
  have hv7':AP Tp A6 41 v6 (some (.int .i64 1)) none none=some v7:=hv7;rw [hv7'];simp only [Ab];have n6:=g6.next;have le6:=g6.le;refine Acb b7 g6.Ay (by omega) (by rw [List.length_drop];omega) λA8 r8 w8 F8 g8 o8 hr8 hw8 hF8=>?_;have n8:=g8.next;have le8:=g8.le;have hl4:((rest.take 5).drop 1).length=4:=by rw [List.length_drop];omega
  refine Aca (s:=((rest.take 5).drop 1,false)) (w:=4) o8 g8.Ay (by omega) (show ((rest.take 5).drop 1).length<1000000 by omega) (by omega) λA9 F9 o9 k9 n9 f9 hF9=>?_;have etk:tk 4 ((rest.take 5).drop 1,false)=((rest.take 5).drop 1,(((rest.take 5).drop 1).drop 4,false)):=by
   unfold tk;rw [if_neg (by rw [hl4];simp),List.take_of_length_le (by rw [hl4];omega)]
  have enm:(nm 4 ((rest.take 5).drop 1,false)).1=C4 ((rest.take 5).drop 1):=by
   unfold nm;rw [etk,Iq]
  rw [enm];have hN:C4 ((rest.take 5).drop 1)<4294967296:=by
   rw [<- Iq]
   have:=Jc ((rest.take 5).drop 1)
   rw [hl4] at this;exact this
  generalize hNe:C4 ((rest.take 5).drop 1)=N at *;have le9:=k9.next;have g9:Grow A A9 (u+8):=by
   have:=((g5'.trans g6).trans g8).own k9 (by simp;omega) (m:=2) (by omega) f9
   exact this.more (by omega)
  have ho9:BO 35 1 fR A9 v R F':=(ho.keeps ((g5.trans g6).trans g8).keeps (by simp)).keeps k9 λx hx=>by have:=ho.lt x hx;simp;omega
  simp only [BN,Ab,Ao];refine ⟨λhgt=>?_,λhgt=>?_⟩
  ·rw [if_pos (by omega)] at fin;exact fin 2 A9 ho9 (g9.more (by omega)) rfl
  rw [if_neg (by omega)] at fin hsc;simp only [Ea,Ci,Ab,N8,Ba,AY];have er:((⟨⟨rest⟩⟩:ByteArray).data.toList.length:Int)=(rest.length:Int):=rfl;rw [er,wrap_i64 (n:=(rest.length:Int)-9) (by omega) (by omega),wrap_u64 (n:=(rest.length:Int)-9) (by omega) (by omega),wrap_u64 (n:=(N:Int)+4) (by omega) (by omega)];simp only [AU,Ab,Ao];refine ⟨λhlt=>?_,λhge=>?_⟩
  ·rw [if_pos (by omega)] at fin;exact fin 1 A9 ho9 (g9.more (by omega)) rfl
  have hge:13+N<=rest.length:=by omega
  rw [if_neg (by omega)] at fin hsc;simp only [Sk,Ba];rw [wrap_i64 (n:=(N:Int)) (by omega) (by omega),AY,wrap_i64 (n:=9+(N:Int)) (by omega) (by omega)];simp only [Ab];rw [AY,wrap_i64 (n:=9+(N:Int)+4) (by omega) (by omega)];simp only [Ab];have eend:9+(N:Int)+4=((13+N:Nat):Int):=by omega
  rw [eend];have es:=sl9 (A:=A9) (s:=⟨⟨rest⟩⟩) (l:=9) (h:=13+N) (k1:=.i64) (k2:=.i64) (by omega) hge;have es':AP Tp A9 9 (.string ⟨⟨rest⟩⟩) (some (.int .i64 9)) (some (.int .i64 ((13+N:Nat):Int))) none=_:=es;rw [es'];simp only [Ab];have edt:((⟨⟨rest⟩⟩:ByteArray).data.toList.take (13+N)).drop 9=(rest.drop 9).take (N+4):=by
   show (rest.take (13+N)).drop 9=_;rw [List.drop_take];congr 1;omega
  rw [edt];have hld:((rest.drop 9).take (N+4)).length=N+4:=by rw [List.length_take,List.length_drop];omega
  refine bytesRow f9 (by omega) λA10 g10 b10 n10=>?_;have en':(⟨⟨(rest.drop 9).take (N+4)⟩⟩:ByteArray).data.toList=(rest.drop 9).take (N+4):=rfl;rw [en'] at b10 ⊢;have g10':=g9.trans g10;refine ZG b10 (hg.keeps g10'.keeps (by simp)) g10.Ay (by omega) (by omega) (λhsd2 A11 v11 F11 g11 b11 hF11=>?_) (λhsd2=>?_)
  rotate_left
  ·rw [if_pos hsd2] at fin;simp only [Bw,Bv,Ab,Bg];exact Ag.2 ⟨λ_=>fin 2 A10 (ho9.keeps g10.keeps (by simp)) (g10'.more (by omega)) rfl,λh=>by simp at h⟩
  rw [if_neg (by rw [hsd2];simp)] at hsc;simp only [Bw,Bv,Ab,Bg];refine Ag.2 ⟨λh=>by simp at h,λ_=>?_⟩;have n11:=g11.next;have le11:=g11.le;have ed:((rest.drop 9).take (N+4)).take (((rest.drop 9).take (N+4)).length-4)=(rest.drop 9).take N:=by rw [hld,List.take_take];congr 1;omega
  rw [ed] at b11;obtain ⟨c,hc⟩:∃ c,(rest.take 5)[0]? =some c:=⟨_,Ge (by omega)⟩;have hch:rest.headD 0=c:=by
   rw [List.getElem?_take_of_lt (by omega)] at hc;rw [List.headD_eq_head?_getD,List.head?_eq_getElem?,hc];rfl
  have b6':RdS 5 A11 v6 (rest.take 5) F6:=((b6.keeps g8.keeps (by simp)).keeps k9 λx hx=>by have:=b6.rd.lt x hx;simp;omega).keeps (g10.trans g11).keeps (by simp);obtain ⟨a,a1,a2⟩:=b6'.rd.at tb hc;have a1':Ak Tp 41 v6 (.int .i64 0)=some (.pointer (some a)):=a1;rw [a1'];simp only [Ab,a2,b11.rd.str tb,Ba,Abm];refine MI g11.Ay (by omega) λA12 m12=>?_;have n12:=m12.next;have k12:=m12.keeps g11.Ay;obtain ⟨a0,b1,b2⟩:=(b6'.keeps k12 (by simp)).rd.at tb hc;have b1':Ak Tp 41 v6 (.int .i64 0)=some (.pointer (some a0)):=b1;rw [a1'] at b1';obtain rfl:a=a0:=by simpa using b1'
  refine ⟨⟨_,UC _ _,?_⟩,?_⟩
  ·have:=m12.row
   simp only [Cj,Fy,this,fR,EF,GD,IL,Bool.and_self,Option.isNone_none,Nat.beq_refl]
  simp only [Ab,(b11.keeps k12 (by simp)).rd.str tb,Ba,b2,AR];have g12:Grow A A12 (u+11):=((g10'.trans g11).trans (.made m12 g11.Ay)).more (by omega);have ho12:=(ho9.keeps (g10.trans g11).keeps (by simp)).keeps k12 (by simp);refine BO.append etR ho12 m12.BB m12.Ay (by omega) (by omega) λv13 A13 F13 o13 k13 hF13 n13 f13=>?_;rw [AY,wrap_i64 (by omega) (by omega)];simp only [Ab];have eu:(u:Int)+((13+N:Nat):Int)=((u+(13+N):Nat):Int):=by omega
  rw [eu];refine Ar.2 ⟨s.data.toList.length-(u+(13+N)),by omega,rfl,u+(13+N),_,v13,F13,rfl,by omega,rfl,o13,λy hy=>(hF13 y hy).elim (hF y) λh=>by have:=g12.le;omega,?_,by rw [Lq];simp;omega,?_⟩
  ·exact (g12.own k13 hF (m:=1) (by omega) f13).more (by omega)
  ·have edd:s.data.toList.drop (u+(13+N))=rest.drop (13+N):=by rw [<- List.drop_drop,hrest]
   rw [hsc,edd,hch];simp [Sz,toR,Nat.add_assoc]
 ·rw [e89];exact Ar.2 ⟨s.data.toList.length,rfl,0,[],_,[],rfl,by omega,rfl,BO.nil _,by simp,Grow.refl hf,by simp,by simp [Sz]⟩
end
variable {A:AW} {d mp t0 t1 k:Nat} {s:DS} {n:ByteArray} {K:Value->AW->Prop}
theorem AdC(A:AW)(a b:Value):Fi Tp A (.func (.func 92) ⟨[]⟩ ⟨[a,b]⟩) []=.ok (.enter 92 [a,b]) A:=by kernel_rfl
theorem Adz(A:AW)(a b c e:Value):Fi Tp A (.func (.func 98) ⟨[]⟩ ⟨[a,b,c,e]⟩) []=.ok (.enter 98 [a,b,c,e]) A:=by kernel_rfl
theorem Y3(a b:Int):RC (.int .i64 a) [.int .i64 b]=some (.int .i64 (min a b)):=by
 unfold RC;simp only [RD]
 congr 2
 split<;>omega
section
variable {W0:World} {m0:Inj Tp}
theorem Aec {K:Value->AW->Prop} (h:Dk A d mp s) (hf:Aw A) (hA:A.next<=Am)
  (h0:Go.Abs.AS A t0 [pP d 0] 27) (h1:Go.Abs.AS A t1 [.string n] 9)
  (hk:∀ A2 v,Dk A2 d mp { s with D:=Cu s.D n.data.toList }->Aj A A2 [mp]->A2.next<=A.next->Aw A2->K v A2):
  Wc Tp An W0 m0 92 [pP t0 0,pP t1 0] A K:=by
 refine w92 _ _ _ BF ?_;rw [e92];obtain ⟨es,c,hr,hm,hne,hD⟩:=h;simp only [Cx,CG,EJ,Al,CS,Ae h0.row,Ae h1.row,Ae hr.row,cellOf,Ax,AE,Cc,Cf,Ab];refine hm.del mtF hf hA (k:=n) λA1 hm1 k1 n1 f1=>?_;refine hk A1 _ ⟨_,c,hr.keeps k1 (by simp;exact hne),hm1,hne,?_⟩ k1 (by omega) f1;show Cu s.D _=_;rw [hD,UK]
theorem Ad9 {t6 t2:Nat} {fv:Fv} {K:Value->AW->Prop} (h:Dk A d mp s) (hf:Aw A) (hA:A.next<=Am) (h6:Go.Abs.AS A t6 [.string fv.1,.int .i64 (fv.2:Int)] 100) (h2:Go.Abs.AS A t2 [.int .i64 (k:Int)] 3)
  (h0:Go.Abs.AS A t0 [pP d 0] 27) (h1:Go.Abs.AS A t1 [.string n] 9) (hkl:k<=fv.1.data.toList.length)
  (hk:∀ A2 v,Dk A2 d mp { s with D:=Cm s.D n.data.toList (fv.1.data.toList.take k,min fv.2 k) }->Aj A A2 [mp]->A2.next<=A.next->Aw A2->K v A2):
  Wc Tp An W0 m0 98 [pP t6 0,pP t2 0,pP t0 0,pP t1 0] A K:=by
 refine w98 _ _ _ _ _ BF ?_;rw [e98];obtain ⟨es,c,hr,hm,hne,hD⟩:=h;have e:min (fv.2:Int) (k:Int)=((min fv.2 k:Nat):Int):=by omega
 simp only [Cx,CG,D4,EJ,Al,CS,FO,Lr,Ae h0.row,Ae h1.row,Ae h2.row,Ae h6.row,Ae hr.row,cellOf,Ax,AE,AG,Cc,Cf,Ab,Nat.zero_add,Q7 hkl,Y3,e,Of];refine hm.put mtF hf hA (k:=n) (v:=(⟨⟨fv.1.data.toList.take k⟩⟩,min fv.2 k)) λA2 c2 hm2 k2 n2 f2=>?_;refine hk A2 _ ⟨_,c2,hr.keeps k2 (by simp;exact hne),hm2,hne,?_⟩ k2 (by omega) f2;show Cm s.D _ _=_;rw [hD,Jj];rfl
theorem YD (h:Dk A d mp s) (hN:OkN s) (hf:Aw A) (hA:A.next+60<Am)
  (hk:∀ A',Dk A' d mp (AQ s n.data.toList).1->Aj A A' [d,mp]->A'.next<=A.next+10->Aw A'->K (.int .i64 (AQ s n.data.toList).2) A'):
  Wc Tp An W0 m0 40 [pP d 0,.string n] A K:=by
 refine w40 _ _ _ BF ?_;rw [e40];have hlt:=h.lt;refine Bk (cs:=[pP d 0]) hf (by omega) rfl λA1 m1=>?_;have n1:=m1.next;have k1:=m1.keeps hf;refine Bk (cs:=[.string n]) m1.Ay (by omega) rfl λA2 m2=>?_;have n2:=m2.next;have k2:=m2.keeps m1.Ay;have K2:Aj A A2 []:=k1.trans k2 (by simp);have h0:=m1.BB.keeps k2 (by simp);have h1:=m2.BB;have hd2:=h.keeps K2 (by simp) (by simp);simp only [Cx,Ae h0.row,cellOf,Ax,Cf,Ab];refine SO hd2 ?_;simp only [BC,Ab];unfold HZ;unfold AQ at hk;refine Bb.2 ⟨λhe=>?_,λhe=>?_⟩
 ·have hd:s.down=true:=by
   cases hq:s.down with
   |true=>rfl
   |false=>rw [hq] at he;simp at he
  rw [if_pos hd] at hk;rw [if_pos hd];exact hk A2 hd2 (K2.more (by simp)) (by omega) m2.Ay
 have hd:s.down=false:=by
  cases hq:s.down with
  |false=>rfl
  |true=>rw [hq] at he;simp at he
 rw [if_neg (by rw [hd];simp)] at hk;refine Bl zF m2.Ay (by omega) rfl λA4 m4=>?_;have n4:=m4.next;have k4:=m4.keeps m2.Ay;refine I2 m4.row ?_;have h04:=h0.keeps k4 (by simp);have h14:=h1.keeps k4 (by simp);have hd4:=hd2.keeps k4 (by simp) (by simp);obtain ⟨es,c,hr,hm,hne,hD⟩:=hd4;simp only [Cx,CG,Ae h04.row,Ae h14.row,Ae hr.row,cellOf,Ax,AE,Cc,Cf,Ab,Al,CS,EJ,lookW hm];have hlk:=E1 es n;rw [<- hD] at hlk;rw [<- hlk] at hk;cases hq:DR E2 es n with
 |none=>
  rw [hq] at hk;simp only [Ew,Ed,Ab];refine m4.BB.store m4.Ay (by omega) (CY _ _ _) rfl (by show 0+2<=2;omega) rfl λA5 r5 k5 n5 f5=>?_;have k5:Aj A4 A5 [A2.next]:=k5;simp only [AR,Bg,Ab];refine Ag.2 ⟨λ_=>?_,λh=>by simp at h⟩;refine hk A5 ((hd2.keeps k4 (by simp) (by simp)).keeps k5 (by simp;omega) (by simp;omega)) (((K2.trans k4 (by simp)).trans k5 (λx hx=>by have:=Ms.1 hx;have:=K2.next;exact .inr (by omega))).more (by simp)) (by omega) f5
 |some v=>
  rw [hq] at hk;simp only [Ew,Ed,Ab];refine m4.BB.store m4.Ay (by omega) (CY _ _ _) rfl (by show 0+2<=2;omega) rfl λA5 r5 k5 n5 f5=>?_;have r5:Go.Abs.AS A5 A2.next [.string v.1,.int .i64 (v.2:Int)] 100:=r5;have k5:Aj A4 A5 [A2.next]:=k5;have K5:Aj A A5 []:=(K2.trans k4 (by simp)).trans k5 (λx hx=>by have:=Ms.1 hx;have:=K2.next;exact .inr (by omega));simp only [AR,Bg,Ab];refine Ag.2 ⟨λh=>by simp at h,λ_=>?_⟩;have h05:=h04.keeps k5 (by simp;omega);have h15:=h14.keeps k5 (by simp;omega);have hd5:=(hd2.keeps k4 (by simp) (by simp)).keeps k5 (by simp;omega) (by simp;omega);simp only [Cx,Ae h05.row,cellOf,Ax,Cf,Ab];refine Wi (n:=0) (g:=λD=>Cu D n.data.toList) hd5 f5 (by omega) hN.f1 (λA=>AdC A _ _) rfl (λB s1 K1 kb nb fb hb hDb hk1=>?_) λB hb kb nb fb=>?_
  ·refine Aec (n:=n) hb fb (by omega) (h05.keeps kb (by simp;omega)) (h15.keeps kb (by simp;omega)) λB2 v h2 k2 n2 f2=>?_;exact hk1 B2 v h2 k2 (by omega) f2
  ·exact hk B hb ((K5.more (T:=[d,mp]) (by simp)).trans kb (by simp)) (by omega) fb
theorem Aet (h:Dk A d mp s) (hN:OkN s) (hf:Aw A) (hA:A.next+60<Am)
  (hk:∀ A',Dk A' d mp (FF s n.data.toList k).1->Aj A A' [d,mp]->A'.next<=A.next+10->Aw A'->K (.int .i64 (FF s n.data.toList k).2) A'):
  Wc Tp An W0 m0 50 [pP d 0,.string n,.int .i64 (k:Int)] A K:=by
 refine w50 _ _ _ _ BF ?_;rw [e50];have hlt:=h.lt;refine Bk (cs:=[pP d 0]) hf (by omega) rfl λA1 m1=>?_;have n1:=m1.next;have k1:=m1.keeps hf;refine Bk (cs:=[.string n]) m1.Ay (by omega) rfl λA2 m2=>?_;have n2:=m2.next;have k2:=m2.keeps m1.Ay;refine Bk (cs:=[.int .i64 (k:Int)]) m2.Ay (by omega) rfl λA3 m3=>?_;have n3:=m3.next;have k3:=m3.keeps m2.Ay;have K3:Aj A A3 []:=(k1.trans k2 (by simp)).trans k3 (by simp);have h0:=(m1.BB.keeps k2 (by simp)).keeps k3 (by simp);have h1:=m2.BB.keeps k3 (by simp);have h2:=m3.BB;have hd3:=h.keeps K3 (by simp) (by simp);simp only [Cx,Ae h0.row,cellOf,Ax,Cf,Ab];refine SO hd3 ?_;simp only [BC,Ab];unfold HZ;unfold FF at hk;refine Bb.2 ⟨λhe=>?_,λhe=>?_⟩
 ·have hd:s.down=true:=by
   cases hq:s.down with
   |true=>rfl
   |false=>rw [hq] at he;simp at he
  rw [if_pos hd] at hk;rw [if_pos hd];exact hk A3 hd3 (K3.more (by simp)) (by omega) m3.Ay
 have hd:s.down=false:=by
  cases hq:s.down with
  |false=>rfl
  |true=>rw [hq] at he;simp at he
 rw [if_neg (by rw [hd];simp),if_neg (by omega)] at hk;refine Bl zF m3.Ay (by omega) rfl λA4 m4=>?_;have n4:=m4.next;have k4:=m4.keeps m3.Ay;refine I2 m4.row ?_;have h04:=h0.keeps k4 (by simp);have h14:=h1.keeps k4 (by simp);have h24:=h2.keeps k4 (by simp);have hd4:=hd3.keeps k4 (by simp) (by simp);obtain ⟨es,c,hr,hm,hne,hD⟩:=hd4;simp only [Cx,CG,Ae h04.row,Ae h14.row,Ae hr.row,cellOf,Ax,AE,Cc,Cf,Ab,Al,CS,EJ,lookW hm];have hlk:=E1 es n;rw [<- hD] at hlk;rw [<- hlk] at hk;cases hq:DR E2 es n with
 |none=>
  rw [hq] at hk;simp only [Ew,Ed,Ab];refine m4.BB.store m4.Ay (by omega) (CY _ _ _) rfl (by show 0+2<=2;omega) rfl λA5 r5 k5 n5 f5=>?_;have k5:Aj A4 A5 [A3.next]:=k5;have h25:=h24.keeps k5 (by simp;omega);simp only [AR,Bg,Ab,D4,Ae h25.row,cellOf,AG,Cf,AU,Ao];refine ⟨λh=>by omega,λ_=>Ag.2 ⟨λ_=>?_,λh=>by simp at h⟩⟩;refine hk A5 ((hd3.keeps k4 (by simp) (by simp)).keeps k5 (by simp;omega) (by simp;omega)) (((K3.trans k4 (by simp)).trans k5 (λx hx=>by have:=Ms.1 hx;have:=K3.next;exact .inr (by omega))).more (by simp)) (by omega) f5
 |some v=>
  rw [hq] at hk;simp only [Ew,Ed,Ab];refine m4.BB.store m4.Ay (by omega) (CY _ _ _) rfl (by show 0+2<=2;omega) rfl λA5 r5 k5 n5 f5=>?_;have r5:Go.Abs.AS A5 A3.next [.string v.1,.int .i64 (v.2:Int)] 100:=r5;have k5:Aj A4 A5 [A3.next]:=k5;have K5:Aj A A5 []:=(K3.trans k4 (by simp)).trans k5 (λx hx=>by have:=Ms.1 hx;have:=K3.next;exact .inr (by omega));have h25:=h24.keeps k5 (by simp;omega);simp only [AR,Bg,Ab,D4,Ae h25.row,cellOf,AG,Cf,AU,Ao];refine ⟨λh=>by omega,λ_=>Ag.2 ⟨λh=>by simp at h,λ_=>?_⟩⟩;have hk:∀ A',Dk A' d mp (if (v.1.data.toList.length:Int)<k then (s,(2:Int)) else C5 s (λD=>Cm D n.data.toList (v.1.data.toList.take k,min v.2 k)) false).1->Aj A A' [d,mp]->A'.next<=A.next+10->Aw A'->K (.int .i64 (if (v.1.data.toList.length:Int)<k then (s,(2:Int)) else C5 s (λD=>Cm D n.data.toList (v.1.data.toList.take k,min v.2 k)) false).2) A':=hk;simp only [FO,CG,Ae r5.row,Ae h25.row,cellOf,AE,AG,Cf,Ab,Ea,BN,Ao];refine ⟨λhgt=>?_,λhle=>?_⟩
  ·rw [if_pos hgt] at hk;exact hk A5 ((hd3.keeps k4 (by simp) (by simp)).keeps k5 (by simp;omega) (by simp;omega)) (K5.more (by simp)) (by omega) f5
  rw [if_neg hle] at hk;have h05:=h04.keeps k5 (by simp;omega);have h15:=h14.keeps k5 (by simp;omega);have hd5:=(hd3.keeps k4 (by simp) (by simp)).keeps k5 (by simp;omega) (by simp;omega);simp only [Cx,Ae h05.row,cellOf,Ax,Cf,Ab];refine Wi (n:=0) (g:=λD=>Cm D n.data.toList (v.1.data.toList.take k,min v.2 k)) hd5 f5 (by omega) hN.f1 (λA=>Adz A _ _ _ _) rfl (λB s1 K1 kb nb fb hb hDb hk1=>?_) λB hb kb nb fb=>?_
  ·refine Ad9 (fv:=v) (n:=n) (k:=k) hb fb (by omega) (r5.keeps kb (by simp;omega)) (h25.keeps kb (by simp;omega)) (h05.keeps kb (by simp;omega)) (h15.keeps kb (by simp;omega)) (by omega) λB2 v h2 k2 n2 f2=>?_;exact hk1 B2 v h2 k2 (by omega) f2
  ·exact hk B hb ((K5.more (T:=[d,mp]) (by simp)).trans kb (by simp)) (by omega) fb
end
end Go.Proofs.YtbchfeibhoobeaaGreatDoor
namespace Go.Abs
section
variable {P:Program} {ts te:TypeId} {n:Nat} {β:Type} {f:β->List Value}
theorem UD(hlen:∀ x,(f x).length=n+1){cs:List Value}:∀ (l:List β) (o:Nat),(∀ (i:Nat) p,l[i]? =some p->∃ rest,cs.drop (o+i*(n+1))=f p++rest)->∃ rest,cs.drop o=flat f l++rest
 |[],o,_=>⟨cs.drop o,by simp [flat]⟩
 |p::r,o,h=>by
  obtain ⟨rest0,h0⟩:=h 0 p rfl;obtain ⟨rest,h1⟩:=UD hlen r (o+(n+1)) λi q hq=>by
   have:=h (i+1) q (by simpa using hq)
   rwa [Nat.succ_mul,show o+(i*(n+1)+(n+1))=o+(n+1)+i*(n+1) by omega] at this
  refine ⟨rest,?_⟩;rw [Nat.zero_mul,Nat.add_zero] at h0;have h2:cs.drop (o+(n+1))=rest0:=by
   rw [<- List.drop_drop,h0,<- hlen p,List.drop_left]
  rw [h2] at h1;rw [h0,h1];simp [flat]
theorem R0(h:∀ x,(f x).all (λv=>!isTuple v)=true)(l:List β):(flat f l).all (λv=>!isTuple v)=true:=by
 rw [List.all_eq_true];intro v hv;obtain ⟨b,_,hb⟩:=List.mem_flatMap.1 hv;exact List.all_eq_true.1 (h b) v hb
theorem RZ(h:∀ x,(f x).all AT=true)(l:List β):(flat f l).all AT=true:=by
 rw [List.all_eq_true];intro v hv;obtain ⟨b,_,hb⟩:=List.mem_flatMap.1 hv;exact List.all_eq_true.1 (h b) v hb
theorem RdE.src(T:ET P ts te n f){A:AW}{x:Value}{l:List β}{F:List Nat}(h:RdE n f A x l F):B3 P A te ts (n+1) x=some (l.length,flat f l):=by
 unfold B3;simp only [T.us];rcases h with ⟨rfl,_,o,c,rfl⟩ | ⟨r,o,c,cs,e,g,b,ro,rfl,h2,h3,_,h4⟩
 ·cases o with
  |none=>rfl
  |some a=>
   unfold Dj;simp only [Nat.zero_mul];rfl
 ·show Dj A (n+1) _=_;unfold Dj;obtain ⟨rest,hr⟩:=UD T.len l o h4
  have:=Dc (flat f l) rest (R0 T.noT l)
  rw [CW T.len] at this;simp only [Cg h2,hr,this]
theorem BO.Gu (T:ET P ts te n f) {A:AW} {v x:Value} {l l2:List β} {F F2:List Nat} {K:Value->AW->Prop} (h:BO te n f A v l F) (hx:RdE n f A x l2 F2) (hf:Aw A) (hA:A.next<Am) (hl:l.length<1000000) (hl2:l2.length<1000000)
  (hk:∀ v' A' F',BO te n f A' v' (l++l2) F'->Aj A A' F->(∀ x∈F',x∈F\/x=A.next)->A'.next<=A.next+1->Aw A'->K v' A'):Au (AJ P A ts ts v x) K:=by
 have hroom:room=68719476736:=rfl;obtain ⟨b,hb,hb2⟩:=T.by'
 have hse:BL P ts=some te:=by unfold BL;rw [T.us]
 have hsrc:=hx.src T;cases l2 with
 |nil=>
  have hv:∃ o m c,v=.slice o m c/\m=l.length:=by
   rcases h with ⟨rfl,h2,_⟩ | ⟨b',g,rfl,_⟩
   ·exact ⟨_,_,_,rfl,h2.symm⟩
   ·exact ⟨_,_,_,rfl,rfl⟩
  obtain ⟨o,m,c,rfl,rfl⟩:=hv;have hm:(l.length+0)*b<=(l.length+0)*256:=Nat.mul_le_mul_left _ hb2;have e:AJ P A ts ts (.slice o l.length c) x=.ok (.slice o l.length c) A:=by
   have hsrc:B3 P A te ts (n+1) x=some (0,[]):=hsrc;unfold AJ;simp only [hse,T.sz,hb,hsrc];rw [AF.2 (show l.length+0<room by omega),AF.2 (show (l.length+0)*b<room by omega),T.hz];rfl
  rw [e];refine Ba.2 (hk _ A F ?_ (.refl _ _) (λx hx=>.inl hx) (by omega) hf);rw [List.append_nil];exact h
 |cons p r=>
  rw [Lc] at hl2;have hm:(l.length+(r.length+1))*b<=(l.length+(r.length+1))*256:=Nat.mul_le_mul_left _ hb2;refine Jz (m:=r.length) (size:=n) hse T.sz hb T.hz hsrc (CW T.len _) (RZ T.one _) h hf hA (by omega) (by omega) λv' A' F' h1 h2 h3 h4 h5=>?_;refine hk v' A' F' ?_ h2 h3 (by omega) h5;show DJ A' te (n+1) v' (l++p::r).length (flat f (l++p::r)) F';rw [Lq,FC];exact h1
end
variable {A:AW} {b m i g b0:Nat} {cs:List Value} {ro:Bool} {v:Value} {F:List Nat}
section
variable {P:Program} {ts te:TypeId} {n:Nat} {β:Type} {f:β->List Value}
theorem Mi(T:ET P ts te n f)(hr:A.get b=some (.row cs te g b0 ro))(hi:i<=m):AP P A ts (.slice (some ⟨b,0,none⟩) m (Bx+m)) (some (.int .i64 (i:Int))) none none=some (.slice (some ⟨b,i*(n+1),none⟩) (m-i) (Bx+(m-i))):=by
 show AP P A ts _ (some (.int .i64 (.ofNat i))) none none=_;have hrow:IM A (some ⟨b,0,none⟩) te=true:=by unfold IM;simp only [hr];exact beq_true.2 rfl
 have hm:Ha (some ⟨b,0,none⟩) (i*(n+1))=some ⟨b,i*(n+1),none⟩:=by
  show some (bif Nat.beq (i*(n+1)) 0 then (⟨b,0,none⟩:Addr) else ⟨b,0+i*(n+1),none⟩)=_;cases hb:Nat.beq (i*(n+1)) 0 with
  |true=>rw [Ct,Nb hb]
  |false=>rw [Cf,Nat.zero_add]
 unfold AP;simp only [T.us,T.sz,Bj.2 (show Bx<=Bx+m by omega),Ct,bounds,GK,DW,Nat.add_sub_cancel_left,Bj.2 hi,Bj.2 (Nl m),Option.isSome_none,Bool.not_false,Bool.or_true,hrow,Bool.and_self,hm]
theorem U9(T:ET P ts te n f)(hr:A.get b=some (.row cs te g b0 ro))(hi:i<=m):AP P A ts (.slice (some ⟨b,0,none⟩) m (Bx+m)) none (some (.int .i64 (i:Int))) none=some (.slice (some ⟨b,0,none⟩) i (Bx+m)):=by
 show AP P A ts _ none (some (.int .i64 (.ofNat i))) none=_;have hrow:IM A (some ⟨b,0,none⟩) te=true:=by unfold IM;simp only [hr];exact beq_true.2 rfl
 have hm:Ha (some ⟨b,0,none⟩) (0*(n+1))=some ⟨b,0,none⟩:=by rw [Nat.zero_mul];rfl
 unfold AP;simp only [T.us,T.sz,Bj.2 (show Bx<=Bx+m by omega),Ct,bounds,GK,DW,Nat.add_sub_cancel_left,Bj.2 hi,Nat.sub_zero,Option.isSome_some,Option.isSome_none,Bool.not_false,Bool.or_true,hrow,Bool.and_self,hm]
theorem RdE.some(hlen:∀ x,(f x).length=n+1){o c:Nat}{l:List β}{e:TypeId}(hr:A.get b=.some (.row cs e g b0 ro))(hg:g<A.next)(hc:∀ (i:Nat) p,l[i]? =.some p->∃ rest,cs.drop (o+i*(n+1))=f p++rest):∃ F,RdE n f A (.slice (.some ⟨b,o,none⟩) l.length c) l F/\∀ x∈F,x=g:=
 ⟨[g],.inr ⟨b,o,c,cs,e,g,b0,ro,rfl,hr,hg,rfl,hc⟩,by simp⟩
theorem BO.to(T:ET P ts te n f){l:List β}(h:BO te n f A v l F)(hi:i<=l.length)(hnil:AP P A ts (.slice none 0 0) none (.some (.int .i64 0)) none=.some (.slice none 0 0)):
  ∃ v' F',AP P A ts v none (.some (.int .i64 (i:Int))) none=.some v'/\RdE n f A v' (l.take i) F'/\∀ x∈F',x∈F:=by
 rcases h with ⟨rfl,h2,_,rfl⟩ | ⟨b,g,rfl,h2,rfl⟩
 ·have:l=[]:=List.eq_nil_of_length_eq_zero h2
  subst this;obtain rfl:i=0:=by simpa using hi
  exact ⟨_,[],hnil,.nil _ _ _,by simp⟩
 ·obtain ⟨F',h3,h4⟩:=RdE.some (l:=l.take i) (o:=0) (c:=Bx+l.length) T.len h2.row h2.ltf (λj p hj=>by
   rw [Nat.zero_add];rw [List.getElem?_take] at hj;split at hj
   ·exact Eb T.len l j p hj
   ·cases hj)
  rw [List.length_take,Nat.min_eq_left hi] at h3;exact ⟨_,F',U9 T h2.row hi,h3,λx hx=>by simp [h4 x hx]⟩
theorem BO.from(T:ET P ts te n f){l:List β}(h:BO te n f A v l F)(hi:i<=l.length)(hnil:AP P A ts (.slice none 0 0) (.some (.int .i64 0)) none none=.some (.slice none 0 0)):
  ∃ v' F',AP P A ts v (.some (.int .i64 (i:Int))) none none=.some v'/\RdE n f A v' (l.drop i) F'/\∀ x∈F',x∈F:=by
 rcases h with ⟨rfl,h2,_,rfl⟩ | ⟨b,g,rfl,h2,rfl⟩
 ·have:l=[]:=List.eq_nil_of_length_eq_zero h2
  subst this;obtain rfl:i=0:=by simpa using hi
  exact ⟨_,[],hnil,.nil _ _ _,by simp⟩
 ·obtain ⟨F',h3,h4⟩:=RdE.some (l:=l.drop i) (o:=i*(n+1)) (c:=Bx+(l.length-i)) T.len h2.row h2.ltf (λj p hj=>by
   rw [<- Nat.add_mul];exact Eb T.len l (i+j) p (by rw [List.getElem?_drop] at hj;exact hj))
  rw [List.length_drop] at h3;exact ⟨_,F',Mi T h2.row hi,h3,λx hx=>by simp [h4 x hx]⟩
end
variable {A:AW} {v x:Value} {F:List Nat} {K:Value->AW->Prop} {q:Nat} {e:TypeId}
section
variable {P:Program} {ts te:TypeId} {n:Nat} {β:Type} {f:β->List Value}
def C3(te:TypeId)(n:Nat)(f:β->List Value)(A:AW)(v:Value)(l:List β)(F:List Nat):Prop:=
 BO te n f A v l F\/∃ b,v=.slice (some ⟨b,0,none⟩) l.length l.length/\l.length<1000000/\AS A b (flat f l) te/\F=[b]
theorem C3.nil(A:AW):C3 te n f A (.slice none 0 0) [] []:=.inl (BO.nil A)
theorem C3.keeps{A':AW}{l:List β}{S:List Nat}(h:C3 te n f A v l F)(k:Aj A A' S)(hd:∀ x∈F,x∉S):C3 te n f A' v l F:=by
 rcases h with h | ⟨b,h1,h0,h2,rfl⟩
 ·exact .inl (h.keeps k hd)
 ·exact .inr ⟨b,h1,h0,h2.keeps k (hd b (by simp)),rfl⟩
theorem C3.rd(hlen:∀ x,(f x).length=n+1){l:List β}(h:C3 te n f A v l F):RdE n f A v l F:=by
 rcases h with h | ⟨b,rfl,h0,h2,rfl⟩
 ·exact h.rd hlen
 ·exact .inr ⟨b,0,_,_,_,b,0,false,rfl,h2.row,h2.lt,rfl,λi p hi=>by rw [Nat.zero_add];exact Eb hlen l i p hi⟩
theorem C3.lt{l:List β}(h:C3 te n f A v l F):∀ x∈F,x<A.next:=by
 rcases h with h | ⟨b,h1,h0,h2,rfl⟩
 ·exact BO.lt h
 ·intro x hx;have:=Ms.1 hx;rw [this];exact h2.lt
theorem C3.one{l:List β}(h:C3 te n f A v l F):AT v=true/\isTuple v=false:=by
 rcases h with h | ⟨b,rfl,h0,h2,rfl⟩
 ·exact BO.one h
 ·exact ⟨rfl,rfl⟩
theorem C3.slice{A:AW}{v:Value}{l:List β}{F:List Nat}(h:C3 te n f A v l F):∃ o c,v=.slice o l.length c:=by
 rcases h with h | ⟨b,rfl,h0,h2,rfl⟩
 ·rcases h with ⟨rfl,h2,_⟩ | ⟨b',g,rfl,_⟩
  ·exact ⟨none,0,by rw [h2]⟩
  ·exact ⟨_,_,rfl⟩
 ·exact ⟨_,_,rfl⟩
theorem C3.BG {t2:TypeId} (hus:P.underlying ts=some (.slice te)) (hsz:szT P te=some (n+1)) (hby:∃ b,E9 P te=some b/\b<=256) (hhz:DG P te (n+1)=true) (hlen:∀ x,(f x).length=n+1) (hone:∀ x,(f x).all AT=true)
  {l l2:List β} (h:C3 te n f A v l F) (hx:B3 P A te t2 (n+1) x=some (l2.length,flat f l2)) (hf:Aw A) (hA:A.next<Am) (hl:l.length<1000000) (hl2:l2.length<1000000)
  (hk:∀ v' A' F',C3 te n f A' v' (l++l2) F'->Aj A A' F->(∀ x∈F',x∈F\/x=A.next)->A'.next<=A.next+1->Aw A'->K v' A'):Au (AJ P A ts t2 v x) K:=by
 have hroom:room=68719476736:=rfl;obtain ⟨b,hb,hb2⟩:=hby;have hse:BL P ts=some te:=by unfold BL;rw [hus]
 cases l2 with
 |nil=>
  obtain ⟨o,c,rfl⟩:=h.slice;have hm:(l.length+0)*b<=(l.length+0)*256:=Nat.mul_le_mul_left _ hb2;have e:AJ P A ts t2 (.slice o l.length c) x=.ok (.slice o l.length c) A:=by
   have hsrc:B3 P A te t2 (n+1) x=some (0,[]):=hx;unfold AJ;simp only [hse,hsz,hb,hsrc];rw [AF.2 (show l.length+0<room by omega),AF.2 (show (l.length+0)*b<room by omega),hhz];rfl
  rw [e];refine Ba.2 (hk _ A F ?_ (.refl _ _) (λx hx=>.inl hx) (by omega) hf);rw [List.append_nil];exact h
 |cons p r=>
  rw [Lc] at hl2;have hx:B3 P A te t2 (n+1) x=some (r.length+1,flat f (p::r)):=hx;have hm:(l.length+(r.length+1))*b<=(l.length+(r.length+1))*256:=Nat.mul_le_mul_left _ hb2;rcases h with h | ⟨bb,rfl,h0,h2,rfl⟩
  ·refine Jz (m:=r.length) (size:=n) hse hsz hb hhz hx (CW hlen _) (RZ hone _) h hf hA (by omega) (by omega) λv' A' F' h1 h2 h3 h4 h5=>?_;refine hk v' A' F' (.inl ?_) h2 h3 (by omega) h5;show DJ A' te (n+1) v' (l++p::r).length (flat f (l++p::r)) F';rw [Lq,FC];exact h1
  ·have hcu:Nat.ble Bx l.length=false:=BV.2 (by unfold Bx;omega);have hold:A.C2 ⟨bb,0,none⟩ (l.length*(n+1))=some (flat f l):=by
    rw [<- CW hlen];unfold AW.C2;cases hl:(flat f l).length with
    |zero=>
     have:flat f l=[]:=List.eq_nil_of_length_eq_zero hl
     rw [this]
    |succ k=>
     simp only [h2.row,List.drop_zero]
     have:=IG (flat f l)
     rw [hl] at this;exact this
   have hnew:A.new (.row (flat f l++flat f (p::r)) te A.next 0 false)=some (A.next,A.push (.row (flat f l++flat f (p::r)) te A.next 0 false)):=by
    unfold AW.new;simp only [AF.2 hA,Ct];rfl
   have e:AJ P A ts t2 (.slice (some ⟨bb,0,none⟩) l.length l.length) x=.ok (.slice (some ⟨A.next,0,none⟩) (l.length+(r.length+1)) (Bx+(l.length+(r.length+1)))) (A.push (.row (flat f l++flat f (p::r)) te A.next 0 false)):=by
    unfold AJ;simp only [hse,hsz,hb,hx];rw [AF.2 (show l.length+(r.length+1)<room by omega),AF.2 (show (l.length+(r.length+1))*b<room by omega),hhz];have hfit':Nat.ble (l.length+(r.length+1)) l.length=false:=BV.2 (by omega);simp only [hcu,Cf,hfit',Bool.not_true,Bool.and_self];simp only [hold,hnew]
   rw [e,<- FC];have hfp:=hf.push (.row (flat f (l++p::r)) te A.next 0 false) hA;have hrow:(A.push (.row (flat f (l++p::r)) te A.next 0 false)).get A.next=some (.row (flat f (l++p::r)) te A.next 0 false):=by rw [AW.BP _ hA,if_pos rfl]
   refine Ba.2 (hk _ _ [A.next] (.inl (.inr ⟨A.next,A.next,by simp,?_,rfl⟩)) (((AW.B7 _ hA).keeps hf).more (by simp)) (λx hx=>.inr (by simpa using hx)) (by rw [AW.Ce];omega) hfp);refine ⟨by rw [Lq,Lc];omega,hrow,by rw [CW hlen],Nat.zero_le _,Nat.zero_le _,by rw [AW.Ce];omega,λi hi=>?_⟩
   have:(A.push (.row (flat f (l++p::r)) te A.next 0 false)).members A.next=[A.next]:=hf.alone (Nl _)
   rw [this] at hi;obtain rfl:i=A.next:=by simpa using hi
   exact ⟨Nat.zero_le _,by rw [AW.Ce];omega,_,_,_,_,hrow⟩
theorem C3.Gu (T:ET P ts te n f) {l l2:List β} {F2:List Nat} (h:C3 te n f A v l F) (hx:RdE n f A x l2 F2) (hf:Aw A) (hA:A.next<Am) (hl:l.length<1000000) (hl2:l2.length<1000000)
  (hk:∀ v' A' F',C3 te n f A' v' (l++l2) F'->Aj A A' F->(∀ x∈F',x∈F\/x=A.next)->A'.next<=A.next+1->Aw A'->K v' A'):Au (AJ P A ts ts v x) K:=
 h.BG T.us T.sz T.by' T.hz T.len T.one (hx.src T) hf hA hl hl2 hk
theorem C3.append (T:ET P ts te n f) {l:List β} {p:β} (h:C3 te n f A v l F) (hq:AS A q (f p) e) (hf:Aw A) (hA:A.next<Am) (hl:l.length<1000000)
  (hk:∀ v' A' F',C3 te n f A' v' (l++[p]) F'->Aj A A' F->(∀ x∈F',x∈F\/x=A.next)->A'.next<=A.next+1->Aw A'->K v' A'):Au (AJ P A ts ts v (.slice (some ⟨q,0,none⟩) 1 1)) K:=by
 refine h.BG (l2:=[p]) T.us T.sz T.by' T.hz T.len T.one ?_ hf hA hl (by simp) hk
 have:=Q4 T hq
 rw [this];simp [flat]
theorem C3.LF (T:ES P ts te f) {l:List β} {p:β} (h:C3 te 0 f A v l F) (hq:AS A q (f p) e) (hf:Aw A) (hA:A.next<Am) (hl:l.length<1000000)
  (hk:∀ v' A' F',C3 te 0 f A' v' (l++[p]) F'->Aj A A' F->(∀ x∈F',x∈F\/x=A.next)->A'.next<=A.next+1->Aw A'->K v' A'):Au (AJ P A ts ts v (.slice (some ⟨q,0,none⟩) 1 1)) K:=by
 refine h.BG (l2:=[p]) T.us T.sz T.by' T.hz T.len T.one ?_ hf hA hl (by simp) hk
 have:=T.src hq
 rw [this];simp [flat]
end
end Go.Abs
namespace Go.Proofs.YtbchfeibhoobeaaGreatDoor
open Go.Abs Go.Jr
variable {A A':AW} {K:Value->AW->Prop} {j d mp:Nat} {q:JS} {Fl Fr S F:List Nat} {s:DS} {x:Value} {l:List (List UInt8)} {k:ByteArray}
def fI(n:Nat):List Value:=[.int .i64 (n:Int)]
theorem esI:ES Tp 46 3 fI where
 us:=by kernel_rfl
 sz:=by kernel_rfl
 by':=⟨8,by kernel_rfl,by decide⟩
 hz:=by kernel_rfl
 ld:=D4
 len:=λ_=>rfl
 one:=λ_=>rfl
 noT:=λ_=>rfl
def fS(s:List UInt8):List Value:=[txV s]
theorem esS:ES Tp 37 9 fS where
 us:=by kernel_rfl
 sz:=by kernel_rfl
 by':=⟨16,by kernel_rfl,by decide⟩
 hz:=by kernel_rfl
 ld:=CG
 len:=λ_=>rfl
 one:=λ_=>rfl
 noT:=λ_=>rfl
theorem Afy(a:Addr)(xo yo:Operand):Ai Tp .neq 29 xo yo (.pointer (some a)) (.pointer none)=some (.bool true):=by kernel_rfl
theorem AcI(xo yo:Operand):Ai Tp .eql 22 xo yo (.slice none 0 0) (.slice none 0 0)=some (.bool true):=by kernel_rfl
theorem AcH(a:Addr)(n c:Nat)(xo yo:Operand):Ai Tp .eql 22 xo yo (.slice (some a) n c) (.slice none 0 0)=some (.bool false):=by kernel_rfl
theorem Abj(A:AW):Av Tp A 22 0 []=(match A.newRow [] 35 with | some (a,w')=>.ok (.slice (some a) 0 0) w' | none=>.fail "buildSlice new"):=by kernel_rfl
theorem AdP(hf:Aw A)(h:A.next<Am)(hk:∀ A',Made A A' [] 35->K (.slice (some ⟨A.next,0,none⟩) 0 0) A'):Au (Av Tp A 22 0 []) K:=by
 rw [Abj];unfold AW.newRow AW.new;simp only [show (([]:List Value).all AT)=true from rfl,Ct,AF.2 h];exact Ba.2 (hk (A.push (.row [] 35 A.next 0 false)) ⟨AW.B7 _ h,rfl,by rw [AW.BP _ h,if_pos rfl],hf.alone (Nl _),hf.push _ h⟩)
theorem ZX(s:ByteArray):Bp Tp 35 [(1,.string s)]=some (.agg ⟨[.int .u8 0,.string s]⟩):=by kernel_rfl
def Jn(A:AW)(j d:Nat)(q:JS)(Fl Fr:List Nat):Prop:=
 ∃ vl vr rl,Go.Abs.AS A j [pP d 0,.int .i64 q.limit,.string ⟨⟨q.state⟩⟩,vl,vr,.int .i64 (q.size:Int),.bool q.some,.bool q.broken] 83/\C3 35 1 fR A vl rl Fl/\q.l=rl.map toR/\C3 3 0 fI A vr q.row Fr
structure JD (A:AW) (j d mp:Nat) (q:JS) (s:DS) (Fl Fr:List Nat):Prop where
 jn:Jn A j d q Fl Fr
 dk:Dk A d mp s
 nd:j≠d/\j≠mp
 fl:∀ x∈Fl,x≠d/\x≠mp/\x≠j/\x∉Fr
 fr:∀ x∈Fr,x≠d/\x≠mp/\x≠j
theorem Jn.keeps(h:Jn A j d q Fl Fr)(k:Aj A A' S)(h1:j∉S)(h2:∀ x∈Fl,x∉S)(h3:∀ x∈Fr,x∉S):Jn A' j d q Fl Fr:=by
 obtain ⟨vl,vr,rl,a,b,c,e⟩:=h;exact ⟨vl,vr,rl,a.keeps k h1,b.keeps k h2,c,e.keeps k h3⟩
theorem Jn.lt(h:Jn A j d q Fl Fr):j<A.next:=by
 obtain ⟨vl,vr,rl,a,b,c,e⟩:=h;exact a.lt
theorem JD.keeps(h:JD A j d mp q s Fl Fr)(k:Aj A A' S)(h1:j∉S)(hd:d∉S)(hm:mp∉S)(h2:∀ x∈Fl,x∉S)(h3:∀ x∈Fr,x∉S):JD A' j d mp q s Fl Fr:=
 ⟨h.jn.keeps k h1 h2 h3,h.dk.keeps k hd hm,h.nd,h.fl,h.fr⟩
theorem JD.CQ{s':DS}(h:JD A j d mp q s Fl Fr)(k:Aj A A' [d,mp])(hd:Dk A' d mp s'):JD A' j d mp q s' Fl Fr:=
 ⟨h.jn.keeps k (by simp;exact h.nd) (λx hx=>by have:=h.fl x hx;simp;exact ⟨this.1,this.2.1⟩) (λx hx=>by have:=h.fr x hx;simp;exact ⟨this.1,this.2.1⟩),hd,h.nd,h.fl,h.fr⟩
section
variable {W0:World} {m0:Inj Tp}
theorem PJ(h:Jn A j d q Fl Fr)(hk:K (.bool true) A):Wc Tp An W0 m0 53 [pP j 0] A K:=by
 obtain ⟨vl,vr,rl,a,b,c,e⟩:=h;refine w53 _ _ BF ?_;rw [e53];simp only [Afy,Ab,Al];refine Ag.2 ⟨λ_=>?_,λh=>by cases h⟩;simp only [Jt,Cx,Ae a.row,cellOf,Ax,Cf,Ab,Acy];exact hk
theorem UW(h:Jn A j d q Fl Fr)(hk:K (.int .i64 (if q.broken=true then 100 else 0)) A):Wc Tp An W0 m0 54 [pP j 0] A K:=by
 obtain ⟨vl,vr,rl,a,b,c,e⟩:=h;refine w54 _ _ BF ?_;rw [e54];simp only [Al,Qm,Fh,Ae a.row,cellOf,Bt,Ax,AG,AE,b.one.2,e.one.2,Cf,Ab,Nat.zero_add];refine Ag.2 ⟨λhb=>?_,λhb=>?_⟩
 ·rw [hb] at hk;exact hk
 ·rw [hb] at hk;exact hk
theorem YC(h:Jn A j d q Fl Fr){n:Nat}(hn:q.row.getLast? =some n)(hl:q.row.length<1000000)(hk:K (.int .i64 (n:Int)) A):Wc Tp An W0 m0 56 [pP j 0] A K:=by
 obtain ⟨vl,vr,rl,a,b,c,e⟩:=h;refine w56 _ _ BF ?_;rw [e56];have hpos:0<q.row.length:=by
  cases hq:q.row with
  |nil=>rw [hq] at hn;cases hn
  |cons=>simp
 have hg:q.row[q.row.length-1]? =some n:=by rw [<- List.getLast?_eq_getElem?];exact hn
 simp only [Al,Lk,Po,Ae a.row,cellOf,Bt,Ax,AG,AE,b.one.2,e.one.2,Cf,Ab,Nat.zero_add,esI.HG (e.rd esI.len),Ci];rw [wrap_i64 (by omega) (by omega)];have hi:(q.row.length:Int)-1=((q.row.length-1:Nat):Int):=by omega
 rw [hi];obtain ⟨a0,a1,a2⟩:=esI.at (e.rd esI.len) hg rfl;simp only [a1,a2,Ab];exact hk
theorem SP{er:Int}(h:Jn A j d q Fl Fr)(hf:Aw A)(hA:A.next<Am)(hl:j∉Fl)(hr:j∉Fr)(hk:∀ A',Jn A' j d (DA q er) Fl Fr->Aj A A' [j]->A'.next=A.next->Aw A'->K (.int .i64 er) A'):Wc Tp An W0 m0 57 [pP j 0,.int .i64 er] A K:=by
 obtain ⟨vl,vr,rl,a,b,c,e⟩:=h;refine w57 _ _ _ BF ?_;rw [e57];have fin:∀ x:Bool,(DA q er).broken=x->Bh (Az Tp A 4 (pP j 7) (.bool x)) λA'=>K (.int .i64 er) A':=by
  intro x hx;refine a.store hf (by omega) (JZ _ _ _) rfl (by show 7+1<=8;omega) rfl λA' r k n f=>?_;have k:Aj A A' [j]:=k;refine hk A' ⟨vl,vr,rl,?_,b.keeps k (λy hy=>by simp;intro h0;subst h0;exact hl hy),c,e.keeps k (λy hy=>by simp;intro h0;subst h0;exact hr hy)⟩ k n f;rw [hx];exact r
 have a3:=b.one.2;have a4:=e.one.2;simp only [Al,Qm,Fh,Ae a.row,cellOf,Bt,Ax,AG,AE,a3,a4,Cf,Ab,Nat.zero_add,Bo];refine Ag.2 ⟨λhb=>fin true (by simp [DA,hb]),λhb=>fin _ (by simp [DA,hb])⟩
theorem Z2 {s : ByteArray} (hg : Glb A) (hf : Aw A) (hs : s.data.toList.length <= 65536) (hA : A.next + 50 < Am)
    (hk : ∀ A', Grow A A' 22 -> K (.string ⟨⟨Bc (0, s.data.toList)⟩⟩) A') : Wc Tp An W0 m0 41 [.string s] A K := by
  refine w41 _ _ BF ?_
  rw [e41]
  simp only [ZX, Ab]
  refine MI (c := 0) hf (by omega) λA1 m1 => ?_
  have n1 := m1.next
  have hrd : RdE 1 fR A1 (.slice (some ⟨A.next, 0, none⟩) 1 1) [((0 : UInt8), s)] [A.next] := .inr ⟨A.next, 0, 1, _, _, A.next, 0, false, rfl, m1.row, by omega, rfl, λi p hi => by
    cases i with
    | zero => obtain rfl : ((0 : UInt8), s) = p := by simpa using hi
              exact ⟨[], rfl⟩
    | succ i => simp at hi⟩
  have hp : Cr ([((0 : UInt8), s)].map toR) = Bc (0, s.data.toList) := by simp [Cr, toR]
  refine AbF hrd (hg.keeps (m1.keeps hf) (by simp)) m1.Ay (by simp) (by simpa using hs) (by simp; omega) (by rw [hp, Cn]; show 13 + s.data.toList.length < 900000; omega) λA2 g2 => ?_
  rw [hp]
  simp only [Bw, Bv, Ab]
  exact hk A2 (((Grow.made m1 hf).trans g2).more (by simp))
theorem AbG {l:List RV} (h:RdE 1 fR A x l F) (hc:∀ c,x=.slice none 0 c->c=0) (hf:Aw A) (hA:A.next+5<Am) (hl:l.length<1000000)
  (hk:∀ A' v F',C3 35 1 fR A' v l F'->(∀ y∈F',A.next<=y)->Grow A A' 2->K v A'):Wc Tp An W0 m0 52 [x] A K:=by
 refine w52 _ _ BF ?_;rw [e52];obtain ⟨o,c,rfl⟩:=h.slice;cases o with
 |none=>
  have hl0:l=[]:=by
   rcases h with ⟨h1,_⟩ | ⟨r,o,c,cs,e,f,b,ro,h1,_⟩
   ·exact h1
   ·simp at h1
  subst hl0;obtain rfl:=hc c rfl;simp only [Ln,AcI,Ab];exact Ag.2 ⟨λ_=>hk A _ [] (C3.nil _) (by simp) ((Grow.refl hf).more (by omega)),λh=>by simp at h⟩
 |some a=>
  simp only [AcH,Ab];refine Ag.2 ⟨λh=>by simp at h,λ_=>?_⟩;refine AdP hf (by omega) λA1 m1=>?_;have n1:=m1.next;have ho:C3 35 1 fR A1 (.slice (some ⟨A.next,0,none⟩) 0 0) ([]:List RV) [A.next]:=.inr ⟨A.next,rfl,by simp,m1.BB,rfl⟩;refine ho.Gu etR (h.keeps (m1.keeps hf) (by simp)) m1.Ay (by omega) (by simp) (by omega) λv2 A2 F2 o2 k2 hF2 n2 f2=>?_;rw [List.nil_append] at o2;exact hk A2 v2 F2 o2 (λy hy=>(hF2 y hy).elim (λh=>by have:=Ms.1 h;omega) λh=>by omega) (((Grow.made m1 hf).own k2 (by simp) (m:=1) n2 f2).more (by omega))
theorem Lt{α:Type}{l:List α}{i:Nat}{p:α}(h:l[i]? =.some p):l.drop i=p::l.drop (i+1):=by
 obtain ⟨h1,h2⟩:=Gs.1 h;rw [List.drop_eq_getElem_cons h1,h2]
def OF(k:List UInt8):List (List UInt8)->Nat->Int
 |[],_=> -1
 |x::r,i=>if k=x then (i:Int) else OF k r (i+1)
theorem RO(k:List UInt8):∀ (l:List (List UInt8)) (i:Nat),(0<=OF k l i)↔k∈l
 |[],i=>by simp [OF]
 |x::r,i=>by
  unfold OF;by_cases h:k=x
  ·rw [if_pos h];simp [h]
  ·rw [if_neg h,RO k r (i+1)];simp [h]
theorem Aed(h:RdE 0 fS A x l F)(hl:l.length<1000000)(hk:K (.int .i64 (OF k.data.toList l 0)) A):Wc Tp An W0 m0 91 [x,.string k] A K:=by
 let I:Nat->Nat->List Value->AW->Prop:=λg id vals A'=>id=0/\A'=A/\∃ i:Nat,vals=[x,.string k,.int .i64 (l.length:Int),.int .i64 (i:Int)]/\g=l.length-i/\i<=l.length/\OF k.data.toList l 0=OF k.data.toList (l.drop i) i;refine w91 _ _ _ (c91 (I:=I) ?_) ?_
 ·rintro g id vals A' d ⟨rfl,rfl,i,rfl,rfl,hi,he⟩ hd;rw [Ac1];simp only [L91,Mc,Mn,Li,and_true] at hd;obtain ⟨h0,h1,h7,h8⟩:=hd;simp only [h0,h1,h7,h8,AU,Ab,Ao];refine ⟨λhlt=>?_,λhge=>?_⟩
  ·have hlt:i<l.length:=by omega
   obtain ⟨p,hp⟩:∃ p,l[i]? =some p:=⟨_,Ge hlt⟩;obtain ⟨a,a1,a2⟩:=esS.at h hp rfl;have hd:=Lt hp;rw [hd,show ∀ q r i,OF q (p::r) i=if q=p then (i:Int) else OF q r (i+1) from λ_ _ _=>rfl] at he;simp only [a1,a2,Ab,txV,L9];refine Ag.2 ⟨λhq=>?_,λhq=>?_⟩
   ·rw [if_pos (by simpa using hq)] at he;rw [he] at hk;exact hk
   ·rw [if_neg (by simpa using hq)] at he;rw [AY,wrap_i64 (by omega) (by omega)];simp only [Ab];exact Ar.2 ⟨l.length-(i+1),by omega,rfl,rfl,i+1,rfl,rfl,by omega,he⟩
  ·have:i=l.length:=by omega
   subst this;rw [List.drop_length] at he;rw [he] at hk;exact hk
 ·rw [e91,esS.HG h];simp only [Ab];exact Ar.2 ⟨l.length,rfl,rfl,0,rfl,rfl,by omega,by simp⟩
theorem AbI(h:RdE 0 fS A x l F)(hl:l.length<1000000)(hk:K (.bool (decide (k.data.toList∈l))) A):Wc Tp An W0 m0 38 [x,.string k] A K:=by
 refine w38 _ _ _ BF ?_;rw [e38];refine Aed h hl ?_;simp only [DZ,Ab]
 have:decide (0<=OF k.data.toList l 0)=decide (k.data.toList∈l):=by
  rw [decide_eq_decide];exact RO _ _ _
 rw [this];exact hk
end
variable {A:AW} {K:Value->AW->Prop} {p:List UInt8}
structure SV where
 n:Nat
 o:Option Addr
 len:Nat
 cap:Nat
 size:Nat
 st:Nat
def fG(x:SV):List Value:=[.int .i64 (x.n:Int),.slice x.o x.len x.cap,.int .i64 (x.size:Int),.int .u8 (x.st:Int)]
theorem etG:ET Tp 77 90 3 fG where
 us:=by kernel_rfl
 sz:=by kernel_rfl
 ag:=by kernel_rfl
 by':=⟨48,by kernel_rfl,by decide⟩
 hz:=by kernel_rfl
 len:=λ_=>rfl
 one:=λ_=>rfl
 noT:=λ_=>rfl
theorem zG:Ei Tp 90=some (.agg ⟨[.int .i64 0,.slice none 0 0,.int .i64 0,.int .u8 0]⟩):=by kernel_rfl
theorem AgE(n:Int):Bp Tp 90 [(0,.int .i64 n)]=some (.agg ⟨[.int .i64 n,.slice none 0 0,.int .i64 0,.int .u8 0]⟩):=by kernel_rfl
theorem AgB(A:AW)(n z t:Int)(o:Option Addr)(a b:Nat):Av Tp A 77 1 [(0,.agg ⟨[.int .i64 n,.slice o a b,.int .i64 z,.int .u8 t]⟩)]=(match A.newRow [.int .i64 n,.slice o a b,.int .i64 z,.int .u8 t] 90 with | some (a,w')=>.ok (.slice (some a) 1 1) w' | none=>.fail "buildSlice new"):=by kernel_rfl
theorem AdM{x:SV}(hf:Aw A)(h:A.next<Am)(hk:∀ A',Made A A' (fG x) 90->K (.slice (some ⟨A.next,0,none⟩) 1 1) A'):Au (Av Tp A 77 1 [(0,.agg ⟨fG x⟩)]) K:=by
 unfold fG;rw [AgB];unfold AW.newRow AW.new;simp only [show ((fG x).all AT)=true from rfl,show ([Value.int .i64 (x.n:Int),.slice x.o x.len x.cap,.int .i64 (x.size:Int),.int .u8 (x.st:Int)].all AT)=true from rfl,Ct,AF.2 h];exact Ba.2 (hk (A.push (.row (fG x) 90 A.next 0 false)) ⟨AW.B7 _ h,rfl,by rw [AW.BP _ h,if_pos rfl],hf.alone (Nl _),hf.push _ h⟩)
abbrev SR:=SV × List RV
def BR(x:SR):Seg:=⟨x.1.n,x.2.map toR,x.1.size,x.1.st⟩
def V6(A:AW)(lo:Nat)(x:SR):Prop:=∃ F,RdE 1 fR A (.slice x.1.o x.1.len x.1.cap) x.2 F/\∀ y∈F,lo<=y
theorem V6.keeps{A':AW}{lo:Nat}{x:SR}{S:List Nat}(h:V6 A lo x)(k:Aj A A' S)(hS:∀ y∈S,y<lo\/A.next<=y):V6 A' lo x:=by
 obtain ⟨F,h1,h2⟩:=h;exact ⟨F,h1.keeps k λy hy hm=>by have:=h1.fam y hy;have:=h2 y hy;rcases hS y hm with h | h<;>omega,h2⟩
theorem ZT(l:List (List UInt8)):flat fS l=l.map txV:=by
 induction l with
 |nil=>rfl
 |cons x r ih=>show [txV x]++flat fS r=_;rw [ih];rfl
theorem HE{sv:Value}{l:List (List UInt8)}{F:List Nat}(h:DJ A 9 1 sv l.length (l.map txV) F):RdE 0 fS A sv l F:=by
 have h1:BO 9 0 fS A sv l F:=by
  show DJ A 9 (0+1) sv l.length (flat fS l) F;rw [ZT];exact h
 exact h1.rd esS.len
theorem Vu{D:Fls}:p∈namesS D↔∃ f,(p,f)∈D:=by
 unfold namesS;rw [List.mem_mergeSort,List.mem_map];constructor
 ·rintro ⟨⟨a,f⟩,h,rfl⟩;exact ⟨f,h⟩
 ·rintro ⟨f,h⟩;exact ⟨(p,f),h,rfl⟩
theorem Dp{D:Fls}(h:∃ f,(p,f)∈D):∃ f,AB D p=some f/\(p,f)∈D:=by
 obtain ⟨f,hf⟩:=h;unfold AB;cases h:D.find? λe=>e.1==p with
 |none=>have:=List.find?_eq_none.1 h _ hf;simp at this
 |some e=>
  have h1:=List.find?_some h;have h2:=List.mem_of_find?_eq_some h;obtain ⟨a,b⟩:=e;obtain rfl:a=p:=by simpa using h1
  exact ⟨b,rfl,h2⟩
def QL(W0:World)(m0:Inj Tp)(f:List UInt8):Prop:=KC.Holds Tp W0 m0 ⟨88,[txV f],[.int .i64 (numOf f:Int)]⟩
def EO(W0:World)(m0:Inj Tp)(n:Nat):Prop:=KC.Holds Tp W0 m0 ⟨47,[.int .i64 (n:Int)],[txV (Jr.nm n)]⟩
theorem Hb{W0:World}{m0:Inj Tp}{g:FuncId}{args:List Value}{v:Value}(hg:g≠FZ)(h:KC.Holds Tp W0 m0 ⟨g,args,[v]⟩)(hc:AM 4 v=true)(hk:K v A):knW Tp W0 m0 g args A K:=
 .inl ⟨[v],hg,h,by simp [hc],by simpa using hk⟩
section
variable {W0:World} {m0:Inj Tp}
theorem Aew {d mp L:Nat} {s:DS} (h:Dk A d mp s) (hg:Glb A) (hd:s.down=false) (hes:s.D.length<10000) (hL:∀ f∈s.D,f.2.1.length<=L) (hL2:L<900000) (hf:Aw A) (hA:A.next+10000*(20*L+100)<Am)
  (hnum:∀ f∈namesS s.D,QL W0 m0 f) (h0:0<d/\0<mp)
  (hk:∀ A' v F (X:List SR),X.map BR=Bi s.D (namesS s.D)->BO 90 3 fG A' v (X.map (·.1)) F->(∀ y∈F,A.next<=y)->(∀ x∈X,V6 A' A.next x)->Grow A A' (20+3*s.D.length+s.D.length*(L+30))->K (.tuple ⟨[v,.int .i64 0]⟩) A'):
  Wc Tp An W0 m0 36 [pP d 0] A K:=by
 have hroom:room=68719476736:=rfl;have hnl:(namesS s.D).length=s.D.length:=by unfold namesS;rw [List.length_mergeSort,List.length_map]
 let I:Nat->Nat->List Value->AW->Prop:=λg id vals A'=>id=0/\∃ (i:Nat) (sv v:Value) (Fn F:List Nat) (X:List SR),vals=[pP d 0,v,sv,.int .i64 (s.D.length:Int),.int .i64 (i:Int)]/\i<=s.D.length/\g=s.D.length-i/\
  RdE 0 fS A' sv (namesS s.D) Fn/\X.map BR=Bi s.D ((namesS s.D).take i)/\BO 90 3 fG A' v (X.map (·.1)) F/\(∀ y∈F,A.next<=y/\y∉Fn)/\(∀ x∈X,∃ G,RdE 1 fR A' (.slice x.1.o x.1.len x.1.cap) x.2 G/\∀ y∈G,A.next<=y/\y∉F)/\Grow A A' (15+3*s.D.length+i*(L+30))/\X.length<=i
 refine w36 _ _ (c36 (I:=I) ?_) ?_
 ·rintro g id vals A' dd ⟨rfl,i,sv,v,Fn,F,X,rfl,hi,rfl,hn,hX,ho,hF,hR,hgr,hXl⟩ hd';rw [Adm];simp only [L36,Mc,Mn,Li,and_true] at hd';obtain ⟨h0',h4,h12,h13,h14⟩:=hd';have hnx:=hgr.next;have hle:=hgr.le;simp only [h0',h4,h12,h13,h14,AU,Ab,Ao];refine ⟨λhlt=>?_,λhge=>?_⟩
  ·have hlt:i<s.D.length:=by omega
   have hbud:i*(L+30)<=10000*(L+30):=Nat.mul_le_mul_right _ (by omega);obtain ⟨p,hp⟩:∃ p,(namesS s.D)[i]? =some p:=⟨_,Ge (by rw [hnl];exact hlt)⟩;obtain ⟨a,a1,a2⟩:=esS.at hn hp rfl;have hpm:=List.mem_of_getElem? hp;obtain ⟨fl,hlook,hmem⟩:=Dp (Vu.1 hpm);have hfl:=hL _ hmem;have hfile:fileOf s.D p=fl:=by unfold fileOf;rw [hlook];rfl
   simp only [a1,a2,Ab];refine Hb (by decide) (hnum p hpm) rfl ?_;simp only [Bo,Ab,AY];have eseg:Bi s.D ((namesS s.D).take (i+1))=Bi s.D ((namesS s.D).take i)++(if numOf p=0 then [] else [Hx (numOf p) fl.1]):=by
    rw [CB hp];unfold Bi;rw [List.filterMap_append]
    congr 1
    by_cases h0:numOf p=0
    ·simp [h0]
    ·simp [h0,hfile]
   have esucc:(i+1)*(L+30)=i*(L+30)+(L+30):=Nat.succ_mul _ _;rw [wrap_i64 (by omega) (by omega)];refine Be.2 ⟨λhz=>?_,λhz=>?_⟩
   ·have hz:numOf p=0:=by omega
    refine Ar.2 ⟨s.D.length-(i+1),by omega,rfl,i+1,sv,v,Fn,F,X,rfl,by omega,rfl,hn,?_,ho,hF,hR,hgr.more (by omega),by omega⟩;rw [eseg,if_pos hz,List.append_nil];exact hX
   have hz:numOf p≠0:=by omega
   have hdk:Dk A' d mp s:=h.keeps hgr.keeps (by simp) (by simp);refine Ab9 (n:=⟨⟨p⟩⟩) hdk hgr.Ay (by omega) λA2 k2 n2 f2=>?_;have ers:KL s p=(fl.1,0):=by unfold KL;rw [hd,hlook];rfl
   have ers':KL s (⟨⟨p⟩⟩:ByteArray).data.toList=(fl.1,0):=ers;rw [ers'];simp only [Bw,Bv,Ab,BC];refine Bb.2 ⟨λhe=>by simp at he,λ_=>?_⟩;simp only [AgE,Ab];refine Bl zG f2 (by omega) rfl λA3 m3=>?_;have n3:=m3.next;refine m3.BB.store m3.Ay (by omega) (Uh _ _ _) rfl (by show 0+4<=4;omega) rfl λA4 r4 k4 n4 f4=>?_;have r4:Go.Abs.AS A4 A2.next [.int .i64 (numOf p:Int),.slice none 0 0,.int .i64 0,.int .u8 0] 90:=r4;have le2:=k2.next;have g4:Grow A' A4 4:=⟨(k2.trans (m3.keeps f2) (by simp)).trans k4 (λx hx=>.inr (by have:=Ms.1 hx;omega)),f4,by omega⟩;have hfl':(⟨⟨fl.1⟩⟩:ByteArray).data.toList.length<=L:=hfl;refine Aef (s:=⟨⟨fl.1⟩⟩) ((hg.keeps hgr.keeps (by simp)).keeps g4.keeps (by simp)) f4 (by omega) (by omega) λA5 v5 R F5 hR5 hR5l o5 hF5 g5=>?_;have n5:=g5.next;have le4:=g4.le;have le5:=g5.le;have r5:=r4.keeps g5.keeps (by simp);have rd5:=o5.rd etR.len;obtain ⟨oo,cc,hv5⟩:=rd5.slice;simp only [show ∀ a b c,Ap (.tuple ⟨[a,b,c]⟩) 0=some a from λ_ _ _=>rfl,show ∀ a b c,Ap (.tuple ⟨[a,b,c]⟩) 1=some b from λ_ _ _=>rfl,show ∀ a b c,Ap (.tuple ⟨[a,b,c]⟩) 2=some c from λ_ _ _=>rfl,Ab,Lf,Ql,Qk,Nat.zero_add];refine r5.store g5.Ay (by omega) (Nu _ _ _) (by rw [hv5];rfl) (by show 1+1<=4;omega) (by rw [hv5];rfl) λA6 r6 k6 n6 f6=>?_;have r6:Go.Abs.AS A6 A2.next [.int .i64 (numOf p:Int),v5,.int .i64 0,.int .u8 0] 90:=by rw [hv5] at r6 ⊢;exact r6
   have k6:Aj A5 A6 [A2.next]:=k6;refine r6.store f6 (by omega) (J0 _ _ _) rfl (by show 2+1<=4;omega) rfl λA7 r7 k7 n7 f7=>?_;have r7:Go.Abs.AS A7 A2.next [.int .i64 (numOf p:Int),v5,.int .i64 ((scan (⟨⟨fl.1⟩⟩:ByteArray).data.toList).2.1:Nat),.int .u8 0] 90:=r7;have k7:Aj A6 A7 [A2.next]:=k7;refine r7.store f7 (by omega) (Acq _ _ _) rfl (by show 3+1<=4;omega) rfl λA8 r8 k8 n8 f8=>?_;have r8:Go.Abs.AS A8 A2.next [.int .i64 (numOf p:Int),v5,.int .i64 ((scan (⟨⟨fl.1⟩⟩:ByteArray).data.toList).2.1:Nat),.int .u8 ((scan (⟨⟨fl.1⟩⟩:ByteArray).data.toList).2.2:Nat)] 90:=r8;have k8:Aj A7 A8 [A2.next]:=k8;have k58:Aj A5 A8 [A2.next]:=(k6.trans k7 (by simp)).trans k8 (by simp);let x:SV:=⟨numOf p,oo,R.length,cc,(scan fl.1).2.1,(scan fl.1).2.2⟩;have efx:[.int .i64 (numOf p:Int),v5,.int .i64 ((scan (⟨⟨fl.1⟩⟩:ByteArray).data.toList).2.1:Nat),.int .u8 ((scan (⟨⟨fl.1⟩⟩:ByteArray).data.toList).2.2:Nat)]=fG x:=by rw [hv5];rfl
   rw [efx] at r8;have hcells:A8.cells? ⟨A2.next,0,none⟩ 4=some (fG x):=by
    rw [Cg r8.row];rfl
   rw [AcW,hcells];simp only [Ab];refine AdM f8 (by omega) λA9 m9=>?_;have n9:=m9.next;have k9:=m9.keeps f8;have K49:Aj A' A9 []:=((g4.keeps.trans g5.keeps (by simp)).trans k58 (λy hy=>.inr (by have:=Ms.1 hy;omega))).trans k9 (by simp);have ho9:=ho.keeps K49 (by simp);refine BO.append etG ho9 m9.BB m9.Ay (by omega) (by rw [List.length_map];omega) λv10 A10 F10 o10 k10 hF10 n10 f10=>?_;have hFlt:=ho.lt;refine Ar.2 ⟨s.D.length-(i+1),by omega,rfl,i+1,sv,v10,Fn,F10,X++[(x,R)],rfl,by omega,rfl,?_,?_,?_,?_,?_,?_,?_⟩
   ·exact (hn.keeps K49 (by simp)).keeps k10 λy hy hm=>(hF y hm).2 hy
   ·rw [eseg,if_neg hz,List.map_append,hX]
    congr 1
    show [BR (x,R)]=[Hx (numOf p) fl.1];unfold BR Hx
    have:(scan fl.1).1=R.map toR:=hR5
    rw [this]
   ·rw [List.map_append];exact o10
   ·intro y hy;rcases hF10 y hy with h | h
    ·exact hF y h
    ·have:=K49.next
     exact ⟨by omega,λhm=>by have:=hn.fam y hm;omega⟩
   ·intro z hz';rcases Mz.1 hz' with hz' | hz'
    ·obtain ⟨G,g1,g2⟩:=hR z hz';refine ⟨G,(g1.keeps K49 (by simp)).keeps k10 λy hy hm=>(g2 y hy).2 hm,λy hy=>⟨(g2 y hy).1,λhm=>?_⟩⟩;rcases hF10 y hm with h | h
     ·exact (g2 y hy).2 h
     ·have:=g1.fam y hy;have:=K49.next;omega
    ·obtain rfl:=Ms.1 hz';have e1:Value.slice x.o x.len x.cap=v5:=hv5.symm;have hlt5:=rd5.fam;refine ⟨F5,?_,λy hy=>⟨by have:=hF5 y hy;omega,λhm=>?_⟩⟩
     ·show RdE 1 fR A10 (.slice x.o x.len x.cap) R F5;rw [e1];exact ((rd5.keeps k58 λy hy=>by have:=hF5 y hy;simp;omega).keeps k9 (by simp)).keeps k10 λy hy hm=>by have:=hF5 y hy;have:=hFlt y hm;omega
     ·have h5:=hF5 y hy;have h6:=hlt5 y hy;rcases hF10 y hm with h | h
      ·have:=hFlt y h;omega
      ·have:=k58.next;omega
   ·have g9:Grow A' A9 (L+29):=⟨K49,m9.Ay,by omega⟩
    have:=(hgr.trans g9).own k10 (λy hy=>(hF y hy).1) (m:=1) (by omega) f10
    exact this.more (by omega)
   ·rw [Lq];simp;omega
  ·have hi':i=s.D.length:=by omega
   subst hi';rw [List.take_of_length_le (by omega)] at hX;exact hk A' v F X hX ho (λy hy=>(hF y hy).1) (λx hx=>by obtain ⟨G,g1,g2⟩:=hR x hx;exact ⟨G,g1,λy hy=>(g2 y hy).1⟩) (hgr.more (by omega))
 ·rw [e36];refine SQ h hf (by omega) (by omega) λA1 sv Fn h1 hFn k1 n1 f1=>?_;have hrd:=HE h1;rw [esS.HG hrd,hnl];simp only [Ab];exact Ar.2 ⟨s.D.length,rfl,0,sv,_,Fn,[],[],rfl,by omega,rfl,hrd,rfl,BO.nil _,by simp,by simp,⟨k1,f1,by omega⟩,by simp⟩
end
variable {A:AW} {lo:Nat} {K:Value->AW->Prop}
theorem lastB_snoc(x:Seg):∀ l:List Seg,D5 (l++[x])=if DI x=true then some l.length else D5 l
 |[]=>by
  show (match D5 [] with | some i=>some (i+1) | none=>if DI x=true then some 0 else none)=_;rfl
 |y::l=>by
  rw [List.cons_append];unfold D5;rw [lastB_snoc x l];by_cases h:DI x=true
  ·simp [h]
  ·simp [h]
def okC(i:Nat)(c:Rec × Nat):Bool:=!(c.1.1==0) || decide (i+c.2=0)
theorem okSeg_eq(n0 len i:Nat)(x:Seg):Iw n0 len i x=(decide (x.n=n0+i)&&((decide (i+1=len) || decide (x.st=0))&&(decide (x.st≠2)&&x.l.zipIdx.all (okC i)))):=rfl
theorem all_zip{α:Type}(l:List α)(p:α × Nat->Bool):l.zipIdx.all p=true↔∀ (i:Nat) (x:α),l[i]? =some x->p (x,i)=true:=by
 rw [List.all_eq_true];constructor
 ·intro h i x hx;exact h (x,i) (List.mem_zipIdx_iff_getElem?.2 hx)
 ·rintro h ⟨x,i⟩ hm;exact h i x (List.mem_zipIdx_iff_getElem?.1 hm)
theorem all_zip_not{α:Type}{l:List α}{p:α × Nat->Bool}{i:Nat}{x:α}(hx:l[i]? =some x)(h:p (x,i)=false):l.zipIdx.all p=false:=by
 cases hc:l.zipIdx.all p with
 |false=>rfl
 |true=>rw [(all_zip l p).1 hc i x hx] at h;cases h
section
variable {W0:World} {m0:Inj Tp}
theorem Aee{x:SR}(h:V6 A lo x)(hf:Aw A)(hA:A.next<Am)(hk:∀ A',Grow A A' 1->K (.bool (DI (BR x))) A'):Wc Tp An W0 m0 90 [.agg ⟨fG x.1⟩] A K:=by
 obtain ⟨F,h1,h2⟩:=h;refine w90 _ _ BF ?_;rw [e90];refine Bk (cs:=fG x.1) hf hA rfl λA1 m1=>?_;have r1:Go.Abs.AS A1 A.next [.int .i64 (x.1.n:Int),.slice x.1.o x.1.len x.1.cap,.int .i64 (x.1.size:Int),.int .u8 (x.1.st:Int)] 90:=m1.BB;have h1':=h1.keeps (m1.keeps hf) (by simp);have hlen:=h1'.len etR (B:=A1);simp only [Lf,JO,Nat.zero_add,Ae r1.row,cellOf,EL,AG,Cf,Ab,hlen,BN,Ao];have hlx:(BR x).l=x.2.map toR:=rfl;refine ⟨λhp=>?_,λhp=>?_⟩
 ·obtain ⟨p,hp0⟩:∃ p,x.2[0]? =some p:=⟨_,Ge (by omega)⟩;obtain ⟨r,o,a1,a2,a3⟩:=h1'.at etR hp0;have a1':Ak Tp 22 (.slice x.1.o x.1.len x.1.cap) (.int .i64 0)=some (pP r o):=a1;have hc:A1.cell? ⟨r,o,none⟩=some (.int .u8 (p.1.toNat:Int)):=cell_of a2 (k:=0) rfl;simp only [a1',Ab,E5,Kg,hc,Bo];have hb:((p.1.toNat:Int)==0)=DI (BR x):=by
   unfold DI;rw [hlx];cases hx2:x.2 with
   |nil=>rw [hx2] at hp0;cases hp0
   |cons q r=>
    rw [hx2] at hp0;obtain rfl:q=p:=by simpa using hp0
    show ((q.1.toNat:Int)==0)=(q.1==0);rw [Bool.eq_iff_iff,beq_iff_eq,beq_iff_eq];constructor
    ·intro h;exact UInt8.toNat_inj.1 (by show q.1.toNat=0;omega)
    ·intro h;rw [h];rfl
  rw [hb];exact hk A1 (.made m1 hf)
 ·have hx2:x.2=[]:=by
   cases hx2:x.2 with
   |nil=>rfl
   |cons q r=>rw [hx2] at hp;simp at hp
  have hb:DI (BR x)=false:=by unfold DI;rw [hlx,hx2];rfl
  rw [hb] at hk;exact hk A1 (.made m1 hf)
theorem Aas(A:AW):AP Tp A 77 (.slice none 0 0) (some (.int .i64 0)) none none=some (.slice none 0 0):=by kernel_rfl
theorem Aar(A:AW):AP Tp A 77 (.slice none 0 0) none (some (.int .i64 0)) none=some (.slice none 0 0):=by kernel_rfl
theorem Aev {v:Value} {X:List SR} {F:List Nat} {M:Nat} (h:BO 90 3 fG A v (X.map (·.1)) F) (hX:∀ x∈X,V6 A lo x) (hf:Aw A) (hXl:X.length<10000) (hM:∀ x∈X,x.2.length<=M) (hM2:M<900000) (hn:∀ x∈X,x.1.n<100000000) (hst:∀ x∈X,x.1.st<256)
  (hA:A.next+10000*(M+10)<Am)
  (hk0:Ga (X.map BR)=none->∀ A',Grow A A' (X.length*(M+2))->K (.tuple ⟨[.slice none 0 0,.int .i64 0,.bool false]⟩) A')
  (hk1:∀ f,Ga (X.map BR)=some ((X.drop f).map BR,f)->f<=X.length->∀ A' v' F',Grow A A' (X.length*(M+2))->RdE 3 fG A' v' ((X.drop f).map (·.1)) F'->(∀ y∈F',y∈F)->K (.tuple ⟨[v',.int .i64 (f:Int),.bool true]⟩) A'):
  Wc Tp An W0 m0 37 [v] A K:=by
 have hroom:room=68719476736:=rfl;have hXm:(X.map BR).length=X.length:=List.length_map _;have hbud:X.length*(M+2)<=10000*(M+2):=Nat.mul_le_mul_right _ (by omega);let n0:Nat->Nat:=λf=>((((X.drop f).map BR).head?).map (·.n)).getD 0;let I:Nat->Nat->List Value->AW->Prop:=λg id vals A'=>
  (id=0/\∃ f1:Nat,vals=[v,.int .i64 ((f1:Int)-1)]/\f1<=X.length/\g=f1+X.length*(M+2)+1/\D5 (X.map BR)=D5 ((X.map BR).take f1)/\Grow A A' (X.length-f1))\/
  (id=2/\∃ (f i:Nat) (v':Value) (F':List Nat),vals=[.int .i64 (f:Int),v',v',.int .i64 ((X.length-f:Nat):Int),.int .i64 (i:Int)]/\i<=X.length-f/\g=(X.length-f-i)*(M+2)/\D5 (X.map BR)=some f/\f<X.length/\RdE 3 fG A' v' ((X.drop f).map (·.1)) F'/\(∀ y∈F',y∈F)/\
   (∀ j x,j<i->(X.drop f)[j]? =some x->Iw (n0 f) (X.length-f) j (BR x)=true)/\Grow A A' (X.length+i*(M+1)))\/
  (id=4/\∃ (f i k:Nat) (v':Value) (F':List Nat) (x:SR),vals=[.int .i64 (f:Int),v',.int .i64 (i:Int),v',.int .i64 ((X.length-f:Nat):Int),.int .i64 (i:Int),.slice x.1.o x.1.len x.1.cap,.int .i64 (x.2.length:Int),.int .i64 (k:Int)]/\i<X.length-f/\k<=x.2.length/\
   g=(X.length-f-(i+1))*(M+2)+(x.2.length-k)+1/\D5 (X.map BR)=some f/\f<X.length/\RdE 3 fG A' v' ((X.drop f).map (·.1)) F'/\(∀ y∈F',y∈F)/\(X.drop f)[i]? =some x/\
   (∀ j x,j<i->(X.drop f)[j]? =some x->Iw (n0 f) (X.length-f) j (BR x)=true)/\((decide (x.1.n=n0 f+i)&&((decide (i+1=X.length-f) || decide (x.1.st=0))&&decide (x.1.st≠2)))=true)/\
   (∀ m c,m<k->x.2[m]? =some c->okC i (toR c,m)=true)/\Grow A A' (X.length+i*(M+1)+1+k))
 have hdrop:∀ f,(X.map BR).drop f=(X.drop f).map BR:=λf=>by rw [List.map_drop]
 have hlen':∀ f,((X.drop f).map BR).length=X.length-f:=λf=>by rw [List.length_map,List.length_drop]
 have hbad:∀ (f i:Nat) (x:SR) (A':AW) (n:Nat),D5 (X.map BR)=some f->(X.drop f)[i]? =some x->Iw (n0 f) (X.length-f) i (BR x)=false->Grow A A' n->n<=X.length*(M+2)->K (.tuple ⟨[.slice none 0 0,.int .i64 0,.bool false]⟩) A':=by
  intro f i x A' n hlb hx ho hg hnn;refine hk0 ?_ A' (hg.more hnn);unfold Ga;rw [hlb];simp only [hdrop]
  have:FL ((X.drop f).map BR)=false:=all_zip_not (i:=i) (x:=BR x) (by rw [List.getElem?_map,hx];rfl) (by rw [hlen'];exact ho)
  rw [if_neg (by rw [this];simp)]
 have hgood:∀ (f:Nat) (A':AW) (v':Value) (F':List Nat) (n:Nat),D5 (X.map BR)=some f->f<X.length->(∀ j x,j<X.length-f->(X.drop f)[j]? =some x->Iw (n0 f) (X.length-f) j (BR x)=true)->RdE 3 fG A' v' ((X.drop f).map (·.1)) F'->(∀ y∈F',y∈F)->Grow A A' n->n<=X.length*(M+2)->
   K (.tuple ⟨[v',.int .i64 (f:Int),.bool true]⟩) A':=by
  intro f A' v' F' n hlb hfl ho hrd hF' hg hnn;refine hk1 f ?_ (by omega) A' v' F' (hg.more hnn) hrd hF';unfold Ga;rw [hlb];simp only [hdrop]
  have:FL ((X.drop f).map BR)=true:=by
   refine (all_zip _ _).2 λi x hx=>?_;rw [List.getElem?_map] at hx;cases hq:(X.drop f)[i]? with
   |none=>rw [hq] at hx;cases hx
   |some y=>
    rw [hq] at hx;obtain rfl:BR y=x:=by simpa using hx
    rw [hlen'];refine ho i y ?_ hq
    have:=(Gs.1 hq).1
    rw [List.length_drop] at this;exact this
  rw [if_pos this]
 have hrow:∀ (f:Nat) (A':AW) (n:Nat) (Q:Value->AW->Prop),D5 (X.map BR)=some f->f<X.length->Grow A A' n->n<=X.length->
   Aa (AP Tp A' 77 v (some (.int .i64 (f:Int))) none none) λt9=>Aa (Bd Tp A' 77 t9) λt10=>∃ g',g'<f+1+X.length*(M+2)+1/\I g' 2 [.int .i64 (f:Int),t9,t9,t10,.int .i64 0] A':=by
  intro f A' n Q hlb hfl hg hnn;obtain ⟨v',F',h1,h2,h3⟩:=(h.keeps hg.keeps (by simp)).from etG (i:=f) (by rw [List.length_map];omega) (Aas A')
  rw [h1];rw [<- List.map_drop] at h2;have hl2:=h2.len etG (B:=A');rw [List.length_map,List.length_drop] at hl2;simp only [Ab,hl2];have hb2:(X.length-f)*(M+2)<=X.length*(M+2):=Nat.mul_le_mul_right _ (by omega);exact ⟨(X.length-f)*(M+2),by omega,.inr (.inl ⟨rfl,f,0,v',F',rfl,by omega,rfl,hlb,hfl,h2,h3,by omega,hg.more (by omega)⟩)⟩
 refine w37 _ _ (c37 (I:=I) ?_) ?_
 ·rintro g id vals A' d (⟨rfl,f1,rfl,hf1,rfl,hlb,hgr⟩ | ⟨rfl,f,i,v',F',rfl,hi,rfl,hlb,hfl,hrd,hF',hok,hgr⟩ | ⟨rfl,f,i,k,v',F',x,rfl,hi,hkk,rfl,hlb,hfl,hrd,hF',hx,hok,hcond,hck,hgr⟩) hd'
  ·rw [Adl];simp only [L37,Mc,Mn,Li,and_true] at hd';obtain ⟨h0,h5⟩:=hd';have hnx:=hgr.next;have hle:=hgr.le;simp only [h0,h5,DZ,AU,Ab,Ao];refine ⟨λhge=>?_,λhlt=>?_⟩
   ·obtain ⟨f0,rfl⟩:∃ f0,f1=f0+1:=⟨f1-1,by omega⟩;have ef:((f0+1:Nat):Int)-1=(f0:Int):=by omega
    rw [ef];obtain ⟨x,hx⟩:∃ x,X[f0]? =some x:=⟨_,Ge (by omega)⟩;have hx1:(X.map (·.1))[f0]? =some x.1:=by rw [List.getElem?_map,hx];rfl
    obtain ⟨r,o,a1,a2,a3⟩:=((h.keeps hgr.keeps (by simp)).rd etG.len).at etG hx1;rw [a1];simp only [Ab,a3];refine Aee (lo:=lo) ((hX x (List.mem_of_getElem? hx)).keeps hgr.keeps (by simp)) hgr.Ay (by omega) λA2 g2=>?_;have hsn:(X.map BR).take (f0+1)=(X.map BR).take f0++[BR x]:=CB (by rw [List.getElem?_map,hx];rfl);rw [hsn,lastB_snoc,List.length_take,hXm,Nat.min_eq_left (by omega)] at hlb;simp only [Bg,Ab];refine Ag.2 ⟨λhb=>?_,λhb=>?_⟩
    ·have hb:DI (BR x)=false:=by simpa using hb
     rw [if_neg (by rw [hb];simp)] at hlb;rw [Ci,wrap_i64 (by omega) (by omega)];simp only [Ab];exact Ar.2 ⟨f0+X.length*(M+2)+1,by omega,.inl ⟨rfl,f0,rfl,by omega,rfl,hlb,(hgr.trans g2).more (by omega)⟩⟩
    ·have hb:DI (BR x)=true:=by simpa using hb
     rw [if_pos hb] at hlb;refine ⟨λh=>by omega,λ_=>?_⟩;simp only [Ar];exact hrow f0 A2 _ K hlb (by omega) (hgr.trans g2) (by omega)
   ·have hf0:f1=0:=by omega
    subst hf0;refine ⟨λ_=>?_,λh=>by omega⟩;have hlb:D5 (X.map BR)=none:=hlb;rw [((h.keeps hgr.keeps (by simp)).rd etG.len).len etG (B:=A'),List.length_map];simp only [Ab,Bo];by_cases h0:X=[]
    ·subst h0;exact hk1 0 rfl (Nl _) A' _ [] (hgr.more (by simp)) (.nil _ _ _) (by simp)
    ·have hne:((X.length:Int)==0)=false:=by
      have:0<X.length:=List.length_pos_iff.2 h0
      simp;exact h0
     rw [hne];refine hk0 ?_ A' (hgr.more (Nat.le_trans (by omega) (Nat.le_mul_of_pos_right _ (by omega))));unfold Ga;rw [hlb];simp [h0]
  ·rw [Adk];simp only [L37,Mc,Mn,Li,and_true] at hd';obtain ⟨h5,h6,h35,h36,h37⟩:=hd';have hnx:=hgr.next;have hle:=hgr.le;simp only [h5,h6,h35,h36,h37,AU,Ab,Ao];have hb1:X.length*(M+2)=X.length*(M+1)+X.length:=by rw [show M+2=(M+1)+1 from rfl,Nat.mul_succ]
   have hb2:i*(M+1)<=X.length*(M+1):=Nat.mul_le_mul_right _ (by omega);refine ⟨λhlt=>?_,λhge=>?_⟩
   ·have hlt:i<X.length-f:=by omega
    have hb3:(i+1)*(M+1)<=X.length*(M+1):=Nat.mul_le_mul_right _ (by omega);have hb4:(i+1)*(M+1)=i*(M+1)+(M+1):=Nat.succ_mul _ _;obtain ⟨x,hx⟩:∃ x,(X.drop f)[i]? =some x:=⟨_,Ge (by rw [List.length_drop];omega)⟩;have hxm:x∈X:=List.mem_of_mem_drop (List.mem_of_getElem? hx);have hx1:((X.drop f).map (·.1))[i]? =some x.1:=by rw [List.getElem?_map,hx];rfl
    obtain ⟨r,o,a1,a2,a3⟩:=hrd.at etG hx1;obtain ⟨x0,hx0⟩:∃ x,(X.drop f)[0]? =some x:=⟨_,Ge (by rw [List.length_drop];omega)⟩;have hx0m:x0∈X:=List.mem_of_mem_drop (List.mem_of_getElem? hx0);have hx01:((X.drop f).map (·.1))[0]? =some x0.1:=by rw [List.getElem?_map,hx0];rfl
    have hn0:n0 f=x0.1.n:=by
     show ((((X.drop f).map BR).head?).map (·.n)).getD 0=_;rw [List.head?_map,List.head?_eq_getElem?,hx0];rfl
    rw [a1];simp only [Ab,a3];refine Bl zG hgr.Ay (by omega) rfl λA3 m3=>?_;have n3:=m3.next;refine m3.BB.store m3.Ay (by omega) (Uh _ _ _) rfl (by show 0+4<=4;omega) rfl λA4 r4 k4 n4 f4=>?_;have r4:Go.Abs.AS A4 A'.next [.int .i64 (x.1.n:Int),.slice x.1.o x.1.len x.1.cap,.int .i64 (x.1.size:Int),.int .u8 (x.1.st:Int)] 90:=r4;have k4:Aj A3 A4 [A'.next]:=k4;have g4:Grow A' A4 1:=(Grow.made m3 hgr.Ay).own k4 (by simp) (m:=0) (by omega) f4;have hrd4:=hrd.keeps g4.keeps (by simp);have hl4:=hrd4.len etG (B:=A4);rw [List.length_map,List.length_drop] at hl4;obtain ⟨r0,o0,b1,b2,b3⟩:=hrd4.at etG hx01;have b1':Ak Tp 77 v' (.int .i64 0)=some (pP r0 o0):=b1;have hc0:A4.cell? ⟨r0,o0,none⟩=some (.int .i64 (x0.1.n:Int)):=cell_of b2 (k:=0) rfl;have hnx0:=hn x0 hx0m;have hnx1:=hn x hxm;simp only [hl4,Ab,Ci,Bo,Lg,Lf,Qk,Nat.zero_add,D4,JO,ZQ,Ae r4.row,cellOf,AG,EL,Cf,b1',hc0,AY,BC,Bg];rw [wrap_i64 (by omega) (by omega),wrap_i64 (by omega) (by omega)];have bad:Iw (n0 f) (X.length-f) i (BR x)=false->K (.tuple ⟨[.slice none 0 0,.int .i64 0,.bool false]⟩) A4:=λho=>hbad f i x A4 _ hlb hx ho (hgr.trans g4) (by omega);have eseg:Iw (n0 f) (X.length-f) i (BR x)=(decide (x.1.n=n0 f+i)&&((decide (i+1=X.length-f) || decide (x.1.st=0))&&(decide (x.1.st≠2)&&(x.2.map toR).zipIdx.all (okC i)))):=rfl;refine Bb.2 ⟨λhne=>bad ?_,λheq=>?_⟩
    ·rw [eseg,decide_eq_false (by omega),Bool.false_and]
    have heq:x.1.n=n0 f+i:=by omega
    have go:(decide (i+1=X.length-f) || decide (x.1.st=0))=true->x.1.st≠2->∃ g',g'<(X.length-f-i)*(M+2)/\I g' 4 [.int .i64 (f:Int),v',.int .i64 (i:Int),v',.int .i64 ((X.length-f:Nat):Int),.int .i64 (i:Int),.slice x.1.o x.1.len x.1.cap,.int .i64 (x.1.len:Int),.int .i64 0] A4:=by
     intro h1 h2;obtain ⟨G,hG1,hG2⟩:=hX x hxm;have hlx:x.1.len=x.2.length:=by
      obtain ⟨o',c',hs⟩:=hG1.slice;simp only [Value.slice.injEq] at hs;exact hs.2.1
     rw [hlx];have hMx:=hM x hxm;have e1:(X.length-f-i)*(M+2)=(X.length-f-(i+1))*(M+2)+(M+2):=by rw [<- Nat.succ_mul];congr 1;omega
     refine ⟨(X.length-f-(i+1))*(M+2)+(x.2.length-0)+1,by omega,.inr (.inr ⟨rfl,f,i,0,v',F',x,(by rw [hlx];rfl),hlt,by omega,rfl,hlb,hfl,hrd4,hF',hx,hok,?_,by omega,(hgr.trans g4).more (by omega)⟩)⟩;rw [decide_eq_true heq,h1,decide_eq_true h2];rfl
    have hs2:∀ (hor:(decide (i+1=X.length-f) || decide (x.1.st=0))=true),Ah (.bool ((x.1.st:Int)==2)) (K (.tuple ⟨[.slice none 0 0,.int .i64 0,.bool false]⟩) A4) (Aa (Bd Tp A4 22 (.slice x.1.o x.1.len x.1.cap)) λt24=>Bm (T37 4) (T37 4) (∃ g',g'<(X.length-f-i)*(M+2)/\I g' 4 [.int .i64 (f:Int),v',.int .i64 (i:Int),v',.int .i64 ((X.length-f:Nat):Int),.int .i64 (i:Int),.slice x.1.o x.1.len x.1.cap,t24,.int .i64 0] A4)):=by
     intro hor;refine Be.2 ⟨λh2=>bad ?_,λh2=>?_⟩
     ·rw [eseg,decide_eq_false (show ¬ x.1.st≠2 by omega),Bool.false_and,Bool.and_false,Bool.and_false]
     ·rw [Xo];simp only [Ab];exact Ar.2 (go hor (by omega))
    refine Ag.2 ⟨λhl=>?_,λhl=>?_⟩
    ·have hl:i+1≠X.length-f:=by
      intro h0
      have:((i:Int)==((X.length-f:Nat):Int)-1)=true:=by rw [beq_iff_eq];omega
      rw [this] at hl;simp at hl
     refine Bb.2 ⟨λh0=>bad ?_,λh0=>?_⟩
     ·rw [eseg,decide_eq_false hl,decide_eq_false (show ¬ x.1.st=0 by omega),Bool.or_self,Bool.false_and,Bool.and_false]
     ·exact hs2 (by rw [decide_eq_true (show x.1.st=0 by omega),Bool.or_true])
    ·have hl:i+1=X.length-f:=by
      have:((i:Int)==((X.length-f:Nat):Int)-1)=true:=by simpa using hl
      rw [beq_iff_eq] at this;omega
     exact hs2 (by rw [decide_eq_true hl,Bool.true_or])
   ·have hi':i=X.length-f:=by omega
    subst hi';exact hgood f A' v' F' _ hlb hfl hok hrd hF' hgr (by omega)
  ·rw [Adj];simp only [L37,Mc,Mn,Li,and_true] at hd';obtain ⟨h5,h6,h7,h35,h36,h37,h71,h72,h73⟩:=hd';have hnx:=hgr.next;have hle:=hgr.le;have hxm:x∈X:=List.mem_of_mem_drop (List.mem_of_getElem? hx);have hMx:=hM x hxm;have hb1:X.length*(M+2)=X.length*(M+1)+X.length:=by rw [show M+2=(M+1)+1 from rfl,Nat.mul_succ]
   have hb3:(i+1)*(M+1)<=X.length*(M+1):=Nat.mul_le_mul_right _ (by omega);have hb4:(i+1)*(M+1)=i*(M+1)+(M+1):=Nat.succ_mul _ _;have eseg:Iw (n0 f) (X.length-f) i (BR x)=(decide (x.1.n=n0 f+i)&&((decide (i+1=X.length-f) || decide (x.1.st=0))&&(decide (x.1.st≠2)&&(x.2.map toR).zipIdx.all (okC i)))):=rfl;simp only [h5,h6,h7,h35,h36,h37,h71,h72,h73,AU,Ab,Ao];refine ⟨λhlt=>?_,λhge=>?_⟩
   ·have hlt:k<x.2.length:=by omega
    obtain ⟨c,hc⟩:∃ c,x.2[k]? =some c:=⟨_,Ge hlt⟩;obtain ⟨G,hG1,hG2⟩:=(hX x hxm).keeps hgr.keeps (by simp);obtain ⟨r,o,a1,a2,a3⟩:=hG1.at etR hc;rw [a1];simp only [Ab,a3];refine Bl zR hgr.Ay (by omega) rfl λA3 m3=>?_;have n3:=m3.next;refine m3.BB.store m3.Ay (by omega) (O4 _ _ _) rfl (by show 0+2<=2;omega) rfl λA4 r4 k4 n4 f4=>?_;have r4:Go.Abs.AS A4 A'.next [.int .u8 c.1.toNat,.string c.2] 35:=r4;have k4:Aj A3 A4 [A'.next]:=k4;have g4:Grow A' A4 1:=(Grow.made m3 hgr.Ay).own k4 (by simp) (m:=0) (by omega) f4;have hcl:(x.2.map toR)[k]? =some (toR c):=by rw [List.getElem?_map,hc];rfl
    have next:okC i (toR c,k)=true->∃ g',g'<(X.length-f-(i+1))*(M+2)+(x.2.length-k)+1/\I g' 4 [.int .i64 (f:Int),v',.int .i64 (i:Int),v',.int .i64 ((X.length-f:Nat):Int),.int .i64 (i:Int),.slice x.1.o x.1.len x.1.cap,.int .i64 (x.2.length:Int),.int .i64 ((k:Int)+1)] A4:=by
     intro ho;refine ⟨(X.length-f-(i+1))*(M+2)+(x.2.length-(k+1))+1,by omega,.inr (.inr ⟨rfl,f,i,k+1,v',F',x,rfl,hi,by omega,rfl,hlb,hfl,hrd.keeps g4.keeps (by simp),hF',hx,hok,hcond,λm c' hm hc'=>?_,(hgr.trans g4).more (by omega)⟩)⟩;by_cases hmk:m<k
     ·exact hck m c' hmk hc'
     ·obtain rfl:m=k:=by omega
      rw [hc] at hc';obtain rfl:c=c':=by simpa using hc'
      exact ho
    simp only [E5,Kg,Ae r4.row,cellOf,AG,Cf,Ab,Bo,AY,BN];rw [wrap_i64 (n:=(i:Int)+(k:Int)) (by omega) (by omega),wrap_i64 (n:=(k:Int)+1) (by omega) (by omega)];refine Be.2 ⟨λhz=>?_,λhz=>?_⟩
    ·have hz0:((toR c).1==0)=true:=by
      rw [beq_iff_eq];exact UInt8.toNat_inj.1 (by show c.1.toNat=0;omega)
     simp only [Ao];refine ⟨λhp=>?_,λhp=>?_⟩
     ·refine hbad f i x A4 _ hlb hx ?_ (hgr.trans g4) (by omega);have hno:okC i (toR c,k)=false:=by
       unfold okC;simp only [hz0,Bool.not_true,Bool.false_or];exact decide_eq_false (by omega)
      rw [eseg,all_zip_not hcl hno,Bool.and_false,Bool.and_false,Bool.and_false]
     ·refine Ar.2 (next ?_);unfold okC;simp only [hz0,Bool.not_true,Bool.false_or];exact decide_eq_true (by omega)
    ·refine Ar.2 (next ?_);have hz0:((toR c).1==0)=false:=by
      rw [beq_eq_false_iff_ne];intro h0
      have:c.1=0:=h0
      rw [this] at hz;exact hz rfl
     unfold okC;simp only [hz0,Bool.not_false,Bool.true_or]
   ·have hk':k=x.2.length:=by omega
    subst hk';rw [AY,wrap_i64 (by omega) (by omega)];simp only [Ab];have e1:(X.length-f-(i+1))*(M+2)<(X.length-f-(i+1))*(M+2)+(x.2.length-x.2.length)+1:=by omega
    refine Ar.2 ⟨(X.length-f-(i+1))*(M+2),e1,.inr (.inl ⟨rfl,f,i+1,v',F',rfl,by omega,rfl,hlb,hfl,hrd,hF',λj y hj hy=>?_,hgr.more (by omega)⟩)⟩;by_cases hji:j<i
    ·exact hok j y hji hy
    ·obtain rfl:j=i:=by omega
     rw [hx] at hy;obtain rfl:x=y:=by simpa using hy
     have hall:(x.2.map toR).zipIdx.all (okC j)=true:=(all_zip _ _).2 λm c hm=>by
      rw [List.getElem?_map] at hm;cases hq:x.2[m]? with
      |none=>rw [hq] at hm;cases hm
      |some c'=>
       rw [hq] at hm;obtain rfl:toR c'=c:=by simpa using hm
       exact hck m c' (Gs.1 hq).1 hq
     rw [eseg,hall,Bool.and_true];exact hcond
 ·rw [e37];rw [(h.rd etG.len).len etG (B:=A),List.length_map];simp only [Ab,Ci];rw [wrap_i64 (by omega) (by omega)];refine Ar.2 ⟨X.length+X.length*(M+2)+1,.inl ⟨rfl,X.length,rfl,Nl _,rfl,?_,(Grow.refl hf).more (by omega)⟩⟩;rw [List.take_of_length_le (by omega)]
end
end Go.Proofs.YtbchfeibhoobeaaGreatDoor
namespace Go.Jr
variable {k:Nat} {s:DS}
theorem KT(D:Fls)(k:List UInt8)(v:Fil):(Cm D k v).length<=D.length+1:=by
 induction D with
 |nil=>simp [Cm]
 |cons e r ih=>
  unfold Cm;split
  ·simp
  ·simp;omega
theorem GI{D:Fls}{k:List UInt8}{v:Fil}{e:List UInt8 × Fil}(h:e∈Cm D k v):e=(k,v)\/e∈D:=by
 induction D with
 |nil=>left;simpa [Cm] using h
 |cons x r ih=>
  unfold Cm at h;split at h
  ·rcases Mk.1 h with h | h
   ·exact .inl h
   ·exact .inr (List.mem_cons_of_mem _ h)
  ·rcases Mk.1 h with h | h
   ·exact .inr (by rw [h];exact List.mem_cons_self)
   ·rcases ih h with h | h
    ·exact .inl h
    ·exact .inr (List.mem_cons_of_mem _ h)
theorem Lw(D:Fls)(k:List UInt8):(Cu D k).length<=D.length:=List.length_filter_le _ _
theorem Si{D:Fls}{k:List UInt8}{e:List UInt8 × Fil}(h:e∈Cu D k):e∈D:=(List.mem_filter.1 h).1
theorem EI{D:Fls}{k:List UInt8}{f:Fil}(h:AB D k=some f):(k,f)∈D:=by
 unfold AB at h;cases hq:D.find? λe=>e.1==k with
 |none=>rw [hq] at h;cases h
 |some e=>
  rw [hq] at h;have h1:=List.find?_some hq;have h2:=List.mem_of_find?_eq_some hq;obtain ⟨a,b⟩:=e;obtain rfl:a=k:=by simpa using h1
  obtain rfl:b=f:=by simpa using h
  exact h2
structure OkS (k:Nat) (s:DS):Prop where
 few:s.D.length<=k
 len:∀ f∈s.D,f.2.1.length<=1048576
 safe:∀ f∈s.D,f.2.2<=f.2.1.length
 r0:0<=s.room
 r1:s.room<9223372036854775808
 f1:s.B9<9223372036854775808
theorem OkS.more{n:Nat}(h:OkS k s)(hn:k<=n):OkS n s:=⟨Nat.le_trans h.few hn,h.len,h.safe,h.r0,h.r1,h.f1⟩
theorem LI{g:Fls->Fls}{though:Bool}(h:OkS k s)(hl:(g s.D).length<=k+1)(hg:∀ e∈g s.D,e.2.1.length<=1048576/\e.2.2<=e.2.1.length):OkS (k+1) (C5 s g though).1:=by
 have h1:∀ f d,f<9223372036854775808->OkS (k+1) ⟨s.D,s.room,f,d⟩:=λf d hf=>⟨Nat.le_succ_of_le h.few,h.len,h.safe,h.r0,h.r1,hf⟩;have h2:∀ f d,f<9223372036854775808->OkS (k+1) ⟨g s.D,s.room,f,d⟩:=λf d hf=>⟨hl,λe he=>(hg e he).1,λe he=>(hg e he).2,h.r0,h.r1,hf⟩
 have:=h.f1
 unfold C5;split
 ·split
  ·cases though
   ·exact h1 _ _ (by omega)
   ·exact h2 _ _ (by omega)
  ·exact h2 _ _ (by omega)
 ·exact h2 _ _ (by omega)
theorem VJ(h:OkS k s)(n:List UInt8):(fileOf s.D n).1.length<=1048576/\(fileOf s.D n).2<=(fileOf s.D n).1.length:=by
 unfold fileOf;cases hq:AB s.D n with
 |none=>exact ⟨Nat.zero_le _,Nl _⟩
 |some f=>have:=EI hq;exact ⟨h.len _ this,h.safe _ this⟩
theorem Og(h:OkS k s)(n b:List UInt8):OkS (k+1) (BG s n b).1:=by
 unfold BG;split
 ·exact h.more (by omega)
 ·split
  ·exact h.more (by omega)
  ·split
   ·exact h.more (by omega)
   ·split
    ·exact h.more (by omega)
    ·refine LI h (Nat.le_trans (KT _ _ _) (by have:=h.few;omega)) λe he=>?_;rcases GI he with rfl | he
     ·have:=VJ h n
      refine ⟨?_,?_⟩
      ·show ((fileOf s.D n).1++b).length<=_;rw [Lq];omega
      ·show (fileOf s.D n).2<=((fileOf s.D n).1++b).length;rw [Lq];omega
     ·exact ⟨h.len _ he,h.safe _ he⟩
theorem KA(h:OkS k s)(n:List UInt8):OkS (k+1) (Bn s n).1:=by
 unfold Bn;split
 ·exact h.more (by omega)
 ·split
  ·exact h.more (by omega)
  ·rename_i f hq;have hm:=EI hq;refine LI h (Nat.le_trans (KT _ _ _) (by have:=h.few;omega)) λe he=>?_;rcases GI he with rfl | he
   ·exact ⟨show f.1.length<=_ from h.len (n,f) hm,Nl _⟩
   ·exact ⟨h.len _ he,h.safe _ he⟩
theorem ND(h:OkS k s)(n t:List UInt8):OkS (k+1) (CR s n t).1:=by
 unfold CR;split
 ·exact h.more (by omega)
 ·split
  ·exact h.more (by omega)
  ·split
   ·exact h.more (by omega)
   ·rename_i f hq;have hm:=EI hq;refine LI h (Nat.le_trans (KT _ _ _) (by have:=h.few;have:=Lw s.D n;omega)) λe he=>?_;rcases GI he with rfl | he
    ·exact ⟨show f.1.length<=_ from h.len (n,f) hm,show f.2<=f.1.length from h.safe (n,f) hm⟩
    ·have he:=Si he;exact ⟨h.len _ he,h.safe _ he⟩
theorem H6(h:OkS k s)(n:List UInt8):OkS (k+1) (AQ s n).1:=by
 unfold AQ;split
 ·exact h.more (by omega)
 ·split
  ·exact h.more (by omega)
  ·refine LI h (Nat.le_trans (Lw _ _) (by have:=h.few;omega)) λe he=>?_;have he:=Si he;exact ⟨h.len _ he,h.safe _ he⟩
theorem Zl(h:OkS k s)(n:List UInt8)(c:Int):OkS (k+1) (FF s n c).1:=by
 unfold FF;split
 ·exact h.more (by omega)
 ·split
  ·exact h.more (by omega)
  ·split
   ·exact h.more (by omega)
   ·rename_i f hq;have hm:=EI hq;split
    ·exact h.more (by omega)
    ·refine LI h (Nat.le_trans (KT _ _ _) (by have:=h.few;omega)) λe he=>?_;rcases GI he with rfl | he
     ·have h1:=h.len _ hm;have h2:=h.safe _ hm;refine ⟨?_,?_⟩
      ·show (f.1.take c.toNat).length<=_;rw [List.length_take];simp only at h1;omega
      ·show min f.2 c.toNat<=(f.1.take c.toNat).length;rw [List.length_take];simp only at h2;omega
     ·exact ⟨h.len _ he,h.safe _ he⟩
theorem Ac.Aau(h:OkS k s)(a:Ac):OkS (k+1) (a.run s).1:=by
 cases a with
 |rmF=>exact H6 h _
 |ap0=>exact Og h _ _
 |syF=>exact KA h _
 |rn1=>exact ND h _ _
 |rm n=>exact H6 h _
 |ct n c=>exact Zl h _ _
 |sy n=>exact KA h _
def Ac.num:Ac->Option Nat
 |.rn1=>some 1
 |.rm n=>some n
 |.ct n _=>some n
 |.sy n=>some n
 |_=>none
end Go.Jr
namespace Go.Proofs.YtbchfeibhoobeaaGreatDoor
open Go.Abs Go.Jr
variable {A:AW} {lo q k:Nat} {v:Value} {Fb:List Nat} {s:DS}
abbrev ptr(q:Nat):Value:=.pointer (some ⟨q,0,none⟩)
def AcV(A:AW)(lo:Nat)(Fb:List Nat)(q:Nat):Ac->Value->Prop
 |.rmF,v=>v=.func (.func 39) ⟨[]⟩ ⟨[ptr q]⟩
 |.ap0,v=>v=.func (.func 42) ⟨[]⟩ ⟨[ptr q]⟩
 |.syF,v=>v=.func (.func 43) ⟨[]⟩ ⟨[ptr q]⟩
 |.rn1,v=>v=.func (.func 45) ⟨[]⟩ ⟨[ptr q]⟩
 |.rm n,v=>∃ p x,v=.func (.func 48) ⟨[]⟩ ⟨[ptr q,ptr p]⟩/\Go.Abs.AS A p (fG x) 90/\x.n=n/\lo<p/\p∉Fb
 |.ct n k,v=>∃ p x,v=.func (.func 49) ⟨[]⟩ ⟨[ptr q,ptr p]⟩/\Go.Abs.AS A p (fG x) 90/\x.n=n/\x.size=k/\lo<p/\p∉Fb
 |.sy n,v=>∃ p x,v=.func (.func 51) ⟨[]⟩ ⟨[ptr q,ptr p]⟩/\Go.Abs.AS A p (fG x) 90/\x.n=n/\lo<p/\p∉Fb
theorem AcV.keeps{A':AW}{a:Ac}{S Fb':List Nat}(h:AcV A lo Fb q a v)(k:Aj A A' S)(hS:∀ y∈S,y<=lo\/y∈Fb\/A.next<=y)(hF:∀ y∈Fb',y∈Fb\/A.next<=y):AcV A' lo Fb' q a v:=by
 have key:∀ p x,Go.Abs.AS A p (fG x) 90->lo<p->p∉Fb->Go.Abs.AS A' p (fG x) 90/\p∉Fb':=λp x h1 h2 h3=>⟨h1.keeps k λhm=>(hS p hm).elim (λh=>by omega) λh=>h.elim h3 λh=>by have:=h1.lt;omega,λhm=>(hF p hm).elim h3 λh=>by have:=h1.lt;omega⟩;cases a with
 |rmF=>exact h
 |ap0=>exact h
 |syF=>exact h
 |rn1=>exact h
 |rm n=>obtain ⟨p,x,h1,h2,h3,h4,h5⟩:=h;exact ⟨p,x,h1,(key p x h2 h4 h5).1,h3,h4,(key p x h2 h4 h5).2⟩
 |ct n k=>obtain ⟨p,x,h1,h2,h3,h4,h5,h6⟩:=h;exact ⟨p,x,h1,(key p x h2 h5 h6).1,h3,h4,h5,(key p x h2 h5 h6).2⟩
 |sy n=>obtain ⟨p,x,h1,h2,h3,h4,h5⟩:=h;exact ⟨p,x,h1,(key p x h2 h4 h5).1,h3,h4,(key p x h2 h4 h5).2⟩
theorem AdK(A:AW)(a:Value):Fi Tp A (.func (.func 39) ⟨[]⟩ ⟨[a]⟩) []=.ok (.enter 39 [a]) A:=by kernel_rfl
theorem AdJ(A:AW)(a:Value):Fi Tp A (.func (.func 42) ⟨[]⟩ ⟨[a]⟩) []=.ok (.enter 42 [a]) A:=by kernel_rfl
theorem AdI(A:AW)(a:Value):Fi Tp A (.func (.func 43) ⟨[]⟩ ⟨[a]⟩) []=.ok (.enter 43 [a]) A:=by kernel_rfl
theorem AdH(A:AW)(a:Value):Fi Tp A (.func (.func 45) ⟨[]⟩ ⟨[a]⟩) []=.ok (.enter 45 [a]) A:=by kernel_rfl
theorem AdG(A:AW)(a b:Value):Fi Tp A (.func (.func 48) ⟨[]⟩ ⟨[a,b]⟩) []=.ok (.enter 48 [a,b]) A:=by kernel_rfl
theorem AdF(A:AW)(a b:Value):Fi Tp A (.func (.func 49) ⟨[]⟩ ⟨[a,b]⟩) []=.ok (.enter 49 [a,b]) A:=by kernel_rfl
theorem AdE(A:AW)(a b:Value):Fi Tp A (.func (.func 51) ⟨[]⟩ ⟨[a,b]⟩) []=.ok (.enter 51 [a,b]) A:=by kernel_rfl
theorem _root_.Go.Jr.OkS.d(h:OkS k s)(hk:k<10000):OkD s:=⟨Nat.lt_of_le_of_lt h.few hk,h.len,h.safe⟩
theorem _root_.Go.Jr.OkS.n(h:OkS k s):OkN s:=⟨h.r0,h.r1,h.f1⟩
section
variable {W0:World} {m0:Inj Tp}
theorem Aav {d mp:Nat} {a:Ac} {K:Value->AW->Prop} (h:Dk A d mp s) (hg:Glb A) (hq:Go.Abs.AS A q [ptr d] 27) (ha:AcV A lo Fb q a v) (hok:OkS k s) (hk9:k<9000) (hf:Aw A) (hA:A.next+40000<Am)
  (hnm:∀ n,a.num=some n->EO W0 m0 n) (h0:0≠d/\0≠mp)
  (hk:∀ A',Dk A' d mp (a.run s).1->Aj A A' [d,mp]->A'.next<=A.next+40+k->Aw A'->K (.int .i64 (a.run s).2) A'):anW Tp An W0 m0 (Fi Tp A v []) K:=by
 have hfew:=hok.few;cases a with
 |rmF=>
  obtain rfl:=ha;refine Hp (AdK A _) rfl (w39 _ _ BF ?_);rw [e39];simp only [ptr,Cx,Ae hq.row,cellOf,Ax,Cf,Ab];refine YD (n:=⟨⟨[106,46,110,101,119]⟩⟩) h hok.n hf (by omega) λA' hd kk nn ff=>?_;exact hk A' hd kk (by omega) ff
 |ap0=>
  obtain rfl:=ha;refine Hp (AdJ A _) rfl (w42 _ _ BF ?_);rw [e42];simp only [ptr,Cx,Ae hq.row,cellOf,Ax,Cf,Ab];refine Z2 (s:=⟨⟨[]⟩⟩) hg hf (by simp) (by omega) λA1 g1=>?_;have n1:=g1.next;simp only [Ae (hq.keeps g1.keeps (by simp)).row,cellOf,Ax,Cf,Ab,AR];refine Wk (n:=⟨⟨[106,46,110,101,119]⟩⟩) (b:=⟨⟨Gd⟩⟩) (h.keeps g1.keeps (by simp) (by simp)) (hok.d (by omega)) hok.n (by decide) g1.Ay (by omega) λA' hd kk nn ff=>?_;exact hk A' hd ((g1.keeps.more (by simp)).trans kk (by simp)) (by omega) ff
 |syF=>
  obtain rfl:=ha;refine Hp (AdI A _) rfl (w43 _ _ BF ?_);rw [e43];simp only [ptr,Cx,Ae hq.row,cellOf,Ax,Cf,Ab];refine Wj (n:=⟨⟨[106,46,110,101,119]⟩⟩) h hok.n hf (by omega) λA' hd kk nn ff=>?_;exact hk A' hd kk (by omega) ff
 |rn1=>
  obtain rfl:=ha;refine Hp (AdH A _) rfl (w45 _ _ BF ?_);rw [e45];simp only [ptr,Cx,Ae hq.row,cellOf,Ax,Cf,Ab];refine Hb (by decide) (hnm 1 rfl) rfl ?_;simp only [Ae hq.row,cellOf,Ax,Cf,Ab,AR];refine AbH (n:=⟨⟨[106,46,110,101,119]⟩⟩) (t:=⟨⟨Jr.nm 1⟩⟩) h hok.n hf (by omega) λA' hd kk nn ff=>?_;exact hk A' hd kk (by omega) ff
 |rm n=>
  obtain ⟨p,x,rfl,hp,rfl,-⟩:=ha;have hp':Go.Abs.AS A p [.int .i64 (x.n:Int),.slice x.o x.len x.cap,.int .i64 (x.size:Int),.int .u8 (x.st:Int)] 90:=hp;refine Hp (AdG A _ _) rfl (w48 _ _ _ BF ?_);rw [e48];simp only [ptr,Cx,D4,Lg,Ae hq.row,Ae hp'.row,cellOf,Ax,AG,Cf,Ab];refine Hb (by decide) (hnm _ rfl) rfl ?_;simp only [Ae hq.row,cellOf,Ax,Cf,Ab,AR];refine YD (n:=⟨⟨Jr.nm x.n⟩⟩) h hok.n hf (by omega) λA' hd kk nn ff=>?_;exact hk A' hd kk (by omega) ff
 |ct n c=>
  obtain ⟨p,x,rfl,hp,rfl,rfl,-⟩:=ha;have hp':Go.Abs.AS A p [.int .i64 (x.n:Int),.slice x.o x.len x.cap,.int .i64 (x.size:Int),.int .u8 (x.st:Int)] 90:=hp;refine Hp (AdF A _ _) rfl (w49 _ _ _ BF ?_);rw [e49];simp only [ptr,Cx,D4,Lg,Ql,Nat.zero_add,Ae hq.row,Ae hp'.row,cellOf,Ax,AG,EL,Cf,Ab];refine Hb (by decide) (hnm _ rfl) rfl ?_;simp only [Ae hq.row,Ae hp'.row,cellOf,Ax,AG,EL,Cf,Ab,AR];refine Aet (n:=⟨⟨Jr.nm x.n⟩⟩) (k:=x.size) h hok.n hf (by omega) λA' hd kk nn ff=>?_;exact hk A' hd kk (by omega) ff
 |sy n=>
  obtain ⟨p,x,rfl,hp,rfl,-⟩:=ha;have hp':Go.Abs.AS A p [.int .i64 (x.n:Int),.slice x.o x.len x.cap,.int .i64 (x.size:Int),.int .u8 (x.st:Int)] 90:=hp;refine Hp (AdE A _ _) rfl (w51 _ _ _ BF ?_);rw [e51];simp only [ptr,Cx,D4,Lg,Ae hq.row,Ae hp'.row,cellOf,Ax,AG,Cf,Ab];refine Hb (by decide) (hnm _ rfl) rfl ?_;simp only [Ae hq.row,cellOf,Ax,Cf,Ab,AR];refine Wj (n:=⟨⟨Jr.nm x.n⟩⟩) h hok.n hf (by omega) λA' hd kk nn ff=>?_;exact hk A' hd kk (by omega) ff
end
end Go.Proofs.YtbchfeibhoobeaaGreatDoor
namespace Go.Proofs.YtbchfeibhoobeaaGreatDoor
open Go.Abs Go.Jr
variable {A A':AW} {e:TypeId} {hi t0 d:Nat} {vr va:Value} {S Fa Fb Fb':List Nat}
structure FV where
 v:Value
 one:AT v=true
 noT:isTuple v=false
def fV(x:FV):List Value:=[x.v]
theorem esF:ES Tp 84 50 fV where
 us:=by kernel_rfl
 sz:=by kernel_rfl
 by':=⟨8,by kernel_rfl,by decide⟩
 hz:=by kernel_rfl
 ld:=AcX
 len:=λ_=>rfl
 one:=λx=>by show (AT x.v&&true)=true;rw [x.one];rfl
 noT:=λx=>by show (!isTuple x.v&&true)=true;rw [x.noT];rfl
def f1V(g p:Nat):FV:=⟨.func (.func g) ⟨[]⟩ ⟨[ptr p]⟩,rfl,rfl⟩
def f2V(g p q:Nat):FV:=⟨.func (.func g) ⟨[]⟩ ⟨[ptr p,ptr q]⟩,rfl,rfl⟩
theorem Abe(A:AW)(g p:Nat):Av Tp A 84 1 [(0,(f1V g p).v)]=(match A.newRow [(f1V g p).v] 50 with | some (a,w')=>.ok (.slice (some a) 1 1) w' | none=>.fail "buildSlice new"):=by kernel_rfl
theorem X5(A:AW)(g p q:Nat):Av Tp A 84 1 [(0,(f2V g p q).v)]=(match A.newRow [(f2V g p q).v] 50 with | some (a,w')=>.ok (.slice (some a) 1 1) w' | none=>.fail "buildSlice new"):=by kernel_rfl
theorem Abd(A:AW)(g h i p:Nat):Av Tp A 84 3 [(0,(f1V g p).v),(1,(f1V h p).v),(2,(f1V i p).v)]=(match A.newRow [(f1V g p).v,(f1V h p).v,(f1V i p).v] 50 with | some (a,w')=>.ok (.slice (some a) 3 3) w' | none=>.fail "buildSlice new"):=by kernel_rfl
theorem X6(A:AW)(n:Int):Av Tp A 46 1 [(0,.int .i64 n)]=(match A.newRow [.int .i64 n] 3 with | some (a,w')=>.ok (.slice (some a) 1 1) w' | none=>.fail "buildSlice new"):=by kernel_rfl
theorem Io {cs:List Value} {t n:Nat} {parts:List (Nat × Value)} {K:Value->AW->Prop} (hb:Av Tp A t n parts=(match A.newRow cs e with | some (a,w')=>.ok (.slice (some a) n n) w' | none=>.fail "buildSlice new")) (hone:cs.all AT=true) (hf:Aw A) (h:A.next<Am)
  (hk:∀ A',Made A A' cs e->K (.slice (some ⟨A.next,0,none⟩) n n) A'):Au (Av Tp A t n parts) K:=by
 rw [hb];unfold AW.newRow AW.new;simp only [hone,Ct,AF.2 h];exact Ba.2 (hk (A.push (.row cs e A.next 0 false)) ⟨AW.B7 _ h,rfl,by rw [AW.BP _ h,if_pos rfl],hf.alone (Nl _),hf.push _ h⟩)
theorem Zd(n:Int):BQ Tp (Co (Tm.fill ⟨1,.nil⟩ 0 [.int .i64 n])) (.buildSlice 46 1 #[(0,.tmp 0)])=some (.slice [.int .i64 n] 3 1):=by kernel_rfl
theorem AgF(d:Nat)(n:Int):Bp Tp 83 [(0,ptr d),(1,.int .i64 n)]=some (.agg ⟨[ptr d,.int .i64 n,.string ⟨⟨[]⟩⟩,.slice none 0 0,.slice none 0 0,.int .i64 0,.bool false,.bool false]⟩):=by kernel_rfl
theorem Zx{ts te:TypeId}{β:Type}{f:β->List Value}(T:ES Tp ts te f){q c:Nat}{l:List β}(hq:Go.Abs.AS A q (flat f l) e):B3 Tp A te ts 1 (.slice (some ⟨q,0,none⟩) l.length c)=some (l.length,flat f l):=by
 unfold B3;simp only [T.us];show Dj A 1 (.slice (some ⟨q,0,none⟩) l.length c)=_;unfold Dj
 have:=Dc (flat f l) [] (R0 T.noT l)
 rw [List.append_nil,CW T.len,Nat.mul_one] at this;simp only [Nat.mul_one,Cg hq.row,List.drop_zero,this]
theorem V9{v:Value}{p:RV}{l:List RV}{F:List Nat}(h:BO 35 1 fR A v (p::l) F):∃ a n c,AP Tp A 22 v (some (.int .i64 1)) none none=some (.slice (some a) n c)/\RdE 1 fR A (.slice (some a) n c) l F:=by
 rcases h with ⟨rfl,h2,_,rfl⟩ | ⟨b,g,rfl,h2,rfl⟩
 ·simp at h2
 ·have hs:=Mi (P:=Tp) etR (m:=(p::l).length) (i:=1) h2.row (by simp);refine ⟨_,_,_,hs,.inr ⟨b,1*(1+1),Bx+((p::l).length-1),flat fR (p::l),35,g,0,false,by simp,h2.row,h2.ltf,rfl,λi r hi=>?_⟩⟩
  ·rw [<- Nat.add_mul];exact Eb etR.len (p::l) (1+i) r (by rw [Nat.add_comm,List.getElem?_cons_succ];exact hi)
structure QM (n0:Nat) (A:AW) (hi t0 d:Nat) (X:List SR) (vr:Value) (f:Nat):Prop where
 t0r:Go.Abs.AS A t0 [ptr d] 27
 t0l:n0<=t0/\t0<hi
 rr:∃ F,RdE 3 fG A vr ((X.drop f).map (·.1)) F/\∀ y∈F,n0<=y/\y<hi
 sv:∀ x∈X,∃ F,RdE 1 fR A (.slice x.1.o x.1.len x.1.cap) x.2 F/\∀ y∈F,n0<=y/\y<hi
theorem QM.keeps{n0:Nat}{X:List SR}{f:Nat}(h:QM n0 A hi t0 d X vr f)(k:Aj A A' S)(hS:∀ y∈S,y<n0\/hi<=y):QM n0 A' hi t0 d X vr f:=by
 have key:∀ F:List Nat,(∀ y∈F,n0<=y/\y<hi)->∀ y∈F,y∉S:=λF hF y hy hm=>by have:=hF y hy;rcases hS y hm with h | h<;>omega
 refine ⟨h.t0r.keeps k λhm=>by have:=h.t0l;rcases hS _ hm with h | h<;>omega,h.t0l,?_,λx hx=>?_⟩
 ·obtain ⟨F,h1,h2⟩:=h.rr;exact ⟨F,h1.keeps k (key F h2),h2⟩
 ·obtain ⟨F,h1,h2⟩:=h.sv x hx;exact ⟨F,h1.keeps k (key F h2),h2⟩
structure G3 (A:AW) (hi:Nat) (Fb:List Nat) (t0:Nat) (va:Value) (l:List Ac) (vs:List FV) (Fa:List Nat):Prop where
 own:C3 50 0 fV A va vs Fa
 len:l.length=vs.length
 act:∀ (i:Nat) a v,l[i]? =some a->vs[i]? =some v->AcV A hi Fb t0 a v.v
theorem G3.keeps{l:List Ac}{vs:List FV}(h:G3 A hi Fb t0 va l vs Fa)(k:Aj A A' S)(h1:∀ y∈Fa,y∉S)(h2:∀ y∈S,y<=hi\/y∈Fb\/A.next<=y)(h3:∀ y∈Fb',y∈Fb\/A.next<=y):G3 A' hi Fb' t0 va l vs Fa:=
 ⟨h.own.keeps k h1,h.len,λi a v ha hv=>(h.act i a v ha hv).keeps k h2 h3⟩
theorem G3.nil(A:AW)(hi t0:Nat)(Fb:List Nat):G3 A hi Fb t0 (.slice none 0 0) [] [] []:=⟨C3.nil A,rfl,λi a v h=>by simp at h⟩
theorem G3.app {v':Value} {l:List Ac} {vs:List FV} {F':List Nat} (h:G3 A hi Fb t0 va l vs Fa) (k:Aj A A' S) (hS:∀ y∈S,y<=hi\/y∈Fb\/A.next<=y) (hF:∀ y∈Fb',y∈Fb\/A.next<=y) {l2:List Ac} {vs2:List FV} (hl:l2.length=vs2.length)
  (h2:∀ (i:Nat) a v,l2[i]? =some a->vs2[i]? =some v->AcV A' hi Fb' t0 a v.v) (ho:C3 50 0 fV A' v' (vs++vs2) F'):G3 A' hi Fb' t0 v' (l++l2) (vs++vs2) F':=by
 refine ⟨ho,by rw [Lq,Lq,h.len,hl],λi a v ha hv=>?_⟩;by_cases hi':i<l.length
 ·rw [List.getElem?_append_left hi'] at ha;rw [List.getElem?_append_left (by rw [<- h.len];exact hi')] at hv;exact (h.act i a v ha hv).keeps k hS hF
 ·rw [List.getElem?_append_right (by omega)] at ha;rw [List.getElem?_append_right (by rw [<- h.len];omega),<- h.len] at hv;exact h2 _ a v ha hv
structure JrO (A:AW) (j d:Nat) (limit:Int) (rl:List RV) (row:List Nat) (size:Nat) (sm:Bool) (vl vr:Value) (Fl Fr Fa:List Nat):Prop where
 BB:Go.Abs.AS A j [ptr d,.int .i64 limit,.string ⟨⟨[]⟩⟩,vl,vr,.int .i64 (size:Int),.bool sm,.bool false] 83
 l:BO 35 1 fR A vl rl Fl
 r:C3 3 0 fI A vr row Fr
 fl:∀ y∈Fl,j<y/\y∉Fr/\y∉Fa
 fr:∀ y∈Fr,j<y/\y∉Fa
 fa:∀ y∈Fa,j<y
theorem JrO.keeps {j:Nat} {limit:Int} {rl:List RV} {row:List Nat} {size:Nat} {sm:Bool} {vl:Value} {Fl Fr Fa':List Nat} (h:JrO A j d limit rl row size sm vl vr Fl Fr Fa) (k:Aj A A' S)
  (hS:∀ y∈S,y<j\/y∈Fa\/A.next<=y) (hF:∀ y∈Fa',y∈Fa\/A.next<=y):JrO A' j d limit rl row size sm vl vr Fl Fr Fa':=by
 have hjl:=h.BB.lt;have h1:=BO.lt h.l;have h2:=h.r.lt;refine ⟨h.BB.keeps k λhm=>?_,h.l.keeps k λy hy hm=>?_,h.r.keeps k λy hy hm=>?_,λy hy=>⟨(h.fl y hy).1,(h.fl y hy).2.1,λhm=>?_⟩,λy hy=>⟨(h.fr y hy).1,λhm=>?_⟩,λy hy=>?_⟩
 ·rcases hS _ hm with h0 | h0 | h0
  ·omega
  ·have:=h.fa _ h0;omega
  ·omega
 ·have a1:=h.fl y hy;have a2:=h1 y hy;rcases hS _ hm with h0 | h0 | h0
  ·omega
  ·exact a1.2.2 h0
  ·omega
 ·have a1:=h.fr y hy;have a2:=h2 y hy;rcases hS _ hm with h0 | h0 | h0
  ·omega
  ·exact a1.2 h0
  ·omega
 ·have a1:=h.fl y hy;have a2:=h1 y hy;rcases hF _ hm with h0 | h0
  ·exact a1.2.2 h0
  ·omega
 ·have a1:=h.fr y hy;have a2:=h2 y hy;rcases hF _ hm with h0 | h0
  ·exact a1.2 h0
  ·omega
 ·rcases hF _ hy with h0 | h0
  ·exact h.fa _ h0
  ·omega
def EM(names:List (List UInt8))(r:List SR):List Ac:=(if fresh∈names then [.rmF] else [])++(if r=[] then [.ap0,.syF,.rn1] else [])
def G6(r:List SR):List Ac:=match r.getLast? with | none=>[] | some x=>(if x.1.st=1 then [.ct x.1.n x.1.size] else [])++[.sy x.1.n]
def rowAt(r:List SR)(i:Nat):List Nat:=if r=[] then [1] else (r.take i).map (·.1.n)
def D1(r:List SR)(i:Nat):Nat:=match (r.take i).getLast? with | none=>(if r=[] then 13 else 0) | some x=>x.1.size
def Ix(r:List SR)(i:Nat):Bool:=match (r.take i).getLast? with | none=>decide (r=[]) | some x=>decide (0<x.2.length)
structure OX (s:DS) (k L:Nat) (X:List SR) (f:Nat):Prop where
 seg:Bi s.D (namesS s.D)=X.map BR
 row:Ga (X.map BR)=some ((X.drop f).map BR,f)
 le:f<=X.length
 few:X.length<=k
 recs:∀ x∈X,x.2.length<=L
def C0(L:Nat):Nat:=1000*(2*L+100)
def OI(A:AW)(d mp k L:Nat)(s:DS)(limit:Int):Nat->Nat->List Value->AW->Prop:=λg id vals A'=>
 (id=0/\∃ X f i t0 j va vall vr vl vw vs Fa Fl Fr Fall,vals=[ptr t0,vr,ptr j,va,vall,.int .i64 ((f:Nat):Int),.int .i64 ((i:Nat):Int)]/\OX s k L X f/\i<=f/\g=100000+(f-i)/\QM A.next A' j t0 d X vr f/\A.next<=j/\
  RdE 3 fG A' vall ((X.take f).map (·.1)) Fall/\(∀ y∈Fall,y<j)/\G3 A' j (Fl++(Fr++Fa)) t0 va (EM (namesS s.D) (X.drop f)++((X.take f).take i).map (λx=>Ac.rm x.1.n)) vs Fa/\
  JrO A' j d limit [] (rowAt (X.drop f) 0) (D1 (X.drop f) 0) (Ix (X.drop f) 0) vl vw Fl Fr Fa/\Grow A A' (C0 L+3*i))\/
 (id=2/\∃ X f i t0 j va vr vl vw vs Fa Fl Fr,vals=[ptr t0,vr,ptr j,va,vr,.int .i64 ((X.length-f:Nat):Int),.int .i64 ((i:Nat):Int)]/\OX s k L X f/\i<=X.length-f/\g=50000+(X.length-f-i)/\QM A.next A' j t0 d X vr f/\A.next<=j/\
  G3 A' j (Fl++(Fr++Fa)) t0 va (EM (namesS s.D) (X.drop f)++((X.take f).map (λx=>Ac.rm x.1.n)++if i=X.length-f then G6 (X.drop f) else [])) vs Fa/\
  JrO A' j d limit (((X.drop f).take i).flatMap (·.2)) (rowAt (X.drop f) i) (D1 (X.drop f) i) (Ix (X.drop f) i) vl vw Fl Fr Fa/\Grow A A' (C0 L+3000+10*i))\/
 (id=4/\∃ X f i t0 j va vl vw vs Fa Fl Fr acts s1,vals=[ptr j,va,.int .i64 ((acts.length:Nat):Int),.int .i64 ((i:Nat):Int)]/\OX s k L X f/\acts=EM (namesS s.D) (X.drop f)++((X.take f).map (λx=>Ac.rm x.1.n)++G6 (X.drop f))/\acts.length<=1010/\i<=acts.length/\g=acts.length-i/\
  Go.Abs.AS A' t0 [ptr d] 27/\A.next<=t0/\A.next<=j/\G3 A' j (Fl++(Fr++Fa)) t0 va acts vs Fa/\Dk A' d mp s1/\OkS (k+i) s1/\Fu s acts=Fu s1 (acts.drop i)/\
  JrO A' j d limit ((X.drop f).flatMap (·.2)) (rowAt (X.drop f) (X.length-f)) (D1 (X.drop f) (X.length-f)) (Ix (X.drop f) (X.length-f)) vl vw Fl Fr Fa/\Aj A A' [d,mp]/\Aw A'/\A'.next<=A.next+C0 L+13000+2100*i)
section
variable {W0:World} {m0:Inj Tp}
theorem AcN {A:AW} {d mp k L:Nat} {s:DS} {limit:Int} {g:Nat} {vals:List Value} {A':AW} {dd:Nat->Value} {Q:Value->AW->Prop} (hk9:k<=1000) (hL:L<900000) (hA:A.next<500000000000)
  (h:OI A d mp k L s limit g 0 vals A') (hd':(L8 0).map dd=vals):gL W0 m0 (λid v A''=>∃ g2,g2<g/\OI A d mp k L s limit g2 id v A'') Q 8 183 T8 L8 dd 0 A':=by
 have hmax:Am=1099511627776:=rfl;rcases h with ⟨_,X,f,i,t0,j,va,vall,vr,vl,vw,vs,Fa,Fl,Fr,Fall,rfl,hx,hi,rfl,hlow,hj,hall,hFall,hact,hjr,hgr⟩ | ⟨h,_⟩ | ⟨h,_⟩
 rotate_left
 ·cases h
 ·cases h
 have hC:C0 L=1000*(2*L+100):=rfl;have hnx:=hgr.next;have hle:=hgr.le;have hf1:=hx.le;have hf2:=hx.few;rw [AfD];simp only [L8,Mc,Mn,Li,and_true] at hd';obtain ⟨h2,h8,h11,h12,h77,h78,h79⟩:=hd';simp only [h2,h8,h11,h12,h77,h78,h79,AU,Ab,Ao];have hjlt:=hjr.BB.lt;refine ⟨λhlt=>?_,λhge=>?_⟩
 ·have hlt:i<f:=by omega
  obtain ⟨x,hxi⟩:∃ x,(X.take f)[i]? =some x:=⟨_,Ge (by rw [List.length_take];omega)⟩;have hx1:((X.take f).map (·.1))[i]? =some x.1:=by rw [List.getElem?_map,hxi];rfl
  obtain ⟨r,o,a1,a2,a3⟩:=hall.at etG hx1;rw [a1];simp only [Ab,a3];refine Bl zG hgr.Ay (by omega) rfl λA3 m3=>?_;have n3:=m3.next;refine m3.BB.store m3.Ay (by omega) (Uh _ _ _) rfl (by show 0+4<=4;omega) rfl λA4 r4 k4 n4 f4=>?_;have r4:Go.Abs.AS A4 A'.next (fG x.1) 90:=r4;have k4:Aj A3 A4 [A'.next]:=k4;have g4:Grow A' A4 1:=(Grow.made m3 hgr.Ay).own k4 (by simp) (m:=0) (by omega) f4;refine Io (X5 A4 48 t0 A'.next) rfl f4 (by omega) λA5 m5=>?_;have n5:=m5.next;have g5:=g4.trans (Grow.made m5 f4);have hvl:=hact.own.lt;have hal:vs.length<1000000:=by
   rw [<- hact.len,Lq,List.length_map,List.length_take,List.length_take]
   have:(EM (namesS s.D) (X.drop f)).length<=4:=by unfold EM;split<;>split<;>simp
   omega
  refine C3.LF esF (p:=f2V 48 t0 A'.next) (hact.own.keeps g5.keeps (by simp)) m5.BB m5.Ay (by omega) hal λv6 A6 F6 o6 k6 hF6 n6 f6=>?_;rw [AY,wrap_i64 (by omega) (by omega)];simp only [Ab];have K6:Aj A' A6 Fa:=(g5.keeps.more (by simp)).trans k6 (λy hy=>.inl hy);have r6:Go.Abs.AS A6 A'.next (fG x.1) 90:=(r4.keeps (m5.keeps f4) (by simp)).keeps k6 λhm=>by have:=hvl _ hm;omega
  have hFaj:∀ y∈Fa,y<A.next\/j<=y:=λy hy=>.inr (by have:=hjr.fa y hy;omega);refine Ar.2 ⟨100000+(f-(i+1)),by omega,.inl ⟨rfl,X,f,i+1,t0,j,v6,vall,vr,vl,vw,vs++[f2V 48 t0 A'.next],F6,Fl,Fr,Fall,rfl,hx,by omega,rfl,hlow.keeps K6 hFaj,hj,hall.keeps K6 λy hy hm=>by have:=hFall y hy;have:=hjr.fa y hm;omega,hFall,?_,?_,?_⟩⟩
  ·have el:EM (namesS s.D) (X.drop f)++((X.take f).take (i+1)).map (λx=>Ac.rm x.1.n)=(EM (namesS s.D) (X.drop f)++((X.take f).take i).map (λx=>Ac.rm x.1.n))++[Ac.rm x.1.n]:=by rw [CB hxi,List.map_append,Mw];rfl
   rw [el];refine hact.app K6 (λy hy=>.inr (.inl (by simp [hy]))) (Fb':=Fl++(Fr++F6)) (λy hy=>?_) (l2:=[Ac.rm x.1.n]) rfl (λm a v ha hv=>?_) o6
   ·rcases Mz.1 hy with h | h
    ·exact .inl (by simp [h])
    ·rcases Mz.1 h with h | h
     ·exact .inl (by simp [h])
     ·rcases hF6 y h with h | h
      ·exact .inl (by simp [h])
      ·exact .inr (by omega)
   ·cases m with
    |zero=>
     obtain rfl:Ac.rm x.1.n=a:=by simpa using ha
     obtain rfl:f2V 48 t0 A'.next=v:=by simpa using hv
     refine ⟨A'.next,x.1,rfl,r6,rfl,by omega,λhm=>?_⟩;have hll:=BO.lt hjr.l;have hrl:=hjr.r.lt;rcases Mz.1 hm with h | h
     ·have:=hll _ h;omega
     ·rcases Mz.1 h with h | h
      ·have:=hrl _ h;omega
      ·rcases hF6 _ h with h | h
       ·have:=hvl _ h;omega
       ·omega
    |succ m=>simp at ha
  ·exact hjr.keeps K6 (λy hy=>.inr (.inl hy)) λy hy=>(hF6 y hy).imp (λh=>h) λh=>by omega
  ·exact (hgr.trans g5).own k6 (λy hy=>by have:=hjr.fa y hy;omega) (m:=1) n6 f6 |>.more (by omega)
 ·have hi':i=f:=by omega
  subst hi';obtain ⟨F1,hr1,hr2⟩:=hlow.rr;have hl:=hr1.len etG (B:=A');rw [List.length_map,List.length_drop] at hl;rw [hl];simp only [Ab];rw [List.take_of_length_le (l:=X.take i) (by rw [List.length_take];omega)] at hact;refine Ar.2 ⟨50000+(X.length-i-0),by omega,.inr (.inl ⟨rfl,X,i,0,t0,j,va,vr,vl,vw,vs,Fa,Fl,Fr,rfl,hx,by omega,rfl,hlow,hj,?_,hjr,hgr.more (by omega)⟩)⟩
  have:(if 0=X.length-i then G6 (X.drop i) else [])=[]:=by
   split
   ·have:X.drop i=[]:=List.drop_of_length_le (by omega)
    rw [this];rfl
   ·rfl
  rw [this,List.append_nil];exact hact
end
theorem V3(names:List (List UInt8))(r:List SR):(EM names r).length<=4:=by unfold EM;split<;>split<;>simp
theorem U4(r:List SR):(G6 r).length<=2:=by
 unfold G6;split
 ·simp
 ·split<;>simp
theorem G3.one {A:AW} {hi t0:Nat} {va:Value} {l:List Ac} {vs:List FV} {Fa Fb:List Nat} {a:Ac} {g p:Nat} {x:SV} {K:Value->AW->Prop} (h:G3 A hi (Fb++Fa) t0 va l vs Fa) (hf:Aw A) (hA:A.next+2<Am) (hl:vs.length<100000) (hp:Go.Abs.AS A p (fG x) 90) (hpj:hi<p) (hpb:p∉Fb++Fa) (hFa:∀ y∈Fa,hi<y) (hFb:∀ y∈Fb,y<A.next)
  (ha:∀ A' Fb',Go.Abs.AS A' p (fG x) 90->p∉Fb'->AcV A' hi Fb' t0 a (f2V g t0 p).v)
  (hk:∀ A' v' vs' F',G3 A' hi (Fb++F') t0 v' (l++[a]) vs' F'->Aj A A' Fa->A'.next<=A.next+2->Aw A'->(∀ y∈F',y∈Fa\/A.next<=y)->Go.Abs.AS A' p (fG x) 90->p∉Fb++F'->vs'.length=vs.length+1->K v' A'):
  Au (Av Tp A 84 1 [(0,(f2V g t0 p).v)]) λt56 At56=>Au (AJ Tp At56 84 84 va t56) K:=by
 have hpl:=hp.lt;refine Io (X5 A g t0 p) rfl hf (by omega) λA1 m1=>?_;have n1:=m1.next;have k1:=m1.keeps hf;refine C3.LF esF (p:=f2V g t0 p) (h.own.keeps k1 (by simp)) m1.BB m1.Ay (by omega) (by omega) λv2 A2 F2 o2 k2 hF2 n2 f2=>?_;have K2:Aj A A2 Fa:=(k1.more (by simp)).trans k2 (λy hy=>.inl hy);have hF2':∀ y∈F2,y∈Fa\/A.next<=y:=λy hy=>(hF2 y hy).imp (λh=>h) λh=>by omega
 have hp2:=hp.keeps K2 λhm=>hpb (by simp [hm]);have hpb2:p∉Fb++F2:=λhm=>by
  rcases Mz.1 hm with h | h
  ·exact hpb (by simp [h])
  ·rcases hF2' _ h with h | h
   ·exact hpb (by simp [h])
   ·omega
 refine hk A2 v2 (vs++[f2V g t0 p]) F2 ?_ K2 (by omega) f2 hF2' hp2 hpb2 (by rw [Lq];rfl);refine h.app K2 (λy hy=>.inr (.inl (by simp [hy]))) (λy hy=>?_) (l2:=[a]) rfl (λm b v hb hv=>?_) o2
 ·rcases Mz.1 hy with h | h
  ·exact .inl (by simp [h])
  ·rcases hF2' y h with h | h
   ·exact .inl (by simp [h])
   ·exact .inr h
 ·cases m with
  |zero=>
   obtain rfl:a=b:=by simpa using hb
   obtain rfl:f2V g t0 p=v:=by simpa using hv
   exact ha A2 _ hp2 hpb2
  |succ m=>simp at hb
section
variable {W0:World} {m0:Inj Tp}
theorem AcM {A:AW} {d mp k L:Nat} {s:DS} {limit:Int} {g:Nat} {vals:List Value} {A':AW} {dd:Nat->Value} {Q:Value->AW->Prop} (hdk:Dk A d mp s) (hok:OkS k s) (hk9:k<=1000) (hL:L<900000) (hkL:k*L<900000) (hA:A.next<500000000000)
  (h:OI A d mp k L s limit g 2 vals A') (hd':(L8 2).map dd=vals):gL W0 m0 (λid v A''=>∃ g2,g2<g/\OI A d mp k L s limit g2 id v A'') Q 8 183 T8 L8 dd 2 A':=by
 have hmax:Am=1099511627776:=rfl;rcases h with ⟨h,_⟩ | ⟨_,X,f,i,t0,j,va,vr,vl,vw,vs,Fa,Fl,Fr,rfl,hx,hi,rfl,hlow,hj,hact,hjr,hgr⟩ | ⟨h,_⟩
 ·cases h
 rotate_left
 ·cases h
 have hC:C0 L=1000*(2*L+100):=rfl;have hnx:=hgr.next;have hle:=hgr.le;have hf1:=hx.le;have hf2:=hx.few;rw [AfC];simp only [L8,Mc,Mn,Li,and_true] at hd';obtain ⟨h2,h8,h11,h12,h88,h89,h90⟩:=hd';simp only [h2,h8,h11,h12,h88,h89,h90,AU,Ab,Ao];have hjlt:=hjr.BB.lt;have hact0:=hact;have hb4:=V3 (namesS s.D) (X.drop f);have ht2:=U4 (X.drop f);refine ⟨λhlt=>?_,λhge=>?_⟩
 ·have hlt:i<X.length-f:=by omega
  rw [if_neg (show ¬ i=X.length-f by omega),List.append_nil] at hact;have hvs:vs.length<=1004:=by
   rw [<- hact.len,Lq,List.length_map,List.length_take];omega
  have hne:X.drop f≠[]:=by intro h0;have:=congrArg List.length h0;rw [List.length_drop,Ln] at this;omega
  obtain ⟨x,hxi⟩:∃ x,(X.drop f)[i]? =some x:=⟨_,Ge (by rw [List.length_drop];omega)⟩;have hxm:x∈X:=List.mem_of_mem_drop (List.mem_of_getElem? hxi);have hx1:((X.drop f).map (·.1))[i]? =some x.1:=by rw [List.getElem?_map,hxi];rfl
  obtain ⟨F1,hr1,hr2⟩:=hlow.rr;obtain ⟨r,o,a1,a2,a3⟩:=hr1.at etG hx1;rw [a1];simp only [Ab,a3];refine Bl zG hgr.Ay (by omega) rfl λA3 m3=>?_;have n3:=m3.next;refine m3.BB.store m3.Ay (by omega) (Uh _ _ _) rfl (by show 0+4<=4;omega) rfl λA4 r4 k4 n4 f4=>?_;have r4:Go.Abs.AS A4 A'.next [.int .i64 (x.1.n:Int),.slice x.1.o x.1.len x.1.cap,.int .i64 (x.1.size:Int),.int .u8 (x.1.st:Int)] 90:=r4;have k4:Aj A3 A4 [A'.next]:=k4;have g4:Grow A' A4 1:=(Grow.made m3 hgr.Ay).own k4 (by simp) (m:=0) (by omega) f4;have j4:=hjr.BB.keeps g4.keeps (by simp);have hvl1:=BO.one hjr.l;have hvw1:=hjr.r.one;simp only [ptr] at j4;simp only [ptr,Al,Lk,Lg,Nat.zero_add,Po,D4,Ae j4.row,Ae r4.row,cellOf,Ax,AG,AE,hvl1.2,hvw1.2,Cf,Ab];refine Io (X6 A4 (x.1.n:Int)) rfl f4 (by omega) λA5 m5=>?_;have n5:=m5.next;have k5:=m5.keeps f4;have g5:=g4.trans (Grow.made m5 f4);refine ⟨⟨_,Zd _,?_⟩,?_⟩
  ·have:=m5.row
   simp only [Cj,Fy,this,EF,GD,Bool.and_self,Option.isNone_none,Nat.beq_refl]
  have j5:=j4.keeps k5 (by simp);have r5:=r4.keeps k5 (by simp);simp only [Ae j5.row,Ae r5.row,cellOf,Ax,AG,AE,hvl1.2,hvw1.2,Cf,Ab,AR];have hwl:(rowAt (X.drop f) i).length<1000000:=by
   unfold rowAt;rw [if_neg hne,List.length_map,List.length_take];omega
  have hlls:=BO.lt hjr.l;have hrls:=hjr.r.lt;have hals:=hact.own.lt;refine C3.LF esI (p:=x.1.n) (hjr.r.keeps g5.keeps (by simp)) m5.BB m5.Ay (by omega) hwl λw6 A6 Fr6 o6 k6 hF6 n6 f6=>?_;have hw61:=o6.one;obtain ⟨wo,wc,hw6⟩:=o6.slice;have j6:=j5.keeps k6 λhm=>by have:=hjr.fr _ hm;omega
  have r6:=r5.keeps k6 λhm=>by have:=hrls _ hm;omega
  refine j6.store f6 (by omega) (Ui _ _ _) (by rw [hw6];rfl) (by show 4+1<=8;omega) (by rw [hw6];rfl) λA7 j7 k7 n7 f7=>?_;have j7:Go.Abs.AS A7 j [ptr d,.int .i64 limit,.string ⟨⟨[]⟩⟩,vl,w6,.int .i64 (D1 (X.drop f) i:Int),.bool (Ix (X.drop f) i),.bool false] 83:=by rw [hw6] at j7 ⊢;exact j7
  have k7:Aj A6 A7 [j]:=k7;have r7:=r6.keeps k7 (by simp;omega);simp only [ptr] at j7;simp only [ptr,Al,Ll,Lf,Nat.zero_add,JO,Ae j7.row,Ae r7.row,cellOf,Ax,AG,AE,EL,hvl1.2,hw61.2,Cf,Ab];obtain ⟨G,hG1,hG2⟩:=hlow.sv x hxm;have hFrG:∀ y∈G,y∉Fr:=λy hy hm=>by have:=hG2 y hy;have:=hjr.fr y hm;omega
  have hG7:RdE 1 fR A7 (.slice x.1.o x.1.len x.1.cap) x.2 G:=((hG1.keeps g5.keeps (by simp)).keeps k6 hFrG).keeps k7 λy hy=>by have:=hG2 y hy;simp;omega
  have hl7:BO 35 1 fR A7 vl (((X.drop f).take i).flatMap (·.2)) Fl:=((hjr.l.keeps g5.keeps (by simp)).keeps k6 λy hy hm=>(hjr.fl y hy).2.1 hm).keeps k7 λy hy=>by have:=hjr.fl y hy;simp;omega
  have hrecs:(((X.drop f).take i).flatMap (·.2)).length<=k*L:=by
   have key:∀ l:List SR,(∀ x∈l,x.2.length<=L)->(l.flatMap (·.2)).length<=l.length*L:=by
    intro l
    induction l with
    |nil=>intro _;simp
    |cons y r ih=>
     intro hh;rw [List.flatMap_cons,Lq,Lc,Nat.succ_mul]
     have:=ih λz hz=>hh z (by simp [hz])
     have:=hh y (by simp)
     omega
   have h1:=key ((X.drop f).take i) λy hy=>hx.recs y (List.mem_of_mem_drop (List.mem_of_mem_take hy));have h2:((X.drop f).take i).length*L<=k*L:=Nat.mul_le_mul_right _ (by rw [List.length_take];omega);omega
  have hxr:=hx.recs x hxm;have hlx:x.1.len=x.2.length:=by
   obtain ⟨o',c',hs⟩:=hG1.slice;simp only [Value.slice.injEq] at hs;exact hs.2.1
  refine hl7.Gu etR hG7 f7 (by omega) (by omega) (by omega) λl8 A8 Fl8 o8 k8 hF8 n8 f8=>?_;have hl81:=BO.one o8;obtain ⟨lo,lc,hl8⟩:=(o8.rd etR.len).slice;have j8:=j7.keeps k8 λhm=>by have:=hjr.fl _ hm;omega
  have r8:=r7.keeps k8 λhm=>by have:=hlls _ hm;omega
  simp only [AR];refine j8.store f8 (by omega) (Nu _ _ _) (by rw [hl8];rfl) (by show 3+1<=8;omega) (by rw [hl8];rfl) λA9 j9 k9 n9 f9=>?_;have j9:Go.Abs.AS A9 j [pP d 0,.int .i64 limit,.string ⟨⟨[]⟩⟩,l8,w6,.int .i64 (D1 (X.drop f) i:Int),.bool (Ix (X.drop f) i),.bool false] 83:=by rw [hl8] at j9 ⊢;exact j9
  have k9:Aj A8 A9 [j]:=k9;have r9:=r8.keeps k9 (by simp;omega);simp only [Lj,Lh,Lf,Ql,Nat.zero_add,JO,D4,Xo,hlx,Al,Ae j9.row,Ae r9.row,cellOf,Ax,AG,AE,EL,hl81.2,hw61.2,Cf,Ab,BN];refine j9.store f9 (by omega) (J0 _ _ _) rfl (by show 5+1<=8;omega) rfl λA10 j10 k10 n10 f10=>?_;have j10:Go.Abs.AS A10 j [pP d 0,.int .i64 limit,.string ⟨⟨[]⟩⟩,l8,w6,.int .i64 (x.1.size:Int),.bool (Ix (X.drop f) i),.bool false] 83:=j10;have k10:Aj A9 A10 [j]:=k10;have r10:=r9.keeps k10 (by simp;omega);simp only [Xo,hlx,Ae r10.row,cellOf,AG,EL,Cf,Ab,AR];refine j10.store f10 (by omega) (JZ _ _ _) rfl (by show 6+1<=8;omega) rfl λA11 j11 k11 n11 f11=>?_;have esm:decide ((0:Int)<(x.2.length:Int))=decide (0<x.2.length):=by rw [decide_eq_decide];omega
  have j11:Go.Abs.AS A11 j [ptr d,.int .i64 limit,.string ⟨⟨[]⟩⟩,l8,w6,.int .i64 (x.1.size:Int),.bool (decide (0<x.2.length)),.bool false] 83:=by rw [<- esm];exact j11
  have k11:Aj A10 A11 [j]:=k11;have r11:=r10.keeps k11 (by simp;omega);have k811:Aj A8 A11 [j]:=(k9.trans k10 (by simp)).trans k11 (by simp);have le6:=k6.next;have le8:=k8.next;have hF6':∀ y∈Fr6,y∈Fr\/A'.next<=y:=λy hy=>(hF6 y hy).imp (λh=>h) λh=>by omega
  have hF8':∀ y∈Fl8,y∈Fl\/A'.next<=y:=λy hy=>(hF8 y hy).imp (λh=>h) λh=>by omega
  have K11:Aj A' A11 (j::(Fl++Fr)):=by
   refine (((g5.keeps.more (T:=j::(Fl++Fr)) (by simp)).trans k6 (λy hy=>.inl (by simp [hy]))).trans k7 (λy hy=>.inl (by simp [Ms.1 hy]))).trans k8 (λy hy=>.inl (by simp [hy])) |>.trans k811 (λy hy=>.inl (by simp [Ms.1 hy]))
  have hFlr:∀ y∈j::(Fl++Fr),j<=y:=λy hy=>by
   rcases Mk.1 hy with h | h
   ·omega
   ·rcases Mz.1 h with h | h
    ·have:=hjr.fl y h;omega
    ·have:=hjr.fr y h;omega
  have o6l:=o6.lt;have hle11:A'.next<=A11.next:=K11.next;have hn11:A11.next<=A'.next+4:=by omega
  have erl:((X.drop f).take (i+1)).flatMap (·.2)=((X.drop f).take i).flatMap (·.2)++x.2:=by rw [CB hxi,List.flatMap_append];simp
  have erow:rowAt (X.drop f) (i+1)=rowAt (X.drop f) i++[x.1.n]:=by
   unfold rowAt;rw [if_neg hne,if_neg hne,CB hxi,List.map_append];rfl
  have elast:((X.drop f).take (i+1)).getLast? =some x:=by rw [CB hxi,List.getLast?_concat]
  have esz:D1 (X.drop f) (i+1)=x.1.size:=by unfold D1;rw [elast]
  have esm2:Ix (X.drop f) (i+1)=decide (0<x.2.length):=by unfold Ix;rw [elast]
  have hjr11:JrO A11 j d limit (((X.drop f).take (i+1)).flatMap (·.2)) (rowAt (X.drop f) (i+1)) (D1 (X.drop f) (i+1)) (Ix (X.drop f) (i+1)) l8 w6 Fl8 Fr6 Fa:=by
   rw [erl,erow,esz,esm2];refine ⟨j11,o8.keeps k811 λy hy=>?_,((o6.keeps k7 λy hy=>?_).keeps k8 λy hy hm=>?_).keeps k811 λy hy=>?_,λy hy=>⟨?_,λhm=>?_,λhm=>?_⟩,λy hy=>⟨?_,λhm=>?_⟩,hjr.fa⟩
   ·simp;rcases hF8' y hy with h | h
    ·have:=hjr.fl y h;omega
    ·omega
   ·simp;rcases hF6' y hy with h | h
    ·have:=hjr.fr y h;omega
    ·omega
   ·rcases hF6' y hy with h | h
    ·exact (hjr.fl y hm).2.1 h
    ·have:=hlls y hm;omega
   ·simp;rcases hF6' y hy with h | h
    ·have:=hjr.fr y h;omega
    ·omega
   ·rcases hF8' y hy with h | h
    ·exact (hjr.fl y h).1
    ·omega
   ·rcases hF8 y hy with h | h
    ·rcases hF6' y hm with h2 | h2
     ·exact (hjr.fl y h).2.1 h2
     ·have:=hlls y h;omega
    ·have:=o6l y hm;omega
   ·rcases hF8' y hy with h | h
    ·exact (hjr.fl y h).2.2 hm
    ·have:=hals y hm;omega
   ·rcases hF6' y hy with h | h
    ·exact (hjr.fr y h).1
    ·omega
   ·rcases hF6' y hy with h | h
    ·exact (hjr.fr y h).2 hm
    ·have:=hals y hm;omega
  have hpb:A'.next∉(Fl8++Fr6)++Fa:=by
   intro hm;rcases Mz.1 hm with hm | hm
   ·rcases Mz.1 hm with hm | hm
    ·rcases hF8 _ hm with h | h
     ·have:=hlls _ h;omega
     ·omega
    ·rcases hF6 _ hm with h | h
     ·have:=hrls _ h;omega
     ·omega
   ·have:=hals _ hm;omega
  have hact11:G3 A11 j ((Fl8++Fr6)++Fa) t0 va (EM (namesS s.D) (X.drop f)++(X.take f).map (λx=>Ac.rm x.1.n)) vs Fa:=by
   refine hact.keeps K11 (λy hy hm=>?_) (λy hy=>?_) λy hy=>?_
   ·rcases Mk.1 hm with h | h
    ·have:=hjr.fa y hy;omega
    ·rcases Mz.1 h with h | h
     ·exact (hjr.fl y h).2.2 hy
     ·exact (hjr.fr y h).2 hy
   ·rcases Mk.1 hy with h | h
    ·exact .inl (by omega)
    ·rcases Mz.1 h with h | h
     ·exact .inr (.inl (by simp [h]))
     ·exact .inr (.inl (by simp [h]))
   ·rcases Mz.1 hy with hy | hy
    ·rcases Mz.1 hy with hy | hy
     ·exact (hF8' y hy).imp (λh=>by simp [h]) λh=>h
     ·exact (hF6' y hy).imp (λh=>by simp [h]) λh=>h
    ·exact .inl (by simp [hy])
  have hlow11:QM A.next A11 j t0 d X vr f:=hlow.keeps K11 λy hy=>.inr (hFlr y hy);have hg11:Grow A A11 (C0 L+3000+10*i+4):=⟨hgr.keeps.trans K11 (λy hy=>.inr (by have:=hFlr y hy;omega)),f11,by omega⟩;have hfb:∀ y∈Fl8++Fr6,y<A11.next:=λy hy=>by
   rcases Mz.1 hy with h | h
   ·exact hjr11.l.lt y h
   ·exact hjr11.r.lt y h
  have hr111:=(hr1.keeps K11 λy hy hm=>by have:=hr2 y hy;have:=hFlr y hm;omega);have hlen11:=hr111.len etG (B:=A11);rw [List.length_map,List.length_drop] at hlen11;rw [hlen11];simp only [Ab,Ci,Bo,AY];rw [wrap_i64 (n:=((X.length-f:Nat):Int)-1) (by omega) (by omega),wrap_i64 (n:=(i:Int)+1) (by omega) (by omega)];have fin:∀ (A12:AW) (va':Value) (vs':List FV) (Fa':List Nat),G3 A12 j ((Fl8++Fr6)++Fa') t0 va' (EM (namesS s.D) (X.drop f)++((X.take f).map (λx=>Ac.rm x.1.n)++if i+1=X.length-f then G6 (X.drop f) else [])) vs' Fa'->Aj A11 A12 Fa->(∀ y∈Fa',y∈Fa\/A11.next<=y)->A12.next<=A11.next+4->Aw A12->
    ∃ g2,g2<50000+(X.length-f-i)/\OI A d mp k L s limit g2 2 [ptr t0,vr,ptr j,va',vr,.int .i64 ((X.length-f:Nat):Int),.int .i64 ((i:Int)+1)] A12:=by
   intro A12 va' vs' Fa' ha hk hF hn hf;refine ⟨50000+(X.length-f-(i+1)),by omega,.inr (.inl ⟨rfl,X,f,i+1,t0,j,va',vr,l8,w6,vs',Fa',Fl8,Fr6,rfl,hx,by omega,rfl,hlow11.keeps hk λy hy=>.inr (by have:=hjr.fa y hy;omega),hj,?_,hjr11.keeps hk (λy hy=>.inr (.inl hy)) hF,?_⟩)⟩
   ·rw [<- Mw];exact ha
   ·exact (hg11.own hk (λy hy=>by have:=hjr.fa y hy;omega) (m:=4) hn hf).more (by omega)
  refine Be.2 ⟨λhlast=>?_,λhlast=>?_⟩
  ·have hlast:i+1=X.length-f:=by omega
   have elx:(X.drop f).getLast? =some x:=by
    rw [List.getLast?_eq_getElem?,List.length_drop,<- hlast];exact hxi
   have etail:G6 (X.drop f)=(if x.1.st=1 then [.ct x.1.n x.1.size] else [])++[.sy x.1.n]:=by unfold G6;rw [elx]
   rw [if_pos hlast,etail] at fin;simp only [Qk,Nat.zero_add,ZQ,Ae r11.row,cellOf,AG,EL,Cf,Ab,Bo];refine Be.2 ⟨λhst=>?_,λhst=>?_⟩
   ·rw [if_pos (by omega)] at fin;refine G3.one (g:=49) (a:=.ct x.1.n x.1.size) (x:=x.1) hact11 f11 (by omega) (by omega) r11 (by omega) hpb hjr.fa hfb (λA' Fb' h1 h2=>⟨_,x.1,rfl,h1,rfl,rfl,by omega,h2⟩) λA12 v12 vs12 F12 h12 k12 n12 f12 hF12 hp12 hpb12 hl12=>?_;have hle12:=k12.next;refine G3.one (g:=51) (a:=.sy x.1.n) (x:=x.1) h12 f12 (by omega) (by omega) hp12 (by omega) hpb12 (λy hy=>(hF12 y hy).elim (hjr.fa y) λh=>by omega) (λy hy=>by have:=hfb y hy;omega) (λA' Fb' h1 h2=>⟨_,x.1,rfl,h1,rfl,by omega,h2⟩) λA13 v13 vs13 F13 h13 k13 n13 f13 hF13 hp13 hpb13 hl13=>?_;refine Ar.2 (fin A13 v13 vs13 F13 ?_ (k12.trans k13 hF12) (λy hy=>(hF13 y hy).elim (hF12 y) λh=>.inr (by omega)) (by omega) f13)
    simpa [Mw] using h13
   ·rw [if_neg (by omega)] at fin;refine G3.one (g:=51) (a:=.sy x.1.n) (x:=x.1) hact11 f11 (by omega) (by omega) r11 (by omega) hpb hjr.fa hfb (λA' Fb' h1 h2=>⟨_,x.1,rfl,h1,rfl,by omega,h2⟩) λA12 v12 vs12 F12 h12 k12 n12 f12 hF12 hp12 hpb12 hl12=>?_;refine Ar.2 (fin A12 v12 vs12 F12 ?_ k12 hF12 (by omega) f12)
    simpa [Mw] using h12
  ·have hlast:i+1≠X.length-f:=by omega
   rw [if_neg hlast,List.append_nil] at fin;exact Ar.2 (fin A11 va vs Fa hact11 (.refl _ _) (λy hy=>.inl hy) (by omega) f11)
 ·have hi':i=X.length-f:=by omega
  subst hi';rw [if_pos rfl] at hact;have htk:(X.drop f).take (X.length-f)=X.drop f:=List.take_of_length_le (by rw [List.length_drop];omega);rw [htk] at hjr;rw [esF.HG (hact.own.rd esF.len),<- hact.len];simp only [Ab];have hal:(EM (namesS s.D) (X.drop f)++((X.take f).map (λx=>Ac.rm x.1.n)++G6 (X.drop f))).length<=1010:=by
   rw [Lq,Lq,List.length_map,List.length_take];omega
  have hdl:=hdk.lt;refine Ar.2 ⟨(EM (namesS s.D) (X.drop f)++((X.take f).map (λx=>Ac.rm x.1.n)++G6 (X.drop f))).length,by omega,.inr (.inr ⟨rfl,X,f,0,t0,j,va,vl,vw,vs,Fa,Fl,Fr,_,s,rfl,hx,rfl,hal,by omega,rfl,hlow.t0r,hlow.t0l.1,hj,hact,hdk.keeps hgr.keeps (by simp) (by simp),hok,rfl,hjr,hgr.keeps.more (by simp),hgr.Ay,by omega⟩)⟩
end
noncomputable def AcR(W0:World)(m0:Inj Tp)(S:Nat->List Value->AW->Prop)(t0 t9 t13 t14 t19 va:Value)(A:AW):Prop:=
 Aa (Bd Tp A 77 t13) λt45=>Aa (Ai Tp .eql 3 (.tmp 55) (.const (.int .i64 0)) t45 (.int .i64 0)) λt46=>Ah t46 (Au (Av Tp A 46 1 [(0,(.int .i64 1))]) λt47 At47=>Wc Tp An W0 m0 41 [(.string ⟨⟨[]⟩⟩)] At47 λt48 At48=>Aa (Bd Tp At48 9 t48) λt49=>Aa (AD t19) λt50=>Aa (Ad Tp 83 t50 4) λt51=>Bh (Az Tp At48 46 t51 t47) λAt52=>Aa (AD t19) λt53=>Aa (Ad Tp 83 t53 5) λt54=>Bh (Az Tp At52 3 t54 t49) λAt55=>Aa (AD t19) λt56=>Aa (Ad Tp 83 t56 6) λt57=>Bh (Az Tp At55 4 t57 (.bool true)) λAt58=>Au (Av Tp At58 84 3 [(0,(.func (.func 42) ⟨[]⟩ ⟨[t0]⟩)),(1,(.func (.func 43) ⟨[]⟩ ⟨[t0]⟩)),(2,(.func (.func 45) ⟨[]⟩ ⟨[t0]⟩))]) λt59 At59=>Au (AJ Tp At59 84 84 va t59) λt60 At60=>Aa (AP Tp At60 77 t9 none (some t14) none) λt61=>Aa (Bd Tp At60 77 t61) λt62=>Bm (T8 0) (T8 0) (S 0 [t0,t13,t19,t60,t61,t62,(.int .i64 0)] At60)) (Aa (AP Tp A 77 t9 none (some t14) none) λt63=>Aa (Bd Tp A 77 t63) λt64=>Bm (T8 0) (T8 0) (S 0 [t0,t13,t19,va,t63,t64,(.int .i64 0)] A))
theorem Zv(names:List (List UInt8))(X:List SR)(f:Nat):Du names (X.map BR) ((X.drop f).map BR) f=EM names (X.drop f)++((X.take f).map (λx=>Ac.rm x.1.n)++G6 (X.drop f)):=by
 have e1:((X.drop f).map BR=[])=(X.drop f=[]):=by rw [List.map_eq_nil_iff]
 have e2:((X.map BR).take f).map (λx=>Ac.rm x.n)=(X.take f).map (λx=>Ac.rm x.1.n):=by
  rw [<- List.map_take,List.map_map];rfl
 unfold Du EM G6;rw [List.getLast?_map];simp only [e1,e2,Mw];cases (X.drop f).getLast?<;>rfl
theorem Yi{names:List (List UInt8)}{X:List SR}{f i:Nat}{a:Ac}(h:(EM names (X.drop f)++((X.take f).map (λx=>Ac.rm x.1.n)++G6 (X.drop f)))[i]? =some a){n:Nat}(hn:a.num=some n):n=1\/∃ x∈X,x.1.n=n:=by
 have hm:=List.mem_of_getElem? h;rcases Mz.1 hm with hm | hm
 ·unfold EM at hm;rcases Mz.1 hm with hm | hm
  ·split at hm
   ·obtain rfl:=Ms.1 hm;cases hn
   ·simp at hm
  ·split at hm
   ·simp only [Mk,List.not_mem_nil,or_false] at hm;rcases hm with rfl | rfl | rfl
    ·cases hn
    ·cases hn
    ·cases hn;exact .inl rfl
   ·simp at hm
 ·rcases Mz.1 hm with hm | hm
  ·obtain ⟨x,hx,rfl⟩:=List.mem_map.1 hm;cases hn;exact .inr ⟨x,List.mem_of_mem_take hx,rfl⟩
  ·unfold G6 at hm;split at hm
   ·simp at hm
   ·rename_i x hx;have hxm:x∈X:=List.mem_of_mem_drop (List.mem_of_getLast? hx);rcases Mz.1 hm with hm | hm
    ·split at hm
     ·obtain rfl:=Ms.1 hm;cases hn;exact .inr ⟨x,hxm,rfl⟩
     ·simp at hm
    ·obtain rfl:=Ms.1 hm;cases hn;exact .inr ⟨x,hxm,rfl⟩
theorem Ra(s:DS)(a:Ac)(r:List Ac):Fu s (a::r)=if (a.run s).2=0 then Fu (a.run s).1 r else a.run s:=rfl
theorem Y5(limit:Int)(X:List SR)(f:Nat)(hf:f<=X.length):EH limit ((X.drop f).map BR)=⟨limit,(((((X.drop f).flatMap (·.2)).map toR).head?).map (·.2)).getD [],(((X.drop f).flatMap (·.2)).map toR).tail,rowAt (X.drop f) (X.length-f),D1 (X.drop f) (X.length-f),Ix (X.drop f) (X.length-f),false⟩:=by
 have e0:Gf ((X.drop f).map BR)=((X.drop f).flatMap (·.2)).map toR:=by
  unfold Gf;rw [List.flatMap_map,List.map_flatMap];rfl
 have et:(X.drop f).take (X.length-f)=X.drop f:=List.take_of_length_le (by rw [List.length_drop];omega);unfold EH rowAt D1 Ix;rw [e0,et,List.getLast?_map];have e1:((X.drop f).map BR=[])=(X.drop f=[]):=by rw [List.map_eq_nil_iff]
 simp only [e1,List.map_map]
 congr 1
 ·cases hq:(X.drop f).getLast? with
  |none=>
   have:X.drop f=[]:=by simpa using hq
   simp [this]
  |some x=>rfl
 ·cases hq:(X.drop f).getLast? with
  |none=>
   have:X.drop f=[]:=by simpa using hq
   simp [this]
  |some x=>
   show (!(x.2.map toR).isEmpty)=decide (0<x.2.length);cases x.2<;>simp
section
variable {W0:World} {m0:Inj Tp}
theorem AcL {A:AW} {d mp k L:Nat} {s:DS} {limit:Int} {g:Nat} {vals:List Value} {A':AW} {dd:Nat->Value} {K:Value->AW->Prop} (hg0:Glb A) (hk9:k<=1000) (hL:L<900000) (hkL:k*L<900000) (hA:A.next<500000000000) (hlim:¬ limit<1) (hdn:s.down=false) (hdl:d<A.next/\mp<A.next) (h0:0≠d/\0≠mp)
  (hnm:∀ n,n=1\/(∃ x∈Bi s.D (namesS s.D),x.n=n)->EO W0 m0 n)
  (hkN:∀ e A' s',EY s (namesS s.D) limit=(s',none,e)->Dk A' d mp s'->Aj A A' [d,mp]->A'.next<=A.next+1000*(2*L+100)+3000000->Aw A'->K (.tuple ⟨[.pointer none,.int .i64 e]⟩) A')
  (hkS:∀ A' s' q j Fl Fr,EY s (namesS s.D) limit=(s',some q,0)->JD A' j d mp q s' Fl Fr->A.next<=j->(∀ y∈Fl,A.next<=y)->(∀ y∈Fr,A.next<=y)->Aj A A' [d,mp]->A'.next<=A.next+1000*(2*L+100)+3000000->Aw A'->K (.tuple ⟨[ptr j,.int .i64 0]⟩) A')
  (h:OI A d mp k L s limit g 4 vals A') (hd':(L8 4).map dd=vals):gL W0 m0 (λid v A''=>∃ g2,g2<g/\OI A d mp k L s limit g2 id v A'') K 8 183 T8 L8 dd 4 A':=by
 have hmax:Am=1099511627776:=rfl;have hC:C0 L=1000*(2*L+100):=rfl;rcases h with ⟨h,_⟩ | ⟨h,_⟩ | ⟨_,X,f,i,t0,j,va,vl,vw,vs,Fa,Fl,Fr,acts,s1,rfl,hx,hacts,hal,hi,rfl,ht0,ht0l,hj,hact,hdk,hok,hrun,hjr,hkp,hf,hn⟩
 ·cases h
 ·cases h
 have hos:EY s (namesS s.D) limit=(if (Fu s acts).2=0 then ((Fu s acts).1,some (EH limit ((X.drop f).map BR)),0) else ((Fu s acts).1,none,(Fu s acts).2)):=by
  unfold EY;rw [if_neg hlim,if_neg (by rw [hdn];simp),hx.seg,hx.row];simp only [Zv,<- hacts]
 rw [AfB];simp only [L8,Mc,Mn,Li,and_true] at hd';obtain ⟨h11,h145,h146,h147⟩:=hd';simp only [h11,h145,h146,h147,AU,Ab,Ao];have hle:=hkp.next;refine ⟨λhlt=>?_,λhge=>?_⟩
 ·have hlt:i<acts.length:=by omega
  obtain ⟨a,ha⟩:∃ a,acts[i]? =some a:=⟨_,Ge hlt⟩;obtain ⟨v,hv⟩:∃ v,vs[i]? =some v:=⟨_,Ge (by rw [<- hact.len];exact hlt)⟩;obtain ⟨a0,b1,b2⟩:=esF.at (hact.own.rd esF.len) hv rfl;simp only [b1,b2,Ab];rw [Lt ha,Ra] at hrun;refine Aav (a:=a) (k:=k+i) hdk (hg0.keeps hkp (by simp;exact h0)) ht0 (hact.act i a v ha hv) hok (by omega) hf (by omega) (λn hnn=>hnm n ?_) h0 λA2 d2 k2 n2 f2=>?_
  ·rw [hacts] at ha;rcases Yi ha hnn with h | ⟨x,hxm,hxn⟩
   ·exact .inl h
   ·exact .inr ⟨BR x,by rw [hx.seg];exact List.mem_map.2 ⟨x,hxm,rfl⟩,hxn⟩
  have K2:Aj A A2 [d,mp]:=hkp.trans k2 (λy hy=>.inl hy);have hdm:∀ y∈[d,mp],y<A.next:=λy hy=>by
   simp only [Mk,List.not_mem_nil,or_false] at hy;rcases hy with rfl | rfl
   ·exact hdl.1
   ·exact hdl.2
  simp only [BC,AY,Ab];rw [wrap_i64 (by omega) (by omega)];refine Bb.2 ⟨λhne=>?_,λheq=>?_⟩
  ·rw [if_neg hne] at hrun;refine hkN _ A2 (a.run s1).1 ?_ d2 K2 (by omega) f2;rw [hos,hrun,if_neg hne]
  ·rw [if_pos heq] at hrun;refine Ar.2 ⟨acts.length-(i+1),by omega,.inr (.inr ⟨rfl,X,f,i+1,t0,j,va,vl,vw,vs,Fa,Fl,Fr,acts,(a.run s1).1,rfl,hx,hacts,hal,by omega,rfl,ht0.keeps k2 λhm=>by have:=hdm _ hm;omega,ht0l,hj,hact.keeps k2 (λy hy hm=>by have:=hdm _ hm;have:=hjr.fa y hy;omega) (λy hy=>.inl (by have:=hdm _ hy;omega)) (λy hy=>.inl hy),d2,?_,hrun,hjr.keeps k2 (λy hy=>.inl (by have:=hdm _ hy;omega)) (λy hy=>.inl hy),K2,f2,by omega⟩)⟩
   have:=Ac.Aau hok a
   exact this
 ·have hi':i=acts.length:=by omega
  subst hi';rw [List.drop_length] at hrun;have hos:EY s (namesS s.D) limit=(s1,some (EH limit ((X.drop f).map BR)),0):=by rw [hos,hrun];rfl
  rw [Y5 limit X f hx.le] at hos;have hvl1:=BO.one hjr.l;have hvw1:=hjr.r.one;have hj1:=hjr.BB;have hlls:=BO.lt hjr.l;have hrls:=hjr.r.lt;simp only [ptr] at hj1;have hlen:=(hjr.l.rd etR.len).len etR (B:=A');simp only [ptr,Al,Ll,JO,Ae hj1.row,cellOf,Ax,AG,AE,hvl1.2,Cf,Ab,hlen,BN,Ao];have hnd:j≠d/\j≠mp:=⟨by omega,by omega⟩;have hFr:∀ x∈Fr,x≠d/\x≠mp/\x≠j:=λx hx=>by have:=hjr.fr x hx;exact ⟨by omega,by omega,by omega⟩
  cases hrl:(X.drop f).flatMap (·.2) with
  |nil=>
   rw [hrl] at hos hjr;refine ⟨λh=>by simp at h,λ_=>?_⟩;refine hkS A' s1 _ j Fl Fr hos ⟨⟨vl,vw,[],hj1,.inl hjr.l,rfl,hjr.r⟩,hdk,hnd,λx hx=>?_,hFr⟩ hj (λy hy=>by have:=hjr.fl y hy;omega) (λy hy=>by have:=hjr.fr y hy;omega) hkp (by omega) hf
   have:=hjr.fl x hx
   exact ⟨by omega,by omega,by omega,this.2.1⟩
  |cons p rl=>
   rw [hrl] at hos hjr;refine ⟨λ_=>?_,λh=>by simp at h⟩;have hg:((p::rl):List RV)[0]? =some p:=rfl;obtain ⟨r,o,c1,c2,c3⟩:=(hjr.l.rd etR.len).at etR hg;have c1':Ak Tp 22 vl (.int .i64 0)=some (pP r o):=c1;have hc:A'.cell? ⟨r,o+1,none⟩=some (.string p.2):=cell_of c2 (k:=1) rfl;obtain ⟨ta,tn,tc,hsl,htl⟩:=V9 hjr.l;simp only [c1',Ab,Ec,CG,hc,hsl];have hrlen:rl.length<1000000:=by
    have key:∀ l:List SR,(∀ x∈l,x.2.length<=L)->(l.flatMap (·.2)).length<=l.length*L:=by
     intro l
     induction l with
     |nil=>intro _;simp
     |cons y r ih=>
      intro hh;rw [List.flatMap_cons,Lq,Lc,Nat.succ_mul]
      have:=ih λz hz=>hh z (by simp [hz])
      have:=hh y (by simp)
      omega
    have h1:=key (X.drop f) λy hy=>hx.recs y (List.mem_of_mem_drop hy);have hfew:=hx.few;have h2:(X.drop f).length*L<=k*L:=Nat.mul_le_mul_right _ (by rw [List.length_drop];omega);rw [hrl,Lc] at h1;omega
   refine AbG htl (λc hc=>by simp at hc) hf (by omega) hrlen λA2 v2 F2 o2 hF2 g2=>?_;have n2:=g2.next;have le2:=g2.le;have j2:=hj1.keeps g2.keeps (by simp);obtain ⟨r',o',d1,d2,d3⟩:=((hjr.l.keeps g2.keeps (by simp)).rd etR.len).at etR hg;have d1':Ak Tp 22 vl (.int .i64 0)=some (.pointer (some ⟨r',o',none⟩)):=d1;rw [c1'] at d1';obtain ⟨rfl,rfl⟩:r=r'/\o=o':=by simpa using d1'
   have hc2:A2.cell? ⟨r,o+1,none⟩=some (.string p.2):=cell_of d2 (k:=1) rfl;have hvl2:=hvl1.2;simp only [hc2,Ae j2.row,cellOf,Ax,AG,AE,hvl2,Cf,Ab,AR,Qn];refine j2.store g2.Ay (by omega) (S2 _ _ _) rfl (by show 0+2+1<=8;omega) rfl λA3 j3 k3 n3 f3=>?_;have j3:Go.Abs.AS A3 j [pP d 0,.int .i64 limit,.string p.2,vl,vw,.int .i64 (D1 (X.drop f) (X.length-f):Int),.bool (Ix (X.drop f) (X.length-f)),.bool false] 83:=j3;have k3:Aj A2 A3 [j]:=k3;obtain ⟨so,sc,hv2⟩:=o2.slice;refine j3.store f3 (by omega) (Nu _ _ _) (by rw [hv2];rfl) (by show 0+3+1<=8;omega) (by rw [hv2];rfl) λA4 j4 k4 n4 f4=>?_;have j4:Go.Abs.AS A4 j [pP d 0,.int .i64 limit,.string p.2,v2,vw,.int .i64 (D1 (X.drop f) (X.length-f):Int),.bool (Ix (X.drop f) (X.length-f)),.bool false] 83:=by rw [hv2] at j4 ⊢;exact j4
   have k4:Aj A3 A4 [j]:=k4;have k24:Aj A2 A4 [j]:=k3.trans k4 (by simp);have K4:Aj A' A4 [j]:=(g2.keeps.more (by simp)).trans k24 (by simp);have hjl:=hj1.lt;refine hkS A4 s1 _ j F2 Fr hos ⟨⟨v2,vw,rl,j4,o2.keeps k24 λy hy=>by have:=hF2 y hy;simp;omega,rfl,hjr.r.keeps K4 λy hy=>by have:=hjr.fr y hy;simp;omega⟩,hdk.keeps K4 (by simp;omega) (by simp;omega),hnd,λx hx=>?_,hFr⟩ hj (λy hy=>by have:=hF2 y hy;omega) (λy hy=>by have:=hjr.fr y hy;omega) (hkp.trans K4 (λy hy=>.inr (by have:=Ms.1 hy;omega))) (by omega) f4
   have:=hF2 x hx
   exact ⟨by omega,by omega,by omega,λhm=>by have:=hrls x hm;omega⟩
end
variable {L d mp k:Nat} {A:AW} {s:DS} {limit:Int}
theorem HC(f:List UInt8):numOf f<100000000:=by
 unfold numOf;split
 ·rename_i h;obtain ⟨_,h2,h3⟩:=h;have key:∀ (l:List UInt8) (a:Nat),l.all (λc=>decide (48<=c)&&decide (c<=57))=true->l.foldl (λn c=>10*n+(c.toNat-48)) a<(a+1)*10^l.length:=by
   intro l
   induction l with
   |nil=>intro a _;simp
   |cons c r ih=>
    intro a hh;simp only [List.all_cons,Bq,decide_eq_true_eq] at hh;have h1:c.toNat<=57:=by have:=hh.1.2;exact this
    have:=ih (10*a+(c.toNat-48)) hh.2
    rw [List.foldl_cons,Lc,Nat.pow_succ];refine Nat.lt_of_lt_of_le this ?_;have h3:10*a+(c.toNat-48)+1<=(a+1)*10:=by omega
    calc (10*a+(c.toNat-48)+1)*10^r.length<=((a+1)*10)*10^r.length:=Nat.mul_le_mul_right _ h3
     _=(a+1)*(10^r.length*10):=by rw [Nat.mul_assoc,Nat.mul_comm 10]
  have:=key (f.drop 2) 0 h3
  rw [List.length_drop,h2] at this;exact this
 ·omega
theorem scan_len:∀ (n:Nat) (s:List UInt8),s.length=n->13*(scan s).1.length<=s.length/\(scan s).2.1<=s.length/\(scan s).2.2<=2:=by
 intro n
 induction n using Nat.strongRecOn with
 |ind n ih=>
  intro s hs;rw [Jh];split
  ·simp
  ·split
   ·simp
   ·split
    ·simp
    ·split
     ·simp
     ·split
      ·simp
      ·split
       ·simp
       ·rename_i h1 h2 h3 h4 h5 h6
        have:=ih (s.drop (13+C4 ((s.take 5).drop 1))).length (by rw [List.length_drop];omega) _ rfl
        rw [List.length_drop] at this;simp only [Lc];omega
theorem YN{D:Fls}{names:List (List UInt8)}{x:Seg}(h:x∈Bi D names):∃ p∈names,x=Hx (numOf p) (fileOf D p).1:=by
 unfold Bi at h;obtain ⟨p,hp,he⟩:=List.mem_filterMap.1 h;split at he
 ·cases he
 ·cases he;exact ⟨p,hp,rfl⟩
theorem VK{D:Fls}(hL:∀ f∈D,f.2.1.length<=L)(p:List UInt8):(fileOf D p).1.length<=L:=by
 unfold fileOf;cases hq:AB D p with
 |none=>exact Nat.zero_le _
 |some f=>exact hL _ (EI hq)
theorem S7(D:Fls):(Bi D (namesS D)).length<=D.length:=by
 have h1:(Bi D (namesS D)).length<=(namesS D).length:=List.length_filterMap_le _ _;have h2:(namesS D).length=D.length:=by unfold namesS;rw [List.length_mergeSort,List.length_map]
 omega
section
variable {W0:World} {m0:Inj Tp}
theorem mid {f:Nat} {A':AW} {X:List SR} {t0 j:Nat} {v v' va:Value} {F F' Fa:List Nat} {vs:List FV} (hg0:Glb A') (hk9:k<=1000) (hL:L<900000) (hA:A.next<500000000000)
  (hx:OX s k L X f) (hlow:QM A.next A' j t0 d X v' f) (hj:A.next<=j) (hv:BO 90 3 fG A' v (X.map (·.1)) F) (hF:∀ y∈F,A.next<=y/\y<j)
  (hact:G3 A' j Fa t0 va (if fresh∈namesS s.D then [.rmF] else []) vs Fa) (hFa:∀ y∈Fa,j<y) (hjr:Go.Abs.AS A' j [ptr d,.int .i64 limit,.string ⟨⟨[]⟩⟩,.slice none 0 0,.slice none 0 0,.int .i64 0,.bool false,.bool false] 83)
  (hgr:Grow A A' (1000*(2*L+100)-100)):AcR W0 m0 (λid v A''=>∃ g2,OI A d mp k L s limit g2 id v A'') (ptr t0) v v' (.int .i64 ((f:Nat):Int)) (ptr j) va A':=by
 have hmax:Am=1099511627776:=rfl;have hC:C0 L=1000*(2*L+100):=rfl;have hnx:=hgr.next;have hle:=hgr.le;have hf1:=hx.le;have hf2:=hx.few;unfold AcR;obtain ⟨F1,hr1,hr2⟩:=hlow.rr;have hl:=hr1.len etG (B:=A');rw [List.length_map,List.length_drop] at hl;rw [hl];have hjl:=hjr.lt;have hal:=hact.own.lt;simp only [Ab,Bo];have start:∀ (A2:AW) (va2 vl vw:Value) (vs2:List FV) (Fr2 Fa2:List Nat),Aj A' A2 (j::Fa)->Aw A2->A2.next<=A'.next+50->G3 A2 j (Fr2++Fa2) t0 va2 (EM (namesS s.D) (X.drop f)) vs2 Fa2->
   JrO A2 j d limit [] (rowAt (X.drop f) 0) (D1 (X.drop f) 0) (Ix (X.drop f) 0) vl vw [] Fr2 Fa2->
   Aa (AP Tp A2 77 v none (some (.int .i64 ((f:Nat):Int))) none) λt61=>Aa (Bd Tp A2 77 t61) λt62=>Bm (T8 0) (T8 0) (∃ g2,OI A d mp k L s limit g2 0 [ptr t0,v',ptr j,va2,t61,t62,.int .i64 0] A2):=by
  intro A2 va2 vl vw vs2 Fr2 Fa2 hk2 hf2' hn2 ha2 hj2;have hS0:∀ y∈j::Fa,j<=y:=λy hy=>by
   rcases Mk.1 hy with h | h
   ·omega
   ·have:=hFa y h;omega
  have hS:∀ y∈j::Fa,y<A.next\/j<=y:=λy hy=>.inr (hS0 y hy);have hv2:BO 90 3 fG A2 v (X.map (·.1)) F:=hv.keeps hk2 λy hy hm=>by
   have:=hF y hy
   rcases hS y hm with h | h<;>omega
  obtain ⟨w,Fw,w1,w2,w3⟩:=hv2.to etG (i:=f) (by rw [List.length_map];omega) (Aar A2);rw [w1];rw [<- List.map_take] at w2;have hl2:=w2.len etG (B:=A2);rw [List.length_map,List.length_take,Nat.min_eq_left (by omega)] at hl2;simp only [Ab,hl2];refine Ar.2 ⟨100000+(f-0),.inl ⟨rfl,X,f,0,t0,j,va2,w,v',vl,vw,vs2,Fa2,[],Fr2,Fw,rfl,hx,by omega,rfl,hlow.keeps hk2 hS,hj,w2,λy hy=>(hF y (w3 y hy)).2,?_,hj2,?_⟩⟩
  ·simpa using ha2
  ·exact ⟨hgr.keeps.trans hk2 λy hy=>.inr (by have:=hS0 y hy;omega),hf2',by omega⟩
 refine Be.2 ⟨λhz=>?_,λhz=>?_⟩
 ·have hz:X.drop f=[]:=List.drop_of_length_le (by omega);refine Io (X6 A' 1) rfl hgr.Ay (by omega) λA1 m1=>?_;have n1:=m1.next;have k1:=m1.keeps hgr.Ay;refine Z2 (s:=⟨⟨[]⟩⟩) (hg0.keeps k1 (by simp)) m1.Ay (by simp) (by omega) λA2 g2=>?_;have n2:=g2.next;have le2:=g2.le;have g2':=(Grow.made m1 hgr.Ay).trans g2;have j2:=hjr.keeps g2'.keeps (by simp);simp only [ptr] at j2;simp only [Ea,ptr,Al,Lk,Lj,Lh,Nat.zero_add,Ab];refine j2.store g2.Ay (by omega) (Ui _ _ _) rfl (by show 4+1<=8;omega) rfl λA3 j3 k3 n3 f3=>?_;have j3:Go.Abs.AS A3 j [pP d 0,.int .i64 limit,.string ⟨⟨[]⟩⟩,.slice none 0 0,.slice (some ⟨A'.next,0,none⟩) 1 1,.int .i64 0,.bool false,.bool false] 83:=j3;have k3:Aj A2 A3 [j]:=k3;refine j3.store f3 (by omega) (J0 _ _ _) rfl (by show 5+1<=8;omega) rfl λA4 j4 k4 n4 f4=>?_;have j4:Go.Abs.AS A4 j [pP d 0,.int .i64 limit,.string ⟨⟨[]⟩⟩,.slice none 0 0,.slice (some ⟨A'.next,0,none⟩) 1 1,.int .i64 ((13:Nat):Int),.bool false,.bool false] 83:=j4;have k4:Aj A3 A4 [j]:=k4;refine j4.store f4 (by omega) (JZ _ _ _) rfl (by show 6+1<=8;omega) rfl λA5 j5 k5 n5 f5=>?_;have j5:Go.Abs.AS A5 j [ptr d,.int .i64 limit,.string ⟨⟨[]⟩⟩,.slice none 0 0,.slice (some ⟨A'.next,0,none⟩) 1 1,.int .i64 ((13:Nat):Int),.bool true,.bool false] 83:=j5;have k5:Aj A4 A5 [j]:=k5;have k25:Aj A2 A5 [j]:=(k3.trans k4 (by simp)).trans k5 (by simp);have K5:Aj A' A5 [j]:=(g2'.keeps.more (by simp)).trans k25 (by simp);have le25:=k25.next;refine Io (Abd A5 42 43 45 t0) rfl f5 (by omega) λA6 m6=>?_;have n6:=m6.next;have k6:=m6.keeps f5;have K6:Aj A' A6 [j]:=K5.trans k6 (by simp);have hjFa:j∉Fa:=λhm=>by have:=hFa j hm;omega
  have m6r:Go.Abs.AS A6 A5.next (flat fV [f1V 42 t0,f1V 43 t0,f1V 45 t0]) 50:=m6.BB;have hvs:vs.length<=1:=by rw [<- hact.len];split<;>simp
  refine C3.BG (l2:=[f1V 42 t0,f1V 43 t0,f1V 45 t0]) esF.us esF.sz esF.by' esF.hz esF.len esF.one (hact.own.keeps K6 (λy hy=>by have:=hFa y hy;simp;omega)) (Zx esF (c:=3) m6r) m6.Ay (by omega) (by omega) (by simp) λv7 A7 F7 o7 k7 hF7 n7 f7=>?_
  have K7:Aj A' A7 (j::Fa):=(K6.more (by simp)).trans k7 (λy hy=>.inl (by simp [hy]));have hjF7:∀ y∈F7,j<y:=λy hy=>(hF7 y hy).elim (hFa y) λh=>by omega
  refine start A7 v7 (.slice none 0 0) (.slice (some ⟨A'.next,0,none⟩) 1 1) (vs++[f1V 42 t0,f1V 43 t0,f1V 45 t0]) [A'.next] F7 K7 f7 (by omega) ?_ ?_
  ·unfold EM;rw [if_pos hz];refine hact.app K7 (λy hy=>?_) (λy hy=>?_) (l2:=[.ap0,.syF,.rn1]) rfl (λm a w ha hw=>?_) o7
   ·rcases Mk.1 hy with h | h
    ·exact .inl (by omega)
    ·exact .inr (.inl h)
   ·rcases Mz.1 hy with h | h
    ·exact .inr (by have:=Ms.1 h;omega)
    ·exact (hF7 y h).imp (λh=>h) λh=>by omega
   ·match m,ha,hw with
    |0,ha,hw=>cases ha;cases hw;rfl
    |1,ha,hw=>cases ha;cases hw;rfl
    |2,ha,hw=>cases ha;cases hw;rfl
    |m+3,ha,hw=>simp at ha
  ·have e1:rowAt (X.drop f) 0=[1]:=by unfold rowAt;rw [if_pos hz]
   have e2:D1 (X.drop f) 0=13:=by unfold D1;rw [hz];rfl
   have e3:Ix (X.drop f) 0=true:=by unfold Ix;rw [hz];rfl
   rw [e1,e2,e3];have r1:Go.Abs.AS A1 A'.next (flat fI [1]) 3:=m1.BB;have r7:=((r1.keeps g2.keeps (by simp)).keeps (k25.trans k6 (by simp)) (by simp;omega)).keeps k7 λhm=>by have:=hal _ hm;omega
   refine ⟨j5.keeps ((k6.more (T:=Fa) (by simp)).trans k7 (λy hy=>.inl hy)) hjFa,BO.nil _,.inr ⟨A'.next,rfl,by simp,r7,rfl⟩,by simp,λy hy=>?_,hjF7⟩
   have:=Ms.1 hy
   refine ⟨by omega,λhm=>?_⟩;rcases hF7 y hm with h | h
   ·have:=hal y h;omega
   ·omega
 ·have hz:X.drop f≠[]:=by
   intro h0
   have:=congrArg List.length h0
   rw [List.length_drop,Ln] at this;omega
  refine start A' va (.slice none 0 0) (.slice none 0 0) vs [] Fa (.refl _ _) hgr.Ay (by omega) ?_ ?_
  ·unfold EM;rw [if_neg hz,List.append_nil];exact hact
  ·have e1:rowAt (X.drop f) 0=[]:=by unfold rowAt;rw [if_neg hz];rfl
   have e2:D1 (X.drop f) 0=0:=by unfold D1;rw [if_neg hz];rfl
   have e3:Ix (X.drop f) 0=false:=by unfold Ix;simp [hz]
   rw [e1,e2,e3];exact ⟨hjr,BO.nil _,C3.nil _,by simp,by simp,hFa⟩
theorem wc8 {K:Value->AW->Prop} (h:Dk A d mp s) (hg0:Glb A) (hok:OkS k s) (hk9:k<=1000) (hLf:∀ f∈s.D,f.2.1.length<=L) (hL:L<900000) (hkL:k*L<900000) (hf:Aw A) (hA:A.next<500000000000) (h0:0≠d/\0≠mp)
  (hnum:∀ f∈namesS s.D,QL W0 m0 f) (hnm:∀ n,n=1\/(∃ x∈Bi s.D (namesS s.D),x.n=n)->EO W0 m0 n)
  (hkN:∀ e A' s',EY s (namesS s.D) limit=(s',none,e)->Dk A' d mp s'->Aj A A' [d,mp]->A'.next<=A.next+1000*(2*L+100)+3000000->Aw A'->K (.tuple ⟨[.pointer none,.int .i64 e]⟩) A')
  (hkS:∀ A' s' q j Fl Fr,EY s (namesS s.D) limit=(s',some q,0)->JD A' j d mp q s' Fl Fr->A.next<=j->(∀ y∈Fl,A.next<=y)->(∀ y∈Fr,A.next<=y)->Aj A A' [d,mp]->A'.next<=A.next+1000*(2*L+100)+3000000->Aw A'->K (.tuple ⟨[ptr j,.int .i64 0]⟩) A'):
  Wc Tp An W0 m0 8 [ptr d,.int .i64 limit] A K:=by
 have hmax:Am=1099511627776:=rfl;have hdl:=h.lt;have hfew:=hok.few;have hDL:s.D.length*(L+30)<=1000*(L+30):=Nat.mul_le_mul_right _ (by omega);by_cases hlim:limit<1
 ·have hos:EY s (namesS s.D) limit=(s,none,2):=by unfold EY;rw [if_pos hlim]
  refine w8 _ _ _ BF ?_;rw [e8];refine Bk (cs:=[ptr d]) hf (by omega) rfl λA1 m1=>?_;have n1:=m1.next;have k1:=m1.keeps hf;have r1:=m1.BB;simp only [ptr] at r1;simp only [Cx,Ae r1.row,cellOf,Ax,Cf,Ab];refine Z5 (h.keeps k1 (by simp) (by simp)) m1.Ay (by omega) λA2 d2 k2 n2 f2=>?_;simp only [AaA,Ab,AU];refine Ag.2 ⟨λh=>by simp at h,λ_=>?_⟩;simp only [Ao];refine ⟨λ_=>?_,λh=>absurd hlim h⟩;have K2:=k1.trans k2 (by simp);exact hkN 2 A2 s hos (h.keeps K2 (by simp) (by simp)) (K2.more (by simp)) (by omega) f2
 by_cases hdn:s.down=true
 ·have hos:EY s (namesS s.D) limit=(s,none,100):=by unfold EY;rw [if_neg hlim,if_pos hdn]
  refine w8 _ _ _ BF ?_;rw [e8];refine Bk (cs:=[ptr d]) hf (by omega) rfl λA1 m1=>?_;have n1:=m1.next;have k1:=m1.keeps hf;have r1:=m1.BB;simp only [ptr] at r1;simp only [Cx,Ae r1.row,cellOf,Ax,Cf,Ab];refine Z5 (h.keeps k1 (by simp) (by simp)) m1.Ay (by omega) λA2 d2 k2 n2 f2=>?_;simp only [AaA,Ab,AU];refine Ag.2 ⟨λh=>by simp at h,λ_=>?_⟩;have r2:=r1.keeps k2 (by simp);simp only [Ao,Ae r2.row,cellOf,Ax,Cf,Ab];refine ⟨λh=>absurd h hlim,λ_=>?_⟩;have K2:=k1.trans k2 (by simp);have hd2:=h.keeps K2 (by simp) (by simp);refine Z4 hd2 ?_;rw [hdn];refine Ag.2 ⟨λ_=>?_,λh=>by simp at h⟩;exact hkN 100 A2 s hos hd2 (K2.more (by simp)) (by omega) f2
 have hdn:s.down=false:=by simpa using hdn
 refine w8 _ _ _ (c8 (I:=OI A d mp k L s limit) λg id vals A' dd hI hd'=>?_) ?_
 ·rcases hI with ⟨rfl,hh⟩ | ⟨rfl,hh⟩ | ⟨rfl,hh⟩
  ·exact AcN hk9 hL hA (.inl ⟨rfl,hh⟩) hd'
  ·exact AcM h hok hk9 hL hkL hA (.inr (.inl ⟨rfl,hh⟩)) hd'
  ·exact AcL hg0 hk9 hL hkL hA hlim hdn hdl h0 hnm hkN hkS (.inr (.inr ⟨rfl,hh⟩)) hd'
 rw [e8];refine Bk (cs:=[ptr d]) hf (by omega) rfl λA1 m1=>?_;have n1:=m1.next;have k1:=m1.keeps hf;have r1:=m1.BB;simp only [ptr] at r1;simp only [ptr,Cx,Ae r1.row,cellOf,Ax,Cf,Ab];refine Z5 (h.keeps k1 (by simp) (by simp)) m1.Ay (by omega) λA2 d2 k2 n2 f2=>?_;simp only [AaA,Ab,AU];refine Ag.2 ⟨λh=>by simp at h,λ_=>?_⟩;have r2:=r1.keeps k2 (by simp);simp only [Ao,Ae r2.row,cellOf,Ax,Cf,Ab];refine ⟨λh=>absurd h hlim,λ_=>?_⟩;have K2:=k1.trans k2 (by simp);have hd2:=h.keeps K2 (by simp) (by simp);refine Z4 hd2 ?_;rw [hdn];refine Ag.2 ⟨λh=>by simp at h,λ_=>?_⟩;simp only [Ae r2.row,cellOf,Ax,Cf,Ab];refine Aew (L:=L) hd2 (hg0.keeps K2 (by simp)) hdn (by omega) hLf hL f2 (by omega) hnum ⟨by omega,by omega⟩ λA3 v F X hX ho hF hsv g3=>?_;have n3:=g3.next;have le3:=g3.le;simp only [Bw,Bv,Ab,BC];refine Bb.2 ⟨λhe=>by simp at he,λ_=>?_⟩;have hXl:X.length<=s.D.length:=by
  have:=S7 s.D
  rw [<- hX,List.length_map] at this;exact this
 have hxs:∀ x∈X,x.2.length<=L/\x.1.n<100000000/\x.1.st<256:=λx hx=>by
  have hm:BR x∈Bi s.D (namesS s.D):=by rw [<- hX];exact List.mem_map.2 ⟨x,hx,rfl⟩
  obtain ⟨p,hp,he⟩:=YN hm;have h1:=scan_len _ (fileOf s.D p).1 rfl;have h2:=VK hLf p;have e1:x.2.map toR=(scan (fileOf s.D p).1).1:=congrArg Seg.l he;have e2:x.1.n=numOf p:=congrArg Seg.n he;have e3:x.1.st=(scan (fileOf s.D p).1).2.2:=congrArg Seg.st he;have h3:=HC p;have e1l:=congrArg List.length e1;rw [List.length_map] at e1l;exact ⟨by omega,by omega,by omega⟩
 have hXL:X.length*(L+2)<=1000*(L+2):=Nat.mul_le_mul_right _ (by omega);have hfin:∀ (o:Option (List Seg × Nat)),Ga (Bi s.D (namesS s.D))=o->o=none->EY s (namesS s.D) limit=(s,none,120):=by
  intro o h1 h2;unfold EY;rw [if_neg hlim,if_neg (by rw [hdn];simp),h1,h2]
 refine Aev (lo:=A2.next) (M:=L) ho hsv g3.Ay (by omega) (λx hx=>(hxs x hx).1) hL (λx hx=>(hxs x hx).2.1) (λx hx=>(hxs x hx).2.2) (by omega) (λhr A4 g4=>?_) λf hr hfX A4 v' F' g4 hrd hF'=>?_
 ·have n4:=g4.next;simp only [show ∀ a b c,Ap (.tuple ⟨[a,b,c]⟩) 0=some a from λ_ _ _=>rfl,show ∀ a b c,Ap (.tuple ⟨[a,b,c]⟩) 1=some b from λ_ _ _=>rfl,show ∀ a b c,Ap (.tuple ⟨[a,b,c]⟩) 2=some c from λ_ _ _=>rfl,Ab,Bg];refine Ag.2 ⟨λ_=>?_,λh=>by simp at h⟩;have K4:=(K2.trans g3.keeps (by simp)).trans g4.keeps (by simp);exact hkN 120 A4 s (hfin none (by rw [<- hX];exact hr) rfl) (h.keeps K4 (by simp) (by simp)) (K4.more (by simp)) (by omega) g4.Ay
 have n4:=g4.next;have le4:=g4.le;simp only [show ∀ a b c,Ap (.tuple ⟨[a,b,c]⟩) 0=some a from λ_ _ _=>rfl,show ∀ a b c,Ap (.tuple ⟨[a,b,c]⟩) 1=some b from λ_ _ _=>rfl,show ∀ a b c,Ap (.tuple ⟨[a,b,c]⟩) 2=some c from λ_ _ _=>rfl,Ab,Bg];refine Ag.2 ⟨λh=>by simp at h,λ_=>?_⟩;have r4:=(r2.keeps g3.keeps (by simp)).keeps g4.keeps (by simp);have hba:=AgF d limit;simp only [ptr] at hba;simp only [Ae r4.row,cellOf,Ax,Cf,Ab,hba];refine Bk (cs:=[pP d 0,.int .i64 limit,.string ⟨⟨[]⟩⟩,.slice none 0 0,.slice none 0 0,.int .i64 0,.bool false,.bool false]) g4.Ay (by omega) rfl λA5 m5=>?_;have n5:=m5.next;have k5:=m5.keeps g4.Ay;have r5:=r4.keeps k5 (by simp);simp only [Ae r5.row,cellOf,Ax,Cf,Ab];have K5:Aj A A5 []:=((K2.trans g3.keeps (by simp)).trans g4.keeps (by simp)).trans k5 (by simp);have hd5:=h.keeps K5 (by simp) (by simp);refine SQ hd5 m5.Ay (by omega) (by omega) λA6 sv Fn h6 hFn k6 n6 f6=>?_;have hrd6:=HE h6;have hnl:(namesS s.D).length=s.D.length:=by unfold namesS;rw [List.length_mergeSort,List.length_map]
 refine AbI (k:=⟨⟨[106,46,110,101,119]⟩⟩) hrd6 (by omega) ?_;have K6:Aj A A6 []:=K5.trans k6 (by simp);have k46:Aj A4 A6 []:=k5.trans k6 (by simp);have k36:Aj A3 A6 []:=g4.keeps.trans k46 (by simp);have le6:=k6.next;have hox:OX s k L X f:=⟨hX.symm,hr,hfX,by omega,λx hx=>(hxs x hx).1⟩;have hlow:QM A.next A6 A.next.succ.pred A.next d X v' f\/True:=.inr trivial;have holt:=BO.lt ho;have hlow:QM A.next A6 A4.next A.next d X v' f:=by
  refine ⟨r5.keeps k6 (by simp),⟨by omega,by omega⟩,⟨F',hrd.keeps k46 (by simp),λy hy=>?_⟩,λx hx=>?_⟩
  ·have h1:=hF' y hy;have h2:=hF y h1;have h3:=holt y h1;omega
  ·obtain ⟨G,hG1,hG2⟩:=hsv x hx;refine ⟨G,hG1.keeps k36 (by simp),λy hy=>?_⟩;have h1:=hG1.fam y hy;have h2:=hG2 y hy;omega
 have ho6:=ho.keeps k36 (by simp);have hF6:∀ y∈F,A.next<=y/\y<A4.next:=λy hy=>by
  have h2:=hF y hy;have h3:=holt y hy;omega
 have j6:=m5.BB.keeps k6 (by simp);have g6:Grow A A6 (1000*(2*L+100)-110):=⟨K6,f6,by omega⟩;have hfr:(⟨⟨[106,46,110,101,119]⟩⟩:ByteArray).data.toList=fresh:=rfl;rw [hfr];refine Ag.2 ⟨λhin=>?_,λhin=>?_⟩
 ·have hin:fresh∈namesS s.D:=by simpa using hin
  refine Io (Abe A6 39 A.next) rfl f6 (by omega) λA7 m7=>?_;have n7:=m7.next;have k7:=m7.keeps f6;refine C3.LF esF (p:=f1V 39 A.next) (C3.nil A7) m7.BB m7.Ay (by omega) (by simp) λv8 A8 F8 o8 k8 hF8 n8 f8=>?_;have k68:Aj A6 A8 []:=k7.trans k8 (by simp);have h8:∀ y∈F8,A6.next<y:=λy hy=>(hF8 y hy).elim (λh=>by simp at h) λh=>by omega
  refine mid (k:=k) (F':=F') (Fa:=F8) (vs:=[f1V 39 A.next]) ((hg0.keeps K6 (by simp)).keeps k68 (by simp)) hk9 hL hA hox (hlow.keeps k68 (by simp)) (by omega) (ho6.keeps k68 (by simp)) hF6 ?_ (λy hy=>by have:=h8 y hy;omega) (j6.keeps k68 (by simp)) ((g6.trans ⟨k68,f8,(by omega:A8.next<=A6.next+2)⟩).more (by omega));rw [if_pos hin];refine ⟨o8,rfl,λm a w ha hw=>?_⟩
  match m,ha,hw with
  |0,ha,hw=>cases ha;cases hw;rfl
  |m+1,ha,hw=>simp at ha
 ·have hin:fresh∉namesS s.D:=by simpa using hin
  refine mid (k:=k) (F':=F') (Fa:=[]) (vs:=[]) (hg0.keeps K6 (by simp)) hk9 hL hA hox hlow (by omega) ho6 hF6 ?_ (by simp) j6 (g6.more (by omega));rw [if_neg hin];exact G3.nil _ _ _ _
end
end Go.Proofs.YtbchfeibhoobeaaGreatDoor
