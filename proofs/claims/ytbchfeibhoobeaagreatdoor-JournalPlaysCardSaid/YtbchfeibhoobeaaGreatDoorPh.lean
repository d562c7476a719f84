/-
  This text prints what the functions reached ask of their memory, and shows what they answer. Conditions: none for the last theorem, those that each theorem states for the others.
-/
import Derived.Test.YtbchfeibhoobeaaGreatDoorPg
set_option maxRecDepth 100000
set_option maxHeartbeats 1000000
namespace Go.Jr
open Go.Proofs.YtbchfeibhoobeaaGreatDoor (namesS leB leB_trans leB_total)
theorem Gx{D:Fls}(h:(Aq D).Nodup):Ris ltB (namesS D)/\(namesS D).Perm (Aq D):=by
 have hp:(namesS D).Perm (Aq D):=List.mergeSort_perm _ _;refine ⟨?_,hp⟩;have h1:(namesS D).Pairwise λa b=>leB a b=true:=List.pairwise_mergeSort leB_trans leB_total _;have h2:(namesS D).Pairwise (·≠·):=hp.nodup_iff.2 h;refine (h1.and h2).imp λ{a b} hab=>?_;unfold leB at hab;unfold ltB;rw [decide_eq_true_iff] at *;rcases Classical.em (a<b) with h | h
 ·exact h
 ·exact absurd (List.le_antisymm hab.1 (List.not_lt.1 h)) hab.2
end Go.Jr
namespace Go.Proofs.YtbchfeibhoobeaaGreatDoor
open Go.Abs Go.Jr
variable {A:AW} {d mp j dq:Nat} {s:DS} {K:Value->AW->Prop} {q:JS} {Fl Fr:List Nat}
def Pb(s:DS)(n:List UInt8):Nat × Int:=
 if s.down=true then (0,100) else match AB s.D n with | none=>(0,7) | some f=>(f.2,0)
theorem AcC(a:Addr)(xo yo:Operand):Ai Tp .eql 64 xo yo (.pointer (some a)) (.pointer none)=some (.bool false):=by kernel_rfl
theorem ZK(xo yo:Operand):Ai Tp .eql 64 xo yo (.pointer none) (.pointer none)=some (.bool true):=by kernel_rfl
theorem Acx(a:Addr)(xo yo:Operand):Ai Tp .neq 64 xo yo (.pointer (some a)) (.pointer none)=some (.bool true):=by kernel_rfl
theorem ZJ(xo yo:Operand):Ai Tp .neq 64 xo yo (.pointer none) (.pointer none)=some (.bool false):=by kernel_rfl
theorem AcF(xo yo:Operand):Ai Tp .eql 29 xo yo (.pointer none) (.pointer none)=some (.bool true):=by kernel_rfl
section
variable {W0:World} {m0:Inj Tp}
theorem Aei {n:ByteArray} (h:Dk A d mp s) (hf:Aw A) (hA:A.next+10<Am)
  (hk:∀ A',Aj A A' []->A'.next<=A.next+3->Aw A'->K (.tuple ⟨[.int .i64 ((Pb s n.data.toList).1:Int),.int .i64 (Pb s n.data.toList).2]⟩) A'):
  Wc Tp An W0 m0 79 [pP d 0,.string n] A K:=by
 have fin:∀ (f:Fv) (q:Nat) (e:Int) (A1:AW),Aj A A1 []->A1.next<=A.next+2->Aw A1->Pb s n.data.toList=(f.2,e)->
   Au (Cz Tp A1 100) λt3 At3=>Bh (Az Tp At3 100 t3 (vF f)) λAt4=>Aa (Ad Tp 100 t3 1) λt5=>Aa (Af Tp At4 3 t5) λt6=>K (.tuple ⟨[t6,.int .i64 e]⟩) At4:=by
  intro f q e A1 k1 n1 f1 he;rw [he] at hk;refine Bl zF f1 (by omega) rfl λA3 m3=>?_;have n3:=m3.next;refine m3.BB.store m3.Ay (by omega) (CY _ _ _) rfl (by show 0+2<=2;omega) rfl λA4 r4 k4 n4 f4=>?_;have r4:Go.Abs.AS A4 A1.next [.string f.1,.int .i64 (f.2:Int)] 100:=r4;simp only [Lr,D4,Ae r4.row,cellOf,AE,AG,Cf,Ab,Nat.zero_add];have hk0:=k1.next;exact hk A4 ((k1.trans (m3.keeps f1) (by simp)).trans k4 (λx hx=>by have:=Ms.1 hx;exact .inr (by omega))) (by omega) f4
 refine w79 _ _ _ BF ?_;rw [e79];refine w61 _ _ _ BF ?_;rw [e61];have hlt:=h.lt;refine Bl zF hf (by omega) rfl λA1 m1=>?_;have n1:=m1.next;have k1:=m1.keeps hf;have h1:=h.keeps k1 (by simp) (by simp);refine SO h1 ?_;simp only [BC,Ab];unfold HZ;unfold Pb at fin hk;refine Bb.2 ⟨λhe=>?_,λhe=>?_⟩
 ·have hd:s.down=true:=by
   cases hq:s.down with
   |true=>rfl
   |false=>rw [hq] at he;simp at he
  rw [if_pos hd] at fin;rw [if_pos hd];simp only [UR,Ab];refine m1.BB.store m1.Ay (by omega) (CY _ _ _) rfl (by show 0+2<=2;omega) rfl λA2 r2 k2 n2 f2=>?_;rw [Qe (v:=(⟨⟨[]⟩⟩,0)) r2];simp only [Ab,Bw,Bv];exact fin (⟨⟨[]⟩⟩,0) 0 100 A2 (k1.trans k2 (λx hx=>by have:=Ms.1 hx;exact .inr (by omega))) (by omega) f2 rfl
 ·have hd:s.down=false:=by
   cases hq:s.down with
   |false=>rfl
   |true=>rw [hq] at he;simp at he
  rw [hd] at fin;simp only [Bool.false_eq_true,if_false] at fin;obtain ⟨es,c,hr,hm,hne,hD⟩:=h1;simp only [Al,CS,EJ,Ae hr.row,cellOf,Cc,Cf,Ab,lookW hm];have hlk:=E1 es n;rw [<- hD] at hlk;rw [<- hlk] at fin;cases hq:DR E2 es n with
  |none=>
   rw [hq] at fin;simp only [Ew,Ed,Ab];refine Bl zF m1.Ay (by omega) rfl λA2 m2=>?_;have n2:=m2.next;refine m2.BB.store m2.Ay (by omega) (CY _ _ _) rfl (by show 0+2<=2;omega) rfl λA3 r3 k3 n3 f3=>?_;simp only [Bg,Ab];refine Ag.2 ⟨λ_=>?_,λh=>by simp at h⟩;simp only [UR,Ab];have r1:=(m1.BB.keeps (m2.keeps m1.Ay) (by simp)).keeps k3 (by simp;omega);refine r1.store f3 (by omega) (CY _ _ _) rfl (by show 0+2<=2;omega) rfl λA4 r4 k4 n4 f4=>?_;rw [Qe (v:=(⟨⟨[]⟩⟩,0)) r4];simp only [Ab,Bw,Bv];refine fin (⟨⟨[]⟩⟩,0) 0 7 A4 (((k1.trans (m2.keeps m1.Ay) (by simp)).trans k3 (λx hx=>by have:=Ms.1 hx;exact .inr (by omega))).trans k4 (λx hx=>by have:=Ms.1 hx;exact .inr (by omega))) (by omega) f4 rfl
  |some v=>
   rw [hq] at fin;simp only [Ew,Ed,Ab];refine Bl zF m1.Ay (by omega) rfl λA2 m2=>?_;have n2:=m2.next;refine m2.BB.store m2.Ay (by omega) (CY _ _ _) rfl (by show 0+2<=2;omega) rfl λA3 r3 k3 n3 f3=>?_;simp only [Bg,Ab];refine Ag.2 ⟨λh=>by simp at h,λ_=>?_⟩;rw [Qe (v:=v) r3];simp only [Ab];have r1:=(m1.BB.keeps (m2.keeps m1.Ay) (by simp)).keeps k3 (by simp;omega);refine r1.store f3 (by omega) (CY _ _ _) rfl (by show 0+2<=2;omega) rfl λA4 r4 k4 n4 f4=>?_;rw [Qe (v:=v) r4];simp only [Ab,Bw,Bv];exact fin v 0 0 A4 (((k1.trans (m2.keeps m1.Ay) (by simp)).trans k3 (λx hx=>by have:=Ms.1 hx;exact .inr (by omega))).trans k4 (λx hx=>by have:=Ms.1 hx;exact .inr (by omega))) (by omega) f4 rfl
theorem Aeh(h:Jn A j d q Fl Fr)(hk:K (.bool q.broken) A):Wc Tp An W0 m0 80 [pP j 0] A K:=by
 refine w80 _ _ BF ?_;rw [e80];refine PJ h ?_;simp only [Bg,Ab];refine Ag.2 ⟨λh=>by simp at h,λ_=>?_⟩;obtain ⟨vl,vr,rl,hr,hl,_,h2⟩:=h;have hvl:=hl.one;have hvr:=h2.one;simp only [Al,Qm,Fh,Ae hr.row,cellOf,Ax,AG,AE,Bt,hvl.2,hvr.2,Cf,Ab,Nat.zero_add];exact hk
theorem Z3{q:DS}{Fq:List Nat}(h:Dk A d mp s)(hq:DQ A dq q Fq)(rq:RQ ltB s q)(hl:s.D.length<2000)(hf:Aw A)(hA:A.next<950000000000)(hk:∀ A',Grow A A' 30000->K (.bool true) A'):
  Wc Tp An W0 m0 27 [ptr d,ptr dq] A K:=by
 have hmax:Am=1099511627776:=rfl;have hlen:q.D.length=s.D.length:=rq.s.d.length_eq.symm;obtain ⟨hri,hpe⟩:=Gx rq.s.n;have hnm:namesS s.D=Aq q.D:=Jm ltk rq.s rq.r hri hpe;have hkl:(Aq q.D).length=q.D.length:=by unfold Aq;rw [List.length_map]
 let I:Nat->Nat->List Value->AW->Prop:=λg id vals A'=>
  (id=0/\∃ (i:Nat) (v1 v2:Value) (F1 F2:List Nat),vals=[ptr d,ptr dq,v1,v2,.int .i64 (i:Int)]/\i<=q.D.length/\g=10000-i/\RdE 0 fS A' v1 (Aq q.D) F1/\RdE 0 fS A' v2 (Aq q.D) F2/\Grow A A' 15000)\/
  (id=2/\∃ i:Nat,vals=[ptr d,ptr dq,.int .i64 (i:Int)]/\i<=q.D.length/\g=5000-i/\Grow A A' (15000+6*i))
 refine w27 _ _ _ (c27 (I:=I) ?_) ?_
 ·rintro g id vals A' dd (⟨rfl,i,v1,v2,F1,F2,rfl,hi,rfl,r1,r2,hg⟩ | ⟨rfl,i,rfl,hi,rfl,hg⟩) hd
  ·rw [Adq];simp only [L27,Mc,Mn,Li,and_true] at hd;obtain ⟨h0,h1,h5,h6,h7⟩:=hd;simp only [h0,h1,h5,h6,h7,ES.HG esS r1,AU,Ab,Ao];refine ⟨λhlt=>?_,λhge=>?_⟩
   ·have hlt:i<(Aq q.D).length:=by omega
    obtain ⟨p,hp⟩:∃ p,(Aq q.D)[i]? =some p:=⟨_,Ge hlt⟩;obtain ⟨a,a1,a2⟩:=esS.at r1 hp rfl;obtain ⟨b,b1,b2⟩:=esS.at r2 hp rfl;simp only [a1,a2,b1,b2,Ab,txV,GY];refine Ag.2 ⟨λhq=>by simp at hq,λ_=>?_⟩;rw [AY,wrap_i64 (by omega) (by omega)];simp only [Ab];exact Ar.2 ⟨10000-(i+1),by omega,.inl ⟨rfl,i+1,v1,v2,F1,F2,rfl,by omega,rfl,r1,r2,hg⟩⟩
   ·exact Ar.2 ⟨5000,by omega,.inr ⟨rfl,0,rfl,by omega,rfl,hg.more (by omega)⟩⟩
  ·rw [Adp];simp only [L27,Mc,Mn,Li,and_true] at hd;obtain ⟨h0,h1,h8⟩:=hd;have hgn:=hg.next;have hq1:=hq.keeps hg.keeps (by simp) (by simp);have hd1:=h.keeps hg.keeps (by simp) (by simp);obtain ⟨vl,fl,hr,ho,hD,hnd⟩:=hq1;have hvl:=ho.one;have hrd:=ho.rd etQ.len;have hll:q.D.length=fl.length:=by rw [hD,List.length_map]
   simp only [h0,h1,h8,ptr,Al,BM,Cs,Ae hr.row,cellOf,hvl.2,Cf,Ab,hrd.len etQ,AU,Ao];refine ⟨λhlt=>?_,λhge=>?_⟩
   ·have hlt:i<fl.length:=by omega
    simp only [Al,Da,Fh,Ae hr.row,cellOf,hvl.2,AG,Bt,Cf,Ab,Bg,Nat.zero_add];refine Ag.2 ⟨λhdn=>?_,λhdn=>?_⟩
    ·have hdn:q.down=false:=by simpa using hdn
     have hsd:s.down=false:=by rw [rq.s.down];exact hdn
     obtain ⟨p,hp⟩:∃ p,fl[i]? =some p:=⟨_,Ge hlt⟩;obtain ⟨r,o,a1,a2,a3⟩:=hrd.at etQ hp;have hDi:q.D[i]? =some (toF p):=Uf hp hD;have hqn:(Aq q.D).Nodup:=(keys_perm rq.s.d).nodup_iff.1 rq.s.n;have hlk:AB s.D p.1.data.toList=some (p.2.1.data.toList,p.2.2):=by
      rw [rq.s.look];unfold AB;have hm:toF p∈q.D:=List.mem_of_getElem? hDi;cases hf:q.D.find? λe=>e.1==p.1.data.toList with
      |none=>
       rw [List.find?_eq_none] at hf;exact absurd (show ((toF p).1==p.1.data.toList)=true by simp [toF]) (hf _ hm)
      |some e=>
       have h1:=List.find?_some hf;have h2:=List.mem_of_find?_eq_some hf
       have:=Pr hqn h2 hm (show e.1=(toF p).1 from eq_of_beq h1)
       rw [this];rfl
     have hread:KL s p.1.data.toList=(p.2.1.data.toList,0):=by unfold KL;rw [hsd,hlk];rfl
     have hsafe:Pb s p.1.data.toList=(p.2.2,0):=by unfold Pb;rw [hsd,hlk];rfl
     have hc:∀ B,Aj A' B []->B.cell? ⟨dq,0,none⟩=some vl/\B.cell? ⟨r,o,none⟩=some (.string p.1)/\B.cell? ⟨r,o+1,none⟩=some (.string p.2.1)/\B.cell? ⟨r,o+2,none⟩=some (.int .i64 (p.2.2:Int)):=λB kB=>by
      obtain ⟨r',o',c1,c2,c3⟩:=(hrd.keeps kB (by simp)).at etQ hp;rw [a1] at c1;simp only [Oi,Value.pointer.injEq,Addr.mk.injEq] at c1;obtain ⟨rfl,rfl,_⟩:=c1;have hrB:=hr.keeps kB (by simp);refine ⟨?_,cell_of c2 (k:=0) rfl,cell_of c2 (k:=1) rfl,cell_of c2 (k:=2) rfl⟩;rw [Ae hrB.row];simp only [cellOf,hvl.2,Cf]
     obtain ⟨x0,x1,x2,x3⟩:=hc A' (.refl _ _);simp only [a1,Ab,GP,CG,x0,x1];refine Ab9 (n:=p.1) hd1 hg.Ay (by omega) λA1 k1 n1 f1=>?_;obtain ⟨y0,y1,y2,y3⟩:=hc A1 k1;rw [hread];simp only [Bw,Bv,Ab,Al,BM,Cs,y0,a1,GP,CG,y1];refine Aei (n:=p.1) (hd1.keeps k1 (by simp) (by simp)) f1 (by omega) λA2 k2 n2 f2=>?_;have K2:=k1.trans k2 (by simp);obtain ⟨z0,z1,z2,z3⟩:=hc A2 K2;rw [hsafe];simp only [Bw,Bv,Ab,BC];refine Bb.2 ⟨λh=>absurd rfl h,λ_=>Bb.2 ⟨λh=>absurd rfl h,λ_=>?_⟩⟩;simp only [Al,BM,Cs,z0,a1,Ab,Dr,CG,z2,GY];refine Ag.2 ⟨λhq=>by simp at hq,λ_=>?_⟩;simp only [Al,BM,Cs,z0,a1,Ab,FN,D4,z3,BC];refine Bb.2 ⟨λh=>absurd rfl h,λ_=>?_⟩;rw [AY,wrap_i64 (by omega) (by omega)];simp only [Ab];exact Ar.2 ⟨5000-(i+1),by omega,.inr ⟨rfl,i+1,rfl,by omega,rfl,⟨hg.keeps.trans K2 (by simp),f2,by omega⟩⟩⟩
    ·exact hk A' (hg.more (by omega))
   ·exact hk A' (hg.more (by omega))
 ·rw [e27];have hdlt:=h.lt;refine SQ h hf (by omega) (by omega) λA1 sv F1 o1 hF1 k1 n1 f1=>?_;rw [hnm] at o1;have hq1:=hq.keeps k1 (by simp) (by simp);refine Aej hq1 (by omega) f1 (by omega) λA2 sw F2 o2 hF2 k2 n2 f2=>?_;have r1:RdE 0 fS A1 sv (Aq q.D) F1:=by
   have h1:BO 9 0 fS A1 sv (Aq q.D) F1:=by
    show DJ A1 9 (0+1) sv (Aq q.D).length (flat fS (Aq q.D)) F1;rw [ZT];exact o1
   exact h1.rd esS.len
  have r1:=r1.keeps k2 (by simp);have r2:=o2.rd esS.len;rw [ES.HG esS r1,ES.HG esS r2];simp only [Ab,BC];refine Bb.2 ⟨λh=>absurd rfl h,λ_=>?_⟩;have hq2:=hq1.keeps k2 (by simp) (by simp);have hd2:=(h.keeps k1 (by simp) (by simp)).keeps k2 (by simp) (by simp);obtain ⟨vl,fl,hr,ho,hD,hnd⟩:=hq2;have hvl:=ho.one;simp only [ptr,Al,Da,Fh,Ae hr.row,cellOf,hvl.2,AG,Bt,Cf,Ab,Nat.zero_add];refine Z4 hd2 ?_;simp only [Al,Da,Fh,Ae hr.row,cellOf,hvl.2,AG,Bt,Cf,Ab,Nat.zero_add,AR,QF];refine Ag.2 ⟨λh=>by rw [rq.s.down] at h;simp at h,λ_=>?_⟩;refine Ar.2 ⟨10000,.inl ⟨rfl,0,sv,sw,F1,F2,rfl,by omega,rfl,r1,r2,⟨k1.trans k2 (by simp),f2,by omega⟩⟩⟩
theorem AbK{kq:Nat}{k:KS}{Fk:List Nat}(h:Jn A j d q Fl Fr)(hq:KQ A kq dq k Fk)(h1:q.state=k.state)(h2:q.l=k.l)(h3:q.broken=k.broken)(hl:q.l.length<900000)(hf:Aw A)(hA:A.next<900000000000)(hk:∀ A',Grow A A' 2->K (.bool true) A'):
  Wc Tp An W0 m0 28 [ptr j,ptr kq] A K:=by
 refine w28 _ _ _ BF ?_;rw [e28];obtain ⟨v,rl,hr,hrl,hkl⟩:=hq;have hvl:=hrl.one;simp only [ptr,Al,NZ,CG,Ae hr.row,cellOf,hvl.2,Ax,AG,AE,Bt,Cf,Ab,Nat.zero_add];refine AbS h ?_;simp only [Al,NZ,CG,Ae hr.row,cellOf,hvl.2,Ax,AG,AE,Bt,Cf,Ab,Nat.zero_add,AR,II];refine Ag.2 ⟨λ_=>?_,λhn=>by rw [h1] at hn;simp at hn⟩;simp only [Al,Lo,JO,Ae hr.row,cellOf,hvl.2,Ax,AG,AE,Bt,Cf,Ab,Nat.zero_add];refine AbR h hf hA (by omega) λA1 v1 R F1 hR o1 hF1 g1=>?_;have hr1:=hr.keeps g1.keeps (by simp);have hrl1:=hrl.keeps g1.keeps (by simp);simp only [Al,Lo,JO,Ae hr1.row,cellOf,hvl.2,Ax,AG,AE,Bt,Cf,Ab,Nat.zero_add,AR];have hrll:rl.length=q.l.length:=by rw [h2,hkl,List.length_map]
 refine AeH (o1.rd etR.len) hrl1 (by omega) λb hb=>?_;have hb:b=true:=hb.2 (YJ (by rw [<- hR,h2,hkl]));subst hb;refine Ag.2 ⟨λ_=>?_,λh=>by cases h⟩;simp only [Al,HK,Fh,Ae hr1.row,cellOf,hvl.2,Ax,AG,AE,Bt,Cf,Ab,Nat.zero_add];refine Aeh (Jn.keeps h g1.keeps (by simp) (by simp) (by simp)) ?_;simp only [Al,HK,Fh,Ae hr1.row,cellOf,hvl.2,Ax,AG,AE,Bt,Cf,Ab,Nat.zero_add,AR,Zt,h3,beq_self_eq_true];exact hk A1 g1
end
end Go.Proofs.YtbchfeibhoobeaaGreatDoor
namespace Go.Jr
variable {lt:List UInt8->List UInt8->Bool} {K M:Nat} {j:JS}
theorem Abq(s:DS)(f:Fls->Fls)(th:Bool):(C5 s f th).1.D=s.D\/(C5 s f th).1.D=f s.D:=by
 unfold C5;split
 ·split
  ·cases th
   ·exact .inl rfl
   ·exact .inr rfl
  ·exact .inr rfl
 ·exact .inr rfl
def MN(q:DS):Prop:=∀ n∈Aq q.D,Df n=true
theorem MN.act{q:DS}{f:Fls->Fls}{th:Bool}(h:MN q)(hf:∀ e∈f q.D,Df e.1=true):MN (C5 q f th).1:=by
 intro n hn;rcases Abq q f th with e | e
 ·rw [e] at hn;exact h n hn
 ·rw [e] at hn;obtain ⟨x,hx,rfl⟩:=List.mem_map.1 hn;exact hf x hx
theorem MN.at{q:DS}(h:MN q){e:List UInt8 × Fil}(he:e∈q.D):Df e.1=true:=h _ (List.mem_map.2 ⟨e,he,rfl⟩)
structure ClR (P:DS->Prop):Prop where
 app:∀ q n b,P q->P (BA ltB q n b).1
 syn:∀ q n,P q->P (Bn q n).1
 ren:∀ q n t,P q->P (B4 ltB q n t).1
 rem:∀ q n,P q->P (AQ q n).1
 cut:∀ q n k,P q->P (FF q n k).1
theorem XR:ClR MN where
 app q n b h:=by
  unfold BA;split
  ·exact h
  split
  ·exact h
  rename_i hm;split
  ·exact h
  split
  ·exact h
  refine h.act λe he=>?_;rcases Wv he with rfl | he
  ·simpa using hm
  ·exact h.at he
 syn q n h:=by
  unfold Bn;split
  ·exact h
  cases hk:AB q.D n with
  |none=>exact h
  |some f=>
   refine h.act λe he=>?_;rcases KO he with rfl | he
   ·exact h.at (e:=(n,f)) (Dp hk)
   ·exact h.at he
 ren q n t h:=by
  unfold B4;split
  ·exact h
  split
  ·exact h
  rename_i hm;cases hk:AB q.D n with
  |none=>exact h
  |some f=>
   refine h.act λe he=>?_;rcases Qf he with rfl | he
   ·simp only [Bool.not_eq_false,Bq] at hm;exact hm.2
   ·exact h.at (List.mem_filter.1 (List.mem_filter.1 he).1).1
 rem q n h:=by
  unfold AQ;split
  ·exact h
  cases hk:AB q.D n with
  |none=>exact h
  |some f=>exact h.act λe he=>h.at (List.mem_filter.1 he).1
 cut q n k h:=by
  unfold FF;split
  ·exact h
  split
  ·exact h
  cases hk:AB q.D n with
  |none=>exact h
  |some f=>
   simp only;split
   ·exact h
   ·refine h.act λe he=>?_;rcases KO he with rfl | he
    ·exact h.at (e:=(n,f)) (Dp hk)
    ·exact h.at he
section
variable {P:DS->Prop}
theorem ClR.ac(c:ClR P){q:DS}(h:P q)(a:Ac):P (a.EP ltB q).1:=by
 cases a with
 |rmF=>exact c.rem _ _ h
 |ap0=>exact c.app _ _ _ h
 |syF=>exact c.syn _ _ h
 |rn1=>exact c.ren _ _ _ h
 |rm n=>exact c.rem _ _ h
 |ct n k=>exact c.cut _ _ _ h
 |sy n=>exact c.syn _ _ h
theorem ClR.acs(c:ClR P):∀ (l:List Ac) {q:DS},P q->P (BI ltB q l).1
 |[],_,h=>h
 |a::r,q,h=>by
  unfold BI;split
  ·exact c.acs r (c.ac h a)
  ·exact c.ac h a
theorem ClR.open(c:ClR P){q:DS}(h:P q)(limit:Int):P (EZ ltB q limit).1:=by
 unfold EZ;split
 ·exact h
 split
 ·exact h
 cases Ga (Bi q.D (Aq q.D)) with
 |none=>exact h
 |some x=>
  simp only;split
  ·exact c.acs _ h
  ·exact c.acs _ h
theorem ClR.B5(c:ClR P):∀ (l:List Nat) {q:DS},P q->P (B5 q l).1
 |[],_,h=>h
 |k::r,q,h=>by
  unfold Jr.B5;split
  ·exact c.rem _ _ h
  ·exact c.B5 r (c.rem _ _ h)
theorem ClR.append(c:ClR P){q:DS}(h:P q)(k:KS)(r:Rec):P (Fe q k r).1:=by
 unfold Fe;split
 ·exact h
 split
 ·exact h
 dsimp only;split
 ·split
  ·exact h
  split
  ·exact c.syn _ _ h
  split
  ·exact c.app _ _ _ (c.syn _ _ h)
  ·exact c.app _ _ _ (c.syn _ _ h)
 ·split
  ·exact c.app _ _ _ h
  ·exact c.app _ _ _ h
theorem ClR.sync(c:ClR P){q:DS}(h:P q)(k:KS):P (IH q k).1:=by
 unfold IH;split
 ·exact h
 ·exact c.syn _ _ h
theorem ClR.Dh(c:ClR P){q:DS}(h:P q)(k:KS)(st:List UInt8):P (B6 q k st).1:=by
 have h0:P (if (AB q.D fresh).isSome=true then AQ q fresh else (q,0)).1:=by
  split
  ·exact c.rem _ _ h
  ·exact h
 unfold B6;split
 ·exact h
 split
 ·exact h
 split
 ·exact h
 dsimp only;generalize (if (AB q.D fresh).isSome=true then AQ q fresh else (q,0))=x0 at h0 ⊢;split
 ·exact h0
 have h1:=c.app _ fresh (Bc (0,st)) h0;split
 ·exact h1
 have h2:=c.syn _ fresh h1;split
 ·exact h2
 have h3:=c.ren _ fresh (Jr.nm (AH q+1)) h2;split
 ·exact h3
 split
 ·exact c.B5 _ h3
 ·exact c.B5 _ h3
end
theorem MN.same{q q':DS}(h:MN q)(e:Aq q'.D=Aq q.D):MN q':=λn hn=>h n (by rw [e] at hn;exact hn)
theorem LX(q:DS)(n:Int):(CZ q n).D=q.D:=by unfold CZ;split<;>rfl
theorem MN.B9{q:DS}(h:MN q)(n:Int):MN (CZ q n):=h.same (by rw [LX])
theorem MN.Sl{q:DS}(h:MN q):MN (Hl q):=h.same rfl
theorem MN.Wp{q:DS}(h:MN q)(kl:List Int):MN (Me q kl):=h.same (by
 unfold Me;split
 ·exact HV _ _ _
 ·rfl)
def G2:List Ac->Nat
 |[]=>0
 |.ap0::r=>G2 r+1
 |_::r=>G2 r
theorem LG:∀ a b:List Ac,G2 (a++b)=G2 a+G2 b
 |[],b=>by simp [G2]
 |x::a,b=>by
  have:=LG a b
  cases x<;>simp only [List.cons_append,G2,this]<;>omega
theorem Zu(l:List Seg):G2 (l.map λx=>.rm x.n)=0:=by
 induction l with
 |nil=>rfl
 |cons x r ih=>exact ih
theorem IQ.acs:∀ (l:List Ac) {k L:Nat} {q:DS},IQ k L q->IQ (k+G2 l) (L+13*G2 l) (BI ltB q l).1
 |[],k,L,q,h=>h
 |a::r,k,L,q,h=>by
  have key:∃ k' L',IQ k' L' (a.EP ltB q).1/\k'+G2 r<=k+G2 (a::r)/\L'+13*G2 r<=L+13*G2 (a::r):=by
   cases a with
   |rmF=>exact ⟨k,L,h.remove _,Nl _,Nl _⟩
   |ap0=>
    refine ⟨k+1,L+13,h.append _ Gd,?_,?_⟩
    ·simp only [G2];omega
    ·simp only [G2];omega
   |syF=>exact ⟨k,L,h.sync _,Nl _,Nl _⟩
   |rn1=>exact ⟨k,L,h.rename _ _,Nl _,Nl _⟩
   |rm n=>exact ⟨k,L,h.remove _,Nl _,Nl _⟩
   |ct n m=>exact ⟨k,L,h.cut _ _,Nl _,Nl _⟩
   |sy n=>exact ⟨k,L,h.sync _,Nl _,Nl _⟩
  obtain ⟨k',L',h1,h2,h3⟩:=key;unfold BI;split
  ·exact (IQ.acs r h1).more h2 h3
  ·exact h1.more (by omega) (by omega)
theorem IQ.open{k L:Nat}{q:DS}(h:IQ k L q)(limit:Int):IQ (k+1) (L+13) (EZ ltB q limit).1:=by
 have h':=h.more (Nat.le_succ k) (Nat.le_add_right L 13);unfold EZ;split
 ·exact h'
 split
 ·exact h'
 cases Ga (Bi q.D (Aq q.D)) with
 |none=>exact h'
 |some x=>
  have hc:G2 (Du (Aq q.D) (Bi q.D (Aq q.D)) x.1 x.2)<=1:=by
   unfold Du;rw [LG,LG,LG,Zu];have h1:G2 (if fresh∈Aq q.D then [Ac.rmF] else [])=0:=by split<;>rfl
   have h2:G2 (if x.1=[] then [Ac.ap0,.syF,.rn1] else [])<=1:=by split<;>simp [G2]
   cases x.1.getLast? with
   |none=>
    have h3:G2 []=0:=rfl;simp only [h1,h3];omega
   |some y=>
    have h3:G2 ((if y.st=1 then [Ac.ct y.n y.size] else [])++[.sy y.n])=0:=by split<;>rfl
    simp only [h1,h3];omega
  have:=(h.acs (Du (Aq q.D) (Bi q.D (Aq q.D)) x.1 x.2)).more (show _<=k+1 by omega) (show _<=L+13 by omega)
  simp only;split
  ·exact this
  ·exact this
theorem IQ.B9{k L:Nat}{q:DS}(h:IQ k L q){n:Int}(hn:n<9223372036854775808):IQ k L (CZ q n):=by
 unfold CZ;split
 ·exact h
 ·exact ⟨h.ris,h.few,h.len,h.safe,h.r0,h.r1,by show 0<=max n 0;omega,by show max n 0<_;omega⟩
theorem IQ.Sl{k L:Nat}{q:DS}(h:IQ k L q):IQ k L (Hl q):=⟨h.ris,h.few,h.len,h.safe,h.r0,h.r1,by show (0:Int)<=0;decide,by show (0:Int)<_;decide⟩
theorem O1(f:Fil)(k:Option Int)(h:f.2<=f.1.length):(EU f k).1.length<=f.1.length/\(EU f k).2<=(EU f k).1.length:=by
 unfold EU;cases k with
 |none=>simp only [List.length_take];omega
 |some k=>simp only [List.length_take];omega
theorem LK(keep:List Int):∀ (D:Fls) (i:Nat) {e:List UInt8 × Fil},e∈Gh keep i D->∃ f∈D,∃ k,e=(f.1,EU f.2 k)
 |[],_,_,h=>by cases h
 |x::r,i,e,h=>by
  rcases Mk.1 h with rfl | h
  ·exact ⟨x,List.mem_cons_self,_,rfl⟩
  ·obtain ⟨f,hf,k,he⟩:=LK keep r (i+1) h;exact ⟨f,List.mem_cons_of_mem _ hf,k,he⟩
theorem IQ.Wp{k L:Nat}{q:DS}(h:IQ k L q)(kl:List Int):IQ k L (Me q kl):=by
 unfold Me;split
 ·refine ⟨?_,?_,λe he=>?_,λe he=>?_,h.r0,h.r1,h.f0,h.f1⟩
  ·show Ris ltB (Aq (Gh kl 0 q.D));rw [HV];exact h.ris
  ·show (Gh kl 0 q.D).length<=k;rw [Fp];exact h.few
  ·obtain ⟨f,hf,x,rfl⟩:=LK kl _ _ he;exact Nat.le_trans (O1 f.2 x (h.safe f hf)).1 (h.len f hf)
  ·obtain ⟨f,hf,x,rfl⟩:=LK kl _ _ he;exact (O1 f.2 x (h.safe f hf)).2
 ·exact h
section
variable {s q:DS} {k L:Nat}
theorem RQ.len(h:RQ lt s q)(iq:IQ k L q):∀ f∈s.D,f.2.1.length<=L:=λf hf=>iq.len f (h.s.d.mem_iff.1 hf)
theorem RQ.may(h:RQ lt s q)(m:MN q){f:List UInt8}(hf:f∈Aq s.D):Df f=true:=m f ((keys_perm h.s.d).mem_iff.1 hf)
end
structure Hq (K L M:Nat) (j:JS):Prop where
 ne:j.row≠[]
 few:j.row.length<=K
 BX:∀ n∈j.row,n<100000000
 size:j.size<=L
 l:j.l.length<=M
theorem Hq.more{L K' L' M':Nat}(h:Hq K L M j)(h1:K<=K')(h2:L<=L')(h3:M<=M'):Hq K' L' M' j:=⟨h.ne,Nat.le_trans h.few h1,h.BX,Nat.le_trans h.size h2,Nat.le_trans h.l h3⟩
theorem Hq.done{L:Nat}(h:Hq K L M j)(e:Int):Hq K L M (DA j e):=⟨h.ne,h.few,h.BX,h.size,h.l⟩
theorem Hq.last{L:Nat}(h:Hq K L M j):∃ n,j.row.getLast? =some n/\n<100000000:=by
 cases hg:j.row.getLast? with
 |none=>exact absurd (List.getLast?_eq_none_iff.1 hg) h.ne
 |some n=>exact ⟨n,rfl,h.BX n (List.mem_of_getLast? hg)⟩
theorem Hq.append{L:Nat}{s:DS}(h:Hq K L M j)(r:Rec):Hq (K+1) (L+(Bc r).length) (M+1) (Cw s j r).2.1:=by
 have h':=h.more (Nat.le_succ K) (Nat.le_add_right L (Bc r).length) (Nat.le_succ M);obtain ⟨n,hn,hn8⟩:=h.last;unfold Cw;split
 ·exact h'
 split
 ·exact h'
 dsimp only;have e:j.row.getLast?.getD 0=n:=by rw [hn];rfl
 rw [e];split
 ·split
  ·exact h'
  rename_i h9;split
  ·exact h'.done _
  split
  ·exact h'.done _
  ·refine ⟨by simp,?_,λm hm=>?_,?_,?_⟩
   ·have:=h.few;simp only [Lq,Lc,Ln];omega
   ·rcases Mz.1 hm with hm | hm
    ·exact h.BX m hm
    ·have:=Ms.1 hm;omega
   ·show (Bc r).length<=_;omega
   ·have:=h.l;simp only [Lq,Lc,Ln];omega
 ·split
  ·exact h'.done _
  ·refine ⟨h.ne,h'.few,h.BX,?_,?_⟩
   ·have:=h.size;show j.size+(Bc r).length<=_;omega
   ·have:=h.l;simp only [Lq,Lc,Ln];omega
theorem Hq.sync{L:Nat}{s:DS}(h:Hq K L M j):Hq K L M (Iu s j).2.1:=by
 unfold Iu;split
 ·exact h
 ·exact h.done _
theorem Hq.Dh{L:Nat}{s:DS}{names:List (List UInt8)}(h:Hq K L M j)(st:List UInt8):Hq (K+1) (L+(Bc (0,st)).length) M (Bs s names j st).2.1:=by
 have h':=h.more (Nat.le_succ K) (Nat.le_add_right L (Bc (0,st)).length) (Nl M);unfold Bs;split
 ·exact h'
 split
 ·exact h'
 dsimp only;split
 ·exact h'
 rename_i h9;generalize (if fresh∈names then AQ s fresh else (s,0))=x0;split
 ·exact h'.done _
 split
 ·exact h'.done _
 split
 ·exact h'.done _
 split
 ·exact h'.done _
 have hn:Hq (K+1) (L+(Bc (0,st)).length) M { j with state:=st,l:=[],row:=[j.row.getLast?.getD 0+1],size:=(Bc (0,st)).length,some:=true }:=
  ⟨by simp,by simp,λm hm=>by have:=Ms.1 hm;omega,by show (Bc (0,st)).length<=_;omega,by simp⟩
 split
 ·exact hn.done _
 ·exact hn
theorem Fg.Aft{L:Nat}{q:DS}(h:Fg q j)(iq:IQ K L q)(hl:j.l.length<=M):Hq K L M j:=by
 refine ⟨h.ne,?_,λn hn=>?_,?_,hl⟩
 ·rw [<- h.row];exact Nat.le_trans (Go.Proofs.YtbchfeibhoobeaaGreatDoor.IU _) iq.few
 ·rw [<- h.row] at hn;exact (BK.1 hn).2.1
 ·obtain ⟨l,h1,_,h3,_⟩:=h.w;rw [<- h3,<- h1];rcases Kl q.D (Jr.nm (AH q)) with h4 | h4
  ·rw [h4];exact Nat.zero_le _
  ·exact iq.len _ h4
theorem Fg.BX{q:DS}(h:Fg q j):AA q.D≠[]:=by rw [h.row];exact h.ne
theorem JI.B9{s q:DS}{k:KS}(h:JI s j q k)(n:Int):JI (CZ s n) j (CZ q n) k:=by
 refine ⟨⟨h.d.s.CZ n,by rw [LX];exact h.d.r⟩,h.limit,h.state,h.l,h.broken,λhb=>?_⟩;have m:=h.mind hb;refine ⟨by rw [LX];exact m.row,m.ne,?_⟩;have e:AH (CZ q n)=AH q:=by unfold AH;rw [LX]
 rw [e,LX];exact m.w
theorem Sy{L:Nat}:∀ (r:List Seg),(∀ x∈r,13*x.l.length<=L)->13*(Gf r).length<=r.length*L
 |[],_=>by simp [Gf]
 |x::r,h=>by
  have ih:=Sy r λy hy=>h y (List.mem_cons_of_mem _ hy);have hx:=h x List.mem_cons_self;have e:Gf (x::r)=x.l++Gf r:=rfl;rw [e,Lq,Lc,Nat.add_mul,Nat.one_mul];omega
end Go.Jr
namespace Go.Proofs.YtbchfeibhoobeaaGreatDoor
open Go.Abs Go.Jr
theorem UT{s q:DS}{k L:Nat}(h:RQ ltB s q)(iq:IQ k L q)(hL:L<=1048576):OkS k s:=
 ⟨by rw [h.s.d.length_eq];exact iq.few,λf hf=>Nat.le_trans (iq.len f (h.s.d.mem_iff.1 hf)) hL,λf hf=>iq.safe f (h.s.d.mem_iff.1 hf),by rw [h.s.room];exact iq.r0,by rw [h.s.room];exact iq.r1,by rw [h.s.B9];exact iq.f1⟩
end Go.Proofs.YtbchfeibhoobeaaGreatDoor
namespace Go.Jr
open Go.Proofs.YtbchfeibhoobeaaGreatDoor (scan_len)
theorem AaD{q q':DS}{limit:Int}{j:JS}{k L:Nat}(iq:IQ k L q)(h:EZ ltB q limit=(q',some j,0)):j.l.length<=k*L:=by
 unfold EZ at h;split at h
 ·cases h
 split at h
 ·cases h
 cases hrow:Ga (Bi q.D (Aq q.D)) with
 |none=>rw [hrow] at h;cases h
 |some x=>
  obtain ⟨r,f⟩:=x;rw [hrow] at h;simp only at h;split at h
  ·simp only [Pj,Oi] at h;obtain ⟨_,rfl,_⟩:=h;show (Gf r).tail.length<=_;rw [List.length_tail];have hsl:(Bi q.D (Aq q.D)).length<=q.D.length:=by
    unfold Bi;refine Nat.le_trans (List.length_filterMap_le _ _) ?_;unfold Aq;rw [List.length_map];exact Nl _
   have hr:r.length<=k/\∀ x∈r,13*x.l.length<=L:=by
    have hx:∀ x∈Bi q.D (Aq q.D),13*x.l.length<=L:=λx hx=>by
     obtain ⟨e,_⟩:=M3 hx;rw [e];show 13*(scan (fileOf q.D (Jr.nm x.n)).1).1.length<=L;have h1:=(scan_len _ (fileOf q.D (Jr.nm x.n)).1 rfl).1;rcases Kl q.D (Jr.nm x.n) with h2 | h2
     ·rw [h2] at h1 ⊢;simp at h1 ⊢;omega
     ·have:=iq.len _ h2
      simp only at this;omega
    rcases M4 hrow with ⟨_,rfl,_⟩ | ⟨_,rfl,_⟩
    ·exact ⟨by simp,by simp⟩
    ·have:=iq.few
     exact ⟨by rw [List.length_drop];omega,λx h=>hx x (List.mem_of_mem_drop h)⟩
   have h1:=Sy r hr.2;have h2:r.length*L<=k*L:=Nat.mul_le_mul_right _ hr.1;omega
  ·cases h
end Go.Jr
set_option linter.all false
namespace Go.Proofs.YtbchfeibhoobeaaGreatDoor
open Go.Abs Go.Jr
noncomputable def rO6(W0:World)(m0:Inj Tp)(S:Nat->List Value->AW->Prop)(d:Nat->Value)(A:AW):Prop:=Wc Tp An W0 m0 8 [(d 7),(d 1)] A λt55 At55=>Aa (Ap t55 0) λt56=>Aa (Ap t55 1) λt57=>Wc Tp An W0 m0 26 [(d 8),(d 1)] At55 λt58 At58=>Aa (Ap t58 0) λt59=>Aa (Ap t58 1) λt60=>Aa (Ai Tp .add 3 (.tmp 41) (.const (.int .i64 1)) (d 13) (.int .i64 1)) λt61=>Bm (T6 0) (T6 0) (S 0 [(d 1),(d 2),(d 7),(d 8),t56,t57,t59,t60,t61] At58)
noncomputable def pA6(W0:World)(m0:Inj Tp)(S:Nat->List Value->AW->Prop)(d:Nat->Value)(t5:Value)(A:AW):Prop:=Aa (Ad Tp 48 t5 4) λt40=>Aa (Af Tp A 9 t40) λt41=>Aa (Ai Tp .neq 9 (.tmp 108) (.const (.string ⟨⟨[]⟩⟩)) t41 (.string ⟨⟨[]⟩⟩)) λt42=>Ah t42 (Aa (Ad Tp 48 t5 4) λt43=>Aa (Af Tp A 9 t43) λt44=>Aa (Ad Tp 48 t5 1) λt45=>Aa (Ad Tp 35 t45 1) λt46=>Aa (Af Tp A 9 t46) λt47=>Wc Tp An W0 m0 13 [(d 7),t44,t47] A λt48 At48=>Aa (Ad Tp 48 t5 4) λt49=>Aa (Af Tp At48 9 t49) λt50=>Aa (Ad Tp 48 t5 1) λt51=>Aa (Ad Tp 35 t51 1) λt52=>Aa (Af Tp At48 9 t52) λt53=>Wc Tp An W0 m0 32 [(d 8),t50,t53] At48 λt54 At54=>(rO6 W0 m0 S d At54)) ((rO6 W0 m0 S d A))
noncomputable def pJ6(W0:World)(m0:Inj Tp)(S:Nat->List Value->AW->Prop)(Q:Value->AW->Prop)(d:Nat->Value)(t5 tw:Value)(A:AW):Prop:=Aa (Ai Tp .neq 64 (.tmp 137) (.const (.pointer none)) (d 11) (.pointer none)) λt98=>Ah t98 (Aa (Ai Tp .eql 5 (.tmp 139) (.const (.int .u8 2)) tw (.int .u8 2)) λt99=>Ah t99 (Wc Tp An W0 m0 15 [(d 9)] A λt100 At100=>Wc Tp An W0 m0 33 [(d 11)] At100 λt101 At101=>Aa (Ai Tp .eql 3 (.tmp 152) (.tmp 154) t100 t101) λt102=>Aa (unA Tp .not t102) λt103=>Ah t103 (Q (.bool false) At101) (Aa (Ai Tp .add 3 (.tmp 41) (.const (.int .i64 1)) (d 13) (.int .i64 1)) λt104=>Bm (T6 0) (T6 0) (S 0 [(d 1),(d 2),(d 7),(d 8),(d 9),(d 10),(d 11),(d 12),t104] At101))) (Aa (Ai Tp .eql 5 (.tmp 139) (.const (.int .u8 3)) tw (.int .u8 3)) λt105=>Ah t105 (Aa (Ad Tp 48 t5 1) λt106=>Aa (Ad Tp 35 t106 1) λt107=>Aa (Af Tp A 9 t107) λt108=>Aa (Ad Tp 48 t5 1) λt109=>Aa (Ad Tp 35 t109 1) λt110=>Aa (Af Tp A 9 t110) λt111=>Wc Tp An W0 m0 16 [(d 9),t108] A λt112 At112=>Aa (Af Tp At112 9 t110) λt113=>eqW t113 t111 (Aa (Ad Tp 35 t109 1) λt114=>eqW t114 t110 (Aa (Ad Tp 48 t5 1) λt115=>eqW t115 t109 (eqW (d 11) (d 11) (Wc Tp An W0 m0 34 [(d 11),t111] At112 λt116 At116=>Aa (Ai Tp .eql 3 (.tmp 162) (.tmp 167) t112 t116) λt117=>Aa (unA Tp .not t117) λt118=>Ah t118 (Q (.bool false) At116) (Aa (Ai Tp .add 3 (.tmp 41) (.const (.int .i64 1)) (d 13) (.int .i64 1)) λt119=>Bm (T6 0) (T6 0) (S 0 [(d 1),(d 2),(d 7),(d 8),(d 9),(d 10),(d 11),(d 12),t119] At116))))))) (Aa (Ad Tp 48 t5 1) λt120=>Aa (Af Tp A 35 t120) λt121=>Aa (Ad Tp 48 t5 1) λt122=>Aa (Af Tp A 35 t122) λt123=>Wc Tp An W0 m0 10 [(d 9),t121] A λt124 At124=>Aa (Af Tp At124 35 t122) λt125=>eqW t125 t123 (Aa (Ad Tp 48 t5 1) λt126=>eqW t126 t122 (eqW (d 11) (d 11) (Wc Tp An W0 m0 35 [(d 11),t123] At124 λt127 At127=>Aa (Ai Tp .eql 3 (.tmp 143) (.tmp 147) t124 t127) λt128=>Aa (unA Tp .not t128) λt129=>Ah t129 (Q (.bool false) At127) (Aa (Ai Tp .add 3 (.tmp 41) (.const (.int .i64 1)) (d 13) (.int .i64 1)) λt130=>Bm (T6 0) (T6 0) (S 0 [(d 1),(d 2),(d 7),(d 8),(d 9),(d 10),(d 11),(d 12),t130] At127)))))))) (Aa (Ai Tp .add 3 (.tmp 41) (.const (.int .i64 1)) (d 13) (.int .i64 1)) λt131=>Bm (T6 0) (T6 0) (S 0 [(d 1),(d 2),(d 7),(d 8),(d 9),(d 10),(d 11),(d 12),t131] A))
noncomputable def pT6(W0:World)(m0:Inj Tp)(S:Nat->List Value->AW->Prop)(Q:Value->AW->Prop)(d:Nat->Value)(A:AW):Prop:=Aa (Ak Tp 45 (d 2) (d 13)) λt12=>Aa (Af Tp A 48 t12) λt13=>Au (Cz Tp A 48) λt14 At14=>Bh (Az Tp At14 48 t14 t13) λAt15=>Aa (Af Tp At15 48 t14) λt16=>Wc Tp An W0 m0 14 [t16] At15 λt17 At17=>Ah t17 (knW Tp W0 m0 9 [] At17 λt18 At18=>Q t18 At18) (Aa (Ad Tp 48 t14 0) λt19=>Aa (Af Tp At17 5 t19) λt20=>Aa (Ai Tp .rem 5 (.tmp 77) (.const (.int .u8 7)) t20 (.int .u8 7)) λt21=>Aa (Ai Tp .eql 5 (.tmp 80) (.const (.int .u8 4)) t21 (.int .u8 4)) λt22=>Ah t22 (Aa (Ad Tp 48 t14 2) λt23=>Aa (Af Tp At17 3 t23) λt24=>Wc Tp An W0 m0 21 [(d 7),t24] At17 λt25 At25=>Aa (Ad Tp 48 t14 2) λt26=>Aa (Af Tp At25 3 t26) λt27=>Wc Tp An W0 m0 29 [(d 8),t27] At25 λt28 At28=>Aa (Ai Tp .add 3 (.tmp 41) (.const (.int .i64 1)) (d 13) (.int .i64 1)) λt29=>Bm (T6 0) (T6 0) (S 0 [(d 1),(d 2),(d 7),(d 8),(d 9),(d 10),(d 11),(d 12),t29] At28)) (Aa (Ai Tp .geq 5 (.tmp 91) (.const (.int .u8 5)) t21 (.int .u8 5)) λt30=>Ah t30 (Aa (Ai Tp .eql 5 (.tmp 93) (.const (.int .u8 5)) t21 (.int .u8 5)) λt31=>Ah t31 (Wc Tp An W0 m0 22 [(d 7)] At17 λt32 At32=>Wc Tp An W0 m0 30 [(d 8)] At32 λt33 At33=>Aa (Ad Tp 48 t14 3) λt34=>Aa (Af Tp At33 46 t34) λt35=>Wc Tp An W0 m0 24 [(d 7),t35] At33 λt36 At36=>Aa (Ad Tp 48 t14 3) λt37=>Aa (Af Tp At36 46 t37) λt38=>Wc Tp An W0 m0 31 [(d 8),t38] At36 λt39 At39=>pA6 W0 m0 S d t14 At39) (pA6 W0 m0 S d t14 At17)) (pJ6 W0 m0 S Q d t14 t21 At17)))
noncomputable def pE6(W0:World)(m0:Inj Tp)(Q:Value->AW->Prop)(d:Nat->Value)(A:AW):Prop:=Aa (Ai Tp .eql 3 (.tmp 171) (.tmp 172) (d 10) (d 12)) λt252=>Ah t252 (Wc Tp An W0 m0 27 [(d 7),(d 8)] A λt253 At253=>Ah t253 (Aa (Ai Tp .eql 64 (.tmp 180) (.const (.pointer none)) (d 11) (.pointer none)) λt254=>Ah t254 (knW Tp W0 m0 9 [] At253 λt255 At255=>Q t255 At255) (Wc Tp An W0 m0 28 [(d 9),(d 11)] At253 λt256 At256=>Ah t256 (knW Tp W0 m0 9 [] At256 λt257 At257=>Q t257 At257) (Q (.bool false) At256))) (Q (.bool false) At253)) (Q (.bool false) A)
theorem Ada(W0:World)(m0:Inj Tp)(S:Nat->List Value->AW->Prop)(Q:Value->AW->Prop)(d:Nat->Value)(A:AW):gL W0 m0 S Q 6 191 T6 L6 d 0 A=(Aa (Bd Tp A 45 (d 2)) λt0=>Aa (Ai Tp .lss 3 (.tmp 33) (.tmp 35) (d 13) t0) λt1=>Ah t1 (Aa (Ai Tp .lss 3 (.tmp 38) (.const (.int .i64 40)) (d 13) (.int .i64 40)) λt2=>Ah t2 (Aa (Ai Tp .neq 3 (.tmp 43) (.tmp 44) (d 10) (d 12)) λt3=>Ah t3 (Q (.bool false) A) (Aa (Ai Tp .eql 29 (.tmp 47) (.const (.pointer none)) (d 9) (.pointer none)) λt4=>Aa (Ai Tp .eql 64 (.tmp 49) (.const (.pointer none)) (d 11) (.pointer none)) λt5=>Aa (Ai Tp .neq 4 (.tmp 48) (.tmp 50) t4 t5) λt6=>Ah t6 (Q (.bool false) A) (Wc Tp An W0 m0 27 [(d 7),(d 8)] A λt7 At7=>Aa (unA Tp .not t7) λt8=>Ah t8 (Q (.bool false) At7) (Aa (Ai Tp .neq 64 (.tmp 60) (.const (.pointer none)) (d 11) (.pointer none)) λt9=>Ah t9 (Wc Tp An W0 m0 28 [(d 9),(d 11)] At7 λt10 At10=>Aa (unA Tp .not t10) λt11=>Ah t11 (Q (.bool false) At10) (pT6 W0 m0 S Q d At10)) (pT6 W0 m0 S Q d At7))))) (pE6 W0 m0 Q d A)) (pE6 W0 m0 Q d A)):=by kernel_rfl
section
variable {W0:World} {m0:Inj Tp}
theorem ZA {A:AW} {j d mp k n:Nat} {q:JS} {s:DS} {Fl Fr:List Nat} {st:ByteArray} {K:Value->AW->Prop} (h:JD A j d mp q s Fl Fr) (hg:Glb A) (hok:OkS k s) (hk9:k+q.row.length<7000) (hf:Aw A) (hA:A.next<800000000000) (h0:0≠j/\0≠d/\0≠mp) (hst:st.data.toList.length<=65536)
  (hn:q.row.getLast? =some n) (hn8:n<100000000) (hNr:∀ x,x<100000000->EO W0 m0 x) (hr8:∀ x∈q.row,x<100000000)
  (hk:∀ A' Fl' Fr',JD A' j d mp (Bs s (namesS s.D) q st.data.toList).2.1 (Bs s (namesS s.D) q st.data.toList).1 Fl' Fr'->(∀ y∈Fl',y∈Fl\/A.next<=y)->(∀ y∈Fr',y∈Fr\/A.next<=y)->Aj A A' (j::d::mp::(Fl++Fr))->A'.next<=A.next+240+10*k+10*q.row.length->Aw A'->K (.int .i64 (Bs s (namesS s.D) q st.data.toList).2.2) A'):
  Wc Tp An W0 m0 16 [ptr j,.string st] A K:=by
 by_cases h9:n+1<100000000
 ·exact AeI h hg hok hk9 hf hA h0 hst hn h9 (hNr _ h9) (λx hx=>hNr x (hr8 x hx)) hk
 have elast:q.row.getLast?.getD 0=n:=by rw [hn];rfl
 by_cases hb:q.broken=true
 ·have he:Bs s (namesS s.D) q st.data.toList=(s,q,100):=by unfold Bs;rw [if_pos hb]
  rw [he] at hk;refine w16 _ _ _ BF ?_;rw [Zi];refine PJ h.jn ?_;simp only [Bg,Ab];refine Ag.2 ⟨λh=>by simp at h,λ_=>?_⟩;refine UW h.jn ?_;rw [if_pos hb];simp only [BC,Ab];exact Bb.2 ⟨λ_=>hk A Fl Fr h (λy hy=>.inl hy) (λy hy=>.inl hy) (.refl _ _) (by omega) hf,λh=>by simp at h⟩
 have hb:q.broken=false:=by simpa using hb
 have he:Bs s (namesS s.D) q st.data.toList=(s,q,6):=by
  unfold Bs;rw [if_neg (by rw [hb];simp),if_neg (by omega)];simp only;rw [if_pos (by rw [elast];omega)]
 rw [he] at hk;refine w16 _ _ _ BF ?_;rw [Zi];refine PJ h.jn ?_;simp only [Bg,Ab];refine Ag.2 ⟨λh=>by simp at h,λ_=>?_⟩;refine UW h.jn ?_;rw [if_neg (by rw [hb];simp)];simp only [BC,Ab,Ea,BN,Ao];refine Bb.2 ⟨λh=>by simp at h,λ_=>⟨λh=>by omega,λ_=>?_⟩⟩;refine YC h.jn hn (by omega) ?_;simp only [AY,Ab,BN];rw [wrap_i64 (by omega) (by omega)];simp only [Ao];exact ⟨λ_=>hk A Fl Fr h (λy hy=>.inl hy) (λy hy=>.inl hy) (.refl _ _) (by omega) hf,λh=>by omega⟩
end
structure DM (A0 A:AW) (d mp dq:Nat) (s q:DS) (Fq:List Nat) (k L:Nat):Prop where
 dk:Dk A d mp s
 qk:DQ A dq q Fq
 nd:∀ y∈dq::Fq,y≠d/\y≠mp
 lo:A0.next<=d/\A0.next<=mp/\∀ y∈dq::Fq,A0.next<=y
 kp:Aj A0 A []
 Ay:Aw A
 rq:RQ ltB s q
 iq:IQ k L q
 mn:MN q
section
variable {A0 A A1 A2:AW} {d mp dq:Nat} {s q s' q':DS} {Fq F':List Nat} {k L k' L':Nat}
theorem DM.more(m:DM A0 A d mp dq s q Fq k L)(h1:k<=k')(h2:L<=L'):DM A0 A d mp dq s q Fq k' L':=⟨m.dk,m.qk,m.nd,m.lo,m.kp,m.Ay,m.rq,m.iq.more h1 h2,m.mn⟩
theorem DM.grow(m:DM A0 A d mp dq s q Fq k L)(kp:Aj A A1 [])(f:Aw A1):DM A0 A1 d mp dq s q Fq k L:=
 ⟨m.dk.keeps kp (by simp) (by simp),m.qk.keeps kp (by simp) (by simp),m.nd,m.lo,m.kp.trans kp (by simp),f,m.rq,m.iq,m.mn⟩
theorem DM.q1(m:DM A0 A d mp dq s q Fq k L)(k1:Aj A A1 [d,mp]):DQ A1 dq q Fq:=
 m.qk.keeps k1 (by have:=m.nd dq List.mem_cons_self;simp [this]) λx hx=>by have:=m.nd x (List.mem_cons_of_mem _ hx);simp [this]
theorem DM.both(m:DM A0 A d mp dq s q Fq k L)(h1:Dk A1 d mp s')(k1:Aj A A1 [d,mp])(h2:DQ A2 dq q' F')(k2:Aj A1 A2 (dq::Fq))(hF:∀ y∈F',y∈Fq\/A1.next<=y)(f2:Aw A2)(r:RQ ltB s' q')(i:IQ k' L' q')(mn:MN q'):DM A0 A2 d mp dq s' q' F' k' L':=by
 have hlt:=m.dk.lt;have le1:=k1.next;have le0:=m.kp.next;obtain ⟨lo1,lo2,lo3⟩:=m.lo;refine ⟨h1.keeps k2 (λhm=>(m.nd d hm).1 rfl) (λhm=>(m.nd mp hm).2 rfl),h2,λy hy=>?_,⟨lo1,lo2,λy hy=>?_⟩,(m.kp.trans k1 λx hx=>.inr (by simp only [Mk,List.not_mem_nil,or_false] at hx;omega)).trans k2 λx hx=>.inr (lo3 x hx),f2,r,i,mn⟩
 ·rcases Mk.1 hy with rfl | hy
  ·exact m.nd _ List.mem_cons_self
  ·rcases hF y hy with h | h
   ·exact m.nd y (List.mem_cons_of_mem _ h)
   ·omega
 ·rcases Mk.1 hy with rfl | hy
  ·exact lo3 _ List.mem_cons_self
  ·rcases hF y hy with h | h
   ·exact lo3 y (List.mem_cons_of_mem _ h)
   ·omega
end
structure JM (A0 A:AW) (d mp dq:Nat) (s q:DS) (Fq:List Nat) (k L M:Nat) (limit:Int) (j kq:Nat) (jq:JS) (kk:KS) (Fl Fr Gl:List Nat):Prop where
 dm:DM A0 A d mp dq s q Fq k L
 jd:JD A j d mp jq s Fl Fr
 qd:QD A kq dq kk q Gl Fq
 nd:∀ y∈j::d::mp::(Fl++Fr),y∉kq::dq::(Gl++Fq)
 lo:(∀ y∈j::(Fl++Fr),A0.next<=y)/\A0.next<=kq
 ji:JI s jq q kk
 row:Hq k L M jq
 lim:jq.limit=limit/\1<=limit
theorem JD.all{A:AW}{j d mp:Nat}{q:JS}{s:DS}{Fl Fr:List Nat}(h:JD A j d mp q s Fl Fr):∀ y∈j::d::mp::(Fl++Fr),y<A.next:=by
 intro y hy;obtain ⟨_,_,_,_,a,_,b⟩:=h.jn;have hj:=h.jn.lt;have hd:=h.dk.lt;simp only [Mk,Mz] at hy;rcases hy with h | h | h | h | h
 ·omega
 ·omega
 ·omega
 ·exact a.lt y h
 ·exact b.lt y h
section
variable {A0 A A1 A2:AW} {d mp dq:Nat} {s q s' q':DS} {Fq F':List Nat} {k L M k' L' M':Nat} {limit:Int} {j kq:Nat} {jq jq':JS} {kk kk':KS} {Fl Fr Gl Fl' Fr' Gl':List Nat}
theorem JM.more(m:JM A0 A d mp dq s q Fq k L M limit j kq jq kk Fl Fr Gl)(h1:k<=k')(h2:L<=L')(h3:M<=M'):JM A0 A d mp dq s q Fq k' L' M' limit j kq jq kk Fl Fr Gl:=
 ⟨m.dm.more h1 h2,m.jd,m.qd,m.nd,m.lo,m.ji,m.row.more h1 h2 h3,m.lim⟩
theorem JM.grow(m:JM A0 A d mp dq s q Fq k L M limit j kq jq kk Fl Fr Gl)(kp:Aj A A1 [])(f:Aw A1):JM A0 A1 d mp dq s q Fq k L M limit j kq jq kk Fl Fr Gl:=
 ⟨m.dm.grow kp f,m.jd.keeps kp (by simp) (by simp) (by simp) (by simp) (by simp),m.qd.keeps kp (by simp),m.nd,m.lo,m.ji,m.row,m.lim⟩
theorem JM.q1(m:JM A0 A d mp dq s q Fq k L M limit j kq jq kk Fl Fr Gl)(k1:Aj A A1 (j::d::mp::(Fl++Fr))):QD A1 kq dq kk q Gl Fq:=
 m.qd.keeps k1 λx hx hm=>m.nd x hm hx
theorem JM.both (m:JM A0 A d mp dq s q Fq k L M limit j kq jq kk Fl Fr Gl) (h1:JD A1 j d mp jq' s' Fl' Fr') (hFl:∀ y∈Fl',y∈Fl\/A.next<=y) (hFr:∀ y∈Fr',y∈Fr\/A.next<=y) (k1:Aj A A1 (j::d::mp::(Fl++Fr)))
  (h2:QD A2 kq dq kk' q' Gl' F') (k2:Aj A1 A2 (kq::dq::Fq)) (hGl:∀ y∈Gl',y∈Gl\/A1.next<=y) (hF:∀ y∈F',y∈Fq\/A1.next<=y) (f2:Aw A2) (ji:JI s' jq' q' kk') (iq:IQ k' L' q') (mn:MN q') (row:Hq k' L' M' jq') (lim:jq'.limit=jq.limit):
  JM A0 A2 d mp dq s' q' F' k' L' M' limit j kq jq' kk' Fl' Fr' Gl':=by
 have hS1:=m.jd.all;have hS2:=m.qd.lt;have hS1':=h1.all;have le1:=k1.next;have le0:=m.dm.kp.next;obtain ⟨lo1,lo2,lo3⟩:=m.dm.lo;obtain ⟨lo4,lo5⟩:=m.lo;have hd:=m.dm.dk.lt;have sub1:∀ y∈j::d::mp::(Fl'++Fr'),y∈j::d::mp::(Fl++Fr)\/A.next<=y:=λy hy=>by
  simp only [Mk,Mz] at hy ⊢;rcases hy with h | h | h | h | h
  ·exact .inl (.inl h)
  ·exact .inl (.inr (.inl h))
  ·exact .inl (.inr (.inr (.inl h)))
  ·exact (hFl y h).imp (λh=>.inr (.inr (.inr (.inl h)))) id
  ·exact (hFr y h).imp (λh=>.inr (.inr (.inr (.inr h)))) id
 have sub2:∀ y∈kq::dq::(Gl'++F'),y∈kq::dq::(Gl++Fq)\/A1.next<=y:=λy hy=>by
  simp only [Mk,Mz] at hy ⊢;rcases hy with h | h | h | h
  ·exact .inl (.inl h)
  ·exact .inl (.inr (.inl h))
  ·exact (hGl y h).imp (λh=>.inr (.inr (.inl h))) id
  ·exact (hF y h).imp (λh=>.inr (.inr (.inr h))) id
 have nd':∀ y∈j::d::mp::(Fl'++Fr'),y∉kq::dq::(Gl++Fq):=λy hy hm=>by
  have:=hS2 y hm
  rcases sub1 y hy with h | h
  ·exact m.nd y h hm
  ·omega
 have sub3:∀ y∈kq::dq::Fq,y∈kq::dq::(Gl++Fq):=λy hy=>by
  simp only [Mk,Mz] at hy ⊢;rcases hy with h | h | h
  ·exact .inl h
  ·exact .inr (.inl h)
  ·exact .inr (.inr (.inr h))
 have nk:∀ y∈j::d::mp::(Fl'++Fr'),y∉kq::dq::Fq:=λy hy hm=>nd' y hy (sub3 y hm);have lo1':∀ y∈j::d::mp::(Fl++Fr),A0.next<=y:=λy hy=>by
  simp only [Mk,Mz] at hy;rcases hy with h | h | h | h | h
  ·exact lo4 y (by simp [h])
  ·omega
  ·omega
  ·exact lo4 y (by simp [h])
  ·exact lo4 y (by simp [h])
 have lo2':∀ y∈kq::dq::Fq,A0.next<=y:=λy hy=>by
  rcases Mk.1 hy with h | h
  ·omega
  ·exact lo3 y h
 have jd2:JD A2 j d mp jq' s' Fl' Fr':=h1.keeps k2 (nk j (by simp)) (nk d (by simp)) (nk mp (by simp)) (λx hx=>nk x (by simp [hx])) (λx hx=>nk x (by simp [hx]));refine ⟨⟨jd2.dk,h2.dk,λy hy=>?_,⟨lo1,lo2,λy hy=>?_⟩,(m.dm.kp.trans k1 λx hx=>.inr (lo1' x hx)).trans k2 λx hx=>.inr (lo2' x hx),f2,ji.d,iq,mn⟩,jd2,h2,λy hy hm=>?_,⟨λy hy=>?_,lo5⟩,ji,row,lim.trans m.lim.1,m.lim.2⟩
 ·rcases Mk.1 hy with rfl | hy
  ·exact m.dm.nd _ List.mem_cons_self
  ·rcases hF y hy with h | h
   ·exact m.dm.nd y (List.mem_cons_of_mem _ h)
   ·omega
 ·rcases Mk.1 hy with rfl | hy
  ·exact lo3 _ List.mem_cons_self
  ·rcases hF y hy with h | h
   ·exact lo3 y (List.mem_cons_of_mem _ h)
   ·omega
 ·rcases sub2 y hm with h | h
  ·exact nd' y hy h
  ·have:=hS1' y hy;omega
 ·rcases sub1 y (by
   simp only [Mk,Mz] at hy ⊢;rcases hy with h | h | h
   ·exact .inl h
   ·exact .inr (.inr (.inr (.inl h)))
   ·exact .inr (.inr (.inr (.inr h)))) with h | h
  ·exact lo1' y h
  ·omega
end
end Go.Proofs.YtbchfeibhoobeaaGreatDoor
namespace Go.Proofs.YtbchfeibhoobeaaGreatDoor
open Go.Abs Go.Jr
variable {A0 A:AW} {d mp dq k L M n i:Nat} {s q:DS} {Fq:List Nat} {limit e:Int} {v9 v11 x:Value} {dd:Nat->Value}
def JS6(A0 A:AW)(d mp dq:Nat)(s q:DS)(Fq:List Nat)(k L M:Nat)(limit:Int)(v9 v11:Value):Prop:=
 (v9=.pointer none/\v11=.pointer none/\DM A0 A d mp dq s q Fq k L)\/
 ∃ (j kq:Nat) (jq:JS) (kk:KS) (Fl Fr Gl:List Nat),v9=ptr j/\v11=ptr kq/\JM A0 A d mp dq s q Fq k L M limit j kq jq kk Fl Fr Gl
def PL(A0:AW)(x:Value)(n:Nat)(limit:Int)(g id:Nat)(vals:List Value)(A:AW):Prop:=
 id=0/\∃ (i d mp dq:Nat) (s q:DS) (Fq:List Nat) (v9 v11:Value) (e:Int),vals=[.int .i64 limit,x,ptr d,ptr dq,v9,.int .i64 e,v11,.int .i64 e,.int .i64 (i:Int)]/\i<=40/\i<=n/\g=41-i/\
  JS6 A0 A d mp dq s q Fq (2*i+2) ((i+1)*213) (800000+i) limit v9 v11/\A.next<=A0.next+40000000*i+40000000
theorem JS6.more{k' L' M':Nat}(h:JS6 A0 A d mp dq s q Fq k L M limit v9 v11)(h1:k<=k')(h2:L<=L')(h3:M<=M'):JS6 A0 A d mp dq s q Fq k' L' M' limit v9 v11:=by
 rcases h with ⟨a,b,m⟩ | ⟨j,kq,jq,kk,Fl,Fr,Gl,a,b,m⟩
 ·exact .inl ⟨a,b,m.more h1 h2⟩
 ·exact .inr ⟨j,kq,jq,kk,Fl,Fr,Gl,a,b,m.more h1 h2 h3⟩
theorem JS6.grow{A':AW}(h:JS6 A0 A d mp dq s q Fq k L M limit v9 v11)(kp:Aj A A' [])(f:Aw A'):JS6 A0 A' d mp dq s q Fq k L M limit v9 v11:=by
 rcases h with ⟨a,b,m⟩ | ⟨j,kq,jq,kk,Fl,Fr,Gl,a,b,m⟩
 ·exact .inl ⟨a,b,m.grow kp f⟩
 ·exact .inr ⟨j,kq,jq,kk,Fl,Fr,Gl,a,b,m.grow kp f⟩
theorem JS6.dm(h:JS6 A0 A d mp dq s q Fq k L M limit v9 v11):DM A0 A d mp dq s q Fq k L:=by
 rcases h with ⟨a,b,m⟩ | ⟨j,kq,jq,kk,Fl,Fr,Gl,a,b,m⟩
 ·exact m
 ·exact m.dm
structure DV (dd:Nat->Value) (x:Value) (limit:Int) (d dq i:Nat) (v9 v11:Value) (e:Int):Prop where
 h1:dd 1=.int .i64 limit
 h2:dd 2=x
 h7:dd 7=ptr d
 h8:dd 8=ptr dq
 h9:dd 9=v9
 h10:dd 10=.int .i64 e
 h11:dd 11=v11
 h12:dd 12=.int .i64 e
 h13:dd 13=.int .i64 (i:Int)
theorem Un{D:Fls}{names:List (List UInt8)}{y:Seg}(h:y∈Bi D names):y.n<100000000:=by
 unfold Bi at h;obtain ⟨f,_,he⟩:=List.mem_filterMap.1 h;split at he
 ·cases he
 ·cases he;exact HC f
section
variable {W0:World} {m0:Inj Tp}
theorem Rv {K:Value->Value->Value->Value->AW->Prop} (hN:∀ n,n<100000000->EO W0 m0 n) (hF:∀ f,Df f=true->QL W0 m0 f) (hg0:Glb A0) (m:DM A0 A d mp dq s q Fq k L)
  (hk9:k<=90) (hL:L<=9000) (hkL:k*L<=M) (hM:M<900000) (hA:A.next<450000000000)
  (hk:∀ A' s' q' Fq' v9 v11 e,JS6 A0 A' d mp dq s' q' Fq' (k+1) (L+13) M limit v9 v11->A'.next<=A.next+31000000->K v9 (.int .i64 e) v11 (.int .i64 e) A'):
  Wc Tp An W0 m0 8 [ptr d,.int .i64 limit] A λt55 At55=>Aa (Ap t55 0) λt56=>Aa (Ap t55 1) λt57=>Wc Tp An W0 m0 26 [ptr dq,.int .i64 limit] At55 λt58 At58=>Aa (Ap t58 0) λt59=>Aa (Ap t58 1) λt60=>K t56 t57 t59 t60 At58:=by
 have hglt:=hg0.lt;have hg:=hg0.keeps m.kp (by simp);have ok:=UT m.rq m.iq (by omega);obtain ⟨lo1,lo2,lo3⟩:=m.lo;obtain ⟨hri,hpe⟩:=Gx m.rq.s.n;have hop:=m.rq.open ltk hri hpe limit;have hkM:k*(6*L+100)<=90*54100:=Nat.mul_le_mul hk9 (by omega);have hiq:=m.iq.open limit;have hmn:=XR.open m.mn limit;have hdA:=m.dk.lt;refine wc8 (k:=k) (L:=L) m.dk hg ok (by omega) (m.rq.len m.iq) (by omega) (by omega) m.Ay (by omega) ⟨by omega,by omega⟩ (λf hf=>hF f (m.rq.may m.mn (hpe.mem_iff.1 hf))) (λn hn=>hN n ?_) (λe A1 s' ho d1 k1 n1 f1=>?_) λA1 s' jq j Fl Fr ho jd1 hj hFl hFr k1 n1 f1=>?_
 ·rcases hn with rfl | ⟨y,hy,rfl⟩
  ·omega
  ·exact Un hy
 ·rw [ho] at hop;obtain ⟨r',e'⟩:=hop;simp only [Bw,Bv,Ab];refine AbL (k:=k) (L:=L) (m.q1 k1) m.iq (by omega) (by omega) (by omega) f1 (by omega) (λe2 A2 q' F' ho2 dq2 k2 hF2 n2 f2=>?_) (λA2 q' jq kq F' Gl ho2 _ _ _ _ _ _=>?_)
  ·rw [ho2] at r' e' hiq hmn;simp only [Pj,true_and] at e';subst e';simp only [Bw,Bv,Ab];exact hk A2 s' q' F' _ _ e (.inl ⟨rfl,rfl,m.both d1 k1 dq2 k2 hF2 f2 r' hiq hmn⟩) (by omega)
  ·rw [ho2] at e';simp at e'
 ·rw [ho] at hop;obtain ⟨r',e'⟩:=hop;simp only [Bw,Bv,Ab,ptr];refine AbL (k:=k) (L:=L) (m.q1 k1) m.iq (by omega) (by omega) (by omega) f1 (by omega) (λe2 A2 q' F' ho2 dq2 k2 hF2 n2 f2=>?_) (λA2 q' jq' kq F' Gl ho2 qd2 hkq hGl k2 hF2 n2 f2=>?_)
  ·rw [ho2] at e';simp at e'
  ·have ho3:=ho2;rw [ho2] at r' e' hiq hmn;simp only [Pj,Oi,and_true] at e';subst e';obtain ⟨hm1,hm2,hm3⟩:=Vr m.iq.ris ho3;have hl:=AaD m.iq ho3;have hlim:1<=limit:=by
    unfold EZ at ho3;split at ho3
    ·cases ho3
    ·omega
   simp only [Bw,Bv,Ab];have hDM:=m.both jd1.dk k1 qd2.dk k2 hF2 f2 r' hiq hmn;have hS1:=jd1.all;have hqA:=m.qk.lt;have le1:=k1.next;have le0:=m.kp.next;have big:∀ y∈j::(Fl++Fr),A.next<=y:=λy hy=>by
    simp only [Mk,Mz] at hy;rcases hy with h | h | h
    ·omega
    ·exact hFl y h
    ·exact hFr y h
   have nk:∀ y∈j::(Fl++Fr),y∉dq::Fq:=λy hy hm=>by have:=big y hy;have:=hqA y hm;omega
   have jd2:JD A2 j d mp jq s' Fl Fr:=jd1.keeps k2 (nk j (by simp)) (λhm=>(m.nd d hm).1 rfl) (λhm=>(m.nd mp hm).2 rfl) (λx hx=>nk x (by simp [Mz.2 (.inl hx)])) (λx hx=>nk x (by simp [Mz.2 (.inr hx)]));refine hk A2 s' q' F' _ _ 0 (.inr ⟨j,kq,jq,_,Fl,Fr,Gl,rfl,rfl,⟨hDM,jd2,qd2,λy hy hm=>?_,⟨λy hy=>by have:=big y hy;omega,by omega⟩,⟨r',rfl,rfl,rfl,hm3,λ_=>hm1⟩,hm1.Aft hiq (by omega),hm2,hlim⟩⟩) (by omega);have hy1:=hS1 y hy;simp only [Mk,Mz] at hm;have hdn:y≠dq/\y∉Fq:=by
    simp only [Mk,Mz] at hy
    have:y∉dq::Fq:=by
     rcases hy with h | h | h | h
     ·exact nk y (by simp [h])
     ·rw [h];exact λhm=>(m.nd d hm).1 rfl
     ·rw [h];exact λhm=>(m.nd mp hm).2 rfl
     ·exact nk y (by simp only [Mk,Mz];exact .inr h)
    exact ⟨λh=>this (h▸List.mem_cons_self),λh=>this (List.mem_cons_of_mem _ h)⟩
   rcases hm with h | h | h | h
   ·omega
   ·exact hdn.1 h
   ·have:=hGl y h;omega
   ·rcases hF2 y h with h | h
    ·exact hdn.2 h
    ·omega
theorem WW (hN:∀ n,n<100000000->EO W0 m0 n) (hF:∀ f,Df f=true->QL W0 m0 f) (hg0:Glb A0) (hA0:A0.next<400000000000) (v:DV dd x limit d dq i v9 v11 e) (hi:i<40) (hin:i<n)
  (m:DM A0 A d mp dq s q Fq k L) (hk:k<=2*i+3) (hL:L<=(i+1)*213+200) (hnx:A.next<=A0.next+40000000*i+48000000):
  rO6 W0 m0 (λid v A''=>∃ g2,g2<41-i/\PL A0 x n limit g2 id v A'') dd A:=by
 unfold rO6;rw [v.h7,v.h1,v.h8,v.h13,v.h2];have h213:(i+1)*213<=40*213:=Nat.mul_le_mul_right _ (by omega);have hkL:k*L<=81*8720:=Nat.mul_le_mul (by omega) (by omega);refine Rv (M:=800000+(i+1)) hN hF hg0 m (by omega) (by omega) (by omega) (by omega) (by omega) λA' s' q' F' v9' v11' e' hj hn=>?_;rw [AY,wrap_i64 (by omega) (by omega)];simp only [Ab];exact Ar.2 ⟨41-(i+1),by omega,rfl,i+1,d,mp,dq,s',q',F',v9',v11',e',rfl,by omega,by omega,rfl,hj.more (by omega) (by rw [Nat.add_mul (i+1) 1 213];omega) (by omega),by omega⟩
theorem W7 {t5:Nat} {p:AV} (hN:∀ n,n<100000000->EO W0 m0 n) (hF:∀ f,Df f=true->QL W0 m0 f) (hg0:Glb A0) (hA0:A0.next<400000000000) (v:DV dd x limit d dq i v9 v11 e) (hi:i<40) (hin:i<n)
  (m:DM A0 A d mp dq s q Fq k L) (ha:Go.Abs.AS A t5 (fA p) 48) (ht:t5≠d/\t5≠mp/\t5∉dq::Fq) (hp:p.r.2.data.toList.length<=200) (hpf:p.file.data.toList.length<=60) (hk:k<=2*i+2) (hL:L<=(i+1)*213) (hnx:A.next<=A0.next+40000000*i+47000000):
  pA6 W0 m0 (λid v A''=>∃ g2,g2<41-i/\PL A0 x n limit g2 id v A'') dd (ptr t5) A:=by
 have hmax:Am=1099511627776:=rfl;have h213:(i+1)*213<=40*213:=Nat.mul_le_mul_right _ (by omega);have ok:=UT m.rq m.iq (by omega);have hfew:=ok.few;have hqfew:=m.iq.few;have ha:Go.Abs.AS A t5 [.int .u8 p.what.toNat,.int .u8 p.r.1.toNat,.string p.r.2,.int .i64 p.n,.slice p.o p.len p.cap,.string p.file] 48:=ha;unfold pA6;simp only [ptr,UE,Ju,Ec,CG,Ae ha.row,cellOf,isTuple,Cf,Ab,Nat.zero_add,GY];refine Ag.2 ⟨λhne=>?_,λhe=>WW hN hF hg0 hA0 v hi hin m (by omega) (by omega) (by omega)⟩;rw [v.h7,v.h8];refine Wk (n:=p.file) (b:=p.r.2) m.dk (ok.d (by omega)) ok.n (by omega) m.Ay (by omega) λA1 d1 k1 n1 f1=>?_;have ha1:=ha.keeps k1 (by simp;exact ⟨ht.1,ht.2.1⟩);simp only [Ae ha1.row,cellOf,isTuple,Cf,Ab];refine AbJ (n:=p.file) (b:=p.r.2) (m.q1 k1) (by omega) (λe he=>Nat.le_trans (m.iq.len e he) (by omega)) m.iq.r0 m.iq.r1 m.iq.f0 m.iq.f1 (by omega) (by omega) f1 (by omega) λA2 F' dq2 k2 hF2 n2 f2=>?_;obtain ⟨r',e'⟩:=m.rq.append ltk p.file.data.toList p.r.2.data.toList;exact WW hN hF hg0 hA0 v hi hin (m.both d1 k1 dq2 k2 hF2 f2 r' (m.iq.append _ _) (XR.app _ _ _ m.mn)) (by omega) (by omega) (by omega)
end
end Go.Proofs.YtbchfeibhoobeaaGreatDoor
namespace Go.Jr
theorem U6(s:DS)(q:JS):(Iu s q).2.1.limit=q.limit:=by
 unfold Iu;split<;>rfl
theorem Su(s:DS)(q:JS)(r:Rec):(Cw s q r).2.1.limit=q.limit:=by
 unfold Cw;split
 ·rfl
 split
 ·rfl
 dsimp only;split
 ·split
  ·rfl
  split
  ·rfl
  split<;>rfl
 ·split<;>rfl
theorem M0(s:DS)(names:List (List UInt8))(q:JS)(st:List UInt8):(Bs s names q st).2.1.limit=q.limit:=by
 unfold Bs;split
 ·rfl
 split
 ·rfl
 dsimp only;split
 ·rfl
 generalize (if fresh∈names then AQ s fresh else (s,0))=x0;split
 ·rfl
 split
 ·rfl
 split
 ·rfl
 split
 ·rfl
 split<;>rfl
end Go.Jr
namespace Go.Proofs.YtbchfeibhoobeaaGreatDoor
open Go.Abs Go.Jr
section
variable {W0:World} {m0:Inj Tp}
theorem AaB {A0 A:AW} {x:Value} {n i d mp dq t5 w j kq:Nat} {s q:DS} {Fq:List Nat} {limit e:Int} {jq:JS} {kk:KS} {Fl Fr Gl:List Nat} {p:AV} {dd:Nat->Value} (hN:∀ n,n<100000000->EO W0 m0 n) (hg0:Glb A0) (hA0:A0.next<400000000000) (v:DV dd x limit d dq i (ptr j) (ptr kq) e) (hi:i<40) (hin:i<n) (hlim:limit<9223372036854775808)
  (m:JM A0 A d mp dq s q Fq (2*i+2) ((i+1)*213) (800000+i) limit j kq jq kk Fl Fr Gl) (ha:Go.Abs.AS A t5 (fA p) 48) (ht:t5∉j::d::mp::(Fl++Fr)) (hp:p.r.2.data.toList.length<=200) (hnx:A.next<=A0.next+40000000*i+47000000):
  pJ6 W0 m0 (λid v A''=>∃ g2,g2<41-i/\PL A0 x n limit g2 id v A'') (λv _=>v=.bool true) dd (ptr t5) (.int .u8 (w:Int)) A:=by
 have hmax:Am=1099511627776:=rfl;have h213:(i+1)*213<=40*213:=Nat.mul_le_mul_right _ (by omega);have s213:∀ x,x<=213->(i+1)*213+x<=(i+1+1)*213:=λx hx=>by rw [Nat.add_mul (i+1) 1 213];exact Nat.add_le_add_left hx _
 have ok:=UT m.dm.rq m.dm.iq (by omega);have hglt:=hg0.lt;have hg:=hg0.keeps m.dm.kp (by simp);obtain ⟨n0,hn0,hn8⟩:=m.row.last;have hrf:=m.row.few;have hrs:=m.row.size;have hrl:=m.row.l;obtain ⟨lim1,lim2⟩:=m.lim;obtain ⟨lo1,lo2,lo3⟩:=m.dm.lo;obtain ⟨lo4,lo5⟩:=m.lo;have lo6:=lo4 j List.mem_cons_self;have h0:0≠j/\0≠d/\0≠mp:=⟨by omega,by omega,by omega⟩;have hne:kk.broken=false->AA q.D≠[]:=λhb=>(m.ji.mind (m.ji.broken.trans hb)).BX;have ha:Go.Abs.AS A t5 [.int .u8 p.what.toNat,.int .u8 p.r.1.toNat,.string p.r.2,.int .i64 p.n,.slice p.o p.len p.cap,.string p.file] 48:=ha;unfold pJ6;rw [v.h11,v.h9,v.h1,v.h2,v.h7,v.h8,v.h10,v.h12,v.h13];simp only [ptr,Acx,Ab,Bo,AY];rw [wrap_i64 (by omega) (by omega)];refine Ag.2 ⟨λ_=>?_,λh=>by cases h⟩;have nx:∀ (A2:AW) (s' q':DS) (F':List Nat) (jq':JS) (kk':KS) (Fl' Fr' Gl':List Nat) (c d1:Int),c=d1->JM A0 A2 d mp dq s' q' F' (2*(i+1)+2) ((i+1+1)*213) (800000+(i+1)) limit j kq jq' kk' Fl' Fr' Gl'->A2.next<=A.next+900000->
   Ah (.bool !(c==d1)) ((λv _=>v=.bool true:Value->AW->Prop) (.bool false) A2) (Bm (T6 0) (T6 0) (∃ g2,g2<41-i/\PL A0 x n limit g2 0 [.int .i64 limit,x,pP d 0,pP dq 0,pP j 0,.int .i64 e,pP kq 0,.int .i64 e,.int .i64 ((i:Int)+1)] A2)):=by
  intro A2 s' q' F' jq' kk' Fl' Fr' Gl' c d1 hc hm hn;subst hc;rw [beq_self_eq_true];refine Ag.2 ⟨λh=>by simp at h,λ_=>?_⟩;exact Ar.2 ⟨41-(i+1),by omega,rfl,i+1,d,mp,dq,s',q',F',_,_,e,rfl,by omega,by omega,rfl,.inr ⟨j,kq,jq',kk',Fl',Fr',Gl',rfl,rfl,hm⟩,by omega⟩
 refine Be.2 ⟨λw2=>?_,λw2=>Be.2 ⟨λw3=>?_,λw3=>?_⟩⟩
 ·refine AeJ (k:=2*i+2) m.jd ok m.dm.Ay (by omega) (by omega) hn0 (hN n0 hn8) λA1 jd1 k1 n1 f1=>?_;have K1:Aj A A1 (j::d::mp::(Fl++Fr)):=k1.more λy hy=>.inl (by simp only [Mk,List.not_mem_nil,or_false] at hy ⊢;rcases hy with h | h | h<;>simp [h]);refine Aez (m.q1 K1) m.dm.iq hne (by omega) f1 (by omega) λA2 F' qd2 iq2 k2 hF2 n2 f2=>?_;simp only [Bo,Bg,Ab];exact nx A2 _ _ F' _ _ Fl Fr Gl _ _ m.ji.sync.2 (m.both jd1 (λy hy=>.inl hy) (λy hy=>.inl hy) K1 qd2 k2 (λy hy=>.inl hy) hF2 f2 m.ji.sync.1 (iq2.more (by omega) (s213 0 (by decide))) (XR.sync m.dm.mn kk) (m.row.sync.more (by omega) (s213 0 (by decide)) (by omega)) (U6 s jq)) (by omega)
 ·simp only [Ju,Ec,CG,Ae ha.row,cellOf,isTuple,Cf,Ab,Nat.zero_add];refine ZA (st:=p.r.2) m.jd hg ok (by omega) m.dm.Ay (by omega) h0 (by omega) hn0 hn8 (λx hx=>hN x hx) m.row.BX λA1 Fl' Fr' jd1 hFl hFr k1 n1 f1=>?_;have ha1:=ha.keeps k1 ht;simp only [Ae ha1.row,cellOf,isTuple,Cf,Ab,AR,Ec,Ju];refine Aey (st:=p.r.2) (m.q1 k1) m.dm.iq hne (by omega) (by omega) f1 (by omega) λA2 Gl' F' qd2 iq2 k2 hGl hF2 n2 f2=>?_;have hst:p.r.2.data.toList.length<=65536:=by omega
  have hpl:=Cn (0,p.r.2.data.toList);simp only at hpl;simp only [Bo,Bg,Ab];exact nx A2 _ _ F' _ _ Fl' Fr' Gl' _ _ (m.ji.Dh (names:=namesS s.D) (Gx m.dm.rq.s.n).2 hst).2 (m.both jd1 hFl hFr k1 qd2 k2 hGl hF2 f2 (m.ji.Dh (names:=namesS s.D) (Gx m.dm.rq.s.n).2 hst).1 (iq2.more (by omega) (s213 _ (by omega))) (XR.Dh m.dm.mn kk _) ((m.row.Dh _).more (by omega) (s213 _ (by omega)) (by omega)) (M0 s _ jq _)) (by omega)
 ·have hcell:∀ B,Aj A B (j::d::mp::(Fl++Fr))->B.cells? ⟨t5,1,none⟩ 2=some (fR p.r):=λB kB=>by
   rw [Cg (ha.keeps kB ht).row];rfl
  simp only [Ju,JL,hcell A (.refl _ _),Ab,Nat.zero_add];refine Z6 (k:=2*i+2) (r:=p.r) m.jd hg ok (by omega) m.dm.Ay (by omega) h0 (by omega) (by omega) (by omega) hn0 hn8 (by omega) (by omega) (by omega) (hN n0 hn8) (λh=>hN _ (by omega)) λA1 Fl' Fr' jd1 hFl hFr k1 n1 f1=>?_;simp only [hcell A1 k1,Ab,AR,Ju];have hklim:kk.limit=limit:=m.ji.limit.symm.trans lim1;refine Aex (r:=p.r) (m.q1 k1) m.dm.iq hne (by omega) (by omega) (by omega) (by rw [<- m.ji.l];omega) (by omega) (by omega) f1 (by omega) λA2 Gl' F' qd2 iq2 k2 hGl hF2 n2 f2=>?_;have hst:(toR p.r).2.length<=65536:=show p.r.2.data.toList.length<=65536 by omega
  have hpl:=Cn (toR p.r);have hpl:(Bc (toR p.r)).length=13+p.r.2.data.toList.length:=hpl;simp only [Bo,Bg,Ab];exact nx A2 _ _ F' _ _ Fl' Fr' Gl' _ _ (m.ji.append hst).2 (m.both jd1 hFl hFr k1 qd2 k2 hGl hF2 f2 (m.ji.append hst).1 (iq2.more (by omega) (s213 _ (by omega))) (XR.append m.dm.mn kk _) ((m.row.append _).more (by omega) (s213 _ (by omega)) (by omega)) (Su s jq _)) (by omega)
end
end Go.Proofs.YtbchfeibhoobeaaGreatDoor
namespace Go.Proofs.YtbchfeibhoobeaaGreatDoor
open Go.Abs Go.Jr
variable {A0 A A1 A2:AW} {d mp dq k L M:Nat} {s q:DS} {Fq:List Nat} {limit n:Int} {v9 v11:Value}
section
variable {W0:World} {m0:Inj Tp}
theorem Za{j kq:Nat}{jq:JS}{kk:KS}{Fl Fr Gl:List Nat}(m:JM A0 A d mp dq s q Fq k L M limit j kq jq kk Fl Fr Gl)(hn:n<9223372036854775808)(d1:Dk A1 d mp (CZ s n))(k1:Aj A A1 [d])(q2:DQ A2 dq (CZ q n) Fq)(k2:Aj A1 A2 [dq])(f2:Aw A2):
  JM A0 A2 d mp dq (CZ s n) (CZ q n) Fq k L M limit j kq jq kk Fl Fr Gl:=by
 have k1':Aj A A1 [d,mp]:=k1.more (by simp);have K1:Aj A A1 (j::d::mp::(Fl++Fr)):=k1.more (by simp);have K2:Aj A1 A2 (kq::dq::Fq):=k2.more (by simp);have h1:=m.q1 K1;have hnd:=h1.nd;have hfl:=h1.fl;have e1:kq≠dq:=λh=>hnd (h▸List.mem_cons_self);have h2:QD A2 kq dq kk (CZ q n) Gl Fq:=⟨h1.jn.keeps k2 (by simpa using e1) (λx hx hm=>(hfl x hx).2 (by rw [Ms.1 hm];exact List.mem_cons_self)),q2,hnd,hfl⟩;exact m.both (m.jd.CQ k1' d1) (λy hy=>.inl hy) (λy hy=>.inl hy) K1 h2 K2 (λy hy=>.inl hy) (λy hy=>.inl hy) f2 (m.ji.B9 n) (m.dm.iq.B9 hn) (m.dm.mn.B9 n) m.row rfl
theorem Zb(m:DM A0 A d mp dq s q Fq k L)(hn:n<9223372036854775808)(d1:Dk A1 d mp (CZ s n))(k1:Aj A A1 [d])(q2:DQ A2 dq (CZ q n) Fq)(k2:Aj A1 A2 [dq])(f2:Aw A2):
  DM A0 A2 d mp dq (CZ s n) (CZ q n) Fq k L:=
 m.both d1 (k1.more (by simp)) q2 (k2.more (by simp)) (λy hy=>.inl hy) f2 ⟨m.rq.s.CZ n,by rw [LX];exact m.rq.r⟩ (m.iq.B9 hn) (m.mn.B9 n)
theorem JS6.B9(h:JS6 A0 A d mp dq s q Fq k L M limit v9 v11)(hn:n<9223372036854775808)(d1:Dk A1 d mp (CZ s n))(k1:Aj A A1 [d])(q2:DQ A2 dq (CZ q n) Fq)(k2:Aj A1 A2 [dq])(f2:Aw A2):
  JS6 A0 A2 d mp dq (CZ s n) (CZ q n) Fq k L M limit v9 v11:=by
 rcases h with ⟨a,b,m⟩ | ⟨j,kq,jq,kk,Fl,Fr,Gl,a,b,m⟩
 ·exact .inl ⟨a,b,Zb m hn d1 k1 q2 k2 f2⟩
 ·exact .inr ⟨j,kq,jq,kk,Fl,Fr,Gl,a,b,Za m hn d1 k1 q2 k2 f2⟩
theorem W6 {x:Value} {n i:Nat} {F:List Nat} {e:Int} {l:List AV} {dd:Nat->Value} (hhd:KC.Holds Tp W0 m0 ⟨9,[],[.bool true]⟩) (hN:∀ n,n<100000000->EO W0 m0 n) (hF:∀ f,Df f=true->QL W0 m0 f) (hg0:Glb A0) (hA0:A0.next<400000000000) (hlim:limit<9223372036854775808)
  (hx:RdA A0 x n l F) (hln:l.length=min n 40) (hop:∀ p∈l,OkP A0 p) (v:DV dd x limit d dq i v9 v11 e) (hi:i<40) (hin:i<n) (js:JS6 A0 A d mp dq s q Fq (2*i+2) ((i+1)*213) (800000+i) limit v9 v11) (hnx:A.next<=A0.next+40000000*i+40100000):
  pT6 W0 m0 (λid v A''=>∃ g2,g2<41-i/\PL A0 x n limit g2 id v A'') (λv _=>v=.bool true) dd A:=by
 have hmax:Am=1099511627776:=rfl;have s213:∀ x,x<=213->(i+1)*213+x<=(i+1+1)*213:=λx hx=>by rw [Nat.add_mul (i+1) 1 213];exact Nat.add_le_add_left hx _
 have h213:(i+1)*213<=40*213:=Nat.mul_le_mul_right _ (by omega);have m:=js.dm;have hxr:=hx.keeps m.kp (by simp);unfold pT6;rw [v.h1,v.h2,v.h7,v.h8,v.h9,v.h10,v.h11,v.h12,v.h13];obtain ⟨p,hp⟩:∃ p,l[i]? =some p:=⟨_,Ge (by omega)⟩;obtain ⟨⟨kl,Fk,hkr⟩,hpn⟩:=hop p (List.mem_of_getElem? hp);obtain ⟨r,o,a1,a2,a3⟩:=hxr.at hp;have hdA:=m.dk.lt;have hqA:=m.qk.lt;have le0:=m.kp.next;simp only [a1,Ab,a3];refine Bl zA m.Ay (by omega) rfl λA1 m1=>?_;have n1:=m1.next;refine m1.BB.store m1.Ay (by omega) (Acr _ _ _) rfl (by show 0+6<=6;omega) rfl λA2 r2 k2 n2 f2=>?_;have r2:Go.Abs.AS A2 A.next (fA p) 48:=r2;have g2:Grow A A2 1:=(Grow.made m1 m.Ay).own k2 (by simp) (m:=0) (by omega) f2;have hc6:A2.cells? ⟨A.next,0,none⟩ 6=some (fA p):=by rw [Cg r2.row];rfl
 simp only [AcY,hc6,Ab];refine AeK f2 (by omega) λA3 g3=>?_;have g3':=g2.trans g3;have n3:=g3'.next;have le3:=g3'.le;have r3:=r2.keeps g3.keeps (by simp);refine Ag.2 ⟨λ_=>Hb (by decide) hhd rfl rfl,λhb=>?_⟩;have hsm:p.r.2.data.toList.length<=200/\p.file.data.toList.length<=60:=by
  unfold big at hb;simp only [Bool.or_eq_false_iff,decide_eq_false_iff_not] at hb;omega
 have js3:=js.grow g3'.keeps g3'.Ay;have m3:=js3.dm;clear hb;have ract:Go.Abs.AS A3 A.next [.int .u8 p.what.toNat,.int .u8 p.r.1.toNat,.string p.r.2,.int .i64 p.n,.slice p.o p.len p.cap,.string p.file] 48:=r3;simp only [Zh,Zg,UF,D4,Kg,Ae ract.row,cellOf,isTuple,Cf,Ab,Afv,Bo,AY,DZ,Nat.zero_add];rw [wrap_i64 (n:=(i:Int)+1) (by omega) (by omega)];have hnx3:A3.next<=A0.next+40000000*i+40200000:=by omega
 have ht5:A.next≠d/\A.next≠mp/\A.next∉dq::Fq:=⟨by omega,by omega,λhm=>by have:=hqA _ hm;omega⟩;have hpt:(.pointer (some ⟨A.next,0,none⟩):Value)=ptr A.next:=rfl;refine Be.2 ⟨λw4=>?_,λw4=>?_⟩
 ·refine AeG m3.dk g3'.Ay (by omega) λA4 d4 k4 n4 f4=>?_;have r4:=ract.keeps k4 (by simp;exact ht5.1);simp only [Ae r4.row,cellOf,isTuple,Cf,Ab];refine AeC (m3.q1 (k4.more (by simp))) f4 (by omega) λA5 w5 q5 k5 n5 f5=>?_;exact Ar.2 ⟨41-(i+1),by omega,rfl,i+1,d,mp,dq,_,_,Fq,v9,v11,e,rfl,by omega,by omega,rfl,(js3.B9 hpn d4 k4 q5 k5 f5).more (by omega) (s213 0 (by decide)) (by omega),by omega⟩
 rw [Ao];refine ⟨λh5=>?_,λh5=>?_⟩
 ·refine Be.2 ⟨λw5=>?_,λw5=>?_⟩
  ·refine AeF m3.dk g3'.Ay (by omega) λA4 d4 k4 n4 f4=>?_;refine AeB (m3.q1 (k4.more (by simp))) f4 (by omega) λA5 w6 q5 k5 n5 f5=>?_;have m5:DM A0 A5 d mp dq (Hl s) (Hl q) Fq (2*i+2) ((i+1)*213):=m3.both d4 (k4.more (by simp)) q5 (k5.more (by simp)) (λy hy=>.inl hy) f5 ⟨m3.rq.s.Hl,m3.rq.r⟩ m3.iq.Sl m3.mn.Sl;have r5:=(ract.keeps k4 (by simp;exact ht5.1)).keeps k5 (by simp;exact λh=>ht5.2.2 (h▸List.mem_cons_self));simp only [Po,Ae r5.row,cellOf,isTuple,Cf,Ab];have hfam:=hkr.fam;obtain ⟨lo1,lo2,lo3⟩:=m5.lo;have ok5:=UT m5.rq m5.iq (by omega);have hfew:=ok5.few;have hqfew:=m5.iq.few;refine AeE m5.dk rfl (ok5.d (by omega)) (hkr.keeps m5.kp (by simp)) (λy hy=>by have:=hfam y hy;omega) f5 (by omega) λA6 d6 k6 n6 f6=>?_;have r6:=r5.keeps k6 (by simp;exact ⟨ht5.1,ht5.2.1⟩);have le6:=k6.next;have le05:=m5.kp.next;simp only [Ae r6.row,cellOf,isTuple,Cf,Ab];refine AeA (m5.q1 k6) (by omega) (λe he=>Nat.le_trans (m5.iq.len e he) (by omega)) m5.iq.safe ((hkr.keeps m5.kp (by simp)).keeps k6 (λy hy hm=>by have:=hfam y hy;simp only [Mk,List.not_mem_nil,or_false] at hm;omega)) (λy hy=>?_) f6 (by omega) λA7 w7 q7 k7 n7 f7=>?_
   ·have:=hfam y hy
    exact ⟨λh=>by have:=lo3 dq List.mem_cons_self;omega,λh=>by have:=lo3 y (List.mem_cons_of_mem _ h);omega⟩
   ·obtain ⟨hri,hpe⟩:=Gx m5.rq.s.n;have m7:=m5.both d6 k6 q7 k7 (λy hy=>.inl hy) f7 (m5.rq.Wp ltk hri hpe kl) (m5.iq.Wp kl) (m5.mn.Wp kl);exact W7 hN hF hg0 hA0 v hi hin m7 (r6.keeps k7 ht5.2.2) ht5 hsm.1 hsm.2 (Nl _) (Nl _) (by omega)
  ·exact W7 hN hF hg0 hA0 v hi hin m3 r3 ht5 hsm.1 hsm.2 (Nl _) (Nl _) (by omega)
 ·rcases js3 with ⟨rfl,rfl,mm⟩ | ⟨j,kq,jq,kk,Fl,Fr,Gl,rfl,rfl,mm⟩
  ·unfold pJ6;rw [v.h1,v.h2,v.h7,v.h8,v.h9,v.h10,v.h11,v.h12,v.h13];simp only [ZJ,Ab,AY];rw [wrap_i64 (by omega) (by omega)];refine Ag.2 ⟨λh=>(by cases h),λ_=>?_⟩;have hb1:i+1<=40:=by omega
   have hb2:i+1<=n:=by omega
   have hb3:A3.next<=A0.next+40000000*(i+1)+40000000:=by
    rw [Nat.mul_add];exact Nat.le_trans hnx3 (by omega)
   exact Ar.2 ⟨41-(i+1),by omega,rfl,i+1,d,mp,dq,s,q,Fq,.pointer none,.pointer none,e,rfl,hb1,hb2,rfl,.inl ⟨rfl,rfl,mm.more (by omega) (s213 0 (by decide))⟩,hb3⟩
  ·rcases js with h | ⟨j',kq',jq',kk',Fl',Fr',Gl',h1,h2,m0'⟩
   ·exact absurd h.1 (by simp)
   ·have hS:A.next∉j'::d::mp::(Fl'++Fr'):=λhm=>by have:=m0'.jd.all _ hm;omega
    have mm':=m0'.grow g3'.keeps g3'.Ay;have v':DV dd x limit d dq i (ptr j') (ptr kq') e:=⟨v.h1,v.h2,v.h7,v.h8,v.h9.trans h1,v.h10,v.h11.trans h2,v.h12,v.h13⟩;exact AaB hN hg0 hA0 v' hi hin hlim mm' r3 hS hsm.1 (by omega)
end
variable {A:AW} {x:Value} {n:Nat} {F:List Nat} {limit:Int}
section
variable {W0:World} {m0:Inj Tp}
theorem Acp {A0:AW} {l:List AV} {g id:Nat} {vals:List Value} {dd:Nat->Value} (hhd:KC.Holds Tp W0 m0 ⟨9,[],[.bool true]⟩) (hN:∀ n,n<100000000->EO W0 m0 n) (hF:∀ f,Df f=true->QL W0 m0 f) (hg0:Glb A0) (hA0:A0.next<400000000000) (hlim:limit<9223372036854775808)
  (hx:RdA A0 x n l F) (hln:l.length=min n 40) (hop:∀ p∈l,OkP A0 p) (hI:PL A0 x n limit g id vals A) (hd':(L6 id).map dd=vals):
  gL W0 m0 (λid v A''=>∃ g2,g2<g/\PL A0 x n limit g2 id v A'') (λv _=>v=.bool true) 6 191 T6 L6 dd id A:=by
 obtain ⟨rfl,i,d,mp,dq,s,q,Fq,v9,v11,e,rfl,hi,hin,rfl,js,hnx⟩:=hI;have h213:(i+1)*213<=41*213:=Nat.mul_le_mul_right _ (by omega);have m:=js.dm;have hxr:=hx.keeps m.kp (by simp);rw [Ada];simp only [L6,Mc,Mn,Li,and_true] at hd';obtain ⟨h1,h2,h7,h8,h9,h10,h11,h12,h13⟩:=hd';have v:DV dd x limit d dq i v9 v11 e:=⟨h1,h2,h7,h8,h9,h10,h11,h12,h13⟩;have hsl:s.D.length<2000:=by
  have h1:=m.rq.s.d.length_eq;have h2:=m.iq.few;omega
 have hend:pE6 W0 m0 (λv _=>v=.bool true) dd A:=by
  unfold pE6;rw [h10,h12,h7,h8,h9,h11];simp only [Bo,Ab,beq_self_eq_true];refine Ag.2 ⟨λ_=>?_,λh=>by simp at h⟩;refine Z3 m.dk m.qk m.rq hsl m.Ay (by omega) λA1 g1=>?_;refine Ag.2 ⟨λ_=>?_,λh=>by simp at h⟩;rcases js with ⟨rfl,rfl,mm⟩ | ⟨j,kq,jq,kk,Fl,Fr,Gl,rfl,rfl,mm⟩
  ·simp only [ZK,Ab];exact Ag.2 ⟨λ_=>Hb (by decide) hhd rfl rfl,λh=>by simp at h⟩
  ·simp only [ptr,AcC,Ab];refine Ag.2 ⟨λh=>by simp at h,λ_=>?_⟩;have mm1:=mm.grow g1.keeps g1.Ay;have hl:=mm.row.l;have n1:=g1.next;refine AbK mm1.jd.jn mm1.qd.jn mm.ji.state mm.ji.l mm.ji.broken (by omega) g1.Ay (by omega) λA2 g2=>?_;exact Ag.2 ⟨λ_=>Hb (by decide) hhd rfl rfl,λh=>by simp at h⟩
 rw [h13,h2];simp only [hxr.len,AU,Ab,Ao];refine ⟨λhlt=>⟨λhlt2=>?_,λ_=>hend⟩,λ_=>hend⟩;have hlt:i<n:=by omega
 have hlt2:i<40:=by omega
 rw [h10,h12];simp only [BC,Ab];refine Bb.2 ⟨λh=>absurd rfl h,λ_=>?_⟩;rw [h9,h11,h7,h8];rcases js with ⟨rfl,rfl,mm⟩ | ⟨j,kq,jq,kk,Fl,Fr,Gl,rfl,rfl,mm⟩
 ·simp only [AcF,ZK,QF,Ab];refine Ag.2 ⟨λh=>by simp at h,λ_=>?_⟩;refine Z3 m.dk m.qk m.rq hsl m.Ay (by omega) λA1 g1=>?_;have n1:=g1.next;simp only [Bg,Ab];refine Ag.2 ⟨λh=>by simp at h,λ_=>?_⟩;simp only [ZJ,Ab];refine Ag.2 ⟨λh=>by simp at h,λ_=>?_⟩;exact W6 hhd hN hF hg0 hA0 hlim hx hln hop v hlt2 hlt (.inl ⟨rfl,rfl,mm.grow g1.keeps g1.Ay⟩) (by omega)
 ·simp only [ptr,AcG,AcC,QF,Ab];refine Ag.2 ⟨λh=>by simp at h,λ_=>?_⟩;refine Z3 m.dk m.qk m.rq hsl m.Ay (by omega) λA1 g1=>?_;have n1:=g1.next;simp only [Bg,Ab];refine Ag.2 ⟨λh=>by simp at h,λ_=>?_⟩;simp only [Acx,Ab];refine Ag.2 ⟨λ_=>?_,λh=>by simp at h⟩;have mm1:=mm.grow g1.keeps g1.Ay;have hl:=mm.row.l;refine AbK mm1.jd.jn mm1.qd.jn mm.ji.state mm.ji.l mm.ji.broken (by omega) g1.Ay (by omega) λA2 g2=>?_;have n2:=g2.next;simp only [Bg,Ab];refine Ag.2 ⟨λh=>by simp at h,λ_=>?_⟩;exact W6 hhd hN hF hg0 hA0 hlim hx hln hop v hlt2 hlt (.inr ⟨j,kq,jq,kk,Fl,Fr,Gl,rfl,rfl,mm1.grow g2.keeps g2.Ay⟩) (by omega)
theorem wc6 {room:Int} {l:List AV} (hhd:KC.Holds Tp W0 m0 ⟨9,[],[.bool true]⟩) (hN:∀ n,n<100000000->EO W0 m0 n) (hF:∀ f,Df f=true->QL W0 m0 f) (hg0:Glb A) (hf:Aw A) (hA:A.next<400000000000) (hroom:room<9223372036854775808) (hlim:limit<9223372036854775808)
  (hx:RdA A x n l F) (hln:l.length=min n 40) (hop:∀ p∈l,OkP A p):
  Wc Tp An W0 m0 6 [.int .i64 room,.int .i64 limit,x] A λv _=>v=.bool true:=by
 have hmax:Am=1099511627776:=rfl;refine w6 _ _ _ _ (c6 (I:=PL A x n limit) λg id vals A' dd hI hd'=>Acp hhd hN hF hg0 hA hlim hx hln hop hI hd') ?_;rw [e6];refine wc7 hf (by omega) λA1 d1 k1 n1 f1=>?_;refine AeD f1 (by omega) λA2 q2 k2 n2 f2=>?_;have m:DM A A2 (A.next+1) A.next A1.next ⟨[],max room 0,0,false⟩ ⟨[],max room 0,0,false⟩ [] 0 0:=by
  refine ⟨d1.keeps k2 (by simp) (by simp),q2,λy hy=>?_,⟨by omega,by omega,λy hy=>?_⟩,k1.trans k2 (by simp),f2,⟨⟨List.Perm.refl _,List.nodup_nil,rfl,rfl,rfl⟩,List.Pairwise.nil⟩,⟨List.Pairwise.nil,Nl _,λe he=>(by cases he),λe he=>(by cases he),by show 0<=max room 0;omega,by show max room 0<9223372036854775808;omega,by show (0:Int)<=0;decide,by show (0:Int)<9223372036854775808;decide⟩,λe he=>(by cases he)⟩
  ·have:=Ms.1 hy;omega
  ·have:=Ms.1 hy;omega
 refine Rv (M:=800000) (K:=λt3 t4 t6 t7 At5=>Bm (T6 0) (T6 0) (∃ g,PL A x n limit g 0 [.int .i64 limit,x,ptr (A.next+1),ptr A1.next,t3,t4,t6,t7,(.int .i64 0)] At5)) hN hF hg0 m (by decide) (by decide) (by decide) (by decide) (by omega) λA' s' q' F' v9 v11 e js hn=>?_;have hb:A'.next<=A.next+40000000*0+40000000:=by omega
 exact Ar.2 ⟨41-0,rfl,0,A.next+1,A.next,A1.next,s',q',F',v9,v11,e,rfl,Nat.zero_le _,Nat.zero_le _,rfl,js.more (by decide) (by decide) (by decide),hb⟩
end
end Go.Proofs.YtbchfeibhoobeaaGreatDoor
set_option linter.all false
namespace Go.Jr
def hS0:DS:=⟨[],1000,0,false⟩
def hX1:DS × Option JS × Int:=EY hS0 [] 30
def hQ1:JS:=hX1.2.1.getD ⟨0,[],[],[],0,false,false⟩
def hX2:DS × JS × Int:=Cw hX1.1 hQ1 (1,[97,98])
def hX3:DS × JS × Int:=Cw hX2.1 hX2.2.1 (2,[99,100])
def hX4:DS × JS × Int:=Bs hX3.1 [nm 1,nm 2] hX3.2.1 [120]
end Go.Jr
namespace Go.Proofs.YtbchfeibhoobeaaGreatDoor
open Go.Abs Go.Jr
theorem e9(W0:World)(m0:Inj Tp)(S:Nat->List Value->AW->Prop)(Q:Value->AW->Prop)(A:AW):gE W0 m0 S Q 9 76 Tz Lz [] A=(Wc Tp An W0 m0 7 [(.int .i64 1000)] A λt0 At0=>Wc Tp An W0 m0 8 [t0,(.int .i64 30)] At0 λt1 At1=>Aa (Ap t1 0) λt2=>Aa (Ap t1 1) λt3=>Aa (Ai Tp .neq 30 (.tmp 15) (.const (.int .i64 0)) t3 (.int .i64 0)) λt4=>Ah t4 (Q (.bool false) At1) (Aa (Ai Tp .eql 29 (.tmp 18) (.const (.pointer none)) t2 (.pointer none)) λt5=>Ah t5 (Q (.bool false) At1) (Aa (Bp Tp 35 [(0,(.int .u8 1)),(1,(.string ⟨⟨[97,98]⟩⟩))]) λt6=>Wc Tp An W0 m0 10 [t2,t6] At1 λt7 At7=>Aa (Bp Tp 35 [(0,(.int .u8 2)),(1,(.string ⟨⟨[99,100]⟩⟩))]) λt8=>Wc Tp An W0 m0 10 [t2,t8] At7 λt9 At9=>Wc Tp An W0 m0 11 [t0] At9 λt10 At10=>Wc Tp An W0 m0 16 [t2,(.string ⟨⟨[120]⟩⟩)] At10 λt11 At11=>Wc Tp An W0 m0 11 [t0] At11 λt12 At12=>Aa (Ai Tp .eql 30 (.tmp 33) (.const (.int .i64 0)) t7 (.int .i64 0)) λt13=>Ah t13 (Aa (Ai Tp .eql 30 (.tmp 36) (.const (.int .i64 0)) t9 (.int .i64 0)) λt14=>Ah t14 (Aa (Ai Tp .eql 30 (.tmp 40) (.const (.int .i64 0)) t11 (.int .i64 0)) λt15=>Ah t15 (Aa (Bd Tp At12 37 t10) λt16=>Aa (Ai Tp .eql 3 (.tmp 45) (.const (.int .i64 2)) t16 (.int .i64 2)) λt17=>Ah t17 (Aa (Ak Tp 37 t10 (.int .i64 1)) λt18=>Aa (Af Tp At12 9 t18) λt19=>Aa (Ai Tp .eql 9 (.tmp 51) (.const (.string ⟨⟨[106,46,48,48,48,48,48,48,48,50]⟩⟩)) t19 (.string ⟨⟨[106,46,48,48,48,48,48,48,48,50]⟩⟩)) λt20=>Ah t20 (Aa (Bd Tp At12 37 t12) λt21=>Aa (Ai Tp .eql 3 (.tmp 56) (.const (.int .i64 1)) t21 (.int .i64 1)) λt22=>Ah t22 (Aa (Ak Tp 37 t12 (.int .i64 0)) λt23=>Aa (Af Tp At12 9 t23) λt24=>Aa (Ai Tp .eql 9 (.tmp 62) (.const (.string ⟨⟨[106,46,48,48,48,48,48,48,48,51]⟩⟩)) t24 (.string ⟨⟨[106,46,48,48,48,48,48,48,48,51]⟩⟩)) λt25=>Ah t25 (Wc Tp An W0 m0 17 [t2] At12 λt26 At26=>Aa (Ai Tp .eql 9 (.tmp 67) (.const (.string ⟨⟨[120]⟩⟩)) t26 (.string ⟨⟨[120]⟩⟩)) λt27=>Ah t27 (Wc Tp An W0 m0 18 [t2] At26 λt28 At28=>Aa (Bd Tp At28 22 t28) λt29=>Aa (Ai Tp .eql 3 (.tmp 73) (.const (.int .i64 0)) t29 (.int .i64 0)) λt30=>Q t30 At28) (Q (.bool false) At26)) (Q (.bool false) At12)) (Q (.bool false) At12)) (Q (.bool false) At12)) (Q (.bool false) At12)) (Q (.bool false) At12)) (Q (.bool false) At12)) (Q (.bool false) At12)))):=by kernel_rfl
theorem w9:Wf0 9 76 Tz Lz:=wf0 (by kernel_rfl) (by decide) rfl
theorem hd1:hX1=(hX1.1,some hQ1,0):=by kernel_rfl
theorem hd2:hX2.2.2=0:=by kernel_rfl
theorem hd3:hX3.2.2=0:=by kernel_rfl
theorem hd4:hX4.2.2=0:=by kernel_rfl
theorem hk3:Aq hX3.1.D=[Jr.nm 1,Jr.nm 2]:=by kernel_rfl
theorem hk4:Aq hX4.1.D=[Jr.nm 3]:=by kernel_rfl
theorem hq4:hX4.2.1.state=[120]/\hX4.2.1.l=[]:=⟨by kernel_rfl,by kernel_rfl⟩
def Adx(s:DS):Bool:=decide (s.D.length<=9)&&(s.D.all (λf=>decide (f.2.1.length<=1048576)&&decide (f.2.2<=f.2.1.length))&&(decide (0<=s.room)&&(decide (s.room<9223372036854775808)&&decide (s.B9<9223372036854775808))))
theorem Qg{s:DS}(h:Adx s=true):OkS 9 s:=by
 unfold Adx at h;simp only [Bq,decide_eq_true_eq,List.all_eq_true] at h;exact ⟨h.1,λf hf=>(h.2.1 f hf).1,λf hf=>(h.2.1 f hf).2,h.2.2.1,h.2.2.2.1,h.2.2.2.2⟩
theorem KY{D:Fls}(h:Ris ltB (Aq D)):namesS D=Aq D:=by
 obtain ⟨h1,h2⟩:=Gx (D:=D) (Ris.nodup ltk h);exact Jm ltk (RQ.Dd (q:=⟨D,0,0,false⟩) h).s h h1 h2
section
variable {W0:World} {m0:Inj Tp}
theorem wc9{A:AW}(hN:∀ n,n<100000000->EO W0 m0 n)(hg:Glb A)(hf:Aw A)(hA:A.next<400000000000):Wc Tp An W0 m0 9 [] A λv _=>v=.bool true:=by
 have hmax:Am=1099511627776:=rfl;have hglt:=hg.lt;refine w9 _ BF ?_;rw [e9];refine wc7 hf (by omega) λA1 d1 k1 n1 f1=>?_;have hn0:namesS []=[]:=by unfold namesS;simp
 have d1:Dk A1 (A.next+1) A.next hS0:=d1;have ho:EY hS0 (namesS hS0.D) 30=(hX1.1,some hQ1,0):=by show EY hS0 (namesS []) 30=_;rw [hn0];exact hd1
 refine wc8 (k:=9) (L:=0) d1 (hg.keeps k1 (by simp)) (Qg (by kernel_rfl)) (by omega) (λf hf=>by cases hf) (by omega) (by decide) f1 (by omega) ⟨by omega,by omega⟩ (λf hf=>?_) (λn hn=>?_) (λe A2 s' hos _ _ _ _=>?_) λA2 s' q j Fl Fr hos jd2 hj hFl hFr k2 n2 f2=>?_
 ·have hf:f∈namesS []:=hf;rw [hn0] at hf;cases hf
 ·rcases hn with rfl | ⟨y,hy,rfl⟩
  ·exact hN 1 (by omega)
  ·exact hN _ (Un hy)
 ·have:=hos.symm.trans ho;simp at this
 ·have he:=hos.symm.trans ho;simp only [Pj,Oi] at he;obtain ⟨rfl,rfl,_⟩:=he;have K2:Aj A A2 []:=k1.trans k2 λy hy=>.inr (by simp only [Mk,List.not_mem_nil,or_false] at hy;omega);have h0:0≠j/\0≠A.next+1/\0≠A.next:=⟨by omega,by omega,by omega⟩;have lo2:∀ y∈j::(A.next+1)::A.next::(Fl++Fr),A.next<=y:=λy hy=>by
   simp only [Mk,Mz] at hy;rcases hy with h | h | h | h | h
   ·omega
   ·omega
   ·omega
   ·have:=hFl y h;omega
   ·have:=hFr y h;omega
  simp only [Bw,Bv,Ab,BC,ptr,AcG,Abm];refine Bb.2 ⟨λh=>by simp at h,λ_=>Ag.2 ⟨λh=>by simp at h,λ_=>?_⟩⟩;refine Z6 (k:=9) (n:=1) (r:=(1,⟨⟨[97,98]⟩⟩)) jd2 (hg.keeps K2 (by simp)) (Qg (by kernel_rfl)) (by omega) f2 (by omega) h0 (by decide) (show hQ1.l.length<1000000 from of_decide_eq_true (by kernel_rfl)) (show hQ1.row.length<1000000 from of_decide_eq_true (by kernel_rfl)) (by kernel_rfl) (by omega) (show hQ1.size<1099511627776 from of_decide_eq_true (by kernel_rfl)) (show 1<=hQ1.limit from of_decide_eq_true (by kernel_rfl)) (show hQ1.limit<9223372036854775808 from of_decide_eq_true (by kernel_rfl)) (hN _ (by omega)) (λ_=>hN _ (by omega)) λA3 Fl3 Fr3 jd3 hFl3 hFr3 k3 n3 f3=>?_;have jd3:JD A3 j (A.next+1) A.next hX2.2.1 hX2.1 Fl3 Fr3:=jd3;have K3:Aj A A3 []:=K2.trans k3 λy hy=>.inr (lo2 y hy);have le2:=K2.next;have le3:=k3.next;have lo3:∀ y∈j::(A.next+1)::A.next::(Fl3++Fr3),A.next<=y:=λy hy=>by
   simp only [Mk,Mz] at hy;rcases hy with h | h | h | h | h
   ·omega
   ·omega
   ·omega
   ·rcases hFl3 y h with h | h
    ·exact lo2 y (by simp [h])
    ·omega
   ·rcases hFr3 y h with h | h
    ·exact lo2 y (by simp [h])
    ·omega
  refine Z6 (k:=9) (n:=1) (r:=(2,⟨⟨[99,100]⟩⟩)) jd3 (hg.keeps K3 (by simp)) (Qg (by kernel_rfl)) (by omega) f3 (by omega) h0 (by decide) (show hX2.2.1.l.length<1000000 from of_decide_eq_true (by kernel_rfl)) (show hX2.2.1.row.length<1000000 from of_decide_eq_true (by kernel_rfl)) (by kernel_rfl) (by omega) (show hX2.2.1.size<1099511627776 from of_decide_eq_true (by kernel_rfl)) (show 1<=hX2.2.1.limit from of_decide_eq_true (by kernel_rfl)) (show hX2.2.1.limit<9223372036854775808 from of_decide_eq_true (by kernel_rfl)) (hN _ (by omega)) (λ_=>hN _ (by omega)) λA4 Fl4 Fr4 jd4 hFl4 hFr4 k4 n4 f4=>?_;have jd4:JD A4 j (A.next+1) A.next hX3.2.1 hX3.1 Fl4 Fr4:=jd4;have K4:Aj A A4 []:=K3.trans k4 λy hy=>.inr (lo3 y hy);have le4:=k4.next;have hn3:namesS hX3.1.D=[Jr.nm 1,Jr.nm 2]:=by rw [<- hk3];exact KY (by rw [hk3];exact List.Pairwise.cons (by simpa using (show ltB (Jr.nm 1) (Jr.nm 2)=true by kernel_rfl)) (List.pairwise_singleton _ _))
  have hn4:namesS hX4.1.D=[Jr.nm 3]:=by rw [<- hk4];exact KY (by rw [hk4];exact List.pairwise_singleton _ _)
  have lo4:∀ y∈j::(A.next+1)::A.next::(Fl4++Fr4),A.next<=y:=λy hy=>by
   simp only [Mk,Mz] at hy;rcases hy with h | h | h | h | h
   ·omega
   ·omega
   ·omega
   ·rcases hFl4 y h with h | h
    ·exact lo3 y (by simp [h])
    ·omega
   ·rcases hFr4 y h with h | h
    ·exact lo3 y (by simp [h])
    ·omega
  have hS4:=jd4.all;have hl5:hX3.1.D.length=2:=by kernel_rfl
  have hrl:hX3.2.1.row.length=2:=by kernel_rfl
  refine SQ jd4.dk f4 (show hX3.1.D.length<100000 from of_decide_eq_true (by kernel_rfl)) (by omega) λA5 sv Fn h5 hFn k5 n5 f5=>?_;have r5:=HE h5;rw [hn3] at r5;have le5:=k5.next;have jd5:=jd4.keeps k5 (by simp) (by simp) (by simp) (by simp) (by simp);refine ZA (k:=9) (n:=2) (st:=⟨⟨[120]⟩⟩) jd5 (hg.keeps (K4.trans k5 (by simp)) (by simp)) (Qg (by kernel_rfl)) (by omega) f5 (by omega) h0 (by decide) (by kernel_rfl) (by omega) (λx hx=>hN x hx) (λx hx=>?_) λA6 Fl6 Fr6 jd6 hFl6 hFr6 k6 n6 f6=>?_
  ·have e:hX3.2.1.row=[1,2]:=by kernel_rfl
   rw [e] at hx;simp only [Mk,List.not_mem_nil,or_false] at hx;omega
  have e6:Bs hX3.1 (namesS hX3.1.D) hX3.2.1 (⟨⟨[120]⟩⟩:ByteArray).data.toList=hX4:=by rw [hn3];rfl
  rw [e6] at jd6 ⊢;have r6:=r5.keeps k6 λy hy hm=>by
   have:=hFn y hy
   have:=hS4 y hm
   omega
  have hl6:hX4.1.D.length=1:=by kernel_rfl
  refine SQ jd6.dk f6 (by omega) (by omega) λA7 sv7 Fn7 h7 hFn7 k7 n7 f7=>?_;have r7:=HE h7;rw [hn4] at r7;have r67:=r6.keeps k7 (by simp);have jd7:=jd6.keeps k7 (by simp) (by simp) (by simp) (by simp) (by simp);obtain ⟨a,a1,a2⟩:=esS.at r67 (i:=1) (p:=Jr.nm 2) rfl rfl;obtain ⟨b,b1,b2⟩:=esS.at r7 (i:=0) (p:=Jr.nm 3) rfl rfl;have a1:Ak Tp 37 sv (.int .i64 1)=_:=a1;have b1:Ak Tp 37 sv7 (.int .i64 0)=_:=b1;have e7:(Cw hX1.1 hQ1 (toR (1,⟨⟨[97,98]⟩⟩))).2.2=0:=hd2;have e8:(Cw hX2.1 hX2.2.1 (toR (2,⟨⟨[99,100]⟩⟩))).2.2=0:=hd3;have t2:∀ xo yo,Ai Tp .eql 9 xo yo (txV (Jr.nm 2)) (.string ⟨⟨[106,46,48,48,48,48,48,48,48,50]⟩⟩)=some (.bool true):=λxo yo=>by unfold txV;rw [II];kernel_rfl
  have t3:∀ xo yo,Ai Tp .eql 9 xo yo (txV (Jr.nm 3)) (.string ⟨⟨[106,46,48,48,48,48,48,48,48,51]⟩⟩)=some (.bool true):=λxo yo=>by unfold txV;rw [II];kernel_rfl
  simp only [e7,e8,hd4,Bo,Ab,ES.HG esS r67,ES.HG esS r7,a1,a2,b1,b2,t2,t3];refine Ag.2 ⟨λ_=>?_,λh=>by simp at h⟩;refine Ag.2 ⟨λ_=>?_,λh=>by simp at h⟩;refine Ag.2 ⟨λ_=>?_,λh=>by simp at h⟩;refine Ag.2 ⟨λ_=>?_,λh=>by simp at h⟩;refine Ag.2 ⟨λ_=>?_,λh=>by simp at h⟩;refine Ag.2 ⟨λ_=>?_,λh=>by simp at h⟩;refine Ag.2 ⟨λ_=>?_,λh=>by simp at h⟩;refine AbS jd7.jn ?_;simp only [hq4.1,II,Ab];refine Ag.2 ⟨λ_=>?_,λh=>by simp at h⟩;refine AbR jd7.jn f7 (by omega) (by rw [hq4.2];decide) λA8 v8 R8 F8 e9 o8 hF8 g8=>?_;have hR:R8=[]:=by
   rw [hq4.2] at e9;cases R8 with
   |nil=>rfl
   |cons x r=>simp at e9
  subst hR;simp only [(o8.rd etR.len).len etR,Ab,Bo];rfl
end
end Go.Proofs.YtbchfeibhoobeaaGreatDoor
namespace Go.Proofs.YtbchfeibhoobeaaGreatDoor
open Go.Abs Go.Jr
variable {W:World} {f:List UInt8}
def On(W:World):Prop:=∃ (a b:Addr) (fr fr':Nat × Nat),(a.spot=none/\W.heap[1]? =some (.cells #[.iface 225 (.pointer (some a))] 142 fr))/\b.spot=none/\W.heap[2]? =some (.cells #[.iface 225 (.pointer (some b))] 142 fr')
theorem On.grow{W':World}(h:On W)(hb:Go.RowKit.Below W.heap.size W W'):On W':=by
 obtain ⟨a,b,fr,fr',⟨h1,h2⟩,h3,h4⟩:=h;exact ⟨a,b,fr,fr',⟨h1,by rw [hb.block 1 (Array.getElem?_eq_some_iff.1 h2).1];exact h2⟩,h3,by rw [hb.block 2 (Array.getElem?_eq_some_iff.1 h4).1];exact h4⟩
def Rb:List (Nat × List Value × TypeId):=[(1,[.iface 225 (pP 7 0)],142),(2,[.iface 225 (pP 8 0)],142)]
theorem okE:okB Tp.globals.size Rb=true:=by rw [Tryz.nG];rfl
theorem Adw(L:List Arg)(hk:7+L.length<=Am):GE (wR Tp.globals.size Rb L):=by
 rw [Tryz.nG];refine ⟨⟨7,1,0,true,?_,?_,by decide⟩,⟨8,2,0,true,?_,?_,by decide⟩⟩
 ·show (Ma _ 7 L _).get? 1=_;rw [FX _ L 7 _ _ hk,if_pos (by decide)];rfl
 ·show 1<7+L.length+1;omega
 ·show (Ma _ 7 L _).get? 2=_;rw [FX _ L 7 _ _ hk,if_pos (by decide)];rfl
 ·show 2<7+L.length+1;omega
section
variable {W0:World} {m0:Inj Tp}
theorem Xt(hp:Pow W0){n:Nat}(hn:n<100000000):EO W0 m0 n:=by
 refine ⟨λe=>absurd e (show (47:Nat)≠FZ by decide),λ_ m args' W _ hb ha=>?_⟩;cases ha with
 |cons h1 h2=>
  cases h2;cases h1;have hW:Ua Tp W [] []:=λx hx=>by cases hx
  have hok:okB Tp.globals.size []=true:=by rw [Tryz.nG];rfl
  have hk:Tp.globals.size+([]:List Arg).length+1<=Am:=by rw [Tryz.nG];show 7+0+1<=Am;decide
  have h:Wc Tp DC W (mR Tp []) 47 [.int .i64 (n:Int)] (wR Tp.globals.size [] []) λv _=>v=.string ⟨⟨Jr.nm n⟩⟩:=
   Aeu (hp.grow hb) hn (Np hok hk) (by show Tp.globals.size+0+1+20<Am;rw [Tryz.nG];decide) λ_ _=>rfl
  refine (I9 gP h (ZI hok hk hW λj p cs e hj=>by simp at hj) (λi hi=>Ie hi) (Ur hok (by omega)) (.cons (.int _ _) .nil)).mono ?_;rintro e w' ⟨v,v',m',A',rfl,rfl,h2,h3⟩;cases h2;exact ⟨_,Ms.2 rfl,rfl,Xk h3 (Ur hok (by omega))⟩
theorem P9(hE:On W)(hp:Pow W)(hl:f.length<100000000):Calls Tp 88 #[.string ⟨⟨f⟩⟩] W λe W'=>e=.returned (.int .i64 (numOf f:Int))/\Low W W':=by
 obtain ⟨a,b,fr,fr',⟨ha4,h4⟩,hb5,h5⟩:=hE;have hk:Tp.globals.size+[(((a.block,a.off),none):Arg),((b.block,b.off),none)].length+1<=Am:=by rw [Tryz.nG];show 7+2+1<=Am;decide
 have hW:Ua Tp W [(((a.block,a.off),none):Arg),((b.block,b.off),none)] Rb:=by
  have m7:mR Tp [(((a.block,a.off),none):Arg),((b.block,b.off),none)] 7=some (a.block,a.off):=by
   have:=Ke (P:=Tp) (l:=([(((a.block,a.off),none):Arg),((b.block,b.off),none)]).map (·.1)) (i:=0)
   rw [Tryz.nG] at this;exact this
  have m8:mR Tp [(((a.block,a.off),none):Arg),((b.block,b.off),none)] 8=some (b.block,b.off):=by
   have:=Ke (P:=Tp) (l:=([(((a.block,a.off),none):Arg),((b.block,b.off),none)]).map (·.1)) (i:=1)
   rw [Tryz.nG] at this;exact this
  intro x hx;simp only [Rb,Mk,List.not_mem_nil,or_false] at hx;rcases hx with rfl | rfl
  ·refine ⟨_,fr,h4,λi v hv=>?_⟩
   match i,hv with
   |0,hv=>
    obtain rfl:Value.iface 225 (pP 7 0)=v:=by simpa using hv
    exact ⟨_,rfl,.iface 225 (.ptr ⟨rfl,ha4,a.off,m7,rfl⟩)⟩
   |i+1,hv=>simp at hv
  ·refine ⟨_,fr',h5,λi v hv=>?_⟩
   match i,hv with
   |0,hv=>
    obtain rfl:Value.iface 225 (pP 8 0)=v:=by simpa using hv
    exact ⟨_,rfl,.iface 225 (.ptr ⟨rfl,hb5,b.off,m8,rfl⟩)⟩
   |i+1,hv=>simp at hv
 have h:Wc Tp DC W (mR Tp [(((a.block,a.off),none):Arg),((b.block,b.off),none)]) 88 [.string ⟨⟨f⟩⟩] (wR Tp.globals.size Rb [(((a.block,a.off),none):Arg),((b.block,b.off),none)]) λv _=>v=.int .i64 (numOf f:Int):=
  Aeg (f:=⟨⟨f⟩⟩) hp hl (λn hn=>Xt hp hn) (Adw _ (by show 7+2<=Am;decide)) (Np okE hk) (by show Tp.globals.size+2+1+8<Am;rw [Tryz.nG];decide)
 refine (I9 gP h (ZI okE hk hW λj p cs e hj=>?_) (λi hi=>Ie hi) (Ur okE (by omega)) (.cons (.string _) .nil)).mono ?_
 ·match j,hj with
  |0,hj=>simp at hj
  |1,hj=>simp at hj
  |j+2,hj=>simp at hj
 ·rintro e w' ⟨v,v',m',A',rfl,rfl,h2,h3⟩;cases h2;exact ⟨rfl,Xk h3 (Ur okE (by omega))⟩
theorem AfI(hE:On W0)(hp:Pow W0)(hl:f.length<100000000):QL W0 m0 f:=by
 refine ⟨λe=>absurd e (show (88:Nat)≠FZ by decide),λ_ m args' W _ hb ha=>?_⟩;cases ha with
 |cons h1 h2=>
  cases h2;cases h1;exact (P9 (hE.grow hb) (hp.grow hb) hl).mono λe W' ⟨he,hw⟩=>⟨_,Ms.2 rfl,he,hw⟩
end
theorem Y7(hW:Holds W rowsG)(hp:Pow W)(m:Inj Tp):KC.Holds Tp W m ⟨9,[],[.bool true]⟩:=by
 refine Xs (R:=λW=>Holds W rowsG/\Pow W) (λW W' h hb=>⟨λx hx=>?_,h.2.grow hb⟩) (by decide) (λW h=>?_) ⟨hW,hp⟩ m
 ·obtain ⟨fr,hc⟩:=h.1 x hx;exact ⟨fr,by rw [hb.block x.1 (Array.getElem?_eq_some_iff.1 hc).1];exact hc⟩
 ·have hk:Tp.globals.size+([]:List Arg).length+1<=Am:=by rw [Tryz.nG];show 7+0+1<=Am;decide
  refine (MG (L:=[]) (gl:=rowsG) (args:=[]) gP Tryz.okG hk h.1 (λj p cs e hj=>by simp at hj) .nil (wc9 (λn hn=>Xt h.2 hn) (Xy hk) (PO Tryz.okG hk) ?_)).mono λe W' ⟨he,hb⟩=>⟨he,⟨hb⟩⟩;show Tp.globals.size+0+1<400000000000;rw [Tryz.nG];decide
end Go.Proofs.YtbchfeibhoobeaaGreatDoor
