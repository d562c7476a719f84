/-
  This text prints what the functions reached ask of their memory, and shows what they answer. Conditions: those that each theorem states.
-/
import Derived.Test.YtnennggfoegcmaaGreatDoorPc
import Derived.DeepKeys2
import Derived.Lib.Bytealg
import Derived.Shelf.Lays
import Derived.Shelf.Slices.In.SortNone
import Derived.Shelf.Small.Strs
import Derived.Shelf.Sort.Plain
set_option linter.all false
set_option maxRecDepth 100000
set_option maxHeartbeats 1000000
namespace Go.Abs
structure Nm where
 f:Nat
 g:ByteArray
 b:ByteArray
instance:Inhabited Nm:=⟨⟨0,.empty,.empty⟩⟩
def Nm.cells(p:Nm):List Value:=[.int .u32 (p.f:Int),.string p.g,.string p.b]
def Ml(a b:Int):Int:=if a<b then -1 else if b<a then 1 else 0
def orL:List Int->Int
 |[]=>0
 |a::r=>if a≠0 then a else orL r
def Jl(a b:ByteArray):Int:=Go.Lib.compareBytes a.data.toList b.data.toList
def DP(p q:Nm):Int:=orL [Ml (p.f:Int) (q.f:Int),Jl p.g q.g,Jl p.b q.b]
theorem VC:∀ a:List UInt8,Go.Lib.compareBytes a a=0
 |[]=>rfl
 |a::xs=>by simp [Go.Lib.compareBytes,VC xs]
theorem AbM:∀ {a b:List UInt8},Go.Lib.compareBytes a b=0->a=b
 |[],[],_=>rfl
 |[],_::_,h=>by simp [Go.Lib.compareBytes] at h
 |_::_,[],h=>by simp [Go.Lib.compareBytes] at h
 |a::xs,b::ys,h=>by
  simp only [Go.Lib.compareBytes] at h;split at h
  ·simp at h
  ·split at h
   ·simp at h
   ·rename_i h1 h2;have hab:a=b:=by
     have h1:=UInt8.not_lt.1 h1;have h2:=UInt8.not_lt.1 h2;exact UInt8.le_antisymm h2 h1
    rw [hab,AbM h]
theorem VB:∀ (a b:List UInt8),Go.Lib.compareBytes a b= -Go.Lib.compareBytes b a
 |[],[]=>rfl
 |[],_::_=>rfl
 |_::_,[]=>rfl
 |a::xs,b::ys=>by
  simp only [Go.Lib.compareBytes];by_cases h1:a<b
  ·have h2:¬ b<a:=λh=>UInt8.lt_irrefl a (UInt8.lt_trans h1 h);rw [if_pos h1,Ff h2,if_pos h1]
  ·by_cases h2:b<a
   ·rw [Ff h1,if_pos h2,if_pos h2];rfl
   ·rw [Ff h1,Ff h2,Ff h2,Ff h1,VB xs ys]
theorem S7:∀ {a b c:List UInt8},Go.Lib.compareBytes a b<0->Go.Lib.compareBytes b c<0->Go.Lib.compareBytes a c<0
 |[],[],_,h,_=>by simp [Go.Lib.compareBytes] at h
 |[],_::_,[],_,h=>by simp [Go.Lib.compareBytes] at h
 |[],_::_,_::_,_,_=>by simp [Go.Lib.compareBytes]
 |_::_,[],_,h,_=>by simp [Go.Lib.compareBytes] at h
 |_::_,_::_,[],_,h=>by simp [Go.Lib.compareBytes] at h
 |a::xs,b::ys,c::zs,h1,h2=>by
  simp only [Go.Lib.compareBytes] at h1 h2 ⊢;by_cases p1:a<b
  ·by_cases p2:b<c
   ·rw [if_pos (UInt8.lt_trans p1 p2)];decide
   ·rw [Ff p2] at h2;by_cases p3:c<b
    ·rw [if_pos p3] at h2;exact absurd h2 (by decide)
    ·have:b=c:=UInt8.le_antisymm (UInt8.not_lt.1 p3) (UInt8.not_lt.1 p2)
     subst this;rw [if_pos p1];decide
  ·rw [Ff p1] at h1;by_cases p3:b<a
   ·rw [if_pos p3] at h1;exact absurd h1 (by decide)
   ·have:a=b:=UInt8.le_antisymm (UInt8.not_lt.1 p3) (UInt8.not_lt.1 p1)
    subst this;rw [Ff p3] at h1;by_cases p2:a<c
    ·rw [if_pos p2];decide
    ·rw [Ff p2] at h2 ⊢;by_cases p4:c<a
     ·rw [if_pos p4] at h2;exact absurd h2 (by decide)
     ·rw [Ff p4] at h2 ⊢;exact S7 h1 h2
theorem WX(a b:Int):Ml a b= -Ml b a:=by
 unfold Ml;split<;>split<;>first | rfl | omega
theorem Zk{a b:Int}:Ml a b<0↔a<b:=by
 unfold Ml;split
 ·omega
 ·split<;>omega
theorem JP{a b:Int}:Ml a b=0↔a=b:=by
 unfold Ml;split
 ·omega
 ·split<;>omega
theorem Te{a b:ByteArray}(h:a.data.toList=b.data.toList):a=b:=by
 obtain ⟨⟨x⟩⟩:=a;obtain ⟨⟨y⟩⟩:=b;have h:x=y:=h;rw [h]
theorem Fy{a b:ByteArray}:Jl a b=0↔a=b:=⟨λh=>Te (AbM h),λh=>by subst h;exact VC _⟩
theorem Qe(a b:ByteArray):Jl a b= -Jl b a:=VB _ _
theorem OA{a b c:ByteArray}(h1:Jl a b<0)(h2:Jl b c<0):Jl a c<0:=S7 h1 h2
theorem KR(p q:Nm):DP p q=if Ml (p.f:Int) (q.f:Int)≠0 then Ml (p.f:Int) (q.f:Int) else if Jl p.g q.g≠0 then Jl p.g q.g else Jl p.b q.b:=by
 unfold DP;simp only [orL];split
 ·rfl
 ·split
  ·rfl
  ·split
   ·rfl
   ·rename_i h;exact (Classical.not_not.1 h).symm
theorem ED{p q:Nm}:DP p q=0↔p=q:=by
 rw [KR];constructor
 ·intro h;split at h
  ·exact absurd h (by assumption)
  ·split at h
   ·exact absurd h (by assumption)
   ·rename_i h1 h2;have k1:=JP.1 (Classical.not_not.1 h1);have k2:=Fy.1 (Classical.not_not.1 h2);have k3:=Fy.1 h;clear h h1 h2;obtain ⟨f,g,b⟩:=p;obtain ⟨f',g',b'⟩:=q;simp only at k1 k2 k3;have k1:f=f':=by omega
    subst k1;subst k2;subst k3;rfl
 ·rintro rfl;rw [Ff (by rw [JP.2 rfl];simp),Ff (by rw [Fy.2 rfl];simp)];exact Fy.2 rfl
theorem Jx(p q:Nm):DP p q= -DP q p:=by
 rw [KR,KR,WX (p.f:Int),Qe p.g,Qe p.b];generalize Ml (q.f:Int) (p.f:Int)=x;generalize Jl q.g p.g=y;by_cases h1:x=0<;>by_cases h2:y=0<;>simp [h1,h2]
theorem Xl{p q:Nm}:DP p q<0↔(p.f<q.f\/(p.f=q.f/\(Jl p.g q.g<0\/(p.g=q.g/\Jl p.b q.b<0)))):=by
 rw [KR];by_cases h1:(p.f:Int)=q.f
 ·rw [Ff (by rw [JP.2 h1];simp)];have h1':p.f=q.f:=by omega
  by_cases h2:p.g=q.g
  ·rw [Ff (by rw [Fy.2 h2];simp)];constructor
   ·exact λh=>.inr ⟨h1',.inr ⟨h2,h⟩⟩
   ·rintro (h | ⟨_,h | ⟨_,h⟩⟩)
    ·omega
    ·rw [Fy.2 h2] at h;omega
    ·exact h
  ·have h2':Jl p.g q.g≠0:=λh=>h2 (Fy.1 h);rw [if_pos h2'];constructor
   ·exact λh=>.inr ⟨h1',.inl h⟩
   ·rintro (h | ⟨_,h | ⟨h,_⟩⟩)
    ·omega
    ·exact h
    ·exact absurd h h2
 ·rw [if_pos (λh=>h1 (JP.1 h)),Zk];constructor
  ·exact λh=>.inl (by omega)
  ·rintro (h | ⟨h,_⟩)<;>omega
theorem HW{p q r:Nm}(h1:DP p q<0)(h2:DP q r<0):DP p r<0:=by
 rw [Xl] at *;rcases h1 with h1 | ⟨e1,h1⟩
 ·rcases h2 with h2 | ⟨e2,_⟩<;>exact .inl (by omega)
 ·rcases h2 with h2 | ⟨e2,h2⟩
  ·exact .inl (by omega)
  ·refine .inr ⟨by omega,?_⟩;rcases h1 with h1 | ⟨g1,h1⟩
   ·rcases h2 with h2 | ⟨g2,_⟩
    ·exact .inl (OA h1 h2)
    ·exact .inl (by rw [<- g2];exact h1)
   ·rcases h2 with h2 | ⟨g2,h2⟩
    ·exact .inl (by rw [g1];exact h2)
    ·exact .inr ⟨g1.trans g2,OA h1 h2⟩
theorem lt_iff{p q:Nm}:Go.Proofs.ltOf DP p q=true↔DP p q<0:=by unfold Go.Proofs.ltOf;simp
theorem QL{p q:Nm}:Go.Proofs.ltOf DP p q=false↔0<=DP p q:=by unfold Go.Proofs.ltOf;simp
theorem Xk:Go.Sort.SWO (Go.Proofs.ltOf DP) where
 irrefl x:=by rw [QL,ED.2 rfl];exact Int.le_refl _
 trans x y z h1 h2:=lt_iff.2 (HW (lt_iff.1 h1) (lt_iff.1 h2))
 ntrans x y z h1 h2:=by
  rw [QL] at *;rw [Jx] at h1 h2 ⊢;by_cases e1:DP y x=0
  ·have:=ED.1 e1;subst this;exact h2
  ·by_cases e2:DP z y=0
   ·have:=ED.1 e2;subst this;exact h1
   ·have:=HW (show DP z y<0 by omega) (show DP y x<0 by omega)
    omega
theorem TG(x y:Nm)(h1:Go.Proofs.ltOf DP x y=false)(h2:Go.Proofs.ltOf DP y x=false):x=y:=by
 rw [QL] at h1 h2;rw [Jx] at h2;exact ED.1 (by omega)
def srt(l:List Nm):List Nm:=l.mergeSort λx y=>!(Go.Proofs.ltOf DP y x)
theorem QP{x y:Nm}:(!(Go.Proofs.ltOf DP y x))=true↔DP x y<=0:=by
 rw [Bool.not_eq_true',QL,Jx];omega
theorem Qr(l:List Nm):(srt l).Pairwise λx y=>DP x y<=0:=by
 have h:=List.pairwise_mergeSort (le:=λx y:Nm=>!(Go.Proofs.ltOf DP y x)) (λa b c h1 h2=>?_) (λa b=>?_) l
 ·exact h.imp λh=>QP.1 h
 ·rw [QP] at *;by_cases e1:DP a b=0
  ·have:=ED.1 e1;subst this;exact h2
  ·by_cases e2:DP b c=0
   ·have:=ED.1 e2;subst this;exact h1
   ·have:=HW (show DP a b<0 by omega) (show DP b c<0 by omega)
    omega
 ·rw [Bool.or_eq_true,QP,QP,Jx b a];omega
theorem Rn:∀ {a b:List Nm},a.Pairwise (λx y=>DP x y<0)->b.Pairwise (λx y=>DP x y<0)->(∀ k,k∈a↔k∈b)->a=b
 |[],[],_,_,_=>rfl
 |[],y::b,_,_,h=>by have:=(h y).2 List.mem_cons_self;cases this
 |x::a,[],_,_,h=>by have:=(h x).1 List.mem_cons_self;cases this
 |x::a,y::b,ha,hb,h=>by
  rw [List.pairwise_cons] at ha hb;have irr:∀ z:Nm,¬ DP z z<0:=λz=>by rw [ED.2 rfl];exact Int.lt_irrefl 0
  have hxy:x=y:=by
   rcases Mk.1 ((h x).1 List.mem_cons_self) with h1 | h1
   ·exact h1
   ·rcases Mk.1 ((h y).2 List.mem_cons_self) with h2 | h2
    ·exact h2.symm
    ·exact absurd (HW (hb.1 x h1) (ha.1 y h2)) (irr y)
  subst hxy;rw [Rn ha.2 hb.2 λk=>?_];constructor
  ·intro hk;rcases Mk.1 ((h k).1 (List.mem_cons_of_mem _ hk)) with h1 | h1
   ·subst h1;exact absurd (ha.1 k hk) (irr k)
   ·exact h1
  ·intro hk;rcases Mk.1 ((h k).2 (List.mem_cons_of_mem _ hk)) with h1 | h1
   ·subst h1;exact absurd (hb.1 k hk) (irr k)
   ·exact h1
theorem Jz{l:List Nm}(h:l.Nodup):(srt l).Pairwise λx y=>DP x y<0:=by
 have hn:(srt l).Nodup:=(List.mergeSort_perm l _).nodup_iff.2 h;have hp:=Qr l;rw [List.nodup_iff_pairwise_ne] at hn;exact (hp.and hn).imp λ⟨h1,h2⟩=>by
  have:DP _ _≠0:=λe=>h2 (ED.1 e)
  omega
theorem JG{l:List Nm}{k:Nm}:k∈srt l↔k∈l:=(List.mergeSort_perm l _).mem_iff
end Go.Abs
namespace Go.Proofs.YtnennggfoegcmaaGreatDoor
section
open Go.Jr Go.Abs
theorem Acn{a r:List UInt8}{n:Nat}(h:a.length=n):tk n (a++r,false)=(a,(r,false)):=by
 unfold tk;rw [Ff (by simp;omega)];subst h
 simp
theorem Td(v:Nat):∀ w,Ej (be v w)=v%256^w
 |0=>by simp [be,Ej,Nat.mod_one]
 |w+1=>by
  rw [be,UM,BW,Td v w];have h1:(UInt8.ofNat (v/256^w)).toNat=v/256^w%256:=by simp
  rw [h1,Nat.pow_succ]
  have:=Nat.mod_mul (x:=v) (a:=256^w) (b:=256)
  rw [this,Nat.mul_comm,Nat.add_comm]
theorem L2{v w:Nat}(h:v<256^w)(r:List UInt8):nm w (be v w++r,false)=(v,(r,false)):=by
 unfold nm;rw [Acn (BW v w),Td,Nat.mod_eq_of_lt h]
theorem UX{s:ByteArray}(h:EL s<256)(r:List UInt8):tx1 (tx s++r,false)=(s.data.toList,(r,false)):=by
 unfold tx1 tx;rw [Mw,L2 (by simpa using h)];rw [Ff (by simp [EL])];simp [EL]
theorem TV{f:Nat}{g b:ByteArray}(hf:f<4294967296)(hg:EL g<256)(hb:EL b<256)(r:List UInt8):
  rnF (xb f g b++r,false)=f/\rnG (xb f g b++r,false)=g.data.toList/\rnB (xb f g b++r,false)=b.data.toList/\rnS (xb f g b++r,false)=(r,false):=by
 unfold rnF rnG rnB rnS xb;rw [Mw,Mw,L2 (by simpa using hf),UX hg,UX hb];exact ⟨rfl,rfl,rfl,rfl⟩
theorem Fe(s:ByteArray):(⟨⟨s.data.toList⟩⟩:ByteArray)=s:=by cases s;rfl
theorem Yf:∀ (l:List Pt) (r:List UInt8) (acc:List Pt),(∀ p∈l,p.wf/\p.st=0/\DQ p.g p.b=0)->ps l.length (pb l++r,false) acc=(acc++l,(r,false))
 |[],r,acc,_=>by simp [ps,pb]
 |p::l,r,acc,h=>by
  obtain ⟨⟨h1,h2,h3⟩,h4,h5⟩:=h p (by simp);obtain ⟨h6,h7,h8⟩:=CT h5;have e:pb (p::l)++r=be p.node 1++(xb p.f p.g p.b++(pb l++r)):=by
   rw [Yp];simp [pb]
  have hn:nm 1 (pb (p::l)++r,false)=(p.node,(xb p.f p.g p.b++(pb l++r),false)):=by rw [e,L2 (by simpa using h1)]
  obtain ⟨e1,e2,e3,e4⟩:=TV h2 (g:=p.g) (b:=p.b) (by omega) (by omega) (pb l++r);rw [Lc,ps,Ff (by simp),hn,e4];have hp:pt (pb (p::l)++r,false)=p:=by
   unfold pt;rw [hn];simp only;rw [e1,e2,e3,Fe,Fe];obtain ⟨a,b,c,d,st⟩:=p;simp only at h4;subst h4;rfl
  rw [hp,Yf l r (acc++[p]) λq hq=>h q (by simp [hq])]
  simp
theorem Ks{f:Nat}{g:ByteArray}:∀ {l:List Pt} {last:Nat},C7 f g last l=true->∀ p∈l,p.st=0/\DQ p.g p.b=0
 |[],_,_=>by simp
 |p::r,last,h=>by
  obtain ⟨_,_,h1,h2,_,h3⟩:=Gl.1 h;intro q hq;rcases Mk.1 hq with rfl | hq
  ·exact ⟨h1,h2⟩
  ·exact Ks h3 q hq
structure Dc where
 f:Nat
 g:ByteArray
 b:ByteArray
 ps:List Pt
def Dc.x(d:Dc):Nm:=⟨d.f,d.g,d.b⟩
def Dc.wf(d:Dc):Prop:=d.f<4294967296/\∀ p∈d.ps,p.wf
def Dc.ok(d:Dc):Prop:=d.wf/\Jk d.f d.g d.b d.ps=0
def Dc.by(d:Dc):List UInt8:=db d.f d.g d.b d.ps d.ps
def xnB(x:Nm):List UInt8:=xb x.f x.g x.b
theorem GQ{f:Nat}{g b:ByteArray}{l:List Pt}:Jk f g b l=0↔(DQ g b=0/\b.data.toList=[]/\1<=l.length/\l.length<=8/\C7 f g 0 l=true):=by
 unfold Jk;constructor
 ·intro h;by_cases hc:(DQ g b=0/\b.data.toList=[]/\1<=l.length/\l.length<=8/\C7 f g 0 l=true)
  ·exact hc
  ·rw [Ff hc] at h;cases h
 ·intro h;rw [if_pos h]
theorem Zf{d:Dc}(h:d.ok)(r:List UInt8):
  rnF (d.by++r,false)=d.f/\rnG (d.by++r,false)=d.g.data.toList/\rnB (d.by++r,false)=d.b.data.toList/\dcP (d.by++r,false)=d.ps/\dcS (d.by++r,false)=(r,false)/\WV (d.by++r,false)=true:=by
 obtain ⟨⟨hf,hw⟩,hd⟩:=h;obtain ⟨hx,hb,h1,h8,hp⟩:=GQ.1 hd;obtain ⟨g1,g2,g3⟩:=CT hx;have e:d.by++r=xb d.f d.g d.b++(be d.ps.length 1++(pb d.ps++r)):=by
  unfold Dc.by db
  rw [Yp];simp
 obtain ⟨e1,e2,e3,e4⟩:=TV hf (g:=d.g) (b:=d.b) (by omega) (by omega) (be d.ps.length 1++(pb d.ps++r));have hn:nm 1 (be d.ps.length 1++(pb d.ps++r),false)=(d.ps.length,(pb d.ps++r,false)):=L2 (by omega) _;have hps:=Yf d.ps r [] λp hpm=>⟨hw p hpm,Ks hp p hpm⟩;rw [List.nil_append] at hps;have hP:dcP (d.by++r,false)=d.ps:=by unfold dcP;rw [e,e4,hn];simp only;rw [hps]
 have hS:dcS (d.by++r,false)=(r,false):=by unfold dcS;rw [e,e4,hn];simp only;rw [hps]
 have hF:rnF (d.by++r,false)=d.f:=by rw [e];exact e1
 have hG:rnG (d.by++r,false)=d.g.data.toList:=by rw [e];exact e2
 have hB:rnB (d.by++r,false)=d.b.data.toList:=by rw [e];exact e3
 refine ⟨hF,hG,hB,hP,hS,?_⟩;unfold WV okD;rw [hP,hS,hF,hG,hB,Fe,Fe,hd];rfl
theorem Adk{d:Dc}(h:d.ok):gok d.by=true/\gF d.by=d.f/\gG d.by=d.g.data.toList/\gB d.by=d.b.data.toList/\gPs d.by=d.ps/\goE d.by=0:=by
 obtain ⟨e1,e2,e3,e4,e5,e6⟩:=Zf h [];rw [List.append_nil] at e1 e2 e3 e4 e5 e6;have hg:gok d.by=true:=by unfold gok;rw [e6,e5];rfl
 refine ⟨hg,?_,?_,?_,?_,?_⟩
 ·unfold gF;rw [if_pos hg,e1]
 ·unfold gG;rw [if_pos hg,e2]
 ·unfold gB;rw [if_pos hg,e3]
 ·unfold gPs;rw [if_pos hg,e4]
 ·unfold goE;rw [if_pos hg]
theorem AbV{x:Nm}(hf:x.f<4294967296)(h:DQ x.g x.b=0):rnF (xnB x,false)=x.f/\rnG (xnB x,false)=x.g.data.toList/\rnB (xnB x,false)=x.b.data.toList/\rnS (xnB x,false)=([],false)/\xgE (xnB x)=0/\xgN (xnB x)=(xnB x).length:=by
 obtain ⟨h6,h7,h8⟩:=CT h;obtain ⟨e1,e2,e3,e4⟩:=TV hf (g:=x.g) (b:=x.b) (by omega) (by omega) [];rw [List.append_nil] at e1 e2 e3 e4;refine ⟨e1,e2,e3,e4,?_,?_⟩
 ·unfold xgE;show (if (rnS (xb x.f x.g x.b,false)).2=true then (4:Int) else DQ ⟨⟨rnG (xb x.f x.g x.b,false)⟩⟩ ⟨⟨rnB (xb x.f x.g x.b,false)⟩⟩)=0;rw [e4,e2,e3,Fe,Fe,h];rfl
 ·unfold xgN;show (xb x.f x.g x.b).length-(rnS (xb x.f x.g x.b,false)).1.length=_;rw [e4];rfl
theorem Dc.ok.len{d:Dc}(h:d.ok):d.by.length<=1151:=by
 obtain ⟨⟨hf,hw⟩,hd⟩:=h;obtain ⟨hx,hb,h1,h8,hp⟩:=GQ.1 hd;obtain ⟨g1,g2,g3⟩:=CT hx;have hb0:EL d.b=0:=by unfold EL;rw [hb];rfl
 have key:∀ l:List Pt,(∀ p∈l,DQ p.g p.b=0)->(pb l).length<=135*l.length:=by
  intro l
  induction l with
  |nil=>intro _;simp [pb]
  |cons p r ih=>
   intro h;obtain ⟨a,b,c⟩:=CT (h p (by simp))
   have:=ih λq hq=>h q (by simp [hq])
   have e:pb (p::r)=[UInt8.ofNat p.node]++xb p.f p.g p.b++pb r:=by simp [pb]
   rw [e,Lq,Lq,D3];have hl:(p::r).length=r.length+1:=rfl
   have:([UInt8.ofNat p.node]:List UInt8).length=1:=rfl
   omega
 have:=key d.ps λp hpm=>(Ks hp p hpm).2
 unfold Dc.by db
 rw [Lq,Lq,D3];simp only [List.length_singleton];omega
theorem Dc.ok.AbW{d:Dc}(h:d.ok):(xnB d.x).length<=1151/\DQ d.g d.b=0/\d.f<4294967296:=by
 obtain ⟨⟨hf,hw⟩,hd⟩:=h;obtain ⟨hx,hb,h1,h8,hp⟩:=GQ.1 hd;obtain ⟨g1,g2,g3⟩:=CT hx;refine ⟨?_,hx,hf⟩;unfold xnB Dc.x;rw [D3];simp only;omega
def stB(ep:Nat)(l:List Dc):List UInt8:=be ep 4++be l.length 2++l.flatMap Dc.by
theorem Lw:∀ {l:List Dc},(∀ d∈l,d.ok)->(l.flatMap Dc.by).length<=1151*l.length
 |[],_=>by simp
 |d::l,h=>by
  have:=(h d (by simp)).len
  have:=Lw (l:=l) λx hx=>h x (by simp [hx])
  rw [List.flatMap_cons,Lq,Lc];omega
theorem KT{ep:Nat}{l:List Dc}(h:∀ d∈l,d.ok):(stB ep l).length<=6+1151*l.length:=by
 have:=Lw h
 unfold stB;rw [Lq,Lq,BW,BW];omega
end
section
open Go.Abs
theorem JK(b o:Nat):Ad Tp 80 (pP b o) 0=some (pP b o):=by kernel_rfl
theorem JJ(b o:Nat):Ad Tp 80 (pP b o) 1=some (pP b (o+1)):=by kernel_rfl
theorem C2(b o:Nat):Ad Tp 68 (pP b o) 0=some (pP b o):=by kernel_rfl
theorem QY(b o:Nat):Ad Tp 68 (pP b o) 1=some (pP b (o+1)):=by kernel_rfl
theorem Na(b o:Nat):Ad Tp 68 (pP b o) 2=some (pP b (o+2)):=by kernel_rfl
theorem Ir(b o:Nat):Ad Tp 68 (pP b o) 3=some (pP b (o+3)):=by kernel_rfl
theorem HL(b o:Nat):Ad Tp 123 (pP b o) 0=some (pP b o):=by kernel_rfl
theorem Y3(b o:Nat):Ad Tp 123 (pP b o) 1=some (pP b (o+1)):=by kernel_rfl
theorem Om(b o:Nat):Ad Tp 123 (pP b o) 2=some (pP b (o+2)):=by kernel_rfl
theorem Jh(b o:Nat):Ad Tp 123 (pP b o) 3=some (pP b (o+3)):=by kernel_rfl
theorem Jg(b o:Nat):Ad Tp 123 (pP b o) 4=some (pP b (o+4)):=by kernel_rfl
theorem Jf(b o:Nat):Ad Tp 123 (pP b o) 5=some (pP b (o+5)):=by kernel_rfl
theorem Je(b o:Nat):Ad Tp 123 (pP b o) 6=some (pP b (o+6)):=by kernel_rfl
theorem SM(b o:Nat):Ad Tp 123 (pP b o) 7=some (pP b (o+7)):=by kernel_rfl
theorem Jd(b o:Nat):Ad Tp 131 (pP b o) 0=some (pP b o):=by kernel_rfl
theorem Jc(b o:Nat):Ad Tp 131 (pP b o) 1=some (pP b (o+1)):=by kernel_rfl
theorem Ol(b o:Nat):Ad Tp 131 (pP b o) 2=some (pP b (o+2)):=by kernel_rfl
theorem Oj(b o:Nat):Ad Tp 131 (pP b o) 3=some (pP b (o+3)):=by kernel_rfl
theorem Ha(b o:Nat):Ad Tp 89 (pP b o) 0=some (pP b o):=by kernel_rfl
theorem QW(b o:Nat):Ad Tp 89 (pP b o) 1=some (pP b (o+1)):=by kernel_rfl
theorem LC(b o:Nat):Ad Tp 189 (pP b o) 0=some (pP b o):=by kernel_rfl
theorem Y2(b o:Nat):Ad Tp 189 (pP b o) 1=some (pP b (o+1)):=by kernel_rfl
theorem SL(b o:Nat):Ad Tp 189 (pP b o) 2=some (pP b (o+2)):=by kernel_rfl
theorem Jb(b o:Nat):Ad Tp 191 (pP b o) 0=some (pP b o):=by kernel_rfl
theorem GL(A:AW)(a:Addr):Ae Tp A 3 (.pointer (some a))=A.cell? a:=by kernel_rfl
theorem QS(A:AW)(a:Addr):Ae Tp A 4 (.pointer (some a))=A.cell? a:=by kernel_rfl
theorem L9(A:AW)(a:Addr):Ae Tp A 5 (.pointer (some a))=A.cell? a:=by kernel_rfl
theorem Eg(A:AW)(a:Addr):Ae Tp A 9 (.pointer (some a))=A.cell? a:=by kernel_rfl
theorem N4(A:AW)(a:Addr):Ae Tp A 60 (.pointer (some a))=A.cell? a:=by kernel_rfl
theorem N5(A:AW)(a:Addr):Ae Tp A 30 (.pointer (some a))=A.cell? a:=by kernel_rfl
theorem Cr(A:AW)(a:Addr):Ae Tp A 23 (.pointer (some a))=A.cell? a:=by kernel_rfl
theorem AbD(A:AW)(a:Addr):Ae Tp A 80 (.pointer (some a))=(match A.cells? a 2 with | some l=>some (.agg ⟨l⟩) | none=>none):=by kernel_rfl
theorem AbC(A:AW)(a:Addr):Ae Tp A 86 (.pointer (some a))=A.cell? a:=by kernel_rfl
theorem YI(A:AW)(a:Addr):Ae Tp A 92 (.pointer (some a))=A.cell? a:=by kernel_rfl
theorem PU(A:AW)(a:Addr):Ae Tp A 36 (.pointer (some a))=A.cell? a:=by kernel_rfl
theorem Ae1(A:AW)(a:Addr):Ae Tp A 94 (.pointer (some a))=A.cell? a:=by kernel_rfl
theorem E1(A:AW)(a:Addr):Ae Tp A 66 (.pointer (some a))=A.cell? a:=by kernel_rfl
theorem YM(A:AW)(a:Addr):Ae Tp A 129 (.pointer (some a))=A.cell? a:=by kernel_rfl
theorem AcU(A:AW)(a:Addr):Ae Tp A 131 (.pointer (some a))=(match A.cells? a 4 with | some l=>some (.agg ⟨l⟩) | none=>none):=by kernel_rfl
theorem Ae2(A:AW)(a:Addr):Ae Tp A 89 (.pointer (some a))=(match A.cells? a 2 with | some l=>some (.agg ⟨l⟩) | none=>none):=by kernel_rfl
theorem N6(A:AW)(a:Addr):Ae Tp A 186 (.pointer (some a))=A.cell? a:=by kernel_rfl
theorem Qp(A:AW)(a:Addr)(v:Value):Av Tp A 3 (.pointer (some a)) v=(bif Nat.beq v.cells.toList.length 1 then A.setCells a v.cells.toList else none):=by kernel_rfl
theorem OV(A:AW)(a:Addr)(v:Value):Av Tp A 4 (.pointer (some a)) v=(bif Nat.beq v.cells.toList.length 1 then A.setCells a v.cells.toList else none):=by kernel_rfl
theorem Acr(A:AW)(a:Addr)(v:Value):Av Tp A 5 (.pointer (some a)) v=(bif Nat.beq v.cells.toList.length 1 then A.setCells a v.cells.toList else none):=by kernel_rfl
theorem RI(A:AW)(a:Addr)(v:Value):Av Tp A 9 (.pointer (some a)) v=(bif Nat.beq v.cells.toList.length 1 then A.setCells a v.cells.toList else none):=by kernel_rfl
theorem RJ(A:AW)(a:Addr)(v:Value):Av Tp A 60 (.pointer (some a)) v=(bif Nat.beq v.cells.toList.length 1 then A.setCells a v.cells.toList else none):=by kernel_rfl
theorem XO(A:AW)(a:Addr)(v:Value):Av Tp A 80 (.pointer (some a)) v=(bif Nat.beq v.cells.toList.length 2 then A.setCells a v.cells.toList else none):=by kernel_rfl
theorem Aev(A:AW)(a:Addr)(v:Value):Av Tp A 86 (.pointer (some a)) v=(bif Nat.beq v.cells.toList.length 1 then A.setCells a v.cells.toList else none):=by kernel_rfl
theorem Abp(A:AW)(a:Addr)(v:Value):Av Tp A 92 (.pointer (some a)) v=(bif Nat.beq v.cells.toList.length 1 then A.setCells a v.cells.toList else none):=by kernel_rfl
theorem U1(A:AW)(a:Addr)(v:Value):Av Tp A 36 (.pointer (some a)) v=(bif Nat.beq v.cells.toList.length 1 then A.setCells a v.cells.toList else none):=by kernel_rfl
theorem Acu(A:AW)(a:Addr)(v:Value):Av Tp A 129 (.pointer (some a)) v=(bif Nat.beq v.cells.toList.length 1 then A.setCells a v.cells.toList else none):=by kernel_rfl
theorem Qq(A:AW)(a:Addr)(v:Value):Av Tp A 131 (.pointer (some a)) v=(bif Nat.beq v.cells.toList.length 4 then A.setCells a v.cells.toList else none):=by kernel_rfl
theorem FN(A:AW)(a:Addr)(v:Value):Av Tp A 89 (.pointer (some a)) v=(bif Nat.beq v.cells.toList.length 2 then A.setCells a v.cells.toList else none):=by kernel_rfl
theorem YP(b o n c i:Nat)(k:IntKind):Ar Tp 92 (.slice (some ⟨b,o,none⟩) n c) (.int k (.ofNat i))=(bif Nat.blt i n then some (.pointer (some (Ek ⟨b,o,none⟩ (i*1)))) else none):=by kernel_rfl
theorem Hj(A:AW)(s:ByteArray):Bi Tp A 9 (.string s)=some (.int .i64 s.data.toList.length):=by kernel_rfl
theorem YD(A:AW)(a:Option Addr)(n c:Nat):Bi Tp A 60 (.slice a n c)=some (.int .i64 n):=by kernel_rfl
theorem N2(A:AW)(a:Option Addr)(n c:Nat):Bi Tp A 92 (.slice a n c)=some (.int .i64 n):=by kernel_rfl
theorem AbA(A:AW)(a:Option Addr)(n c:Nat):Bi Tp A 36 (.slice a n c)=some (.int .i64 n):=by kernel_rfl
theorem Ac8(b o i:Nat)(k:IntKind):Ar Tp 278 (pP b o) (.int k (.ofNat i))=(bif Nat.blt i 16 then some (.pointer (some (Ek ⟨b,o,none⟩ (i*1)))) else none):=by kernel_rfl
theorem tb:BT Tp 5 92 9 where
 sl:=by kernel_rfl
 sz:=by kernel_rfl
 by_:=by kernel_rfl
 hz:=by kernel_rfl
 us:=by kernel_rfl
 ub:=by kernel_rfl
 ust:=by kernel_rfl
 zt:=by kernel_rfl
 ln:=N2
 ia:=λb o n c i k=>YP b o n c i k
 ld:=L9
 st:=Acr
theorem UF(A:AW)(n:Int)(k:IntKind):AQ Tp A 3 5 (.int k n)=.ok (.int .u8 (IntKind.u8.wrap n)) A:=by kernel_rfl
theorem S3(A:AW)(n:Int)(k:IntKind):AQ Tp A 136 5 (.int k n)=.ok (.int .u8 (IntKind.u8.wrap n)) A:=by kernel_rfl
theorem Vx(A:AW)(n:Int)(k:IntKind):AQ Tp A 30 5 (.int k n)=.ok (.int .u8 (IntKind.u8.wrap n)) A:=by kernel_rfl
theorem HP(A:AW)(n:Int)(k:IntKind):AQ Tp A 3 136 (.int k n)=.ok (.int .u64 (IntKind.u64.wrap n)) A:=by kernel_rfl
theorem S4(A:AW)(n:Int)(k:IntKind):AQ Tp A 136 3 (.int k n)=.ok (.int .i64 (IntKind.i64.wrap n)) A:=by kernel_rfl
theorem Zg(A:AW)(n:Int)(k:IntKind):AQ Tp A 5 136 (.int k n)=.ok (.int .u64 (IntKind.u64.wrap n)) A:=by kernel_rfl
theorem AaR(A:AW)(n:Int)(k:IntKind):AQ Tp A 5 30 (.int k n)=.ok (.int .u32 (IntKind.u32.wrap n)) A:=by kernel_rfl
theorem AfU(A:AW)(n:Int):Aq Tp A 92 1 [(0,.int .u8 n)]=(match A.newRow [.int .u8 n] 5 with | some (a,w')=>.ok (.slice (some a) 1 1) w' | none=>.fail "buildSlice new"):=by kernel_rfl
theorem AaH(n:Int):Bn Tp (BZ (Tm.fill ⟨1,.nil⟩ 0 [.int .u8 n])) (.buildSlice 92 1 #[(0,.tmp 0)])=some (.slice [.int .u8 n] 5 1):=by kernel_rfl
theorem ut9:quiet Tp (underlying 9)=some .string:=by kernel_rfl
variable {t:TypeId} {xo yo:Operand} {a b n:Int} {A A' B C:AW} {m:Nat} {K:Value->AW->Prop}
theorem Nd{P:Program}{k:IntKind}:An P .mul t xo yo (.int k a) (.int k b)=some (.int k (k.wrap (a*b))):=by simp [An,binOp,Op.intArith,quiet,C3,Ax,pure]
theorem VI{P:Program}{k:IntKind}(hb:b≠0):An P .rem t xo yo (.int k a) (.int k b)=some (.int k (a.tmod b)):=by simp [An,binOp,Op.intDiv,hb,quiet,C3,Ax,pure]
theorem LJ{P:Program}{k k2:IntKind}(hb:¬ b<0):An P .shr t xo yo (.int k a) (.int k2 b)=some (.int k (a.fdiv (2^(min b.toNat k.bits)))):=by simp [An,binOp,Op.shift,hb,quiet,C3,Ax,pure]
theorem wrap_u8:IntKind.u8.wrap n=n%256:=by
 simp [IntKind.wrap,IntKind.bits,IntKind.signed]
theorem wrap_u64(h1:0<=n)(h2:n<18446744073709551616):IntKind.u64.wrap n=n:=by
 simp [IntKind.wrap,IntKind.bits,IntKind.signed];omega
structure Grow (A A':AW) (n:Nat):Prop where
 keeps:Ah A A' []
 Ay:Aw A'
 next:A'.next<=A.next+n
theorem Grow.le{n:Nat}(h:Grow A A' n):A.next<=A'.next:=h.keeps.next
theorem Grow.refl(hf:Aw A):Grow A A 0:=⟨.refl _ _,hf,Nl _⟩
theorem Grow.trans{n:Nat}(h:Grow A B n)(k:Grow B C m):Grow A C (n+m):=⟨h.keeps.trans k.keeps (by simp),k.Ay,by have:=h.next;have:=k.next;omega⟩
theorem Grow.more{n:Nat}(h:Grow A B n)(hm:n<=m):Grow A B m:=⟨h.keeps,h.Ay,by have:=h.next;omega⟩
theorem Grow.made{cs:List Value}{e:TypeId}(m:Made A A' cs e)(hf:Aw A):Grow A A' 1:=⟨m.keeps hf,m.Ay,by rw [m.next];omega⟩
theorem Grow.own{n:Nat}{F:List Nat}(h:Grow A B n)(k:Ah B C F)(hF:∀ x∈F,A.next<=x)(hc:C.next<=B.next+m)(hf:Aw C):Grow A C (n+m):=
 ⟨h.keeps.trans k (λx hx=>.inr (hF x hx)),hf,by have:=h.next;omega⟩
section
variable {W0:World} {m0:Inj Tp}
theorem Xq{w:Int}(hk:K (.bool (w==1 || (w==2 || (w==4 || w==8)))) A):Wc Tp Al W0 m0 147 [.int .i64 w] A K:=by
 refine Ag6 _ _ BD ?_;rw [Ais];simp only [B8,Ab,Cg];refine ⟨λh=>by subst h;exact hk,λh1=>⟨λh=>by subst h;exact hk,λh2=>⟨λh=>by subst h;exact hk,λh3=>⟨λh=>by subst h;exact hk,λh4=>?_⟩⟩⟩⟩
 have:(w==1 || (w==2 || (w==4 || w==8)))=false:=by simp [h1,h2,h3,h4]
 rw [this] at hk;exact hk
theorem VF(hf:Aw A)(h:A.next<Aj)(hk:∀ A',Made A A' [.int .u8 n] 5->K (.slice (some ⟨A.next,0,none⟩) 1 1) A'):Ao (Aq Tp A 92 1 [(0,.int .u8 n)]) K:=by
 rw [AfU];unfold AW.newRow AW.new;simp only [show ([Value.int .u8 n].all AK)=true from rfl,Ct,AA.2 h];exact AT.2 (hk (A.push (.row [.int .u8 n] 5 A.next 0 false)) ⟨AW.BR _ h,rfl,by rw [AW.BK _ h,if_pos rfl],hf.alone (Nl _),hf.push _ h⟩)
theorem Od{b:Nat}{p:Prop}(h:A.get b=some (.row [.int .u8 n] 5 b 0 false))(hp:p):Cd (Bn Tp (BZ (Tm.fill ⟨1,.nil⟩ 0 [.int .u8 n])) (.buildSlice 92 1 #[(0,.tmp 0)])) A (.slice (some ⟨b,0,none⟩) 1 1) p:=by
 refine ⟨⟨_,AaH n,?_⟩,hp⟩;simp only [B4,Eu,h,EF,EV,Bool.and_self,Option.isNone_none,Bool.true_and,Nat.beq_refl]
theorem AfS{b:Nat}{c:UInt8}(h:Abs.Row1 A b [.int .u8 c.toNat] 5):Buf 5 A (.slice (some ⟨b,0,none⟩) 1 1) [c] [b]:=
 .inr (.inr ⟨b,1,[],rfl,by decide,by simpa [AP] using h,rfl,rfl,rfl⟩)
end
variable {w n:Nat} {A:AW} {K:Value->AW->Prop}
theorem Rg(n i:Nat):IntKind.u8.wrap ((n:Int).fdiv (2^(8*i)))=((UInt8.ofNat (n/256^i)).toNat:Int):=by
 rw [wrap_u8,NR,Int.fdiv_eq_ediv_of_nonneg _ (Int.pow_nonneg (by decide))];rw [show (2:Int)^(8*i)=((256^i:Nat):Int) by rw [Int.pow_mul,show (2:Int)^8=((256:Nat):Int) from by decide,Int.natCast_pow]];rfl
theorem Xi{i:Nat}(n:Nat)(h:i<w):Gg (List.replicate (w-i) (.int .u8 0)++AP (be n i)) (w-1-i) [.int .u8 ((UInt8.ofNat (n/256^i)).toNat:Int)]=List.replicate (w-(i+1)) (.int .u8 0)++AP (be n (i+1)):=by
 have e1:w-i=(w-1-i)+1:=by omega
 have e2:w-(i+1)=w-1-i:=by omega
 rw [e1,e2,List.replicate_succ',Mw];have h:=Hx (List.replicate (w-1-i) (Value.int .u8 0)) [.int .u8 0] [.int .u8 ((UInt8.ofNat (n/256^i)).toNat:Int)] (AP (be n i)) rfl;rw [List.length_replicate] at h;rw [h];rfl
section
variable {W0:World} {m0:Inj Tp}
theorem Abh (hf:Aw A) (hA:A.next+1<Aj) (hw:w<=8)
  (hk:∀ A' v F,Grow A A' 1->Buf 5 A' v (be n w) F->(∀ x∈F,A.next<=x)->K v A'):Wc Tp Al W0 m0 155 [.int .u64 (n:Int),.int .i64 (w:Int)] A K:=by
 let I:Nat->Nat->List Value->AW->Prop:=λg id vals A'=>id=0/\∃ i:Nat,vals=[.int .u64 (n:Int),.int .i64 (w:Int),.slice (some ⟨A.next,0,none⟩) w w,.int .i64 (w:Int),.int .i64 (i:Int)]/\i<=w/\
  Abs.Row1 A' A.next (List.replicate (w-i) (.int .u8 0)++AP (be n i)) 5/\Grow A A' 1/\A'.next=A.next+1/\g=w-i
 refine AgY _ _ _ (AiT (I:=I) ?_) ?_
 ·rintro g id vals A' d ⟨rfl,i,rfl,hi,hr,hg,hn,rfl⟩ hd;rw [Ac2];have h0:d 0=.int .u64 (n:Int):=by simp [Ru] at hd;exact hd.1
  have h1:d 1=.int .i64 (w:Int):=by simp [Ru] at hd;exact hd.2.1
  have h5:d 5=.slice (some ⟨A.next,0,none⟩) w w:=by simp [Ru] at hd;exact hd.2.2.1
  have h10:d 10=.int .i64 (w:Int):=by simp [Ru] at hd;exact hd.2.2.2.1
  have h11:d 11=.int .i64 (i:Int):=by simp [Ru] at hd;exact hd.2.2.2.2
  simp only [h0,h1,h5,h10,h11,Br,Db,Nd,Ab,Az];refine ⟨λhlt=>?_,λhge=>?_⟩
  ·have hlt:i<w:=by omega
   rw [wrap_i64 (n:=(w:Int)-1) (by omega) (by omega),wrap_i64 (n:=(w:Int)-1-i) (by omega) (by omega),wrap_i64 (n:=8*(i:Int)) (by omega) (by omega)];have e2:(w:Int)-1-i=((w-1-i:Nat):Int):=by omega
   have e3:min (8*(i:Int)).toNat (IntKind.bits .u64)=8*i:=by show min _ 64=_;omega
   rw [LJ (by omega),e2,e3];simp only [Ab,S3,AT,Rg];have hia:Ar Tp 92 (.slice (some ⟨A.next,0,none⟩) w w) (.int .i64 ((w-1-i:Nat):Int))=some (.pointer (some ⟨A.next,w-1-i,none⟩)):=by
    show Ar Tp 92 _ (.int .i64 (.ofNat (w-1-i)))=_;rw [YP,AA.2 (by omega),Ct];unfold Ek;cases hb:Nat.beq ((w-1-i)*1) 0 with
    |true=>rw [Ct];have:=Nb hb;rw [Nat.mul_one] at this;rw [this]
    |false=>rw [Cf,Nat.mul_one,Nat.zero_add]
   rw [hia];simp only [Ab,Bm];refine hr.store hg.Ay (by omega) (Acr _ _ _) rfl (by simp [Value.cells,BW];omega) rfl λA2 r2 k2 n2 f2=>?_;have hs:Gg (List.replicate (w-i) (Value.int .u8 0)++AP (be n i)) (w-1-i) (Value.cells (.int .u8 ((UInt8.ofNat (n/256^i)).toNat:Int))).toList=_:=Xi n hlt;rw [hs] at r2;rw [wrap_i64 (by omega) (by omega)];refine Au.2 ⟨w-(i+1),by omega,rfl,i+1,rfl,by omega,r2,?_,by omega,rfl⟩;exact hg.own k2 (by simp) (m:=0) (by omega) f2
  ·have hi:i=w:=by omega
   subst hi;rw [Nat.sub_self] at hr;refine hk A' _ [A.next] hg ?_ (by simp);refine .inr (.inr ⟨A.next,i,[],?_,by have:room=68719476736:=rfl;omega,by simpa using hr,by rw [BW];rfl,rfl,rfl⟩);rw [BW]
 ·rw [Aik];refine JH tb hf (by omega) (Nl w) (by have:room=68719476736:=rfl;omega) λA1 m1=>?_;simp only [N2,Ab];refine Au.2 ⟨w,rfl,0,rfl,by omega,?_,.made m1 hf,m1.next,rfl⟩
  simpa [be,AP] using m1.Bk
theorem Abi {v1 v2:Value} {l1 l2:List UInt8} {F1 F2:List Nat} (hf:Aw A) (hA:A.next+3<Aj) (h1:RdB A v1 l1 F1) (h2:RdB A v2 l2 F2) (hr:l1.length+l2.length<1000000)
  (hk:∀ A' v F,Grow A A' 3->Buf 5 A' v (l1++l2) F->(∀ x∈F,A.next<=x)->K v A'):Wc Tp Al W0 m0 154 [v1,v2] A K:=by
 have hroom:room=68719476736:=rfl;have lt1:=h1.lt;have lt2:=h2.lt;refine AgZ _ _ _ BD ?_;rw [Ail];simp only [h1.len tb,h2.len tb,Bm,Ab];rw [wrap_i64 (by omega) (by omega)];have e:((l1.length:Nat):Int)+((l2.length:Nat):Int)=((l1.length+l2.length:Nat):Int):=by omega
 rw [e];refine JH (n:=0) (k:=.i64) tb hf (by omega) (Nat.zero_le _) (by omega) λA1 m1=>?_;have n1:=m1.next;refine DO tb (m1.Adp (by omega)) (D9 tb (h1.keeps (m1.keeps hf) (by simp))) m1.Ay (by omega) (by simp;omega) λv3 A3 F3 hb3 k3 hF3 n3 f3=>?_;have g3:Grow A A3 2:=(Grow.made m1 hf).own k3 (by simp) (m:=1) (by omega) f3;have hF3':∀ x∈F3,A.next<=x:=λx hx=>by
  rcases hF3 x hx with h | h
  ·simp at h;omega
  ·omega
 refine DO tb hb3 (D9 tb (h2.keeps g3.keeps (by simp))) f3 (by omega) (by simp;omega) λv4 A4 F4 hb4 k4 hF4 n4 f4=>?_;rw [List.nil_append] at hb4;refine hk A4 v4 F4 ((g3.own k4 hF3' (m:=1) (by omega) f4).more (by omega)) hb4 λx hx=>?_;rcases hF4 x hx with h | h
 ·exact hF3' x h
 ·have:=g3.le;omega
theorem ZQ {v:Value} {l:List UInt8} {F0:List Nat} (hf:Aw A) (hA:A.next+5<Aj) (hv:RdB A v l F0) (hl:l.length<900000) (hw:w=1\/w=2\/w=4\/w=8)
  (hk:∀ A' v F,Grow A A' 4->Buf 5 A' v (l++be n w) F->(∀ x∈F,A.next<=x)->K v A'):Wc Tp Al W0 m0 94 [v,.int .u64 (n:Int),.int .i64 (w:Int)] A K:=by
 refine w94 _ _ _ _ BD ?_;rw [e94];refine Xq ?_;have hb:((w:Int)==1 || ((w:Int)==2 || ((w:Int)==4 || (w:Int)==8)))=true:=by rcases hw with rfl | rfl | rfl | rfl<;>rfl
 rw [hb];simp only [Bl,Ab];refine Ag.2 ⟨λh=>by simp at h,λ_=>?_⟩;refine Abh hf (by omega) (by omega) λA1 v1 F1 g1 b1 _=>?_;have n1:=g1.next;have l1:=g1.le;refine Abi g1.Ay (by omega) (hv.keeps g1.keeps (by simp)) b1.rd (by rw [BW];omega) λA2 v2 F2 g2 b2 hF2=>?_;exact hk A2 v2 F2 ((g1.trans g2).more (by omega)) b2 λx hx=>Nat.le_trans l1 (hF2 x hx)
end
end
end Go.Proofs.YtnennggfoegcmaaGreatDoor
namespace Go.Abs
variable {A:AW} {l:List UInt8} {F:List Nat}
section
variable {P:Program} {tb ts tst:TypeId}
theorem Ws(a b:Nat):least a b=min a b:=Ss a b
theorem Adn(A:AW)(a:Addr):A.cells? a 0=some []:=by unfold AW.cells?;rfl
theorem RdB.copy{v:Value}(h:RdB A v l F){n:Nat}(hn:n<=l.length):HQ A 1 n v=some (AP (l.take n)):=by
 rcases h with ⟨rfl,_,o,c,rfl⟩ | ⟨r,o,c,cs,e,f,b,ro,rest,rfl,h2,_,_,h4⟩
 ·obtain rfl:n=0:=by simpa using hn
  cases o with
  |none=>rfl
  |some a=>exact Adn A a
 ·unfold HQ;simp only [Nat.mul_one,Bc h2,h4];have e:AP l++rest=AP (l.take n)++(AP (l.drop n)++rest):=by rw [Jm,He,<- Mw,List.take_append_drop]
  have:=FG (AP (l.take n)) (AP (l.drop n)++rest) (KK _)
  rw [BA,List.length_take,Nat.min_eq_left hn] at this;rw [e,this]
theorem RdB.O8{A:AW}{v:Value}{l:List UInt8}{F:List Nat}(h:RdB A v l F):O8 v=some l.length:=by
 obtain ⟨a,c,rfl⟩:=h.slice;rfl
theorem Vz {b dl dc:Nat} {cs:List Value} {x:Value} {K:Value->AW->Prop} (T:BT P tb ts tst) (hd:Row1 A b cs tb) (h:RdB A x l F) (hf:Aw A) (hA:A.next<=Aj) (hcs:min l.length dl<=cs.length)
  (hk:∀ A' v,Row1 A' b (Gg cs 0 (AP (l.take (min l.length dl)))) tb->Ah A A' [b]->A'.next=A.next->Aw A'->K v A'):Ao (LG P A ts (.slice (some ⟨b,0,none⟩) dl dc) x) K:=by
 have hlt:=hd.lt;obtain ⟨A',h1,w⟩:=Gh (new:=AP (l.take (min l.length dl))) (off:=0) hd.row hd.mem (by rw [BA,List.length_take];omega) (KJ _) (by omega);have e:LG P A ts (.slice (some ⟨b,0,none⟩) dl dc) x=.ok (.int .i64 (min l.length dl:Nat)) A':=by
  unfold LG;simp only [T.sl,T.sz,h.O8,Ws,h.copy (show min l.length dl<=l.length by omega),h1]
 rw [e];exact AT.2 (hk A' _ ⟨w.row,by rw [w.mem];exact hd.mem,by rw [w.next];exact hd.lt⟩ (w.keeps hd.row) w.next (w.Ay hf hd.row))
def Ai8(P:Program)(U:Nat)(w:AW)(t t2:TypeId)(s x:Value):R Value:=
 match BG P t,s with
 |some e,.slice base n cap=>
  (match szT P e,EB P e with
  |some 0,_=>.fail "append size 0"
  |some size,some bytes=>
   match BM P w e t2 size x with
   |none=>.fail "append source"
   |some (m,new)=>
    let need:=n+m
    bif !(Nat.blt need room&&Nat.blt (need*bytes) room&&C9 P e size) then .fail "append room" else
    match m with
    |0=>.ok s w
    |_+1=>
     let lb:=bif Nat.ble U cap then cap-U else cap
     bif Nat.ble need lb then
      match base with
      |none=>.fail "append nil with room"
      |some a=>(match w.setCells (Ek a (n*size)) new with
       |some w'=>.ok (.slice base need cap) w'
       |none=>.fail "append set")
     else bif Nat.ble U cap then
      match base with
      |none=>.fail "append nil with unknown capacity"
      |some a=>match a.spot,w.get a.block with
       |none,some (.row _ e' fam b0 false)=>
        bif !(Nat.beq e' e&&new.all AK) then .fail "append elements" else
        (match w.CE a (n*size) with
        |none=>.fail "append old cells"
        |some old=>
         match (BO (b0+a.off+n*size) (w.members fam) w).I0 (old++new) e fam (b0+a.off) with
         |some (a',w')=>.ok (.slice (some a') need (U+need)) w'
         |none=>.fail "append new")
       |_,_=>.fail "append base row"
     else
      match (match base with | some a=>w.CE a (n*size) | none=>some []) with
      |none=>.fail "append old cells"
      |some old=>(match w.new (.row (old++new) e w.next 0 false) with
       |some (b,w')=>.ok (.slice (some ⟨b,0,none⟩) need (U+need)) w'
       |none=>.fail "append new")
  |_,_=>.fail "append type")
 |_,_=>.fail "append"
theorem Agf(A:AW)(t t2:TypeId)(s x:Value):AU P A t t2 s x=Ai8 P Bo A t t2 s x:=rfl
end
end Go.Abs
namespace Go.Proofs.YtnennggfoegcmaaGreatDoor
section
open Go.Abs Go.Crc
variable {n a b i r:Nat} {t:TypeId} {xo yo:Operand} {A:AW} {K:Value->AW->Prop} {x:Value} {l:List UInt8} {F:List Nat}
theorem W2(h:n<4294967296):(BitVec.ofInt 32 (n:Int)).toNat=n:=by
 rw [BitVec.toNat_ofInt]
 have:((2^32:Nat):Int)=4294967296:=by decide
 rw [this];omega
theorem wrap_u32(h:n<4294967296):IntKind.u32.wrap (n:Int)=(n:Int):=by
 simp [IntKind.wrap,IntKind.bits,IntKind.signed];omega
theorem Qf{P:Program}(ha:a<4294967296)(hb:b<4294967296):An P .xor t xo yo (.int .u32 (a:Int)) (.int .u32 (b:Int))=some (.int .u32 ((a ^^^ b:Nat):Int)):=by
 have e:IntKind.u32.wrap ((BitVec.ofInt 32 (a:Int) ^^^ BitVec.ofInt 32 (b:Int)).toNat:Int)=((a ^^^ b:Nat):Int):=by
  rw [BitVec.toNat_xor,W2 ha,W2 hb];exact wrap_u32 (Nat.xor_lt_two_pow (n:=32) ha hb)
 have:An P .xor t xo yo (.int .u32 (a:Int)) (.int .u32 (b:Int))=some (.int .u32 (IntKind.u32.wrap ((BitVec.ofInt 32 (a:Int) ^^^ BitVec.ofInt 32 (b:Int)).toNat:Int))):=by
  rfl
 rw [this,e]
theorem Aga(a:Nat):a&&& 15=a%16:=Nat.and_two_pow_sub_one_eq_mod a 4
theorem W6{P:Program}(ha:a<4294967296):An P .and t xo yo (.int .u32 (a:Int)) (.int .u32 15)=some (.int .u32 ((a%16:Nat):Int)):=by
 have e:IntKind.u32.wrap ((BitVec.ofInt 32 (a:Int)&&& BitVec.ofInt 32 ((15:Nat):Int)).toNat:Int)=((a%16:Nat):Int):=by
  rw [BitVec.toNat_and,W2 ha,W2 (by decide),Aga];exact wrap_u32 (by omega)
 have:An P .and t xo yo (.int .u32 (a:Int)) (.int .u32 15)=some (.int .u32 (IntKind.u32.wrap ((BitVec.ofInt 32 (a:Int)&&& BitVec.ofInt 32 ((15:Nat):Int)).toNat:Int))):=by
  rfl
 rw [this,e]
theorem ZP(h:n<4294967296):4294967295 ^^^ n=4294967295-n:=by
 apply Nat.eq_of_testBit_eq;intro i;have e1:4294967295-n=2^32-(n+1):=by omega
 rw [e1,Nat.testBit_two_pow_sub_succ (by omega),Nat.testBit_xor,show (4294967295:Nat)=2^32-1 by rfl,Nat.testBit_two_pow_sub_one];by_cases hi:i<32
 ·simp [hi]
 ·have:n.testBit i=false:=Nat.testBit_lt_two_pow (Nat.lt_of_lt_of_le h (Nat.pow_le_pow_right (n:=2) (by decide) (show 32<=i by omega)))
  simp [hi,this]
theorem RG{P:Program}(h:n<4294967296):unA P .xor (.int .u32 (n:Int))=some (.int .u32 ((4294967295-n:Nat):Int)):=by
 have e:IntKind.u32.wrap ((BitVec.ofInt 32 ((4294967295:Nat):Int) ^^^ BitVec.ofInt 32 (n:Int)).toNat:Int)=((4294967295-n:Nat):Int):=by
  rw [BitVec.toNat_xor,W2 (by decide),W2 h,ZP h];exact wrap_u32 (by omega)
 have:unA P .xor (.int .u32 (n:Int))=some (.int .u32 (IntKind.u32.wrap ((BitVec.ofInt 32 ((4294967295:Nat):Int) ^^^ BitVec.ofInt 32 (n:Int)).toNat:Int))):=by
  rfl
 rw [this,e]
theorem Z9(a s:Nat):((a:Int).fdiv (2^s))=((a/2^s:Nat):Int):=by
 rw [Int.fdiv_eq_ediv_of_nonneg _ (Int.pow_nonneg (by decide)),show (2:Int)^s=((2^s:Nat):Int) by rw [Int.natCast_pow];rfl];rfl
def Z4:List Value:=tab.map λ(n:Nat)=>.int .u32 (n:Int)
structure Glb (A:AW):Prop where
 row:A.get 1=some (.row Z4 278 1 0 true)
 lt:1<A.next
theorem Glb.keeps{A':AW}{S:List Nat}(h:Glb A)(k:Ah A A' S)(hn:1∉S):Glb A':=⟨k.get 1 _ h.row h.lt hn,Nat.lt_of_lt_of_le h.lt k.next⟩
theorem XF(h:Glb A)(hi:i<16):∃ a,Ar Tp 278 (pP 1 0) (.int .u32 (i:Int))=some (.pointer (some a))/\A.cell? a=some (.int .u32 ((tab.getD i 0:Nat):Int)):=by
 refine ⟨⟨1,i,none⟩,?_,?_⟩
 ·show Ar Tp 278 _ (.int .u32 (.ofNat i))=_;rw [Ac8,AA.2 hi,Ct];unfold Ek;cases hb:Nat.beq (i*1) 0 with
  |true=>rw [Ct];have:=Nb hb;rw [Nat.mul_one] at this;rw [this]
  |false=>rw [Cf,Nat.mul_one,Nat.zero_add]
 ·rw [Af h.row];refine Fz ?_ rfl;unfold Z4;have hl:i<tab.length:=hi;rw [List.getElem?_map,Ge hl];simp [List.getD,Ge hl]
theorem Aco:∀ i,i<16->tab.getD i 0<4294967296:=by decide
theorem AcL(h:r<4294967296):nib r<4294967296:=by rw [NU];exact Ri 4 h
section
variable {W0:World} {m0:Inj Tp}
theorem Sj{K:Value->Prop}(hg:Glb A)(hr:r<4294967296){o1 o2 o3 o4 o5 o6:Operand}(hk:K (.int .u32 ((nib r:Nat):Int))):
  Aa (An Tp .shr 30 o1 o2 (.int .u32 (r:Int)) (.int .u64 4)) λt5=>Aa (An Tp .and 30 o3 o4 (.int .u32 (r:Int)) (.int .u32 15)) λt6=>Aa (Ar Tp 278 (pP 1 0) t6) λt7=>Aa (Ae Tp A 30 t7) λt8=>Aa (An Tp .xor 30 o5 o6 t5 t8) λt9=>K t9:=by
 have hi:r%16<16:=Nat.mod_lt _ (by decide);obtain ⟨a,h1,h2⟩:=XF hg hi;rw [LJ (by decide)];have e1:(r:Int).fdiv (2^(min (4:Int).toNat (IntKind.bits .u32)))=((r/16:Nat):Int):=Z9 r 4;rw [e1];simp only [W6 hr,Ab,h1,N5,h2];rw [Qf (by omega) (Aco _ hi)];exact Ab.2 hk
theorem AdR{s0:Nat}(h:RdB A x l F)(hg:Glb A)(hl:l.length<1000000)(hs:s0<4294967296)(hk:K (.int .u32 ((4294967295-Oz (4294967295-s0) l:Nat):Int)) A):Wc Tp Al W0 m0 234 [.int .u32 (s0:Int),x] A K:=by
 let I:Nat->Nat->List Value->AW->Prop:=λg id vals A'=>id=0/\A'=A/\∃ i:Nat,vals=[x,.int .u32 ((Oz (4294967295-s0) (l.take i):Nat):Int),.int .i64 (l.length:Int),.int .i64 (i:Int)]/\g=l.length-i/\i<=l.length;refine AgE _ _ _ (c234 (I:=I) ?_) ?_
 ·rintro g id vals A' d ⟨rfl,rfl,i,rfl,rfl,hi⟩ hd;rw [AcW];simp only [ZB,Mc,Mn,Li,and_true] at hd;obtain ⟨h1,h5,h10,h11⟩:=hd;have hr:Oz (4294967295-s0) (l.take i)<4294967296:=Vy _ (by omega);obtain ⟨r,hre⟩:∃ r,Oz (4294967295-s0) (l.take i)=r:=⟨_,rfl⟩;rw [hre] at h5 hr;simp only [h1,h5,h10,h11,Br,Ab,Az];refine ⟨λhlt=>?_,λhge=>?_⟩
  ·have hlt:i<l.length:=by omega
   have hc:=Ge hlt;obtain ⟨a,a1,a2⟩:=h.at tb hc;have hcl:=VE l[i];have ec:IntKind.u32.wrap ((l[i].toNat:Nat):Int)=((l[i].toNat:Nat):Int):=wrap_u32 hcl;simp only [a1,L9,a2,Ab,AaR,AT,ec,Qf hr hcl];have hx:r ^^^ l[i].toNat<4294967296:=Nat.xor_lt_two_pow (n:=32) hr hcl;refine Sj hg hx ?_;refine Sj hg (AcL hx) ?_;simp only [Bm,Ab];rw [wrap_i64 (by omega) (by omega),Aap];refine Au.2 ⟨l.length-(i+1),by omega,rfl,rfl,i+1,?_,rfl,by omega⟩;rw [List.take_add_one,hc];have e:Oz (4294967295-s0) (l.take i++(some l[i]).toList)=Go.Crc.bits 8 (r ^^^ l[i].toNat):=by
    rw [S6,hre];rfl
   rw [e];rfl
  ·have hi':i=l.length:=by omega
   rw [hi',List.take_length] at hre;rw [RG hr];refine Ab.2 ?_;rw [<- hre];exact hk
 ·rw [Ah0];rw [RG hs];simp only [h.len tb,Ab];exact Au.2 ⟨l.length,rfl,rfl,0,rfl,rfl,by omega⟩
theorem Abc(h:RdB A x l F)(hg:Glb A)(hl:l.length<1000000)(hk:K (.int .u32 ((FM l:Nat):Int)) A):Wc Tp Al W0 m0 201 [x] A K:=by
 refine AgI _ _ BD ?_;rw [Ah4];exact AdR (s0:=0) h hg hl (by decide) hk
theorem QR{s:Nat}(h:i<4):(le4 s)[i]? =some (UInt8.ofNat (s/256^i)):=by
 have hc:i=0\/i=1\/i=2\/i=3:=by omega
 rcases hc with rfl | rfl | rfl | rfl<;>simp [le4]
theorem Abg (h:RdB A x l F) (hg:Glb A) (hf:Aw A) (hA:A.next+5<Aj) (hl:l.length<900000)
  (hk:∀ A' v F',Grow A A' 1->Buf 5 A' v (Go.Crc.FO l) F'->(∀ x∈F',A.next<=x)->K v A'):Wc Tp Al W0 m0 165 [x] A K:=by
 have hroom:room=68719476736:=rfl;have hlt:=h.lt;obtain ⟨a0,c0,hx⟩:=h.slice;let I:Nat->Nat->List Value->AW->Prop:=λg id vals A'=>id=0/\∃ i:Nat,vals=[x,.slice (some ⟨A.next,0,none⟩) (l.length+4) (l.length+4),.int .u32 ((FM l:Nat):Int),.int .i64 (i:Int)]/\g=4-i/\i<=4/\
  Abs.Row1 A' A.next (AP (l++(le4 (FM l)).take i)++List.replicate (4-i) (.int .u8 0)) 5/\Grow A A' 1/\A'.next=A.next+1
 refine AgR _ _ (AiQ (I:=I) ?_) ?_
 ·rintro g id vals A' d ⟨rfl,i,rfl,rfl,hi,hr,hgr,hn⟩ hd;rw [AcY];simp only [ZD,Mc,Mn,Li,and_true] at hd;obtain ⟨h0,h3,h4,h15⟩:=hd;have hx':Bi Tp A' 92 x=some (.int .i64 (l.length:Int)):=by rw [hx];exact N2 _ _ _ _
  simp only [h0,h3,h4,h15,Br,Ab,Az];refine ⟨λhlt=>?_,λhge=>?_⟩
  ·have hlt:i<4:=by omega
   have hlen:Bi Tp A' 92 x=some (.int .i64 (l.length:Int)):=by rw [hx];exact N2 _ _ _ _
   simp only [hlen,Bm,Nd,Ab];rw [wrap_i64 (n:=(l.length:Int)+i) (by omega) (by omega),wrap_i64 (n:=8*(i:Int)) (by omega) (by omega),LJ (by omega)];have e3:min (8*(i:Int)).toNat (IntKind.bits .u32)=8*i:=by show min _ 32=_;omega
   rw [e3];simp only [Ab,Vx,AT,Rg];have hia:Ar Tp 92 (.slice (some ⟨A.next,0,none⟩) (l.length+4) (l.length+4)) (.int .i64 ((l.length:Int)+i))=some (.pointer (some ⟨A.next,l.length+i,none⟩)):=by
    show Ar Tp 92 _ (.int .i64 (.ofNat (l.length+i)))=_;rw [YP,AA.2 (by omega),Ct];unfold Ek;cases hb:Nat.beq ((l.length+i)*1) 0 with
    |true=>rw [Ct];have:=Nb hb;rw [Nat.mul_one] at this;rw [this]
    |false=>rw [Cf,Nat.mul_one,Nat.zero_add]
   rw [hia];simp only [Ab];refine hr.store hgr.Ay (by omega) (Acr _ _ _) rfl (by simp [Value.cells,BA,Kx];omega) rfl λA2 r2 k2 n2 f2=>?_;have e4:4-i=(4-(i+1))+1:=by omega
   have e5:l.length+i=(AP (l++(le4 (FM l)).take i)).length:=by rw [BA,Lq,List.length_take,Kx];omega
   have hs:Gg (AP (l++(le4 (FM l)).take i)++List.replicate (4-i) (Value.int .u8 0)) (l.length+i) (Value.cells (.int .u8 ((UInt8.ofNat (FM l/256^i)).toNat:Int))).toList=AP (l++(le4 (FM l)).take (i+1))++List.replicate (4-(i+1)) (.int .u8 0):=by
    rw [e4,List.replicate_succ,e5]
    have:=Hx (AP (l++(le4 (FM l)).take i)) [Value.int .u8 0] [Value.int .u8 ((UInt8.ofNat (FM l/256^i)).toNat:Int)] (List.replicate (4-(i+1)) (.int .u8 0)) rfl
    refine this.trans ?_;rw [List.take_add_one,QR hlt,<- Mw,DN,DN,DN];simp [AP]
   rw [hs] at r2;rw [wrap_i64 (by omega) (by omega)];exact Au.2 ⟨4-(i+1),by omega,rfl,i+1,rfl,rfl,by omega,r2,(hgr.own k2 (by simp) (m:=0) (by omega) f2),by omega⟩
  ·have hi':i=4:=by omega
   subst hi';have e:AP (l++(le4 (FM l)).take 4)++List.replicate (4-4) (Value.int .u8 0)=AP (Go.Crc.FO l)++[]:=rfl;rw [e] at hr;refine hk A' _ [A.next] hgr (.inr (.inr ⟨A.next,l.length+4,[],by rw [DZ],by omega,hr,by rw [DZ];rfl,rfl,rfl⟩)) (by simp)
 ·rw [Aid];simp only [h.len tb,Bm,Ab];rw [wrap_i64 (by omega) (by omega),show (l.length:Int)+4=((l.length+4:Nat):Int) by omega];refine JH tb hf (by omega) (Nl _) (by omega) λA1 m1=>?_;have n1:=m1.next;have k1:=m1.keeps hf;refine Vz tb m1.Bk (h.keeps k1 (by simp)) m1.Ay (by omega) (by rw [List.length_replicate];omega) λA2 vv r2 k2 n2 f2=>?_;rw [Nat.min_eq_left (by omega),List.take_length] at r2;have g2:Grow A A2 1:=(Grow.made m1 hf).own k2 (by simp) (m:=0) (by omega) f2;have hx2:=h.keeps g2.keeps (by simp);have hg2:=hg.keeps g2.keeps (by simp);refine Abc hx2 hg2 (by omega) ?_;refine Au.2 ⟨4,rfl,0,rfl,rfl,by omega,?_,g2,by omega⟩;have e:Gg (List.replicate (l.length+4) (Value.int .u8 0)) 0 (AP l)=AP (l++(le4 (FM l)).take 0)++List.replicate (4-0) (.int .u8 0):=by
   rw [List.replicate_append_replicate.symm]
   have:=Hx [] (List.replicate l.length (Value.int .u8 0)) (AP l) (List.replicate 4 (.int .u8 0)) (by rw [List.length_replicate,BA])
   simp only [List.nil_append,Ln] at this;rw [this]
   simp
  rw [<- e];exact r2
theorem AfR(h:Abs.Row1 A b (AP l) 5)(hl:l.length<1000000):Buf 5 A (.slice (some ⟨b,0,none⟩) l.length l.length) l [b]:=
 .inr (.inr ⟨b,l.length,[],rfl,by have:room=68719476736:=rfl;omega,by simpa using h,rfl,rfl,rfl⟩)
end
end
section
open Go.Abs
variable {A:AW} {v r:Nat} {bs:Value} {bad:Bool} {K:Value->AW->Prop} {l:List UInt8} {F:List Nat}
theorem Abv(a:Addr)(xo yo:Operand):An Tp .eql 134 xo yo (.pointer (some a)) (.pointer none)=some (.bool false):=by kernel_rfl
theorem AeG(a:Addr)(xo yo:Operand):An Tp .neq 134 xo yo (.pointer (some a)) (.pointer none)=some (.bool true):=by kernel_rfl
theorem Abu(a:Addr)(xo yo:Operand):An Tp .eql 186 xo yo (.pointer (some a)) (.pointer none)=some (.bool false):=by kernel_rfl
theorem AeF(a:Addr)(xo yo:Operand):An Tp .neq 186 xo yo (.pointer (some a)) (.pointer none)=some (.bool true):=by kernel_rfl
theorem AD(a:Addr):AY (.pointer (some a))=some (.pointer (some a)):=rfl
theorem Af7(o:Option Addr)(n c:Nat):Bd Tp 189 [(0,.slice o n c),(1,.bool true)]=some (.agg ⟨[.slice o n c,.bool true,.bool false]⟩):=by kernel_rfl
theorem Af6(o:Option Addr):Bd Tp 191 [(0,.pointer o)]=some (.agg ⟨[.pointer o]⟩):=by kernel_rfl
structure OR (A:AW) (r v:Nat) (l:List UInt8) (bad:Bool) (F:List Nat):Prop where
 rr:Abs.Row1 A r [pP v 0] 191
 ex:∃ bs,Abs.Row1 A v [bs,.bool true,.bool bad] 189/\RdS 5 A bs l F
 hb:bad=true->l=[]
 ne:r≠v
 hv:v∉F
section
variable {W0:World} {m0:Inj Tp}
theorem Ad3(h:Abs.Row1 A v [bs,.bool true,.bool bad] 189)(hbs:isTuple bs=false)(hk:K (.bool bad) A):Wc Tp Al W0 m0 151 [pP v 0] A K:=by
 refine Ag2 _ _ BD ?_;rw [Aio];simp only [Abu,AD,Y2,SL,QS,Af h.row,cellOf,hbs,Di,Cf,Ab,Bl,Nat.zero_add];refine Ag.2 ⟨λh=>by simp at h,λ_=>Ag.2 ⟨λh=>?_,λh=>?_⟩⟩
 ·subst h;exact hk
 ·subst h;exact hk
theorem VN(h:OR A r v l bad F)(hk:K (.bool bad) A):Wc Tp Al W0 m0 87 [pP r 0] A K:=by
 obtain ⟨bs,h1,h2⟩:=h.ex;refine w87 _ _ BD ?_;rw [e87];simp only [Abv,AD,Jb,N6,Af h.rr.row,cellOf,AB,Cf,Ab];refine Ag.2 ⟨λh=>by simp at h,λ_=>?_⟩;exact Ad3 h1 h2.rd.one.2 hk
theorem AdV{b1 b2:Value}(h:Abs.Row1 A v [bs,b1,b2] 189)(hbs:RdS 5 A bs l F)(hk:K (.int .i64 (l.length:Int)) A):Wc Tp Al W0 m0 193 [pP v 0] A K:=by
 refine AgM _ _ BD ?_;rw [Ah8];simp only [Abu,AD,LC,YI,Af h.row,cellOf,hbs.rd.one.2,Cf,hbs.rd.len tb,Ab];exact Ag.2 ⟨λh=>by simp at h,λ_=>hk⟩
theorem UT(h:OR A r v l bad F)(hk:K (.int .i64 (l.length:Int)) A):Wc Tp Al W0 m0 152 [pP r 0] A K:=by
 obtain ⟨bs,h1,h2⟩:=h.ex;refine Ag1 _ _ BD ?_;rw [Ain];simp only [Abv,AD,Jb,N6,Af h.rr.row,cellOf,AB,Cf,Ab];refine Ag.2 ⟨λh=>by simp at h,λ_=>?_⟩;exact AdV h1 h2 hk
theorem Abl(h:OR A r v l bad F)(hf:Aw A)(hA:A.next<Aj)(hk:∀ A',OR A' r v [] true []->Ah A A' [v]->A'.next=A.next->Aw A'->K (.tuple ⟨[]⟩) A'):Wc Tp Al W0 m0 148 [pP r 0] A K:=by
 obtain ⟨bs,h1,h2⟩:=h.ex;refine Ag5 _ _ BD ?_;rw [Air];simp only [AeG,AeF,AD,Jb,LC,SL,N6,Af h.rr.row,cellOf,AB,Cf,Ab,Nat.zero_add];refine Ag.2 ⟨λ_=>Ag.2 ⟨λ_=>?_,λh=>by simp at h⟩,λh=>by simp at h⟩;refine h1.store hf (by omega) (Abp _ _ _) rfl (by simp) rfl λA2 r2 k2 n2 f2=>?_;have r2:Abs.Row1 A2 v [.slice none 0 0,.bool true,.bool bad] 189:=r2;refine r2.store f2 (by omega) (OV _ _ _) rfl (by simp) rfl λA3 r3 k3 n3 f3=>?_;have r3:Abs.Row1 A3 v [.slice none 0 0,.bool true,.bool true] 189:=r3;have hrv:r∉[v]:=by simpa using h.ne
 exact hk A3 ⟨(h.rr.keeps k2 hrv).keeps k3 hrv,⟨_,r3,.nil _ _⟩,λ_=>rfl,h.ne,by simp⟩ (k2.trans k3 (λx hx=>.inl hx)) (by omega) f3
end
variable {A:AW} {K:Value->AW->Prop} {b a:Int} {t:TypeId} {xo yo:Operand} {F:List Nat} {r v:Nat}
theorem AeJ(xo yo:Operand):An Tp .eql 92 xo yo (.slice none 0 0) (.slice none 0 0)=some (.bool true):=by kernel_rfl
theorem AeI(a:Addr)(n c:Nat)(xo yo:Operand):An Tp .eql 92 xo yo (.slice (some a) n c) (.slice none 0 0)=some (.bool false):=by kernel_rfl
theorem Adq(A:AW):Aq Tp A 92 0 []=(match A.newRow [] 5 with | some (a,w')=>.ok (.slice (some a) 0 0) w' | none=>.fail "buildSlice new"):=by kernel_rfl
theorem AaY(hf:Aw A)(h:A.next<Aj)(hk:∀ A',Made A A' [] 5->K (.slice (some ⟨A.next,0,none⟩) 0 0) A'):Ao (Aq Tp A 92 0 []) K:=by
 rw [Adq];unfold AW.newRow AW.new;simp only [show (([]:List Value).all AK)=true from rfl,Ct,AA.2 h];exact AT.2 (hk (A.push (.row [] 5 A.next 0 false)) ⟨AW.BR _ h,rfl,by rw [AW.BK _ h,if_pos rfl],hf.alone (Nl _),hf.push _ h⟩)
theorem Adp{b:Nat}(h:Abs.Row1 A b [] 5):Buf 5 A (.slice (some ⟨b,0,none⟩) 0 0) [] [b]:=.inr (.inr ⟨b,0,[],rfl,by decide,by simpa [AP] using h,rfl,rfl,rfl⟩)
theorem Aa4{P:Program}{k k2:IntKind}(hb:¬ b<0):An P .shl t xo yo (.int k a) (.int k2 b)=some (.int k (k.wrap (a*2^(min b.toNat k.bits)))):=by simp [An,binOp,Op.shift,hb,quiet,C3,Ax,pure]
theorem Adv{P:Program}{k:IntKind}:An P .or t xo yo (.int k a) (.int k b)=some (.int k (k.wrap ((BitVec.ofInt k.bits a ||| BitVec.ofInt k.bits b).toNat:Int))):=by simp [An,binOp,Op.intBits,quiet,C3,Ax,pure]
theorem AcI{a c:Nat}(hc:c<256)(h:a*256+c<18446744073709551616):IntKind.u64.wrap ((BitVec.ofInt (IntKind.bits .u64) ((a*256:Nat):Int) ||| BitVec.ofInt (IntKind.bits .u64) (c:Int)).toNat:Int)=((a*256+c:Nat):Int):=by
 have e:(BitVec.ofInt 64 ((a*256:Nat):Int) ||| BitVec.ofInt 64 (c:Int)).toNat=a*256+c:=by
  have h1:(a*256)%2^64=a*256:=Nat.mod_eq_of_lt (Nat.lt_of_le_of_lt (Nat.le_add_right _ c) h);have h2:c%2^64=c:=Nat.mod_eq_of_lt (Nat.lt_trans hc (by decide));rw [BitVec.toNat_or,BitVec.ofInt_natCast,BitVec.ofInt_natCast,BitVec.toNat_ofNat,BitVec.toNat_ofNat,h1,h2]
  have:=Nat.shiftLeft_add_eq_or_of_lt (i:=8) (show c<2^8 by omega) a
  rw [Nat.shiftLeft_eq] at this;exact this.symm
 show IntKind.u64.wrap ((BitVec.ofInt 64 ((a*256:Nat):Int) ||| BitVec.ofInt 64 (c:Int)).toNat:Int)=_;rw [e,wrap_u64 (by omega) (by omega)]
section
variable {W0:World} {m0:Inj Tp}
theorem Abm {x:Value} {l:List UInt8} (h:RdS 5 A x l F) (hf:Aw A) (hA:A.next+2<Aj) (hl:l.length<1000000)
  (hk:∀ A' v F',Grow A A' 2->RdS 5 A' v l F'->(∀ y∈F',A.next<=y)->K v A'):Wc Tp Al W0 m0 146 [x] A K:=by
 have hroom:room=68719476736:=rfl;refine Ag7 _ _ BD ?_;rw [Ait];obtain ⟨o,c,rfl⟩:=h.rd.slice;have hlt:=h.rd.lt;cases o with
 |none=>
  obtain ⟨hn,rfl⟩:l=[]/\c=0:=by
   rcases h with ⟨h1,_,o',c',h2,_,h3⟩ | ⟨r,o,c,C,cs,f,b,ro,rest,h1,_⟩
   ·simp only [Value.slice.injEq] at h2;exact ⟨h1,by rw [h2.2.2];exact h3 h2.1.symm⟩
   ·simp at h1
  subst hn;rw [Ln];simp only [AeJ,Ab];exact Ag.2 ⟨λ_=>hk A _ [] ((Grow.refl hf).more (by omega)) (.nil _ _) (by simp),λh=>by simp at h⟩
 |some a=>
  simp only [AeI,Ab];refine Ag.2 ⟨λh=>by simp at h,λ_=>?_⟩;refine AaY hf (by omega) λA1 m1=>?_;have n1:=m1.next;refine DO tb (Adp m1.Bk) (D9 tb (h.rd.keeps (m1.keeps hf) (by simp))) m1.Ay (by omega) (by simp;omega) λv2 A2 F2 b2 k2 hF2 n2 f2=>?_;rw [List.nil_append] at b2;refine hk A2 v2 F2 ((Grow.made m1 hf).own k2 (by simp) (m:=1) (by omega) f2) b2.rdS λy hy=>?_;rcases hF2 y hy with h | h
  ·simp at h;omega
  ·omega
theorem Abk {s:St} {n:Nat} (h:OR A r v s.1 s.2 F) (hf:Aw A) (hA:A.next+4<Aj) (hl:s.1.length<1000000) (hn:n<1000000)
  (hk:∀ A' x F' Fo,OR A' r v (tk n s).2.1 (tk n s).2.2 F'->RdS 5 A' x (tk n s).1 Fo->Ah A A' [v]->A'.next<=A.next+2->Aw A'->(∀ y∈F',y∈F)->(∀ y∈Fo,A.next<=y)->K x A'):Wc Tp Al W0 m0 149 [pP r 0,.int .i64 (n:Int)] A K:=by
 obtain ⟨l,bad⟩:=s;have h:OR A r v l bad F:=h;refine Ag4 _ _ _ BD ?_;rw [Aiq];have spoil:(bad=true\/l.length<n)->Wc Tp Al W0 m0 148 [pP r 0] A λ_ A'=>K (.slice none 0 0) A':=λhb=>by
  refine Abl h hf (by omega) λA' o' k' n' f'=>?_;have e:tk n (l,bad)=([],([],true)):=by unfold tk;rw [if_pos hb]
  rw [e] at hk;exact hk A' (.slice none 0 0) [] [] o' (.nil _ _) k' (by omega) f' (by simp) (by simp)
 refine VN h ?_;refine Ag.2 ⟨λhb=>spoil (.inl hb),λhb=>?_⟩;simp only [Br,Ab,Az];refine ⟨λh=>by omega,λ_=>?_⟩;refine UT h ?_;simp only [B3,Ab,Az];refine ⟨λh=>spoil (.inr (by omega)),λhle=>?_⟩;have hle:n<=l.length:=by omega
 obtain ⟨bs,h1,h2⟩:=h.ex;obtain ⟨x1,hx1,s1⟩:=h2.to tb hle;have e:tk n (l,bad)=(l.take n,(l.drop n,false)):=by unfold tk;rw [Ff (by simp [hb];omega)]
 rw [e] at hk;simp only [AD,Jb,LC,N6,YI,Af h.rr.row,Af h1.row,cellOf,AB,h2.rd.one.2,Cf,hx1,Ab];refine Abm s1 hf (by omega) (by rw [List.length_take];omega) λA2 x2 F2 g2 s2 hF2=>?_;have n2:=g2.next;have r2:=h.rr.keeps g2.keeps (by simp);have q2:=h1.keeps g2.keeps (by simp);have t2:=h2.keeps g2.keeps (by simp);obtain ⟨x3,hx3,s3⟩:=t2.from tb hle
 simp only [AD,Jb,LC,N6,YI,Af r2.row,Af q2.row,cellOf,AB,h2.rd.one.2,Cf,hx3,Ab];have one3:=s3.rd.one;obtain ⟨o3,c3,hx⟩:=s3.rd.slice;refine q2.store g2.Ay (by omega) (Abp _ _ _) (by rw [hx];rfl) (by simp) (by rw [hx];rfl) λA3 r3 k3 n3 f3=>?_;have r3:Abs.Row1 A3 v [x3,.bool true,.bool bad] 189:=by rw [hx] at r3 ⊢;exact r3
 rw [hb] at r3;have hrv:r∉[v]:=by simpa using h.ne
 have hvF:=h.hv;refine hk A3 x2 F F2 ⟨r2.keeps k3 hrv,⟨x3,r3,s3.keeps k3 λy hy=>by simp;intro h0;subst h0;exact hvF hy⟩,by simp,h.ne,h.hv⟩ (s2.keeps k3 λy hy=>by have:=hF2 y hy;have:=h1.lt;simp;omega) ?_ (by omega) f3 (λy hy=>hy) hF2;exact g2.keeps.more (by simp) |>.trans k3 (λy hy=>.inl hy)
theorem Ry {s:St} {w:Nat} (h:OR A r v s.1 s.2 F) (hf:Aw A) (hA:A.next+4<Aj) (hl:s.1.length<1000000) (hw:w=1\/w=2\/w=4\/w=8)
  (hk:∀ A' F',OR A' r v (nm w s).2.1 (nm w s).2.2 F'->Ah A A' [v]->A'.next<=A.next+2->Aw A'->(∀ y∈F',y∈F)->K (.int .u64 ((nm w s).1:Int)) A'):Wc Tp Al W0 m0 85 [pP r 0,.int .i64 (w:Int)] A K:=by
 have hwl:w<=8:=by omega
 have hlen:=TN w s;let I:Nat->Nat->List Value->AW->Prop:=λg' id vals A'=>id=0/\∃ (i:Nat) (x:Value) (F' Fo:List Nat),vals=[.int .u64 (Ej ((tk w s).1.take i):Nat),x,.int .i64 ((tk w s).1.length:Int),.int .i64 (i:Int)]/\i<=(tk w s).1.length/\
  RdS 5 A' x (tk w s).1 Fo/\OR A' r v (tk w s).2.1 (tk w s).2.2 F'/\Ah A A' [v]/\A'.next<=A.next+2/\Aw A'/\(∀ y∈F',y∈F)/\g'=(tk w s).1.length-i
 refine w85 _ _ _ (c85 (I:=I) ?_) ?_
 ·rintro g' id vals A' d ⟨rfl,i,x,F',Fo,rfl,hi,hx,ho,k,n,f,hF,rfl⟩ hd;rw [Ae6];simp only [L85,Mc,Mn,Li,and_true] at hd;obtain ⟨h5,h15,h16,h17⟩:=hd;simp only [h5,h15,h16,h17,Br,Ab,Az];refine ⟨λhlt=>?_,λhge=>?_⟩
  ·have hlt:i<(tk w s).1.length:=by omega
   obtain ⟨c,hc⟩:∃ c,(tk w s).1[i]? =some c:=⟨_,Ge hlt⟩;obtain ⟨a,a1,a2⟩:=hx.rd.at tb hc;have hcl:c.toNat<256:=c.toNat_lt;have hb:=Jp ((tk w s).1.take i);have hb1:=Jp ((tk w s).1.take (i+1));have e1:(tk w s).1.take (i+1)=(tk w s).1.take i++[c]:=by rw [List.take_add_one,hc];rfl
   rw [e1,KL] at hb1;have hp:(256:Nat)^((tk w s).1.take i++[c]).length<=256^8:=Nat.pow_le_pow_right (by decide) (by rw [<- e1,List.length_take];omega);have hp8:(256:Nat)^8=18446744073709551616:=by decide
   simp only [a1,a2,Ab,Zg,AT,Bm];rw [Aa4 (by decide)];have e8:(Ej ((tk w s).1.take i):Int)*2^(min (8:Int).toNat (IntKind.bits .u64))=((Ej ((tk w s).1.take i)*256:Nat):Int):=by
    show (Ej ((tk w s).1.take i):Int)*2^8=_;rw [Int.natCast_mul];rfl
   rw [e8,wrap_u64 (by omega) (by omega),wrap_u64 (by omega) (by omega),wrap_i64 (by omega) (by omega)];simp only [Ab];rw [Adv,AcI hcl (by omega)];simp only [Ab];refine Au.2 ⟨(tk w s).1.length-(i+1),by omega,rfl,i+1,x,F',Fo,?_,by omega,hx,ho,k,n,f,hF,rfl⟩;rw [e1,KL];rfl
  ·have hi:i=(tk w s).1.length:=by omega
   subst hi;rw [List.take_length];exact hk A' F' ho k n f hF
 ·rw [e85];refine Xq ?_;have hb:((w:Int)==1 || ((w:Int)==2 || ((w:Int)==4 || (w:Int)==8)))=true:=by rcases hw with rfl | rfl | rfl | rfl<;>rfl
  rw [hb];simp only [Bl,Ab];refine Ag.2 ⟨λh=>by simp at h,λ_=>?_⟩;refine Abk h hf hA hl (by omega) λA' x F' Fo ho hx k n f hF hFo=>?_;simp only [hx.rd.len tb,Ab];exact Au.2 ⟨(tk w s).1.length,rfl,0,x,F',Fo,rfl,Nat.zero_le _,hx,ho,k,n,f,hF,rfl⟩
end
section
variable {W0:World} {m0:Inj Tp}
theorem ZS {A:AW} {x:Value} {l:List UInt8} {F:List Nat} {K:Value->AW->Prop} (h:RdS 5 A x l F) (hf:Aw A) (hA:A.next+6<Aj) (hl:l.length<1000000)
  (hk:∀ A' r v F',Grow A A' 4->OR A' r v l false F'->A.next<=r->A.next<=v->(∀ y∈F',A.next<=y)->K (pP r 0) A'):Wc Tp Al W0 m0 84 [x] A K:=by
 refine w84 _ _ BD ?_;rw [e84];refine Abm h hf (by omega) hl λA1 v1 F1 g1 s1 hF1=>?_;have n1:=g1.next;have l1:=g1.le;obtain ⟨o,c,e1⟩:=s1.rd.slice;have hlt:=s1.rd.lt;rw [e1,Af7];simp only [Ab];rw [<- e1];refine AZ (cs:=[v1,.bool true,.bool false]) g1.Ay (by omega) (by simp [s1.rd.one.1,Yo]) λA2 m2=>?_;have n2:=m2.next;rw [Af6];simp only [Ab];refine AZ (cs:=[pP A1.next 0]) m2.Ay (by omega) rfl λA3 m3=>?_;have n3:=m3.next;have k3:=m3.keeps m2.Ay;refine hk A3 A2.next A1.next F1 ((g1.trans (.made m2 g1.Ay)).trans (.made m3 m2.Ay)) ⟨m3.Bk,⟨v1,m2.Bk.keeps k3 (by simp),(s1.keeps (m2.keeps g1.Ay) (by simp)).keeps k3 (by simp)⟩,by simp,by omega,λhm=>by have:=hlt _ hm;omega⟩ (by omega) (by omega) hF1
end
end
section
open Go.Abs Go.Crc
variable {tb ts tst:TypeId} {A:AW} {a:Option Addr} {len n:Nat}
theorem KW{P:Program}(T:BT P tb ts tst){C:Nat}(hc:C<Bo)(hn:n<=C):AX P A ts (.slice a len C) none (some (.int .i64 (.ofNat n))) (some (.int .i64 (.ofNat n)))=some (.slice (bif Nat.beq n 0 then a else Gc a (0*1)) n n):=by
 unfold AX;simp only [T.us,T.sz,BL.2 hc,Cf,bounds,FQ,Dn,Bb.2 hn,Bb.2 (Nl n),Nat.sub_zero,Option.isSome_some,Bool.true_or,Ct]
theorem RM{P:Program}(T:BT P tb ts tst){c:Nat}(hn:n<=c)(hr:n<Bo):AX P A ts (.slice a len (Bo+c)) none (some (.int .i64 (.ofNat n))) (some (.int .i64 (.ofNat n)))=some (.slice (Gc a (0*1)) n n):=by
 unfold AX;simp only [T.us,T.sz,Bb.2 (show Bo<=Bo+c from Nat.le_add_right _ _),Ct,bounds,FQ,Dn,Nat.add_sub_cancel_left,Bb.2 hn,Bb.2 (Nl n),Nat.sub_zero,Option.isSome_some,Bool.true_or,AA.2 hr]
theorem RdS.to3{P:Program}{v:Value}{l:List UInt8}{F:List Nat}(T:BT P tb ts tst)(h:RdS tb A v l F)(hn:n<=l.length)(hr:n<Bo):
  ∃ v',AX P A ts v none (some (.int .i64 (n:Int))) (some (.int .i64 (n:Int)))=some v'/\RdS tb A v' (l.take n) F:=by
 show ∃ v',AX P A ts v none (some (.int .i64 (.ofNat n))) (some (.int .i64 (.ofNat n)))=some v'/\_;rcases h with ⟨rfl,rfl,o,c,rfl,hc,hz⟩ | ⟨r,o,c,C,cs,f,b,ro,rest,rfl,hC,hl,h2,h3,rfl,h5⟩
 ·have hn0:n=0:=Nat.le_zero.1 hn;refine ⟨_,KW T hc (by omega),.inl ⟨List.take_nil,rfl,o,0,?_,by decide,λ_=>rfl⟩⟩;rw [hn0];rfl
 ·have hd:cs.drop o=AP (l.take n)++(AP (l.drop n)++rest):=by
   rw [h5,Jm,He,<- Mw,List.take_append_drop]
  have hlen:(l.take n).length=n:=by rw [List.length_take];omega
  have hfin:RdS tb A (.slice (some ⟨r,o,none⟩) n n) (l.take n) [f]:=.inr ⟨r,o,n,n,cs,f,b,ro,_,by rw [hlen],.inr ⟨rfl,hr⟩,by omega,h2,h3,rfl,hd⟩;rcases hC with rfl | ⟨rfl,hc⟩
  ·refine ⟨_,RM T (by omega) hr,?_⟩;rw [HE,Nat.add_zero];exact hfin
  ·refine ⟨_,KW T hc (by omega),?_⟩;rw [HE,Nat.add_zero];cases Nat.beq n 0
   ·rw [Cf];exact hfin
   ·rw [Ct];exact hfin
theorem Aaw(h:n<1000000):n<Bo:=Nat.lt_of_lt_of_le h (by decide)
variable {l:List UInt8}
theorem AfP(h4:4<=l.length):Dz l=true↔l.drop (l.length-4)=le4 (FM (l.take (l.length-4))):=by
 unfold Dz;rw [decide_eq_true h4,Bool.true_and,beq_iff_eq];constructor
 ·intro h;have h2:=List.take_append_drop (l.length-4) l;have h3:l.take (l.length-4)++l.drop (l.length-4)=l.take (l.length-4)++le4 (FM (l.take (l.length-4))):=h2.trans h;exact List.append_cancel_left h3
 ·intro h;unfold FO;rw [<- h,List.take_append_drop]
theorem PC(h4:4<=l.length):Dz l=true↔∀ i,i<4->l[l.length-4+i]? =(le4 (FM (l.take (l.length-4))))[i]? :=by
 rw [AfP h4];constructor
 ·intro h i _;rw [<- h,List.getElem?_drop]
 ·intro h;refine List.ext_getElem? λi=>?_;rw [List.getElem?_drop];by_cases hi:i<4
  ·exact h i hi
  ·rw [List.getElem?_eq_none (by omega),List.getElem?_eq_none (by rw [Kx];omega)]
theorem Qu(h:l.length<4):Dz l=false:=by
 unfold Dz;rw [decide_eq_false (by omega)];rfl
section
variable {W0:World} {m0:Inj Tp}
theorem Abe {A:AW} {x:Value} {F:List Nat} {K:Value->AW->Prop} (h:RdS 5 A x l F) (hg:Glb A) (hf:Aw A) (hA:A.next+5<Aj) (hl:l.length<900000)
  (h1:Dz l=true->∀ A' v F',Grow A A' 1->RdS 5 A' v (l.take (l.length-4)) F'->(∀ y∈F',A.next<=y)->K (.tuple ⟨[v,.bool true]⟩) A') (h2:Dz l=false->K (.tuple ⟨[.slice none 0 0,.bool false]⟩) A):
  Wc Tp Al W0 m0 184 [x] A K:=by
 have hroom:room=68719476736:=rfl;let I:Nat->Nat->List Value->AW->Prop:=λg id vals A'=>id=0/\A'=A/\4<=l.length/\∃ i:Nat,vals=[x,.int .i64 ((l.length-4:Nat):Int),.int .u32 ((FM (l.take (l.length-4)):Nat):Int),.int .i64 (i:Int)]/\g=4-i/\i<=4/\
  ∀ j,j<i->l[l.length-4+j]? =(le4 (FM (l.take (l.length-4))))[j]?
 refine AgN _ _ (AiP (I:=I) ?_) ?_
 ·rintro g id vals A' d ⟨rfl,rfl,h4,i,rfl,rfl,hi,hj⟩ hd;rw [AcX];simp only [ZC,Mc,Mn,Li,and_true] at hd;obtain ⟨d0,d4,d5,d18⟩:=hd;simp only [d0,d4,d5,d18,Br,Ab,Az];refine ⟨λhlt=>?_,λhge=>?_⟩
  ·have hlt:i<4:=by omega
   obtain ⟨c,hc⟩:∃ c,l[l.length-4+i]? =some c:=⟨_,Ge (by omega)⟩;obtain ⟨a,a1,a2⟩:=h.rd.at tb hc;simp only [Bm,Nd,Ab];rw [wrap_i64 (n:=((l.length-4:Nat):Int)+i) (by omega) (by omega),wrap_i64 (n:=8*(i:Int)) (by omega) (by omega),wrap_i64 (n:=(i:Int)+1) (by omega) (by omega),LJ (by omega)];have e1:((l.length-4:Nat):Int)+(i:Int)=((l.length-4+i:Nat):Int):=by omega
   have e3:min (8*(i:Int)).toNat (IntKind.bits .u32)=8*i:=by show min _ 32=_;omega
   rw [e1,e3];simp only [a1,a2,Ab,Vx,AT,Rg,Bw,Bj];refine ⟨λhne=>h2 ?_,λheq=>?_⟩
   ·cases hs:Dz l with
    |false=>rfl
    |true=>
     exfalso
     have:=(PC h4).1 hs i hlt
     rw [hc,QR hlt,Oi] at this;rw [this] at hne;exact hne rfl
   ·refine Au.2 ⟨4-(i+1),by omega,rfl,rfl,h4,i+1,rfl,rfl,by omega,λj hji=>?_⟩;by_cases hjl:j<i
    ·exact hj j hjl
    ·obtain rfl:j=i:=by omega
     rw [hc,QR hlt,Oi];exact UInt8.toNat_inj.1 (by omega)
  ·have hi':i=4:=by omega
   subst hi';have hs:=(PC h4).2 hj;refine JH (n:=l.length-4) (c:=l.length-4) tb hf (by omega) (Nl _) (by omega) λA1 m1=>?_;have n1:=m1.next;have k1:=m1.keeps hf;refine Vz tb m1.Bk (h.rd.keeps k1 (by simp)) m1.Ay (by omega) (by rw [List.length_replicate];omega) λA2 vv r2 k2 n2 f2=>?_;rw [Nat.min_eq_right (by omega)] at r2;have g2:Grow A' A2 1:=(Grow.made m1 hf).own k2 (by simp) (m:=0) (by omega) f2;have lt:(l.take (l.length-4)).length=l.length-4:=by rw [List.length_take];omega
   have e:Gg (List.replicate (l.length-4) (Value.int .u8 0)) 0 (AP (l.take (l.length-4)))=AP (l.take (l.length-4)):=by
    have:=Hx [] (List.replicate (l.length-4) (Value.int .u8 0)) (AP (l.take (l.length-4))) [] (by rw [List.length_replicate,BA,lt])
    simpa using this
   rw [e] at r2;have b2:=(AfR r2 (by rw [lt];omega)).rdS;rw [lt] at b2;exact h1 hs A2 _ _ g2 b2 (by simp)
 ·rw [Ah9];simp only [h.rd.len tb,Db,Ab,Br];rw [wrap_i64 (by omega) (by omega)];simp only [Az];refine ⟨λhlt=>h2 (Qu (by omega)),λhge=>?_⟩;have e4:(l.length:Int)-4=((l.length-4:Nat):Int):=by omega
  rw [e4];obtain ⟨v,hv,hs⟩:=RdS.to3 tb h (n:=l.length-4) (by omega) (Aaw (by omega));rw [hv];simp only [Ab];refine Abc hs.rd hg (by rw [List.length_take];omega) ?_;exact Au.2 ⟨4,rfl,rfl,by omega,0,rfl,rfl,by omega,λj hj=>by omega⟩
end
end
section
open Go.Abs
theorem Vt(b o:Nat):Ad Tp 32 (pP b o) 0=some (pP b o):=by kernel_rfl
theorem LB(b o:Nat):Ad Tp 32 (pP b o) 1=some (pP b (o+1)):=by kernel_rfl
theorem Is(b o:Nat):Ad Tp 32 (pP b o) 2=some (pP b (o+2)):=by kernel_rfl
theorem Er(b o:Nat):Ad Tp 35 (pP b o) 0=some (pP b o):=by kernel_rfl
theorem E4(b o:Nat):Ad Tp 35 (pP b o) 1=some (pP b (o+3)):=by kernel_rfl
theorem QX(b o:Nat):Ad Tp 85 (pP b o) 0=some (pP b o):=by kernel_rfl
theorem Ly(b o:Nat):Ad Tp 85 (pP b o) 1=some (pP b (o+1)):=by kernel_rfl
theorem AaL(b o:Nat):Ad Tp 85 (pP b o) 2=some (pP b (o+4)):=by kernel_rfl
theorem EH(A:AW)(a:Addr):Ae Tp A 32 (.pointer (some a))=(match A.cells? a 3 with | some l=>some (.agg ⟨l⟩) | none=>none):=by kernel_rfl
theorem I5(A:AW)(a:Addr):Ae Tp A 33 (.pointer (some a))=A.cell? a:=by kernel_rfl
theorem AbF(A:AW)(a:Addr):Ae Tp A 35 (.pointer (some a))=(match A.cells? a 4 with | some l=>some (.agg ⟨l⟩) | none=>none):=by kernel_rfl
theorem Ae3(A:AW)(a:Addr):Ae Tp A 83 (.pointer (some a))=A.cell? a:=by kernel_rfl
theorem YJ(A:AW)(a:Addr):Ae Tp A 85 (.pointer (some a))=(match A.cells? a 5 with | some l=>some (.agg ⟨l⟩) | none=>none):=by kernel_rfl
theorem Py(A:AW)(a:Addr)(v:Value):Av Tp A 32 (.pointer (some a)) v=(bif Nat.beq v.cells.toList.length 3 then A.setCells a v.cells.toList else none):=by kernel_rfl
theorem XQ(A:AW)(a:Addr)(v:Value):Av Tp A 33 (.pointer (some a)) v=(bif Nat.beq v.cells.toList.length 1 then A.setCells a v.cells.toList else none):=by kernel_rfl
theorem XP(A:AW)(a:Addr)(v:Value):Av Tp A 35 (.pointer (some a)) v=(bif Nat.beq v.cells.toList.length 4 then A.setCells a v.cells.toList else none):=by kernel_rfl
theorem XN(A:AW)(a:Addr)(v:Value):Av Tp A 85 (.pointer (some a)) v=(bif Nat.beq v.cells.toList.length 5 then A.setCells a v.cells.toList else none):=by kernel_rfl
theorem Afx(b o n c i:Nat)(k:IntKind):Ar Tp 33 (.slice (some ⟨b,o,none⟩) n c) (.int k (.ofNat i))=(bif Nat.blt i n then some (.pointer (some (Ek ⟨b,o,none⟩ (i*5)))) else none):=by kernel_rfl
theorem AbB(A:AW)(a:Option Addr)(n c:Nat):Bi Tp A 33 (.slice a n c)=some (.int .i64 n):=by kernel_rfl
theorem Qb(A:AW)(n:Int)(k:IntKind):AQ Tp A 30 136 (.int k n)=.ok (.int .u64 (IntKind.u64.wrap n)) A:=by kernel_rfl
theorem TF:Dt Tp 85=some (.agg #[.int .u8 0,.int .u32 0,.string .empty,.string .empty,.int .u8 0]):=by kernel_rfl
theorem AfA:quiet Tp (underlying 32)=some (.struct (Tp.fieldsOf 32)):=by kernel_rfl
noncomputable def F24(i:Nat):Field:=(Tp.fieldsOf 32).toList.getD i default
theorem AfB:(Tp.fieldsOf 32).toList=[F24 0,F24 1,F24 2]:=by kernel_rfl
def Fj(f:Int)(g b:ByteArray):Value:=.agg ⟨[.int .u32 f,.string g,.string b]⟩
theorem QH(f:Int)(g b:ByteArray):quiet Tp (part (F24 0).type ⟨[.int .u32 f,.string g,.string b]⟩ (F24 0).offset)=some (.int .u32 f):=by kernel_rfl
theorem QG(f:Int)(g b:ByteArray):quiet Tp (part (F24 1).type ⟨[.int .u32 f,.string g,.string b]⟩ (F24 1).offset)=some (.string g):=by kernel_rfl
theorem QF(f:Int)(g b:ByteArray):quiet Tp (part (F24 2).type ⟨[.int .u32 f,.string g,.string b]⟩ (F24 2).offset)=some (.string b):=by kernel_rfl
theorem XC:(F24 0).type=30:=by kernel_rfl
theorem XB:(F24 1).type=9:=by kernel_rfl
theorem XA:(F24 2).type=9:=by kernel_rfl
theorem Aem:quiet Tp (underlying 30)=some (.int .u32):=by kernel_rfl
def Hy(f f':Int)(g g' b b':ByteArray):Bool:=f==f'&&(g.data.toList==g'.data.toList&&b.data.toList==b'.data.toList)
theorem U5(f f':Int)(g g' b b':ByteArray):quiet Tp (Op.equal 32 (Fj f g b) (Fj f' g' b'))=some (Hy f f' g g' b b'):=by
 show quiet Tp (Op.equalIn (9999+1) 32 _ _)=_;unfold Fj;rw [Ic 9999 32 _ _ AfA (by kernel_rfl),AfB];rw [CN (by kernel_rfl) (QH f g b) (QH f' g' b') (by rw [XC];exact Gj 9998 30 _ _ _ _ Aem)];rw [CN (by kernel_rfl) (QG f g b) (QG f' g' b') (by rw [XB];exact HB ut9)];rw [CN (by kernel_rfl) (QF f g b) (QF f' g' b') (by rw [XA];exact HB ut9)];unfold Hy;cases f==f'<;>cases g.data.toList==g'.data.toList<;>cases b.data.toList==b'.data.toList<;>rfl
theorem AhW(f f':Int)(g g' b b':ByteArray)(xo yo:Operand):An Tp .eql 32 xo yo (Fj f g b) (Fj f' g' b')=some (.bool (Hy f f' g g' b b')):=by
 unfold Fj;have hg:DI Tp 32 xo yo (.agg ⟨[.int .u32 f,.string g,.string b]⟩) (.agg ⟨[.int .u32 f',.string g',.string b']⟩)=true:=by
  show (!Tp.eqGuardType Tp.depth 32)=true
  kernel_rfl
 show (bif DI Tp 32 xo yo (.agg ⟨[.int .u32 f,.string g,.string b]⟩) (.agg ⟨[.int .u32 f',.string g',.string b']⟩) then (match eqA Tp 32 (.agg ⟨[.int .u32 f,.string g,.string b]⟩) (.agg ⟨[.int .u32 f',.string g',.string b']⟩) with | some b=>some (Value.bool b) | none=>none) else none)=_;rw [hg,Ct];have he:eqA Tp 32 (.agg ⟨[.int .u32 f,.string g,.string b]⟩) (.agg ⟨[.int .u32 f',.string g',.string b']⟩)=some (Hy f f' g g' b b'):=by
  unfold eqA;have hc:(Ax 4 (.agg ⟨[.int .u32 f,.string g,.string b]⟩)&&Ax 4 (.agg ⟨[.int .u32 f',.string g',.string b']⟩))=true:=rfl;rw [hc,Ct];exact U5 f f' g g' b b'
 rw [he]
variable {f:Int} {g b:ByteArray} {A:AW} {K:Value->AW->Prop}
section
variable {W0:World} {m0:Inj Tp}
theorem UU(hf:Aw A)(hA:A.next<Aj)(hk:∀ A',Grow A A' 1->K (.int .i64 (DQ g b)) A'):Wc Tp Al W0 m0 102 [Fj f g b] A K:=by
 refine Aho _ _ BD ?_;rw [AiK];refine AZ (cs:=(Value.cells (Fj f g b)).toList) hf hA rfl λA1 m1=>?_;have hg:A1.get A.next=some (.row [.int .u32 f,.string g,.string b] 32 A.next 0 false):=m1.row;have hr:=hk A1 (.made m1 hf);simp only [LB,Is,Eg,Hj,Af hg,cellOf,isTuple,Cf,Ab,FA,B3,Az,Nat.zero_add];refine Ag.2 ⟨λh=>?_,λh=>⟨λh2=>?_,λh2=>⟨λh3=>?_,λh3=>?_⟩⟩⟩
 ·have:EL g=0:=by unfold EL;rw [beq_iff_eq.1 h];rfl
  rw [show DQ g b=40 by unfold DQ;rw [if_pos (.inl this)]] at hr;exact hr
 ·rw [show DQ g b=40 by unfold DQ;rw [if_pos (.inr (.inl (by unfold EL;omega)))]] at hr;exact hr
 ·rw [show DQ g b=40 by unfold DQ;rw [if_pos (.inr (.inr (by unfold EL;omega)))]] at hr;exact hr
 ·have:EL g≠0:=by
   unfold EL;intro h0;rw [List.eq_nil_of_length_eq_zero h0] at h;simp at h
  rw [show DQ g b=0 by unfold DQ;rw [Ff (by unfold EL at *;omega)]] at hr;exact hr
theorem Aeh{f':Int}{g' b':ByteArray}(hf:Aw A)(hA:A.next+2<Aj)(hk:∀ A',Grow A A' 2->K (.bool (Wh f f' g g')) A'):Wc Tp Al W0 m0 103 [Fj f g b,Fj f' g' b'] A K:=by
 refine Ahn _ _ _ BD ?_;rw [AiJ];refine AZ (cs:=(Value.cells (Fj f g b)).toList) hf (by omega) rfl λA1 m1=>?_;refine AZ (cs:=(Value.cells (Fj f' g' b')).toList) m1.Ay (by rw [m1.next];omega) rfl λA2 m2=>?_;have n1:=m1.next;have n2:=m2.next;have r1:Abs.Row1 A2 A.next [.int .u32 f,.string g,.string b] 32:=(m1.Bk).keeps (m2.keeps m1.Ay) (by simp);have r2:Abs.Row1 A2 A1.next [.int .u32 f',.string g',.string b'] 32:=m2.Bk;simp only [Is,Ab,Nat.zero_add];refine r1.store m2.Ay (by omega) (RI _ _ _) rfl (by simp [Value.cells]) rfl λA3 q1 k1 n3 f3=>?_;have q2:Abs.Row1 A3 A1.next [.int .u32 f',.string g',.string b'] 32:=r2.keeps k1 (by simp;omega);refine q2.store f3 (by omega) (RI _ _ _) rfl (by simp [Value.cells]) rfl λA4 q3 k2 n4 f4=>?_;have q1':=q1.keeps k2 (by simp;omega);have g1:A4.cells? ⟨A.next,0,none⟩ 3=some [.int .u32 f,.string g,.string ⟨⟨[]⟩⟩]:=by rw [Bc q1'.row];rfl
 have g2:A4.cells? ⟨A1.next,0,none⟩ 3=some [.int .u32 f',.string g',.string ⟨⟨[]⟩⟩]:=by rw [Bc q3.row];rfl
 have he:=AhW f f' g g' ⟨⟨[]⟩⟩ ⟨⟨[]⟩⟩ (.tmp 7) (.tmp 8);unfold Fj at he;simp only [EH,g1,g2,Ab,he];have hs:Hy f f' g g' ⟨⟨[]⟩⟩ ⟨⟨[]⟩⟩=Wh f f' g g':=by simp [Hy,Wh]
 rw [hs];refine hk A4 ?_;have gr:Grow A A2 2:=(Grow.made m1 hf).trans (.made m2 m1.Ay);exact (gr.own k1 (by simp) (m:=0) (by omega) f3).own k2 (by simp;omega) (m:=0) (by omega) f4
end
section
variable {W0:World} {m0:Inj Tp}
theorem Abf {v:Value} {l:List UInt8} {F0:List Nat} {s:ByteArray} {A:AW} {K:Value->AW->Prop} (hf:Aw A) (hA:A.next+6<Aj) (hv:RdB A v l F0) (hl:l.length<900000) (hs:EL s<256)
  (hk:∀ A' v F,Grow A A' 5->Buf 5 A' v (l++(be (EL s) 1++s.data.toList)) F->(∀ x∈F,A.next<=x)->K (.tuple ⟨[v,.int .i64 0]⟩) A'):Wc Tp Al W0 m0 166 [v,.string s,.int .i64 1] A K:=by
 have hroom:room=68719476736:=rfl;have hsl:s.data.toList.length=EL s:=rfl;refine AgQ _ _ _ _ BD ?_;rw [Aic];simp only [B8,Ab,Cg];refine ⟨λh=>by omega,λ_=>?_⟩;refine Xq ?_;simp only [Bl,Ab];refine Ag.2 ⟨λh=>by simp at h,λ_=>?_⟩;simp only [Hj,hsl,Ab,HP,AT,Nd];rw [wrap_u64 (by omega) (by omega),wrap_i64 (by omega) (by omega),LJ (by omega)];have hz:((EL s:Nat):Int).fdiv (2^(min ((8:Int)*1).toNat (IntKind.bits .u64)))=0:=by
  show ((EL s:Nat):Int).fdiv (2^8)=0;rw [Int.fdiv_eq_ediv_of_nonneg _ (by decide)];omega
 rw [hz];simp only [Ab,Bw,Bj];refine ⟨λh=>by omega,λ_=>?_⟩;refine Abh (n:=EL s) (w:=1) hf (by omega) (by omega) λA1 v1 F1 g1 b1 hF1=>?_;have n1:=g1.next;have l1:=g1.le;refine DO tb b1 (XS tb) g1.Ay (by omega) (by rw [BW];omega) λv2 A2 F2 b2 k2 hF2 n2 f2=>?_;have g2:=g1.own k2 hF1 (m:=1) (by omega) f2;have n2:=g2.next;have l2:=g2.le;refine Abi g2.Ay (by omega) (hv.keeps g2.keeps (by simp)) b2.rd (by rw [Lq,BW];omega) λA3 v3 F3 g3 b3 hF3=>?_;exact hk A3 v3 F3 ((g2.trans g3).more (by omega)) b3 λx hx=>Nat.le_trans l2 (hF3 x hx)
end
variable {f:Nat} {g b:ByteArray} {A:AW} {K:Value->AW->Prop}
section
variable {W0:World} {m0:Inj Tp}
theorem Aei (hf:Aw A) (hA:A.next+20<Aj) (hfl:f<4294967296) (hx:DQ g b=0)
  (hk:∀ A' v F,Grow A A' 16->Buf 5 A' v (xb f g b) F->(∀ x∈F,A.next<=x)->K (.tuple ⟨[v,.int .i64 0]⟩) A'):Wc Tp Al W0 m0 101 [Fj f g b] A K:=by
 obtain ⟨hx1,hx2,hx3⟩:=CT hx;refine Ahp _ _ BD ?_;rw [AiL];refine AZ (cs:=(Value.cells (Fj f g b)).toList) hf (by omega) rfl λA1 m1=>?_;have n1:=m1.next;have r1:Abs.Row1 A1 A.next [.int .u32 (f:Int),.string g,.string b] 32:=m1.Bk;have hld:A1.cells? ⟨A.next,0,none⟩ 3=some [.int .u32 (f:Int),.string g,.string b]:=by rw [Bc r1.row];rfl
 simp only [EH,hld,Ab];refine UU (f:=(f:Int)) (g:=g) (b:=b) m1.Ay (by omega) λA2 g2=>?_;rw [hx];have n2:=g2.next;have l2:=g2.le;have r2:=r1.keeps g2.keeps (by simp);simp only [Bw,Ab,Bj];refine ⟨λh=>absurd rfl h,λ_=>?_⟩;simp only [Vt,LB,Is,N5,Af r2.row,cellOf,isTuple,Cf,Ab,Qb,AT,Nat.zero_add];rw [wrap_u64 (by omega) (by omega)];refine ZQ (n:=f) (w:=4) g2.Ay (by omega) (Buf.nil 5 _).rd (by simp) (by simp) λA3 v3 F3 g3 b3 hF3=>?_;have n3:=g3.next;have l3:=g3.le;have r3:=r2.keeps g3.keeps (by simp);simp only [Eg,Af r3.row,cellOf,isTuple,Cf,Ab];rw [List.nil_append] at b3;refine Abf g3.Ay (by omega) b3.rd (by rw [BW];omega) (by omega) λA4 v4 F4 g4 b4 hF4=>?_;have n4:=g4.next;have l4:=g4.le;have r4:=r3.keeps g4.keeps (by simp);have b4:Buf 5 A4 v4 (be f 4++tx g) F4:=b4;simp only [Ap,List.getElem?_cons_zero,List.getElem?_cons_succ,Ab,Af r4.row,cellOf,isTuple,Cf];refine Abf g4.Ay (by omega) b4.rd (by rw [Lq,BW,LR];omega) (by omega) λA5 v5 F5 g5 b5 hF5=>?_;have b5:Buf 5 A5 v5 (xb f g b) F5:=b5;simp only [Ap,List.getElem?_cons_zero,List.getElem?_cons_succ,Ab];exact hk A5 v5 F5 (((((Grow.made m1 hf).trans g2).trans g3).trans g4).trans g5) b5 λx hx=>by have:=hF5 x hx;omega
theorem Ab3 {v:Value} {l:List UInt8} {F:List Nat} {A0:AW} {n:Nat} (h0:Grow A0 A n) (hA:A.next+30<Aj) (hfl:f<4294967296) (hx:DQ g b=0) (hb:Buf 5 A v l F) (hF:∀ x∈F,A0.next<=x) (hl:l.length<900000)
  (hk:∀ A' v' F',Grow A0 A' (n+18)->Ah A A' F->A'.next<=A.next+18->Buf 5 A' v' (l++xb f g b) F'->(∀ x∈F',x∈F\/A.next<=x)->K v' A'):Wc Tp Al W0 m0 41 [v,Fj f g b] A K:=by
 have hroom:room=68719476736:=rfl;obtain ⟨hx1,hx2,hx3⟩:=CT hx;have hf:=h0.Ay;have l0:=h0.le;refine w41 _ _ _ BD ?_;rw [e41];refine AZ (cs:=(Value.cells (Fj f g b)).toList) hf (by omega) rfl λA1 m1=>?_;have n1:=m1.next;have hld:A1.cells? ⟨A.next,0,none⟩ 3=some [.int .u32 (f:Int),.string g,.string b]:=by rw [Bc m1.row];rfl
 simp only [EH,hld,Ab];refine Aei m1.Ay (by omega) hfl hx λA2 v2 F2 g2 b2 hF2=>?_;have n2:=g2.next;have l2:=g2.le;have g02:=(Grow.made m1 hf).trans g2;simp only [Ap,List.getElem?_cons_zero,List.getElem?_cons_succ,Ab];refine DO tb (hb.keeps g02.keeps (by simp)) (D9 tb b2.rd) g2.Ay (by omega) (by rw [D3];omega) λv3 A3 F3 b3 k3 hF3 n3 f3=>?_;refine hk A3 v3 F3 ?_ (g02.keeps.more (by simp) |>.trans k3 (λx hx=>.inl hx)) (by omega) b3 λx hx=>?_
 ·exact ((h0.trans g02).own k3 hF (m:=1) (by omega) f3).more (by omega)
 ·rcases hF3 x hx with h | h
  ·exact .inl h
  ·exact .inr (by omega)
end
variable {A:AW} {v:Value} {F:List Nat}
def Pt.cells(p:Pt):List Value:=[.int .u8 (p.node:Int),.int .u32 (p.f:Int),.string p.g,.string p.b,.int .u8 (p.st:Int)]
def C4(A:AW)(v:Value)(l:List Pt)(F:List Nat):Prop:=
 (l=[]/\F=[]/\∃ o c,v=.slice o 0 c)\/∃ r o c cs e f b ro,v=.slice (some ⟨r,o,none⟩) l.length c/\A.get r=some (.row cs e f b ro)/\f<A.next/\F=[f]/\∀ (i:Nat) p,l[i]? =some p->∃ rest,cs.drop (o+i*5)=p.cells++rest
theorem C4.keeps{A':AW}{l:List Pt}{S:List Nat}(h:C4 A v l F)(k:Ah A A' S)(hd:∀ x∈F,x∉S):C4 A' v l F:=by
 rcases h with h | ⟨r,o,c,cs,e,f,b,ro,h1,h2,h3,rfl,h4⟩
 ·exact .inl h
 ·exact .inr ⟨r,o,c,cs,e,f,b,ro,h1,k.get r _ h2 h3 (hd f (by simp)),Nat.lt_of_lt_of_le h3 k.next,rfl,h4⟩
theorem C4.one{l:List Pt}(h:C4 A v l F):AK v=true/\isTuple v=false:=by
 rcases h with ⟨_,_,o,c,rfl⟩ | ⟨r,o,c,cs,e,f,b,ro,rfl,_⟩<;>exact ⟨rfl,rfl⟩
theorem C4.len{B:AW}{l:List Pt}(h:C4 A v l F):Bi Tp B 33 v=some (.int .i64 (l.length:Int)):=by
 rcases h with ⟨rfl,_,o,c,rfl⟩ | ⟨r,o,c,cs,e,f,b,ro,rfl,_⟩<;>exact AbB _ _ _ _
theorem C4.at{A:AW}{v:Value}{l:List Pt}{F:List Nat}(h:C4 A v l F){i:Nat}{p:Pt}(hi:l[i]? =some p):
  ∃ r o,Ar Tp 33 v (.int .i64 (i:Int))=some (pP r o)/\A.cells? ⟨r,o,none⟩ 5=some p.cells/\A.cell? ⟨r,o,none⟩=some (.int .u8 (p.node:Int))/\A.cells? ⟨r,o+1,none⟩ 3=some [.int .u32 (p.f:Int),.string p.g,.string p.b]:=by
 rcases h with ⟨rfl,_⟩ | ⟨r,o,c,cs,e,f,b,ro,rfl,h2,h3,_,h4⟩
 ·simp at hi
 ·have hlt:i<l.length:=(Gs.1 hi).1;obtain ⟨rest,hr⟩:=h4 i p hi;have hr1:cs.drop (o+i*5+1)=[.int .u32 (p.f:Int),.string p.g,.string p.b,.int .u8 (p.st:Int)]++rest:=by
   rw [<- List.drop_drop,hr];rfl
  refine ⟨r,o+i*5,?_,?_,?_,?_⟩
  ·show Ar Tp 33 _ (.int .i64 (.ofNat i))=_;rw [Afx,AA.2 hlt,Ct];unfold Ek;cases hb:Nat.beq (i*5) 0 with
   |true=>rw [Ct,Nb hb,Nat.add_zero]
   |false=>rfl
  ·rw [Bc h2,hr];simp [Pt.cells,Bh,isTuple]
  ·rw [Af h2]
   have:cs[o+i*5]? =some (.int .u8 (p.node:Int)):=by
    have:=congrArg (λl=>l[0]?) hr
    simpa [Pt.cells] using this
   exact Fz this rfl
  ·rw [Bc h2,hr1];simp [Bh,isTuple]
def By(f:Nat)(g b:ByteArray)(sv:Value):List Value:=[.int .u32 (f:Int),.string g,.string b,sv]
def Fh(f:Nat)(g b:ByteArray)(sv:Value):Value:=.agg ⟨By f g b sv⟩
section
variable {W0:World} {m0:Inj Tp}
theorem AdJ {f:Nat} {g b:ByteArray} {sv:Value} {l:List Pt} {K:Value->AW->Prop} (hf:Aw A) (hA:A.next+60<Aj) (hl:C4 A sv l F) (hn:l.length<1000000)
  (hk:∀ A',Grow A A' 40->K (.int .i64 (Jk f g b l)) A'):Wc Tp Al W0 m0 43 [Fh f g b sv] A K:=by
 let I:Nat->Nat->List Value->AW->Prop:=λg' id vals A'=>id=0/\∃ i last:Nat,vals=[pP A.next 0,.int .u8 (last:Int),sv,.int .i64 (l.length:Int),.int .i64 (i:Int)]/\i<=l.length/\l.length<=8/\
  Jk f g b l=(if C7 f g last (l.drop i)=true then 0 else 260)/\Abs.Row1 A' A.next (By f g b sv) 35/\C4 A' sv l F/\Grow A A' (2+4*i)/\g'=l.length-i
 refine w43 _ _ (c43 (I:=I) ?_) ?_
 ·rintro g' id vals A' d ⟨rfl,i,last,rfl,hi,h8,hR,hr,hl',hg,rfl⟩ hd;rw [Afd];simp only [L43,Mc,Mn,Li,and_true] at hd;obtain ⟨h1,h3,h29,h30,h31⟩:=hd;have hnx:=hg.next;have hle:=hg.le;simp only [h1,h3,h29,h30,h31,Br,Ab,Az];refine ⟨λhlt=>?_,λhge=>?_⟩
  ·have hlt:i<l.length:=by omega
   obtain ⟨p,hp⟩:∃ p,l[i]? =some p:=⟨l[i],Ge hlt⟩;obtain ⟨r,o,a1,a2,a3,a4⟩:=hl'.at hp;rw [AaO hp] at hR;have bad:C7 f g last (p::l.drop (i+1))≠true->Jk f g b l=260:=λh=>by rw [hR,Ff h]
   simp only [a1,YJ,a2,Ab];refine AH TF hg.Ay (by omega) rfl λA2 m2=>?_;have n2:=m2.next;have r2:=m2.Bk;refine r2.store m2.Ay (by omega) (XN _ _ _) rfl (by simp [Value.cells]) rfl λA3 r3 k3 n3 f3=>?_;have r3:Abs.Row1 A3 A'.next p.cells 85:=r3;have hne:A.next∉[A'.next]:=by have:=hr.lt;simp;omega
   have hr3:=(hr.keeps (m2.keeps hg.Ay) (by simp)).keeps k3 hne;have g3:Grow A A3 (3+4*i):=((hg.trans (.made m2 hg.Ay)).own k3 (by simp;omega) (m:=0) (by omega) f3).more (by omega);have hF:∀ x∈F,x∉[A'.next]:=by
    intro x hx;rcases hl' with ⟨_,rfl,_⟩ | ⟨_,_,_,_,_,fm,_,_,_,_,hfm,rfl,_⟩
    ·simp at hx
    ·simp at hx ⊢;omega
   have hl3:=(hl'.keeps (m2.keeps hg.Ay) (by simp)).keeps k3 hF;have e260:C7 f g last (p::l.drop (i+1))≠true->∀ A4,Grow A A4 40->K (.int .i64 260) A4:=λh A4 h4=>by have:=hk A4 h4;rwa [bad h] at this
   simp only [ne_eq,Gl] at e260;simp only [QX,Ly,AaL,L9,Ae3,EH,Af r3.row,Bc r3.row,Pt.cells,cellOf,isTuple,Cf,Ab,Rk,B3,Bw,Az,Bj,Nat.zero_add];refine ⟨λh=>e260 (by omega) A3 (g3.more (by omega)),λh=>⟨λh'=>e260 (by omega) A3 (g3.more (by omega)),λh'=>⟨λh''=>e260 (by omega) A3 (g3.more (by omega)),λh''=>?_⟩⟩⟩;have ht:Bh (List.drop 1 [Value.int .u8 (p.node:Int),.int .u32 (p.f:Int),.string p.g,.string p.b,.int .u8 (p.st:Int)]) 3=some [.int .u32 (p.f:Int),.string p.g,.string p.b]:=rfl;simp only [ht,Ab];refine UU (f:=(p.f:Int)) (g:=p.g) (b:=p.b) f3 (by omega) λA4 g4=>?_;have n4:=g4.next;have l4:=g4.le;have g04:=g3.trans g4;simp only [Bw,Ab,Bj];refine ⟨λhx=>e260 (by omega) A4 (g04.more (by omega)),λhx=>?_⟩;have r4:=r3.keeps g4.keeps (by simp);have hr4:=hr3.keeps g4.keeps (by simp);have ht1:A4.cells? ⟨A'.next,1,none⟩ 3=some [.int .u32 (p.f:Int),.string p.g,.string p.b]:=by rw [Bc r4.row];rfl
   have ht2:A4.cells? ⟨A.next,0,none⟩ 3=some [.int .u32 (f:Int),.string g,.string b]:=by rw [Bc hr4.row];rfl
   simp only [Er,EH,ht1,ht2,Ab];refine Aeh (f:=(p.f:Int)) (f':=(f:Int)) (g:=p.g) (b:=p.b) (g':=g) (b':=b) g4.Ay (by omega) λA5 g5=>?_;have n5:=g5.next;have l5:=g5.le;have g05:=g04.trans g5;have r5:=r4.keeps g5.keeps (by simp);simp only [Bl,Ab];refine Ag.2 ⟨λho=>e260 (by intro hh;simp [hh.2.2.2.2.1] at ho) A5 (g05.more (by omega)),λho=>?_⟩;simp only [L9,Af r5.row,Pt.cells,cellOf,isTuple,Cf,Ab,Bm];rw [wrap_i64 (by omega) (by omega)];have ho:Wh (p.f:Int) (f:Int) p.g g=true:=by simpa using ho
   refine Au.2 ⟨l.length-(i+1),by omega,rfl,i+1,p.node,rfl,by omega,h8,?_,hr4.keeps g5.keeps (by simp),(hl3.keeps g4.keeps (by simp)).keeps g5.keeps (by simp),g05.more (by omega),rfl⟩;rw [hR]
   have:(C7 f g last (p::l.drop (i+1))=true)↔C7 f g p.node (l.drop (i+1))=true:=by
    rw [Gl];exact ⟨λh=>h.2.2.2.2.2,λhh=>⟨by omega,by omega,by omega,by omega,ho,hh⟩⟩
   simp only [this]
  ·have hi:i=l.length:=by omega
   subst hi
   have:=hk A' (hg.more (by omega))
   rw [hR,List.drop_length] at this;exact this
 ·rw [e43];refine AZ (cs:=(Value.cells (Fh f g b sv)).toList) hf (by omega) (by simp [Fh,By,Value.cells,M7,Ii,hl.one.1]) λA1 m1=>?_;have n1:=m1.next;have r1:Abs.Row1 A1 A.next (By f g b sv) 35:=m1.Bk;have hl1:=hl.keeps (m1.keeps hf) (by simp);have ht:A1.cells? ⟨A.next,0,none⟩ 3=some [.int .u32 (f:Int),.string g,.string b]:=by rw [Bc r1.row];rfl
  simp only [Er,EH,ht,Ab];refine UU (f:=(f:Int)) (g:=g) (b:=b) m1.Ay (by omega) λA2 g2=>?_;have n2:=g2.next;have g02:=(Grow.made m1 hf).trans g2;have r2:=r1.keeps g2.keeps (by simp);have hl2:=hl1.keeps g2.keeps (by simp);have e260:¬ (DQ g b=0/\b.data.toList=[]/\1<=l.length/\l.length<=8/\C7 f g 0 l=true)->K (.int .i64 260) A2:=λh=>by have:=hk A2 (g02.more (by omega));unfold Jk at this;rwa [Ff h] at this
  simp only [Is,E4,Eg,I5,Af r2.row,By,cellOf,AI,AG,hl2.one.2,Cf,hl2.len,Ab,Bw,Br,B3,OH,Az,Bj,Nat.zero_add];refine ⟨λh=>e260 (by omega),λh=>Ag.2 ⟨λhb=>e260 (by intro hh;simp [hh.2.1] at hb),λhb=>⟨λh1=>e260 (by omega),λh1=>⟨λh2=>e260 (by omega),λh2=>?_⟩⟩⟩⟩;refine Au.2 ⟨l.length,rfl,0,0,rfl,by omega,by omega,?_,r2,hl2,g02,rfl⟩;have hb:b.data.toList=[]:=by simpa using hb
  unfold Jk;rw [List.drop_zero]
  have:(DQ g b=0/\b.data.toList=[]/\1<=l.length/\l.length<=8/\C7 f g 0 l=true)↔C7 f g 0 l=true:=⟨λh=>h.2.2.2.2,λhh=>⟨by omega,hb,by omega,by omega,hh⟩⟩
  simp only [this]
end
theorem PQ{p:Pt}(h:p.wf):Value.int .u8 (p.node:Int)=.int .u8 ((UInt8.ofNat p.node).toNat:Int):=by
 rw [NR]
 congr 1
 have:=h.1
 omega
theorem C4.fam{A A0:AW}{v:Value}{l:List Pt}{F:List Nat}(h:C4 A v l F):∀ x∈F,x<A.next:=by
 rcases h with ⟨_,rfl,_⟩ | ⟨r,o,c,cs,e,f,b,ro,_,_,h3,rfl,_⟩
 ·simp
 ·simpa using h3
section
variable {W0:World} {m0:Inj Tp}
theorem AdI {f:Nat} {g b:ByteArray} {sv:Value} {l:List Pt} {F:List Nat} {A:AW} {K:Value->AW->Prop} (hf:Aw A) (hA:A.next+500<Aj) (hl:C4 A sv l F) (hfl:f<4294967296) (hw:∀ p∈l,p.wf) (hd:Jk f g b l=0)
  (hk:∀ A' v F',Grow A A' 400->Buf 5 A' v (db f g b l l) F'->(∀ x∈F',A.next<=x)->K v A'):Wc Tp Al W0 m0 44 [Fh f g b sv] A K:=by
 have hroom:room=68719476736:=rfl;obtain ⟨hx0,h8,hxs⟩:=WU hd;have hxt:∀ i,∀ p∈l.take i,DQ p.g p.b=0:=λi p hp=>hxs p (List.mem_of_mem_take hp);let I:Nat->Nat->List Value->AW->Prop:=λg' id vals A'=>id=0/\∃ (i:Nat) (v:Value) (F':List Nat),vals=[v,sv,.int .i64 (l.length:Int),.int .i64 (i:Int)]/\i<=l.length/\
  Buf 5 A' v (db f g b l (l.take i)) F'/\(∀ x∈F',A.next<=x)/\C4 A' sv l F/\Grow A A' (40+30*i)/\g'=l.length-i
 refine w44 _ _ (c44 (I:=I) ?_) ?_
 ·rintro g' id vals A' d ⟨rfl,i,v,F',rfl,hi,hb,hF',hl',hg,rfl⟩ hd;rw [Afc];simp only [L44,Mc,Mn,Li,and_true] at hd;obtain ⟨h3,h16,h17,h18⟩:=hd;have hnx:=hg.next;have hle:=hg.le;have hblt:=hb.lt;simp only [h3,h16,h17,h18,Br,Ab,Az];refine ⟨λhlt=>?_,λhge=>?_⟩
  ·have hlt:i<l.length:=by omega
   obtain ⟨p,hp⟩:∃ p,l[i]? =some p:=⟨l[i],Ge hlt⟩;have hpm:p∈l:=List.mem_of_getElem? hp;obtain ⟨r,o,a1,a2,a3,a4⟩:=hl'.at hp;simp only [a1,YJ,a2,Ab];refine AH TF hg.Ay (by omega) rfl λA2 m2=>?_;have n2:=m2.next;have r2:=m2.Bk;refine r2.store m2.Ay (by omega) (XN _ _ _) rfl (by simp [Value.cells]) rfl λA3 r3 k3 n3 f3=>?_;have r3:Abs.Row1 A3 A'.next p.cells 85:=r3;have g23:Grow A' A3 1:=(Grow.made m2 hg.Ay).own k3 (by simp) (m:=0) (by omega) f3;have hl3:=hl'.keeps g23.keeps (by simp);have hb3:=hb.keeps g23.keeps (by simp);have g3:=hg.trans g23;simp only [QX,Ly,L9,Af r3.row,Pt.cells,cellOf,AI,Cf,Ab,Nat.zero_add];rw [PQ (hw p hpm)];refine VF f3 (by omega) λA4 m4=>?_;have n4:=m4.next;refine Od m4.row ?_;have r4:=r3.keeps (m4.keeps f3) (by simp);have ht:A4.cells? ⟨A'.next,1,none⟩ 3=some [.int .u32 (p.f:Int),.string p.g,.string p.b]:=by rw [Bc r4.row];rfl
   simp only [QX,Ly,L9,EH,Af r4.row,ht,Pt.cells,cellOf,AI,Cf,Ab,Nat.zero_add,PQ (hw p hpm),AR];refine DO tb (hb3.keeps (m4.keeps f3) (by simp)) (D9 tb (AfS m4.Bk).rd) m4.Ay (by omega) (by have:=Qa (f:=f) (l:=l) hx0 (hxt i) (by rw [List.length_take];omega);simp only [Lc,Ln];omega) λv5 A5 F5 b5 k5 hF5 n5 f5=>?_;have g5:=(g3.trans (.made m4 f3)).own k5 hF' (m:=1) (by omega) f5;have hne:A'.next∉F':=λh=>by have:=hblt _ h;omega
   have r5:=r4.keeps k5 hne;have ht5:A5.cells? ⟨A'.next,1,none⟩ 3=some [.int .u32 (p.f:Int),.string p.g,.string p.b]:=by rw [Bc r5.row];rfl
   simp only [Ly,EH,ht5,Ab,AR,Nat.zero_add];have hF5':∀ x∈F5,A.next<=x:=λx hx=>by
    rcases hF5 x hx with h | h
    ·exact hF' x h
    ·omega
   refine Ab3 (f:=p.f) (g:=p.g) (b:=p.b) g5 (by omega) (hw p hpm).2.1 (hxs p hpm) b5 hF5' (by have:=Qa (f:=f) (l:=l) hx0 (hxt i) (by rw [List.length_take];omega);rw [Lq];simp only [Lc,Ln];omega) λA6 v6 F6 g6 k6 n6 b6 hF6=>?_;simp only [Bm,Ab];rw [wrap_i64 (by omega) (by omega)];have hne5:∀ x∈F,x∉F5:=λx hx h=>by
    have h1:=hl.fam (A0:=A) x hx;have h2:=hF5' x h;omega
   have hne1:∀ x∈F,x∉F':=λx hx h=>by
    have h1:=hl.fam (A0:=A) x hx;have h2:=hF' x h;omega
   refine Au.2 ⟨l.length-(i+1),by omega,rfl,i+1,v6,F6,rfl,by omega,?_,λx hx=>?_,((hl3.keeps (m4.keeps f3) (by simp)).keeps k5 hne1).keeps k6 hne5,g6.more (by omega),rfl⟩
   ·rw [VR hp]
    have:db f g b l (l.take i++[p])=db f g b l (l.take i)++[UInt8.ofNat p.node]++xb p.f p.g p.b:=by
     unfold db;rw [Aal];simp only [Mw]
    rw [this];exact b6
   ·rcases hF6 x hx with h | h
    ·exact hF5' x h
    ·have:=g5.le;omega
  ·have hi:i=l.length:=by omega
   subst hi;rw [List.take_length] at hb;exact hk A' v F' (hg.more (by omega)) hb hF'
 ·rw [e44];refine AZ (cs:=(Value.cells (Fh f g b sv)).toList) hf (by omega) (by simp [Fh,By,Value.cells,M7,Ii,hl.one.1]) λA1 m1=>?_;have n1:=m1.next;have r1:Abs.Row1 A1 A.next (By f g b sv) 35:=m1.Bk;have hl1:=hl.keeps (m1.keeps hf) (by simp);have ht:A1.cells? ⟨A.next,0,none⟩ 3=some [.int .u32 (f:Int),.string g,.string b]:=by rw [Bc r1.row];rfl
  have hb1:(IntKind.u8.wrap (l.length:Int))=((UInt8.ofNat l.length).toNat:Int):=by rw [wrap_u8,NR]
  simp only [Er,E4,EH,I5,ht,Af r1.row,By,cellOf,AI,AG,hl.one.2,Cf,hl1.len,UF,AT,hb1,Ab,Nat.zero_add];refine VF m1.Ay (by omega) λA2 m2=>?_;have n2:=m2.next;refine Od m2.row ?_;have r2:=r1.keeps (m2.keeps m1.Ay) (by simp);have ht2:A2.cells? ⟨A.next,0,none⟩ 3=some [.int .u32 (f:Int),.string g,.string b]:=by rw [Bc r2.row];rfl
  simp only [Er,E4,EH,I5,ht2,Af r2.row,By,cellOf,AI,AG,hl.one.2,Cf,hl1.len,UF,AT,hb1,Ab,AR,Nat.zero_add];have g2:=(Grow.made m1 hf).trans (.made m2 m1.Ay);refine Ab3 (f:=f) (g:=g) (b:=b) g2 (by omega) hfl hx0 (Buf.nil 5 _) (by simp) (by simp) λA3 v3 F3 g3 k3 n3 b3 hF3=>?_;rw [List.nil_append] at b3;have q2:=m2.Bk.keeps k3 (by simp);refine Od q2.row ?_;have r3:=r2.keeps k3 (by simp);have hl3:=(hl1.keeps (m2.keeps m1.Ay) (by simp)).keeps k3 (by simp);have ht3:A3.cells? ⟨A.next,0,none⟩ 3=some [.int .u32 (f:Int),.string g,.string b]:=by rw [Bc r3.row];rfl
  simp only [Er,E4,EH,I5,ht3,Af r3.row,By,cellOf,AI,AG,hl.one.2,Cf,hl1.len,UF,AT,hb1,Ab,AR,Nat.zero_add];have hF3':∀ x∈F3,A.next<=x:=λx hx=>by
   rcases hF3 x hx with h | h
   ·simp at h
   ·omega
  have l3:=k3.next;refine DO tb b3 (D9 tb (AfS q2).rd) g3.Ay (by omega) (by have:=CT hx0;rw [D3];simp only [Lc,Ln];omega) λv4 A4 F4 b4 k4 hF4 n4 f4=>?_;have hne:A.next∉F3:=λh=>by
   rcases hF3 _ h with h | h
   ·simp at h
   ·omega
  have r4:=r3.keeps k4 hne;have hne3:∀ x∈F,x∉F3:=λx hx h=>by
   have h1:=hl.fam (A0:=A) x hx;have h2:=hF3' x h;omega
  have hl4:=hl3.keeps k4 hne3;simp only [E4,I5,Af r4.row,By,cellOf,AI,AG,hl.one.2,Cf,hl1.len,Ab,Nat.zero_add];refine Au.2 ⟨l.length,rfl,0,v4,F4,rfl,by omega,?_,λx hx=>?_,hl4,(g3.own k4 hF3' (m:=1) (by omega) f4).more (by omega),rfl⟩
  ·simpa [db,pb] using b4
  ·rcases hF4 x hx with h | h
   ·exact hF3' x h
   ·have:=g3.le;omega
end
theorem AbP(f:Int)(g b:ByteArray):Bd Tp 35 [(0,.agg ⟨[.int .u32 f,.string g,.string b]⟩)]=some (.agg ⟨[.int .u32 f,.string g,.string b,.slice none 0 0]⟩):=by kernel_rfl
theorem Ai6:Bd Tp 35 []=some (.agg ⟨[.int .u32 0,.string .empty,.string .empty,.slice none 0 0]⟩):=by kernel_rfl
theorem AbR(f:Int):Bd Tp 32 [(0,.int .u32 f)]=some (.agg ⟨[.int .u32 f,.string .empty,.string .empty]⟩):=by kernel_rfl
theorem Af3(n:Int):Bd Tp 85 [(0,.int .u8 n)]=some (.agg ⟨[.int .u8 n,.int .u32 0,.string .empty,.string .empty,.int .u8 0]⟩):=by kernel_rfl
theorem Qk:Dt Tp 35=some (.agg #[.int .u32 0,.string .empty,.string .empty,.slice none 0 0]):=by kernel_rfl
theorem IE:Dt Tp 32=some (.agg #[.int .u32 0,.string .empty,.string .empty]):=by kernel_rfl
theorem Mi(A:AW)(n:Int)(k:IntKind):AQ Tp A 136 30 (.int k n)=.ok (.int .u32 (IntKind.u32.wrap n)) A:=by kernel_rfl
theorem OR.keeps{A A':AW}{r v:Nat}{l:List UInt8}{bad:Bool}{F S:List Nat}(h:OR A r v l bad F)(k:Ah A A' S)(hr:r∉S)(hv:v∉S)(hd:∀ x∈F,x∉S):OR A' r v l bad F:=by
 obtain ⟨bs,h1,h2⟩:=h.ex;exact ⟨h.rr.keeps k hr,⟨bs,h1.keeps k hv,h2.keeps k hd⟩,h.hb,h.ne,h.hv⟩
section
variable {W0:World} {m0:Inj Tp}
end
section
variable {W0:World} {m0:Inj Tp}
theorem US {A:AW} {r v:Nat} {s:St} {F:List Nat} {K:Value->AW->Prop} (h:OR A r v s.1 s.2 F) (hf:Aw A) (hA:A.next+8<Aj) (hl:s.1.length<1000000)
  (hk:∀ A' F',OR A' r v (tx1 s).2.1 (tx1 s).2.2 F'->Ah A A' [v]->A'.next<=A.next+4->Aw A'->(∀ y∈F',y∈F)->K (.string ⟨⟨(tx1 s).1⟩⟩) A'):Wc Tp Al W0 m0 153 [pP r 0,.int .i64 1,.int .i64 255] A K:=by
 refine Ag0 _ _ _ _ BD ?_;rw [Aim];simp only [B8,Ab,Cg];refine ⟨λh=>by omega,λ_=>?_⟩;refine Ry (w:=1) h hf (by omega) hl (by omega) λA1 F1 o1 k1 n1 f1 hF1=>?_;have hv1:(nm 1 s).1<256:=by
  have h1:=Jp (tk 1 s).1;have h2:=TN 1 s
  have:(256:Nat)^(tk 1 s).1.length<=256^1:=Nat.pow_le_pow_right (by decide) h2
  show Ej (tk 1 s).1<256;omega
 have hl1:(nm 1 s).2.1.length<=s.1.length:=by
  show (tk 1 s).2.1.length<=_;unfold tk;split
  ·exact Nat.zero_le _
  ·rw [List.length_drop];omega
 have spoil:((nm 1 s).2.2=true\/(nm 1 s).2.1.length<(nm 1 s).1)->Wc Tp Al W0 m0 148 [pP r 0] A1 λ_ A'=>K (.string ⟨⟨[]⟩⟩) A':=λhb=>by
  refine Abl o1 f1 (by omega) λA' o' k' n' f'=>?_;have e:tx1 s=([],([],true)):=by unfold tx1;rw [if_pos hb]
  rw [e] at hk;exact hk A' [] o' (k1.trans k' (λy hy=>.inl hy)) (by omega) f' (by simp)
 refine VN o1 ?_;refine Ag.2 ⟨λhb=>spoil (.inl hb),λhb=>?_⟩;simp only [Br,Ab,Az,HP,AT,B3];rw [wrap_u64 (n:=255) (by decide) (by decide)];refine ⟨λh=>by omega,λ_=>⟨λh=>by omega,λ_=>?_⟩⟩;refine UT o1 ?_;simp only [HP,AT];rw [wrap_u64 (by omega) (by omega)];simp only [AT,Ab,Az,S4,B3];refine ⟨λh=>spoil (.inr (by omega)),λhle=>?_⟩;have hle:(nm 1 s).1<=(nm 1 s).2.1.length:=by omega
 rw [wrap_i64 (by omega) (by omega)];have e:tx1 s=((nm 1 s).2.1.take (nm 1 s).1,((nm 1 s).2.1.drop (nm 1 s).1,false)):=by unfold tx1;rw [Ff (by simp [hb];omega)]
 have et:tk (nm 1 s).1 (nm 1 s).2=((nm 1 s).2.1.take (nm 1 s).1,((nm 1 s).2.1.drop (nm 1 s).1,false)):=by unfold tk;rw [Ff (by simp [hb];omega)]
 refine Abk (s:=(nm 1 s).2) (n:=(nm 1 s).1) o1 f1 (by omega) (by omega) (by omega) λA2 x2 F2 Fo o2 x2s k2 n2 f2 hF2 hFo=>?_;rw [et] at o2 x2s;rw [e] at hk;simp only [x2s.rd.str tb,AT];exact hk A2 F2 o2 (k1.trans k2 (λy hy=>.inl hy)) (by omega) f2 (λy hy=>hF1 y (hF2 y hy))
end
variable {A:AW} {K:Value->AW->Prop}
section
variable {W0:World} {m0:Inj Tp}
theorem KI {s:ByteArray} (hf:Aw A) (h:A.next<Aj)
  (hk:∀ A',Grow A A' 1->RdS 5 A' (.slice (some ⟨A.next,0,none⟩) s.data.toList.length (Bo+s.data.toList.length)) s.data.toList [A.next]->K (.slice (some ⟨A.next,0,none⟩) s.data.toList.length (Bo+s.data.toList.length)) A'):Ao (AQ Tp A 9 92 (.string s)) K:=by
 have e:AQ Tp A 9 92 (.string s)=.ok (.slice (some ⟨A.next,0,none⟩) s.data.toList.length (Bo+s.data.toList.length)) (A.push (.row (AP s.data.toList) 5 A.next 0 false)):=by
  unfold AQ;simp only [tb.ust,tb.us,tb.ub,tb.sz];unfold AW.new;simp only [AA.2 h,Ct];rfl
 rw [e];have m:Made A (A.push (.row (AP s.data.toList) 5 A.next 0 false)) (AP s.data.toList) 5:=⟨AW.BR _ h,rfl,by rw [AW.BK _ h,if_pos rfl],hf.alone (Nl _),hf.push _ h⟩;refine AT.2 (hk _ (.made m hf) (.inr ⟨A.next,0,s.data.toList.length,_,_,A.next,0,false,[],rfl,.inl rfl,Nl _,m.row,by rw [m.next];omega,rfl,by simp⟩))
theorem Abj {r v:Nat} {s:St} {F:List Nat} (h:OR A r v s.1 s.2 F) (hf:Aw A) (hA:A.next+20<Aj) (hl:s.1.length<1000000)
  (hk:∀ A' F',OR A' r v (rnS s).1 (rnS s).2 F'->Ah A A' [v]->A'.next<=A.next+12->Aw A'->(∀ y∈F',y∈F)->K (Fj (rnF s:Int) ⟨⟨rnG s⟩⟩ ⟨⟨rnB s⟩⟩) A'):Wc Tp Al W0 m0 150 [pP r 0] A K:=by
 have hF:∀ y∈F,y<A.next:=by obtain ⟨bs,h1,h2⟩:=h.ex;exact h2.rd.lt
 have hv:v<A.next:=by obtain ⟨bs,h1,h2⟩:=h.ex;exact h1.lt
 have hr:r<A.next:=h.rr.lt;refine Ag3 _ _ BD ?_;rw [Aip];refine AH IE hf (by omega) rfl λA1 m1=>?_;have n1:=m1.next;have o1:=h.keeps (m1.keeps hf) (by simp) (by simp) (by simp);refine Ry (w:=4) o1 m1.Ay (by omega) hl (by omega) λA2 F2 o2 k2 n2 f2 hF2=>?_;have l2:=k2.next;have q2:Abs.Row1 A2 A.next [.int .u32 0,.string .empty,.string .empty] 32:=m1.Bk.keeps k2 (by simp;omega);have hs2:=Gw 4 s;have hn4:(nm 4 s).1<4294967296:=Vc 4 s;simp only [Mi,AT];rw [wrap_u32 (by omega),AbR];simp only [Ab];refine AH IE f2 (by omega) rfl λA3 m3=>?_;have n3:=m3.next;have o3:=o2.keeps (m3.keeps f2) (by simp) (by simp) (by simp);have q3:=q2.keeps (m3.keeps f2) (by simp);refine m3.Bk.store m3.Ay (by omega) (Py _ _ _) rfl (by simp [Value.cells]) rfl λA4 p4 k4 n4 f4=>?_;have p4:Abs.Row1 A4 A2.next [.int .u32 ((nm 4 s).1:Int),.string .empty,.string .empty] 32:=p4;have o4:=o3.keeps k4 (by simp;omega) (by simp;omega) (λy hy=>by have:=hF y (hF2 y hy);simp;omega);have q4:=q3.keeps k4 (by simp;omega);refine US o4 f4 (by omega) (by omega) λA5 F5 o5 k5 n5 f5 hF5=>?_;have l5:=k5.next;have hs5:=HZ (nm 4 s).2;have p5:=p4.keeps k5 (by simp;omega);have q5:=q4.keeps k5 (by simp;omega);simp only [LB,Is,Ab,Nat.zero_add];refine p5.store f5 (by omega) (RI _ _ _) rfl (by simp) rfl λA6 p6 k6 n6 f6=>?_;have p6:Abs.Row1 A6 A2.next [.int .u32 ((nm 4 s).1:Int),.string ⟨⟨(tx1 (nm 4 s).2).1⟩⟩,.string .empty] 32:=p6;have o6:=o5.keeps k6 (by simp;omega) (by simp;omega) (λy hy=>by have:=hF y (hF2 y (hF5 y hy));simp;omega);have q6:=q5.keeps k6 (by simp;omega);refine US o6 f6 (by omega) (by omega) λA7 F7 o7 k7 n7 f7 hF7=>?_;have l7:=k7.next;have p7:=p6.keeps k7 (by simp;omega);have q7:=q6.keeps k7 (by simp;omega);refine p7.store f7 (by omega) (RI _ _ _) rfl (by simp) rfl λA8 p8 k8 n8 f8=>?_;have p8:Abs.Row1 A8 A2.next [.int .u32 (rnF s:Int),.string ⟨⟨rnG s⟩⟩,.string ⟨⟨rnB s⟩⟩] 32:=p8;have o8:=o7.keeps k8 (by simp;omega) (by simp;omega) (λy hy=>by have:=hF y (hF2 y (hF5 y (hF7 y hy)));simp;omega);have q8:=q7.keeps k8 (by simp;omega);have t8:A8.cells? ⟨A2.next,0,none⟩ 3=some [.int .u32 (rnF s:Int),.string ⟨⟨rnG s⟩⟩,.string ⟨⟨rnB s⟩⟩]:=by rw [Bc p8.row];rfl
 simp only [EH,t8,Ab];refine q8.store f8 (by omega) (Py _ _ _) rfl (by simp [Value.cells]) rfl λA9 q9 k9 n9 f9=>?_;have q9:Abs.Row1 A9 A.next [.int .u32 (rnF s:Int),.string ⟨⟨rnG s⟩⟩,.string ⟨⟨rnB s⟩⟩] 32:=q9;have t9:A9.cells? ⟨A.next,0,none⟩ 3=some [.int .u32 (rnF s:Int),.string ⟨⟨rnG s⟩⟩,.string ⟨⟨rnB s⟩⟩]:=by rw [Bc q9.row];rfl
 simp only [EH,t9,Ab];have o9:=o8.keeps k9 (by simp;omega) (by simp;omega) (λy hy=>by have:=hF y (hF2 y (hF5 y (hF7 y hy)));simp;omega);refine hk A9 F7 o9 ?_ (by omega) f9 λy hy=>hF2 y (hF5 y (hF7 y hy));have a2:Ah A A2 [v]:=(m1.keeps hf).more (by simp) |>.trans k2 (λx hx=>.inl hx);have a3:Ah A A3 [v]:=a2.trans (m3.keeps f2) (by simp);have a4:Ah A A4 [v]:=a3.trans k4 (by simp;omega);have a5:Ah A A5 [v]:=a4.trans k5 (λx hx=>.inl hx);have a6:Ah A A6 [v]:=a5.trans k6 (by simp;omega);have a7:Ah A A7 [v]:=a6.trans k7 (λx hx=>.inl hx);have a8:Ah A A8 [v]:=a7.trans k8 (by simp;omega);exact a8.trans k9 (by simp)
end
variable {A:AW} {K:Value->AW->Prop} {v q f r:Nat} {F:List Nat} {sv:Value}
theorem Aht:BG Tp 33=some 85:=by kernel_rfl
theorem Ahs:szT Tp 85=some (4+1):=by kernel_rfl
theorem AiX:EB Tp 85=some 56:=by kernel_rfl
theorem AhL:C9 Tp 85 (4+1)=true:=by kernel_rfl
theorem Aey(A:AW)(b:Nat):BM Tp A 85 33 (4+1) (.slice (some ⟨b,0,none⟩) 1 1)=(match A.cells? ⟨b,0,none⟩ 5 with | some l=>some (1,l) | none=>none):=by kernel_rfl
theorem Ai0(A:AW)(n f st:Int)(g b:ByteArray):Aq Tp A 33 1 [(0,.agg ⟨[.int .u8 n,.int .u32 f,.string g,.string b,.int .u8 st]⟩)]=(match A.newRow [.int .u8 n,.int .u32 f,.string g,.string b,.int .u8 st] 85 with | some (a,w')=>.ok (.slice (some a) 1 1) w' | none=>.fail "buildSlice new"):=by kernel_rfl
theorem Zp{p:Pt}(hf:Aw A)(h:A.next<Aj)(hk:∀ A',Made A A' p.cells 85->K (.slice (some ⟨A.next,0,none⟩) 1 1) A'):Ao (Aq Tp A 33 1 [(0,.agg ⟨p.cells⟩)]) K:=by
 unfold Pt.cells;rw [Ai0];unfold AW.newRow AW.new;have hc:([Value.int .u8 (p.node:Int),.int .u32 (p.f:Int),.string p.g,.string p.b,.int .u8 (p.st:Int)]).all AK=true:=rfl;simp only [hc,Ct,AA.2 h];exact AT.2 (hk (A.push (.row p.cells 85 A.next 0 false)) ⟨AW.BR _ h,rfl,by rw [AW.BK _ h,if_pos rfl],hf.alone (Nl _),hf.push _ h⟩)
def pcs(l:List Pt):List Value:=flat Pt.cells l
theorem Yh(l:List Pt)(p:Pt):pcs (l++[p])=pcs l++p.cells:=by simp [pcs,flat]
theorem AeC(p:Pt):p.cells.length=5:=rfl
theorem Xe{v:Value}{l:List Pt}(h:Dq A 85 5 v l.length (pcs l) F):C4 A v l F:=by
 rcases h with ⟨rfl,hl,_,rfl⟩ | ⟨b,f,rfl,ho,rfl⟩
 ·exact .inl ⟨List.eq_nil_of_length_eq_zero hl,rfl,_,_,rfl⟩
 ·refine .inr ⟨b,0,_,_,_,f,0,false,rfl,ho.row,ho.ltf,rfl,λi p hi=>?_⟩;rw [Nat.zero_add];exact DM AeC l i p hi
section
variable {W0:World} {m0:Inj Tp}
noncomputable def Rb(W0:World)(m0:Inj Tp)(Q:Value->AW->Prop)(d0 d2 d4:Value)(A:AW):Prop:=(Aa (Ae Tp A 35 d4) λt33=>Wc Tp Al W0 m0 87 [d0] A λt34 At34=>Aa (Ae Tp At34 35 d4) λt35=>eqW t35 t33 (Aa (unA Tp .not t34) λt36=>Ai t36 (Aa (Ae Tp At34 35 d4) λt37=>Wc Tp Al W0 m0 43 [t37] At34 λt38 At38=>Aa (Ae Tp At38 35 d4) λt39=>eqW t39 t33 (Aa (An Tp .eql 26 (.tmp 40) (.const (.int .i64 0)) t38 (.int .i64 0)) λt40=>Be (Av Tp At38 35 d2 t33) λAt41=>eqW t40 t40 (Aa (An Tp .eql 26 (.tmp 40) (.const (.int .i64 0)) t38 (.int .i64 0)) λt42=>eqW t42 t40 (Aa (Ae Tp At41 35 d2) λt43=>Q (.tuple ⟨[t43,t40]⟩) At41)))) (Aa (Ae Tp At34 35 d4) λt44=>eqW t44 t33 (Be (Av Tp At34 35 d2 t33) λAt45=>eqW (.bool false) (.bool false) (eqW undef undef (Aa (Ae Tp At45 35 d2) λt46=>Q (.tuple ⟨[t46,(.bool false)]⟩) At45))))))
theorem Hi{g b:ByteArray}(h:Abs.Row1 A q (By f g b sv) 35)(hs:isTuple sv=false):Ae Tp A 35 (pP q 0)=some (Fh f g b sv):=by
 rw [AbF,Bc h.row];simp [By,Bh,AI,AG,hs,Fh]
theorem UE {t:Nat} {s:St} {Fp:List Nat} {g b:List UInt8} {zs:List Value} {l:List Pt} {Q:Value->AW->Prop} (h:OR A r v s.1 s.2 F) (hq:Abs.Row1 A q (By f ⟨⟨g⟩⟩ ⟨⟨b⟩⟩ sv) 35) (ht:Abs.Row1 A t zs 35) (hz:zs.length=4) (hqt:q≠t) (hl:C4 A sv l Fp)
  (hf:Aw A) (hA:A.next+60<Aj) (hn:l.length<1000000) (hFp:t∉Fp) (hrt:r≠t) (hvt:v≠t) (hFt:t∉F)
  (hk:∀ A',OR A' r v s.1 s.2 F->C4 A' sv l Fp->Ah A A' [t]->A'.next<=A.next+40->Aw A'->Q (.tuple ⟨[Fh f ⟨⟨g⟩⟩ ⟨⟨b⟩⟩ sv,.bool (okD f g b l s)]⟩) A'):Rb W0 m0 Q (pP r 0) (pP t 0) (pP q 0) A:=by
 have hone:=hl.one;have hst:∀ A',Av Tp A' 35 (pP t 0) (Fh f ⟨⟨g⟩⟩ ⟨⟨b⟩⟩ sv)=(bif Nat.beq (Fh f ⟨⟨g⟩⟩ ⟨⟨b⟩⟩ sv).cells.toList.length 4 then A'.setCells ⟨t,0,none⟩ (Fh f ⟨⟨g⟩⟩ ⟨⟨b⟩⟩ sv).cells.toList else none):=λA'=>XP A' _ _;have hset:Gg zs 0 (Fh f ⟨⟨g⟩⟩ ⟨⟨b⟩⟩ sv).cells.toList=By f ⟨⟨g⟩⟩ ⟨⟨b⟩⟩ sv:=by
  match zs,hz with
  |[z0,z1,z2,z3],_=>rfl
 have hall:(Fh f ⟨⟨g⟩⟩ ⟨⟨b⟩⟩ sv).cells.toList.all AK=true:=by simp [Fh,By,Value.cells,M7,Ii,hone.1]
 unfold Rb;simp only [Hi hq hone.2,Ab];refine VN h ?_;simp only [Hi hq hone.2,Ab,AR,Bl];refine Ag.2 ⟨λhb=>?_,λhb=>?_⟩
 ·refine AdJ (f:=f) (g:=⟨⟨g⟩⟩) (b:=⟨⟨b⟩⟩) hf (by omega) hl hn λA2 g2=>?_;have n2:=g2.next;have l2:=g2.le;have q2:=hq.keeps g2.keeps (by simp);have t2:=ht.keeps g2.keeps (by simp);have h2:=h.keeps g2.keeps (by simp) (by simp) (by simp);have hl2:=hl.keeps g2.keeps (by simp);simp only [Hi q2 hone.2,Ab,AR,B8];refine t2.store g2.Ay (by omega) (hst _) rfl (by rw [hz];exact Nl 4) hall λA3 t3 k3 n3 f3=>?_;rw [hset] at t3;simp only [Hi t3 hone.2,Ab];have h3:=h2.keeps k3 (by simpa using hrt) (by simpa using hvt) (λy hy=>by simp;intro e;subst e;exact hFt hy);have hl3:=hl2.keeps k3 (λy hy=>by simp;intro e;subst e;exact hFp hy)
  have:=hk A3 h3 hl3 (g2.keeps.more (by simp) |>.trans k3 (λx hx=>.inl hx)) (by omega) f3
  have e:okD f g b l s=(Jk f ⟨⟨g⟩⟩ ⟨⟨b⟩⟩ l==0):=by unfold okD;rw [hb,Bool.true_and]
  rw [e] at this;exact this
 ·refine ht.store hf (by omega) (hst _) rfl (by rw [hz];exact Nl 4) hall λA3 t3 k3 n3 f3=>?_;rw [hset] at t3;simp only [Hi t3 hone.2,Ab,AR];have h3:=h.keeps k3 (by simpa using hrt) (by simpa using hvt) (λy hy=>by simp;intro e;subst e;exact hFt hy);have hl3:=hl.keeps k3 (λy hy=>by simp;intro e;subst e;exact hFp hy)
  have:=hk A3 h3 hl3 k3 (by omega) f3
  have e:okD f g b l s=false:=by unfold okD;rw [hb,Bool.false_and]
  rw [e] at this;exact this
theorem AdC {s : St} (h : OR A r v s.1 s.2 F) (hf : Aw A) (hA : A.next + 6000 < Aj) (hl : s.1.length < 1000000)
    (hk : ∀ A' sv Fp F', OR A' r v (dcS s).1 (dcS s).2 F' -> C4 A' sv (dcP s) Fp -> (∀ y ∈ Fp, A.next <= y) -> Ah A A' [v] -> A'.next <= A.next + 5500 -> Aw A' -> (∀ y ∈ F', y ∈ F) -> (dcP s).length <= 256 -> K (.tuple ⟨[Fh (rnF s) ⟨⟨rnG s⟩⟩ ⟨⟨rnB s⟩⟩ sv, .bool (WV s)]⟩) A') : Wc Tp Al W0 m0 86 [pP r 0] A K := by
  have hroom : room = 68719476736 := rfl
  have hF : ∀ y ∈ F, y < A.next := by obtain ⟨bs, h1, h2⟩ := h.ex; exact h2.rd.lt
  have hv : v < A.next := by obtain ⟨bs, h1, h2⟩ := h.ex; exact h1.lt
  have hr : r < A.next := h.rr.lt
  let I : Nat -> Nat -> List Value -> AW -> Prop := λg' id vals A' => id = 0 /\ ∃ (k : Nat) (s' : St) (acc : List Pt) (sv : Value) (Fp F' : List Nat) (q : Nat), vals = [pP r 0, pP A.next 0, pP q 0, .int .u64 (k : Int)] /\
    ps k s' acc = (dcP s, dcS s) /\ k + acc.length <= 256 /\ s'.1.length < 1000000 /\ A.next < q /\ Abs.Row1 A' A.next [.int .u32 0, .string .empty, .string .empty, .slice none 0 0] 35 /\ Abs.Row1 A' q (By (rnF s) ⟨⟨rnG s⟩⟩ ⟨⟨rnB s⟩⟩ sv) 35 /\ Dq A' 85 5 sv acc.length (pcs acc) Fp /\ (∀ y ∈ Fp, q < y) /\
    OR A' r v s'.1 s'.2 F' /\ (∀ y ∈ F', y ∈ F) /\ Ah A A' [v] /\ A'.next + 18 * k <= A.next + 5000 /\ Aw A' /\ g' = k
  have fin : ∀ (A' : AW) (k : Nat) (s' : St) (acc : List Pt) (sv : Value) (Fp F' : List Nat) (q : Nat), (k = 0 \/ s'.2 = true) -> ps k s' acc = (dcP s, dcS s) -> k + acc.length <= 256 -> A.next < q -> Abs.Row1 A' A.next [.int .u32 0, .string .empty, .string .empty, .slice none 0 0] 35 -> Abs.Row1 A' q (By (rnF s) ⟨⟨rnG s⟩⟩ ⟨⟨rnB s⟩⟩ sv) 35 -> Dq A' 85 5 sv acc.length (pcs acc) Fp -> (∀ y ∈ Fp, q < y) ->
      OR A' r v s'.1 s'.2 F' -> (∀ y ∈ F', y ∈ F) -> Ah A A' [v] -> A'.next <= A.next + 5000 -> Aw A' -> Rb W0 m0 K (pP r 0) (pP A.next 0) (pP q 0) A' := by
    intro A' k s' acc sv Fp F' q hend hps hka hq hR hD hO hFp ho hF' kp hnx hf'
    have e : (acc, s') = (dcP s, dcS s) := by
      rw [<- hps]
      cases k with
      | zero => rfl
      | succ k => rcases hend with h | h
                  · cases h
                  · rw [ps, if_pos h]
    obtain ⟨e1, e2⟩ := Prod.mk.inj e
    subst e1
    subst e2
    refine UE (s := dcS s) ho hD hR rfl (by omega) (Xe hO) hf' (by omega) (by omega) (λh => by have := hFp _ h; omega) (by omega) (by omega) (λh => by have := hF _ (hF' _ h); omega) λA2 o2 r2 k2 n2 f2 => ?_
    exact hk A2 sv Fp F' o2 r2 (λy hy => by have := hFp y hy; omega) (kp.trans k2 (by simp)) (by omega) f2 hF' (by omega)
  refine w86 _ _ (c86 (I := I) ?_) ?_
  · rintro g' id vals A' d ⟨rfl, k, s', acc, sv, Fp, F', q, rfl, hps, hka, hsl, hq, hR, hD, hO, hFp, ho, hF', kp, hnx, hf', hgk⟩ hd
    rw [Ae5]
    simp only [L86, Mc, Mn, Li, and_true] at hd
    obtain ⟨h0, h2, h4, h5⟩ := hd
    have hle := kp.next
    have hql := hD.lt
    simp only [h0, h2, h4, h5, B3, Ab, Az]
    refine ⟨λhpos => ?_, λhz => fin A' k s' acc sv Fp F' q (.inl (by omega)) hps hka hq hR hD hO hFp ho hF' kp (by omega) hf'⟩
    obtain ⟨k, rfl⟩ : ∃ j, k = j + 1 := ⟨k - 1, by omega⟩
    refine VN ho ?_
    simp only [Bl, Ab]
    refine Ag.2 ⟨λhb => ?_, λhb => fin A' (k + 1) s' acc sv Fp F' q (.inr (by simpa using hb)) hps hka hq hR hD hO hFp ho hF' kp (by omega) hf'⟩
    have hb : s'.2 = false := by simpa using hb
    rw [ps, Ff (by simp [hb])] at hps
    refine Ry (w := 1) ho hf' (by omega) hsl (by omega) λA1 F1 o1 k1 n1 f1 hF1 => ?_
    have l1 := k1.next
    have hn1 : (nm 1 s').1 < 256 := Vc 1 s'
    have hs1 := Gw 1 s'
    simp only [S3, AT]
    rw [wrap_u8, show ((nm 1 s').1 : Int) % 256 = ((nm 1 s').1 : Int) by omega, Af3]
    simp only [Ab]
    refine AH TF f1 (by omega) rfl λA2 m2 => ?_
    have n2 := m2.next
    refine m2.Bk.store m2.Ay (by omega) (XN _ _ _) rfl (by simp [Value.cells]) rfl λA3 p3 k3 n3 f3 => ?_
    have p3 : Abs.Row1 A3 A1.next [.int .u8 ((nm 1 s').1 : Int), .int .u32 0, .string .empty, .string .empty, .int .u8 0] 85 := p3
    have hvA : v ∉ [A1.next] := by simp; omega
    have hrA : r ∉ [A1.next] := by simp; omega
    have o3 := (o1.keeps (m2.keeps f1) (by simp) (by simp) (by simp)).keeps k3 hrA hvA (λy hy => by have := hF y (hF' y (hF1 y hy)); simp; omega)
    refine Abj o3 f3 (by omega) (by omega) λA4 F4 o4 k4 n4 f4 hF4 => ?_
    have l4 := k4.next
    have p4 := p3.keeps k4 (by simp; omega)
    simp only [Ly, Ab, Nat.zero_add]
    refine p4.store f4 (by omega) (Py _ _ _) rfl (by simp [Value.cells, Fj]) rfl λA5 p5 k5 n5 f5 => ?_
    have p5 : Abs.Row1 A5 A1.next (pt s').cells 85 := p5
    have o5 := o4.keeps k5 hrA hvA (λy hy => by have := hF y (hF' y (hF1 y (hF4 y hy))); simp; omega)
    have kA1 : Ah A' A1 [v] := k1
    have kA5 : Ah A' A5 [v] := (((kA1.trans (m2.keeps f1) (by simp)).trans k3 (by simp; omega)).trans k4 (λx hx => .inl hx)).trans k5 (by simp; omega)
    have hvF : v ∉ Fp := λh => by have := hFp _ h; omega
    have D5 := hD.keeps kA5 (by simp; omega)
    have R5 := hR.keeps kA5 (by simp; omega)
    have O5 := hO.keeps kA5 (λy hy => by have := hFp y hy; simp; omega)
    have hOlt := hO.lt
    have t5 : A5.cells? ⟨A1.next, 0, none⟩ 5 = some (pt s').cells := by rw [Bc p5.row]; rfl
    simp only [E4, I5, YJ, t5, Af D5.row, By, cellOf, AI, AG, O5.one.2, Cf, Ab, Nat.zero_add]
    refine Zp f5 (by omega) λA6 m6 => ?_
    have n6 := m6.next
    have O6 := O5.keeps (m6.keeps f5) (by simp)
    have hsrc : BM Tp A6 85 33 (4 + 1) (.slice (some ⟨A5.next, 0, none⟩) 1 1) = some (0 + 1, (pt s').cells) := by
      rw [Aey, Bc m6.row]
      rfl
    refine JT Aht Ahs AiX AhL hsrc rfl rfl O6 m6.Ay (by omega) (by omega) (by omega) λv7 A7 F7 O7 k7 hF7 n7 f7 => ?_
    have hq6 : q ∉ Fp := λh => by have := hFp _ h; omega
    have hr6 : A.next ∉ Fp := λh => by have := hFp _ h; omega
    have D7 := (D5.keeps (m6.keeps f5) (by simp)).keeps k7 hq6
    have R7 := (R5.keeps (m6.keeps f5) (by simp)).keeps k7 hr6
    have o7 := (o5.keeps (m6.keeps f5) (by simp) (by simp) (by simp)).keeps k7 (λh => by have := hFp _ h; omega) hvF (λy hy h => by have := hF y (hF' y (hF1 y (hF4 y hy))); have := hFp _ h; omega)
    obtain ⟨vo, vn, vc, hv7⟩ : ∃ o n c, v7 = .slice o n c := by
      rcases O7 with ⟨h, _⟩ | ⟨_, _, h, _⟩ <;> exact ⟨_, _, _, h⟩
    refine D7.store f7 (by omega) (XQ _ _ _) (by rw [hv7]; rfl) (by simp [By]) (by rw [hv7]; rfl) λA8 D8 k8 n8 f8 => ?_
    have D8 : Abs.Row1 A8 q (By (rnF s) ⟨⟨rnG s⟩⟩ ⟨⟨rnB s⟩⟩ v7) 35 := by rw [hv7] at D8 ⊢; exact D8
    simp only [Db, Ab]
    rw [wrap_u64 (by omega) (by omega), show ((k + 1 : Nat) : Int) - 1 = (k : Int) by omega]
    have hF7' : ∀ y ∈ F7, q < y := λy hy => by
      rcases hF7 y hy with h | h
      · exact hFp y h
      · omega
    have kA7 : Ah A A7 [v] := ((kp.trans kA5 (λx hx => .inl hx)).trans (m6.keeps f5) (by simp)).trans k7 (λx hx => .inr (by have := hFp x hx; omega))
    refine Au.2 ⟨k, by omega, rfl, k, _, acc ++ [pt s'], v7, F7, F4, q, rfl, hps, by rw [Lq]; simp; omega, ?_, hq, R7.keeps k8 (by simp; omega), D8, ?_, hF7', o7.keeps k8 (by simp; omega) (by simp; omega) (λy hy => by have := hF y (hF' y (hF1 y (hF4 y hy))); simp; omega), λy hy => hF' y (hF1 y (hF4 y hy)), kA7.trans k8 (by simp; omega), by omega, f8, rfl⟩
    · have := NG (nm 1 s').2; omega
    · rw [Yh, Lq]
      exact O7.keeps k8 (λy hy => by have := hF7' y hy; simp; omega)
  · rw [e86]
    refine AH Qk hf (by omega) rfl λA1 m1 => ?_
    have n1 := m1.next
    have o1 := h.keeps (m1.keeps hf) (by simp) (by simp) (by simp)
    refine Abj o1 m1.Ay (by omega) hl λA2 F2 o2 k2 n2 f2 hF2 => ?_
    have l2 := k2.next
    have R2 : Abs.Row1 A2 A.next [.int .u32 0, .string .empty, .string .empty, .slice none 0 0] 35 := m1.Bk.keeps k2 (by simp; omega)
    have hx : Fj (rnF s : Int) ⟨⟨rnG s⟩⟩ ⟨⟨rnB s⟩⟩ = .agg ⟨[.int .u32 (rnF s : Int), .string ⟨⟨rnG s⟩⟩, .string ⟨⟨rnB s⟩⟩]⟩ := rfl
    rw [hx, AbP]
    simp only [Ab]
    refine AH Qk f2 (by omega) rfl λA3 m3 => ?_
    have n3 := m3.next
    refine m3.Bk.store m3.Ay (by omega) (XP _ _ _) rfl (by simp [Value.cells]) rfl λA4 D4 k4 n4 f4 => ?_
    have D4 : Abs.Row1 A4 A2.next (By (rnF s) ⟨⟨rnG s⟩⟩ ⟨⟨rnB s⟩⟩ (.slice none 0 0)) 35 := D4
    have o4 := (o2.keeps (m3.keeps f2) (by simp) (by simp) (by simp)).keeps k4 (by simp; omega) (by simp; omega) (λy hy => by have := hF y (hF2 y hy); simp; omega)
    have R4 := (R2.keeps (m3.keeps f2) (by simp)).keeps k4 (by simp; omega)
    have hs4 := NG s
    refine Ry (w := 1) o4 f4 (by omega) (by omega) (by omega) λA5 F5 o5 k5 n5 f5 hF5 => ?_
    have hn5 : (nm 1 (rnS s)).1 < 256 := Vc 1 (rnS s)
    have hs5 := Gw 1 (rnS s)
    refine Au.2 ⟨_, rfl, (nm 1 (rnS s)).1, (nm 1 (rnS s)).2, [], .slice none 0 0, [], F5, A2.next, rfl, rfl, by simp; omega, by omega, by omega, R4.keeps k5 (by simp; omega), D4.keeps k5 (by simp; omega), Dq.nil _ _ _, by simp, o5, λy hy => hF2 y (hF5 y hy), ?_, by omega, f5, rfl⟩
    have a2 : Ah A A2 [v] := (m1.keeps hf).more (by simp) |>.trans k2 (λx hx => .inl hx)
    exact ((a2.trans (m3.keeps f2) (by simp)).trans k4 (by simp; omega)).trans k5 (λx hx => .inl hx)
end
section
variable {W0:World} {m0:Inj Tp}
theorem DR {A:AW} {t f:Nat} {g b:ByteArray} {sv:Value} {zs:List Value} {K:AW->Prop} (ht:Abs.Row1 A t zs 35) (hz:zs.length=4) (hs:AK sv=true) (hf:Aw A) (hA:A.next<=Aj)
  (hk:∀ A',Abs.Row1 A' t (By f g b sv) 35->Ah A A' [t]->A'.next=A.next->Aw A'->K A'):Be (Av Tp A 35 (pP t 0) (Fh f g b sv)) K:=by
 have hset:Gg zs 0 (Fh f g b sv).cells.toList=By f g b sv:=by
  match zs,hz with
  |[z0,z1,z2,z3],_=>rfl
 refine ht.store hf hA (XP _ _ _) rfl (by rw [hz];exact Nl 4) (by simp [Fh,By,Value.cells,M7,Ii,hs]) λA3 t3 k3 n3 f3=>?_;rw [hset] at t3;exact hk A3 t3 k3 n3 f3
def Aao:Value:=Fh 0 ⟨⟨[]⟩⟩ ⟨⟨[]⟩⟩ (.slice none 0 0)
theorem AbQ:Bd Tp 35 []=some Aao:=Ai6
theorem C4.nil(A:AW):C4 A (.slice none 0 0) [] []:=.inl ⟨rfl,rfl,_,_,rfl⟩
theorem Agm {s:ByteArray} {A:AW} {K:Value->AW->Prop} (hf:Aw A) (hA:A.next+7000<Aj) (hs:s.data.toList.length<1000000)
  (hk:∀ A' sv Fp,C4 A' sv (gPs s.data.toList) Fp->(∀ y∈Fp,A.next<=y)->Ah A A' []->A'.next<=A.next+6000->Aw A'->K (.tuple ⟨[Fh (gF s.data.toList) ⟨⟨gG s.data.toList⟩⟩ ⟨⟨gB s.data.toList⟩⟩ sv,.int .i64 (goE s.data.toList)]⟩) A'):Wc Tp Al W0 m0 89 [.string s] A K:=by
 have bad:∀ A',gok s.data.toList=false->Ah A A' []->A'.next<=A.next+6000->Aw A'->K (.tuple ⟨[Aao,.int .i64 260]⟩) A':=λA' hb k n f=>by
  have:=hk A' (.slice none 0 0) [] (by unfold gPs;rw [hb];exact .nil _) (by simp) k n f
  unfold gF gG gB goE at this;rw [hb] at this;exact this
 refine w89 _ _ BD ?_;rw [e89];refine AH Qk hf (by omega) rfl λA1 m1=>?_;have n1:=m1.next;refine KI m1.Ay (by omega) λA2 g2 s2=>?_;have n2:=g2.next;have l2:=g2.le;refine ZS s2 g2.Ay (by omega) hs λA3 r v F3 g3 o3 hr3 hv3 hF3=>?_;have n3:=g3.next;have l3:=g3.le;have R3:=(m1.Bk.keeps g2.keeps (by simp)).keeps g3.keeps (by simp);have vlt:v<A3.next:=by obtain ⟨bs,h1,_⟩:=o3.ex;exact h1.lt
 refine AdC (s:=(s.data.toList,false)) o3 g3.Ay (by omega) hs λA4 sv Fp F4 o4 p4 hp4 k4 n4 f4 hF4 _=>?_;have l4:=k4.next;have R4:=R3.keeps k4 (by simp;omega);simp only [Ap,List.getElem?_cons_zero,List.getElem?_cons_succ,Ab];refine AH Qk f4 (by omega) rfl λA5 m5=>?_;have n5:=m5.next;refine DR m5.Bk rfl p4.one.1 m5.Ay (by omega) λA6 t6 k6 n6 f6=>?_;have R6:=(R4.keeps (m5.keeps f4) (by simp)).keeps k6 (by simp;omega);have hFp:∀ y∈Fp,y<A4.next:=p4.fam (A0:=A4);have p6:=(p4.keeps (m5.keeps f4) (by simp)).keeps k6 (λy hy=>by have:=hFp y hy;simp;omega);have K3:Ah A A3 []:=((m1.keeps hf).trans g2.keeps (by simp)).trans g3.keeps (by simp);have K6:Ah A A6 []:=((K3.trans k4 (by simp;omega)).trans (m5.keeps f4) (by simp)).trans k6 (by simp;omega);have hle6:=K6.next;simp only [Bl,Ab];refine Ag.2 ⟨λhb=>?_,λhb=>?_⟩
 ·have hg:gok s.data.toList=false:=by unfold gok;rw [show WV (s.data.toList,false)=false by simpa using hb];rfl
  rw [AbQ];simp only [Ab];refine DR R6 rfl rfl f6 (by omega) λA7 t7 k7 n7 f7=>?_;rw [Hi t7 rfl];simp only [Ab];exact bad A7 hg (K6.trans k7 (by simp)) (by omega) f7
 ·have hok:WV (s.data.toList,false)=true:=by simpa using hb
  have o6:=(o4.keeps (m5.keeps f4) (by simp) (by simp) (by simp)).keeps k6 (by simp;have:=o4.rr.lt;omega) (by simp;omega) (λy hy=>by obtain ⟨bs,_,h2⟩:=o4.ex;have:=h2.rd.lt y hy;simp;omega);refine UT o6 ?_;simp only [B3,Ab,Az];refine ⟨λhgt=>?_,λhle=>?_⟩
  ·have hg:gok s.data.toList=false:=by
    unfold gok;rw [hok,Bool.true_and];exact beq_false_of_ne (by omega)
   rw [AbQ];simp only [Ab];refine DR R6 rfl rfl f6 (by omega) λA7 t7 k7 n7 f7=>?_;rw [Hi t7 rfl];simp only [Ab];exact bad A7 hg (K6.trans k7 (by simp)) (by omega) f7
  ·have hg:gok s.data.toList=true:=by
    unfold gok;rw [hok,Bool.true_and,beq_iff_eq];omega
   rw [Hi t6 p4.one.2];simp only [Ab];refine DR R6 rfl p4.one.1 f6 (by omega) λA7 t7 k7 n7 f7=>?_;rw [Hi t7 p4.one.2];simp only [Ab]
   have:=hk A7 sv Fp (by unfold gPs;rw [hg,if_pos rfl];exact p6.keeps k7 (λy hy=>by have:=hp4 y hy;simp;omega)) (λy hy=>by have:=hp4 y hy;omega) (K6.trans k7 (by simp)) (by omega) f7
   unfold gF gG gB goE at this;rw [hg,if_pos rfl,if_pos rfl,if_pos rfl,if_pos rfl] at this;exact this
end
section
variable {W0:World} {m0:Inj Tp}
end
end
section
open Go.Jr Go.Abs
noncomputable def CL(a b:Nm):Bool:=@decide (a=b) (Classical.propDecidable _)
theorem CK{a b:Nm}:CL a b=true↔a=b:=by unfold CL;exact @decide_eq_true_iff _ (Classical.propDecidable _)
theorem Sx{a b:Nm}:CL a b=false↔a≠b:=by rw [<- Bool.not_eq_true,CK]
theorem PX(a:Nm):CL a a=true:=CK.2 rfl
inductive Say
 |com (d:Dc)
 |fin (x:Nm)
def Say.rc:Say->Rec
 |.com d=>(1,d.by)
 |.fin x=>(2,xnB x)
noncomputable def nx(l:List Dc):Say->List Dc
 |.com d=>l++[d]
 |.fin x=>l.filter λd=>!CL x d.x
def ok1(l:List Dc):Say->Prop
 |.com d=>d.ok/\d.x∉l.map Dc.x
 |.fin x=>x∈l.map Dc.x
noncomputable def BY(l:List Dc)(a:List Say):List Dc:=a.foldl nx l
def FC(l:List Dc)(a:List Say):Prop:=∀ i y,a[i]? =some y->ok1 (BY l (a.take i)) y
structure Uq (l:List Dc):Prop where
 ok:∀ d∈l,d.ok
 nd:(l.map Dc.x).Nodup
theorem Uq.nil:Uq []:=⟨by simp,by simp⟩
theorem Uq.snoc{l:List Dc}{d:Dc}(h:Uq l)(hd:d.ok)(hn:d.x∉l.map Dc.x):Uq (l++[d]):=by
 refine ⟨λx hx=>?_,?_⟩
 ·rcases Mz.1 hx with hx | hx
  ·exact h.ok x hx
  ·rw [Ms.1 hx];exact hd
 ·rw [List.map_append,List.nodup_append];refine ⟨h.nd,by simp,λa ha b hb hab=>hn ?_⟩;obtain rfl:b=d.x:=by simpa using hb
  exact hab▸ha
theorem Uq.filter{l:List Dc}(p:Dc->Bool)(h:Uq l):Uq (l.filter p):=⟨λd hd=>h.ok d (List.mem_filter.1 hd).1,h.nd.sublist (List.filter_sublist.map _)⟩
theorem Uq.nx{l:List Dc}{a:Say}(h:Uq l)(ha:ok1 l a):Uq (nx l a):=by
 cases a with
 |com d=>exact h.snoc ha.1 ha.2
 |fin x=>exact h.filter _
theorem Kq(l:List Dc)(a:List Say)(y:Say):BY l (a++[y])=nx (BY l a) y:=by unfold BY;rw [List.foldl_append];rfl
theorem HC(l:List Dc):BY l []=l:=rfl
theorem FC.nil(l:List Dc):FC l []:=λi y h=>by simp at h
theorem FC.snoc{l:List Dc}{a:List Say}{y:Say}(h:FC l a)(hy:ok1 (BY l a) y):FC l (a++[y]):=by
 intro i z hz;by_cases hi:i<a.length
 ·rw [List.getElem?_append_left hi] at hz;rw [List.take_append_of_le_length (Nat.le_of_lt hi)];exact h i z hz
 ·rw [List.getElem?_append_right (by omega)] at hz;have h0:i-a.length=0:=by
   rcases Nat.eq_zero_or_pos (i-a.length) with h0 | h0
   ·exact h0
   ·rw [List.getElem?_eq_none (by simp;omega)] at hz;cases hz
  rw [h0] at hz;obtain rfl:y=z:=by simpa using hz
  have:i=a.length:=by omega
  rw [this,List.take_left];exact hy
theorem B9{α:Type}{l:List α}{i:Nat}{p:α}(h:l[i]? =some p):l.take (i+1)=l.take i++[p]:=by rw [List.take_add_one,h];rfl
theorem Lg{l:List Dc}{a:List Say}(h:Uq l)(ha:FC l a):∀ i,i<=a.length->Uq (BY l (a.take i))
 |0,_=>by rw [List.take_zero,HC];exact h
 |i+1,hi=>by
  have hy:a[i]? =some a[i]:=Ge (by omega);rw [B9 hy,Kq];exact (Lg h ha i (by omega)).nx (ha i _ hy)
noncomputable def getD(l:List Dc)(x:Nm):Option Dc:=l.find? λd=>CL x d.x
theorem Oc{l:List Dc}(h:(l.map Dc.x).Nodup){d:Dc}(hd:d∈l):getD l d.x=some d:=by
 induction l with
 |nil=>cases hd
 |cons e r ih=>
  rw [Mc,List.nodup_cons] at h;unfold getD;rw [List.find?_cons];rcases Mk.1 hd with rfl | hd
  ·rw [PX]
  ·have hne:CL d.x e.x=false:=Sx.2 λhe=>h.1 (he▸List.mem_map_of_mem hd);rw [hne];exact ih h.2 hd
theorem getD_some{l:List Dc}{x:Nm}{d:Dc}(h:getD l x=some d):d∈l/\d.x=x:=by
 unfold getD at h;exact ⟨List.mem_of_find?_eq_some h,(CK.1 (List.find?_some (p:=λd:Dc=>CL x d.x) h)).symm⟩
theorem getD_none{l:List Dc}{x:Nm}:getD l x=none↔x∉l.map Dc.x:=by
 unfold getD;rw [List.find?_eq_none];constructor
 ·intro h hm;obtain ⟨d,hd,rfl⟩:=List.mem_map.1 hm;exact h d hd (PX _)
 ·intro h d hd hk;exact h (List.mem_map.2 ⟨d,hd,(CK.1 hk).symm⟩)
noncomputable def Bx(l:List Dc):List Dc:=(srt (l.map Dc.x)).filterMap (getD l)
theorem YW{l:List Dc}:∀ {n:List Nm},(∀ x∈n,x∈l.map Dc.x)->(n.filterMap (getD l)).map Dc.x=n
 |[],_=>rfl
 |x::r,h=>by
  have ih:=YW (l:=l) (n:=r) λy hy=>h y (by simp [hy]);cases hg:getD l x with
  |none=>exact absurd (h x (by simp)) (getD_none.1 hg)
  |some d=>
   rw [List.filterMap_cons,hg];simp only [Mc];rw [ih,(getD_some hg).2]
theorem Nx(l:List Dc):(Bx l).map Dc.x=srt (l.map Dc.x):=YW λ_ hx=>JG.1 hx
theorem Pz{n:List Nm}(h:n.Nodup):(srt n).Nodup:=(List.mergeSort_perm n _).symm.nodup h
theorem EZ{l:List Dc}(h:Uq l){d:Dc}:d∈Bx l↔d∈l:=by
 unfold Bx;rw [List.mem_filterMap];constructor
 ·rintro ⟨x,_,hx⟩;exact (getD_some hx).1
 ·intro hd;exact ⟨d.x,JG.2 (List.mem_map_of_mem hd),Oc h.nd hd⟩
theorem FH{l:List Dc}(h:Uq l):Uq (Bx l):=⟨λd hd=>h.ok d ((EZ h).1 hd),by rw [Nx];exact Pz h.nd⟩
theorem DX{l:List Dc}:(Bx l).length=l.length:=by
 have:=congrArg List.length (Nx l)
 rw [List.length_map] at this;rw [this];unfold srt;rw [List.length_mergeSort,List.length_map]
theorem Wx{l:List Dc}(h:Uq l)(x:Nm):getD (Bx l) x=getD l x:=by
 cases hg:getD l x with
 |none=>
  refine getD_none.2 λhm=>getD_none.1 hg ?_;rw [Nx] at hm;exact JG.1 hm
 |some d=>
  obtain ⟨h1,rfl⟩:=getD_some hg;exact Oc (FH h).nd ((EZ h).2 h1)
theorem VT{l:List Dc}(h:Uq l):Bx (Bx l)=Bx l:=by
 have h1:srt (srt (l.map Dc.x))=srt (l.map Dc.x):=Rn (Jz (Pz h.nd)) (Jz h.nd) λk=>JG;have h2:getD (Bx l)=getD l:=funext (Wx h);rw [Bx,h2,Nx,h1];rfl
def OS(p:List UInt8 × List Rec)(e:Nat)(L:List Dc):Prop:=
 ∃ L0 a,p.1=stB e (Bx L0)/\Uq L0/\L0.length<=43/\p.2=a.map Say.rc/\FC (Bx L0) a/\BY (Bx L0) a=L/\1<=e/\e<=1000
def IC(p:List UInt8 × List Rec)(e:Nat)(L:List Dc):Prop:=∃ L',OS p e L'/\L'.Perm L
theorem OS.uq{p:List UInt8 × List Rec}{e:Nat}{L:List Dc}(h:OS p e L):Uq L:=by
 obtain ⟨L0,a,_,h1,_,_,h2,rfl,_⟩:=h
 have:=Lg (FH h1) h2 a.length (Nl _)
 rwa [List.take_length] at this
theorem IC.put{st:List UInt8}{R:List Rec}{e:Nat}{L:List Dc}{y:Say}(h:IC (st,R) e L)(hy:ok1 L y):IC (st,R++[y.rc]) e (nx L y):=by
 obtain ⟨L',⟨L0,a,h1,h2,h3,h4,h5,rfl,h6⟩,hp⟩:=h;have h4:R=a.map Say.rc:=h4;subst h4;have hy':ok1 (BY (Bx L0) a) y:=by
  cases y with
  |com d=>exact ⟨hy.1,λhm=>hy.2 ((hp.map _).mem_iff.1 hm)⟩
  |fin x=>exact (hp.map _).mem_iff.2 hy
 refine ⟨_,⟨L0,a++[y],h1,h2,h3,by rw [List.map_append];rfl,h5.snoc hy',Kq _ _ _,h6⟩,?_⟩;cases y with
 |com d=>exact hp.append_right _
 |fin x=>exact hp.filter _
theorem IC.fresh{e:Nat}{L:List Dc}(h:Uq L)(hl:L.length<=43)(h1:1<=e)(h2:e<=1000):OS (stB e (Bx L),[]) e (Bx L):=
 ⟨L,[],rfl,h,hl,rfl,FC.nil _,rfl,h1,h2⟩
theorem Ua{l:List Dc}(h:(l.map Dc.x).Nodup):l.Nodup:=by
 induction l with
 |nil=>exact List.nodup_nil
 |cons d r ih=>
  rw [Mc,List.nodup_cons] at h;exact List.nodup_cons.2 ⟨λhm=>h.1 (List.mem_map_of_mem hm),ih h.2⟩
theorem PA{L:List Dc}(h:Uq L):(Bx L).Perm L:=
 (List.perm_ext_iff_of_nodup (Ua (FH h).nd) (Ua h.nd)).2 λ_=>EZ h
theorem ok1.len{L:List Dc}{y:Say}(h:ok1 L y)(hL:Uq L):y.rc.2.length<=1200/\y.rc.1≠0:=by
 cases y with
 |com d=>exact ⟨Nat.le_trans h.1.len (by omega),λe=>by cases e⟩
 |fin x=>
  obtain ⟨d,hd,rfl⟩:=List.mem_map.1 h;exact ⟨Nat.le_trans (hL.ok d hd).AbW.1 (by omega),λe=>by cases e⟩
variable {s:DS} {n:List UInt8} {q:JS} {r:Rec} {lim:Int} {i:Nat}
theorem Zx{f:Fls->Fls}{t:Bool}(h:s.down=false):((El s f t).2=0/\(El s f t).1.down=false)\/(El s f t).2=100:=by
 unfold El;split
 ·split
  ·exact .inr rfl
  ·exact .inl ⟨rfl,h⟩
 ·exact .inl ⟨rfl,h⟩
theorem Qh{b:List UInt8}(h:s.down=false):(Bg s n b).1.down=false\/(Bg s n b).2=100:=by
 unfold Bg;rw [Ff (by simp [h])];split
 ·exact .inl h
 ·split
  ·exact .inl h
  ·split
   ·exact .inl h
   ·rcases Zx (f:=λD=>Cm D n ((fileOf s.D n).1++b,(fileOf s.D n).2)) (t:=true) h with h1 | h1
    ·exact .inl h1.2
    ·exact .inr h1
theorem U0(h:s.down=false):(Ca s n).1.down=false\/(Ca s n).2=100:=by
 unfold Ca;rw [Ff (by simp [h])];split
 ·exact .inl h
 ·rename_i f _;rcases Zx (f:=λD=>Cm D n (f.1,f.1.length)) (t:=false) h with h1 | h1
  ·exact .inl h1.2
  ·exact .inr h1
theorem OM(hd:s.down=false)(hb:q.broken=false)(hr:r.1≠0):
  ((Ak s q r).2.2=0/\(Ak s q r).2.1.state=q.state/\(Ak s q r).2.1.l=q.l++[r]/\(Ak s q r).1.down=false)\/
  ((Ak s q r).2.2≠0/\(Ak s q r).2.1.state=q.state/\(Ak s q r).2.1.l=q.l/\((Ak s q r).1.down=true->(Ak s q r).2.1.broken=true)):=by
 unfold Ak;rw [Ff hr,Ff (by simp [hb])];simp only;split
 ·split
  ·exact .inr ⟨by simp,rfl,rfl,λh=>by rw [hd] at h;cases h⟩
  ·have h1:=U0 (n:=Jr.nm (q.row.getLast?.getD 0)) hd;split
   ·rename_i hne;refine .inr ⟨hne,rfl,rfl,λh=>?_⟩;rcases h1 with h1 | h1
    ·rw [h1] at h;cases h
    ·simp [CZ,h1]
   ·rename_i he;have he:(Ca s (Jr.nm (q.row.getLast?.getD 0))).2=0:=by simpa using he
    have hd1:(Ca s (Jr.nm (q.row.getLast?.getD 0))).1.down=false:=by
     rcases h1 with h1 | h1
     ·exact h1
     ·rw [he] at h1;cases h1
    have h2:=Qh (n:=Jr.nm (q.row.getLast?.getD 0+1)) (b:=AL r) hd1;split
    ·rename_i hne;refine .inr ⟨hne,rfl,rfl,λh=>?_⟩;rcases h2 with h2 | h2
     ·rw [h2] at h;cases h
     ·simp [CZ,h2]
    ·rename_i he2;have he2:(Bg (Ca s (Jr.nm (q.row.getLast?.getD 0))).1 (Jr.nm (q.row.getLast?.getD 0+1)) (AL r)).2=0:=by simpa using he2
     refine .inl ⟨rfl,rfl,rfl,?_⟩;rcases h2 with h2 | h2
     ·exact h2
     ·rw [he2] at h2;cases h2
 ·have h2:=Qh (n:=Jr.nm (q.row.getLast?.getD 0)) (b:=AL r) hd;split
  ·rename_i hne;refine .inr ⟨hne,rfl,rfl,λh=>?_⟩;rcases h2 with h2 | h2
   ·rw [h2] at h;cases h
   ·simp [CZ,h2]
  ·rename_i he2;have he2:(Bg s (Jr.nm (q.row.getLast?.getD 0)) (AL r)).2=0:=by simpa using he2
   refine .inl ⟨rfl,rfl,rfl,?_⟩;rcases h2 with h2 | h2
   ·exact h2
   ·rw [he2] at h2;cases h2
theorem Jq(hb:q.broken=true)(hr:r.1≠0):Ak s q r=(s,q,100):=by unfold Ak;rw [Ff hr,if_pos hb]
theorem XH(hd:s.down=false)(hb:q.broken=false):
  (BJ s q).2.1.state=q.state/\(BJ s q).2.1.l=q.l/\((BJ s q).1.down=true->(BJ s q).2.1.broken=true/\(BJ s q).2.2=100):=by
 unfold BJ;rw [Ff (by simp [hb])];refine ⟨rfl,rfl,λh=>?_⟩;rcases U0 (n:=Jr.nm (q.row.getLast?.getD 0)) hd with h1 | h1
 ·have h:(Ca s (Jr.nm (q.row.getLast?.getD 0))).1.down=true:=h;rw [h1] at h;cases h
 ·exact ⟨by simp [CZ,h1],h1⟩
theorem KU.nb{had:List Gf}(h:KU lim i s q had):q.broken=false/\s.down=false/\(q.state,q.l)∈had:=by
 obtain ⟨fu,n0,F,gs,g,c,hs,hq,hw⟩:=h;exact ⟨by rw [hq],by rw [hs],hw.here⟩
theorem PH:∀ gs:List (List Rec),AF gs.flatten=(gs.map AF).flatten
 |[]=>rfl
 |g::r=>by rw [List.flatten_cons,Du,PH r];rfl
theorem OE{had:List Gf}{st':List UInt8}(h:KU lim i s q had)(hf:s.Dj=0)(hi:i<88)(hl:st'.length<=50000):
  (AE s (namesS s.D) q st').2.2=0/\(AE s (namesS s.D) q st').2.1.state=st'/\(AE s (namesS s.D) q st').2.1.l=[]/\(AE s (namesS s.D) q st').1.down=false/\(AE s (namesS s.D) q st').1.Dj=0:=by
 obtain ⟨fu,n0,F,gs,g,c,hs,hq,hw⟩:=h;generalize hst:q.state=st at hq hw ⊢;generalize hRl:q.l=R at hq hw ⊢;subst hs hq;have hf:fu=0:=hf;subst hf;clear hst hRl;have hpr:(AL (0,st')).length=13+st'.length:=BQ (0,st');have hhi:=hw.hi;have h1n:=hw.n1;have el:((gs++[g]).map AF).length=gs.length+1:=by rw [List.length_map,Lq];rfl
 have hmf:FR fresh=true:=by decide
 have hm1:FR (Jr.nm (gs.length+n0+1))=true:=(HD _ (by omega)).2.1;have hfn:fresh∉namesS (Am n0 F ((gs++[g]).map AF)):=Ip n0 F _ (by omega);have hne:=Gq (n0:=n0) (F:=F) (bs:=(gs++[g]).map AF) (by omega);have hlf:BV (Am n0 F ((gs++[g]).map AF)) fresh=none:=by
  have:=DL hne []
  rw [List.append_nil] at this;rw [this];rfl
 have hfo:fileOf (Am n0 F ((gs++[g]).map AF)) fresh=([],0):=by unfold fileOf;rw [hlf];rfl
 have hused:IJ (Am n0 F ((gs++[g]).map AF))<=50013+i*1213:=by
  rw [IK];refine Nat.le_trans (Nat.le_of_eq ?_) (UY hw);rw [<- hw.flat]
  congr 1
  exact (PH _).symm
 have e1:Bg ⟨Am n0 F ((gs++[g]).map AF),400000,0,false⟩ fresh (AL (0,st'))=(⟨Am n0 F ((gs++[g]).map AF)++[(fresh,(AL (0,st'),0))],400000,0,false⟩,0):=by
  unfold Bg;simp only [Bool.false_eq_true,if_false,hmf,hfo,Ln];rw [Ff (by simp),Ff (by omega),Ff (by omega)];unfold El;simp only [Int.lt_irrefl,if_false,List.nil_append]
  have:=EW hne (AL (0,st'),0) []
  rw [List.append_nil] at this;rw [this];rfl
 have e2:Ca ⟨Am n0 F ((gs++[g]).map AF)++[(fresh,(AL (0,st'),0))],400000,0,false⟩ fresh=(⟨Am n0 F ((gs++[g]).map AF)++[(fresh,(AL (0,st'),(AL (0,st')).length))],400000,0,false⟩,0):=by
  unfold Ca;have hl:BV (Am n0 F ((gs++[g]).map AF)++[(fresh,(AL (0,st'),0))]) fresh=some (AL (0,st'),0):=by rw [DL hne];simp [BV]
  simp only [Bool.false_eq_true,if_false,hl];unfold El;simp only [Int.lt_irrefl,if_false];rw [EW hne];simp [Cm]
 have hnn:∀ e∈Am n0 F ((gs++[g]).map AF),e.1≠Jr.nm (gs.length+n0+1):=Gx (by omega) (by omega);have e3:Co ⟨Am n0 F ((gs++[g]).map AF)++[(fresh,(AL (0,st'),(AL (0,st')).length))],400000,0,false⟩ fresh (Jr.nm (gs.length+n0+1))=(⟨Am n0 F ((gs++[g]).map AF)++[(Jr.nm (gs.length+n0+1),(AL (0,st'),(AL (0,st')).length))],400000,0,false⟩,0):=by
  unfold Co;have hl:BV (Am n0 F ((gs++[g]).map AF)++[(fresh,(AL (0,st'),(AL (0,st')).length))]) fresh=some (AL (0,st'),(AL (0,st')).length):=by rw [DL hne];simp [BV]
  simp only [Bool.false_eq_true,if_false,hl,hmf,hm1,Bool.and_self];rw [Ff (by simp)];unfold El;simp only [Int.lt_irrefl,if_false];rw [Hn hne]
  have:=EW hnn (AL (0,st'),(AL (0,st')).length) []
  rw [List.append_nil] at this;rw [this];rfl
 have e4:=IU (room:=400000) ((gs++[g]).map AF) n0 F (AL (0,st'),(AL (0,st')).length) h1n (by omega);rw [el,show gs.length+1+n0=gs.length+n0+1 by omega] at e4;unfold AE;simp only [Bool.false_eq_true,if_false,Gu,Option.getD_some];rw [Ff (by omega),Ff (by omega)];rw [Ff hfn];simp only [ne_eq,not_true_eq_false,if_false,e1,e2,e3,e4];exact ⟨trivial,trivial,trivial,trivial,trivial⟩
def HH(e:Int):Int:=if e=3 then 6 else e
noncomputable def Ei(s:DS)(q:JS)(L:List Dc)(d:Dc):DS × JS × List Dc × Int:=
 if Jk d.f d.g d.b d.ps≠0 then (s,q,L,260) else
 if (getD L d.x).isSome=true then (s,q,L,8) else
 if (Ak s q (1,d.by)).2.2≠0 then ((Ak s q (1,d.by)).1,(Ak s q (1,d.by)).2.1,L,HH (Ak s q (1,d.by)).2.2) else
 if (BJ (Ak s q (1,d.by)).1 (Ak s q (1,d.by)).2.1).2.2≠0 then
  ((BJ (Ak s q (1,d.by)).1 (Ak s q (1,d.by)).2.1).1,(BJ (Ak s q (1,d.by)).1 (Ak s q (1,d.by)).2.1).2.1,L,(BJ (Ak s q (1,d.by)).1 (Ak s q (1,d.by)).2.1).2.2) else
 ((BJ (Ak s q (1,d.by)).1 (Ak s q (1,d.by)).2.1).1,(BJ (Ak s q (1,d.by)).1 (Ak s q (1,d.by)).2.1).2.1,L++[d],0)
noncomputable def FU(s:DS)(q:JS)(L:List Dc)(x:Nm):DS × JS × List Dc × Int:=
 if (getD L x).isSome=false then (s,q,L,7) else
 if (Ak s q (2,xnB x)).2.2≠0 then ((Ak s q (2,xnB x)).1,(Ak s q (2,xnB x)).2.1,L,HH (Ak s q (2,xnB x)).2.2) else
 ((Ak s q (2,xnB x)).1,(Ak s q (2,xnB x)).2.1,L.filter λd=>!CL x d.x,0)
structure Inv (i:Nat) (s:DS) (q:JS) (e:Nat) (L sure asked:List Dc):Prop where
 ex:∃ (k:Nat) (had:List Gf),k<=2*i+1/\(∀ p∈had,∃ L',IC p e L'/\(∀ d∈sure,d∈L')/\∀ d∈L',d∈asked)/\
  (s.down=false->KU 300 k s q had/\IC (q.state,q.l) e L/\∀ d∈sure,d∈L)/\(s.down=true->KX k s had/\q.broken=true)
 uq:Uq L
 sub:∀ d∈L,d∈asked
 few:asked.length<=i
 e1:1<=e
 e2:e<=i+1
theorem NT{γ:Type}:∀ {a b:List γ},a.Nodup->(∀ x∈a,x∈b)->a.length<=b.length
 |[],_,_,_=>Nat.zero_le _
 |x::a,b,hn,hs=>by
  obtain ⟨s,t,rfl⟩:=List.append_of_mem (hs x List.mem_cons_self);rw [List.nodup_cons] at hn
  have:=NT (a:=a) (b:=s++t) hn.2 λy hy=>by
   have hne:y≠x:=λe=>hn.1 (e▸hy);rcases Mz.1 (hs y (List.mem_cons_of_mem _ hy)) with h | h
   ·exact List.mem_append_left _ h
   ·rcases Mk.1 h with h | h
    ·exact absurd h hne
    ·exact List.mem_append_right _ h
  simp only [Lq,Lc] at *;omega
theorem Uq.len{L asked:List Dc}(h:Uq L)(hs:∀ d∈L,d∈asked):L.length<=asked.length:=NT (Ua h.nd) hs
section
variable {i:Nat} {s:DS} {q:JS} {e:Nat} {L sure asked:List Dc}
theorem Dx{l:List Dc}{x:Nm}:(getD l x).isSome=true↔x∈l.map Dc.x:=by
 cases hg:getD l x with
 |none=>simp [getD_none.1 hg]
 |some d=>
  obtain ⟨h1,rfl⟩:=getD_some hg;exact ⟨λ_=>List.mem_map_of_mem h1,λ_=>rfl⟩
theorem Inv.skip(h:Inv i s q e L sure asked){asked':List Dc}(ha:∀ d∈asked,d∈asked')(hl:asked'.length<=i+1){sure':List Dc}(hs:∀ d∈sure',d∈sure):Inv (i+1) s q e L sure' asked':=by
 obtain ⟨k,had,hk,hh,hu,hx⟩:=h.ex;refine ⟨⟨k,had,by omega,λp hp=>?_,λhd=>?_,hx⟩,h.uq,λd hd=>ha d (h.sub d hd),hl,h.e1,by have:=h.e2;omega⟩
 ·obtain ⟨L',h1,h2,h3⟩:=hh p hp;exact ⟨L',h1,λd hd=>h2 d (hs d hd),λd hd=>ha d (h3 d hd)⟩
 ·obtain ⟨h1,h2,h3⟩:=hu hd;exact ⟨h1,h2,λd hd=>h3 d (hs d hd)⟩
theorem Inv.append(h:Inv i s q e L sure asked)(hi:i<40){y:Say}(hy:ok1 L y){asked' sure':List Dc}(ha:∀ d∈asked,d∈asked')(hl:asked'.length<=i+1)(hs:∀ d∈sure',d∈sure)(hn:∀ d∈nx L y,d∈asked')(hsn:∀ d∈sure',d∈L->d∈nx L y):
  ((Ak s q y.rc).2.2=0/\(Ak s q y.rc).2.1.broken=false/\∃ k had,k<=2*i+2/\(∀ d∈sure',d∈nx L y)/\(∀ p∈had,∃ L',IC p e L'/\(∀ d∈sure',d∈L')/\∀ d∈L',d∈asked')/\
   KU 300 k (Ak s q y.rc).1 (Ak s q y.rc).2.1 had/\IC ((Ak s q y.rc).2.1.state,(Ak s q y.rc).2.1.l) e (nx L y))\/
  ((Ak s q y.rc).2.2≠0/\Inv (i+1) (Ak s q y.rc).1 (Ak s q y.rc).2.1 e L sure' asked'):=by
 obtain ⟨k,had,hk,hh,hu,hx⟩:=h.ex;obtain ⟨hyl,hy0⟩:=hy.len h.uq;have hh':∀ p∈had,∃ L',IC p e L'/\(∀ d∈sure',d∈L')/\∀ d∈L',d∈asked':=λp hp=>by
  obtain ⟨L',h1,h2,h3⟩:=hh p hp;exact ⟨L',h1,λd hd=>h2 d (hs d hd),λd hd=>ha d (h3 d hd)⟩
 cases hd:s.down with
 |true=>
  right
  obtain ⟨h1,h2⟩:=hx hd;rw [Jq h2 hy0];exact ⟨by simp,h.skip ha hl hs⟩
 |false=>
  obtain ⟨h1,h2,h3⟩:=hu hd;obtain ⟨nb,_,hin⟩:=h1.nb;obtain ⟨af,ax⟩:=Tg h1 (by omega) hy0 hyl;have hp1:=h2.put hy;have hhad:∀ x:Gf,(x=(q.state,q.l++[y.rc])\/x=(q.state,q.l))->∀ p∈had++[(q.state,q.l++[y.rc])]++[x],∃ L',IC p e L'/\(∀ d∈sure',d∈L')/\∀ d∈L',d∈asked':=by
   intro x hx p hp;have one:∃ L',IC (q.state,q.l++[y.rc]) e L'/\(∀ d∈sure',d∈L')/\∀ d∈L',d∈asked':=⟨_,hp1,λd hd=>hsn d hd (h3 d (hs d hd)),hn⟩;rcases Mz.1 hp with hp | hp
   ·rcases Mz.1 hp with hp | hp
    ·exact hh' p hp
    ·rw [Ms.1 hp];exact one
   ·rw [Ms.1 hp];rcases hx with rfl | rfl
    ·exact one
    ·exact hh' _ hin
  rcases OM hd nb hy0 with ⟨g1,g2,g3,g4⟩ | ⟨g1,g2,g3,g4⟩
  ·left
   have hk1:=af g4;refine ⟨g1,hk1.nb.1,k+1,_,by omega,λd hd=>hsn d hd (h3 d (hs d hd)),hhad _ ?_,hk1,by rw [g2,g3];exact hp1⟩;rw [g2,g3];exact .inl rfl
  ·right
   refine ⟨g1,⟨⟨k+1,_,by omega,hhad _ ?_,λhd1=>⟨af hd1,by rw [g2,g3];exact h2,λd hd=>h3 d (hs d hd)⟩,λhd1=>⟨ax hd1,g4 hd1⟩⟩,h.uq,λd hd=>ha d (h.sub d hd),hl,h.e1,by have:=h.e2;omega⟩⟩;rw [g2,g3];exact .inr rfl
theorem Z5{k:Nat}{had:List Gf}(h:KU 300 k s q had)(hi:k<88)(hd:(BJ s q).1.down=false):(BJ s q).2.2=0:=by
 obtain ⟨fu,n0,F,gs,g,c,hs,hq,hw⟩:=h;generalize hst:q.state=st at hq hw ⊢;generalize hRl:q.l=R at hq hw ⊢;subst hs hq;have hhi:=hw.hi;have em:(gs++[g]).map AF=gs.map AF++[AF g]:=by rw [List.map_append];rfl
 have el:(gs.map AF).length=gs.length:=List.length_map _;have h1:=H8 (n0:=n0) (F:=F) (bs:=gs.map AF) (c:=AF g) (room:=400000) (fu:=fu) (by omega);rw [el,<- em] at h1
 revert hd
 unfold BJ;simp only [Bool.false_eq_true,if_false,Gu,Option.getD_some];rcases h1 with ⟨fu1,h1⟩ | h1
 ·rw [h1];simp
 ·rw [h1];simp
theorem Inv.UH(h:Inv i s q e L sure asked)(hi:i<40){d:Dc}(hd:d.wf):
  Inv (i+1) (Ei s q L d).1 (Ei s q L d).2.1 e (Ei s q L d).2.2.1 (if (Ei s q L d).2.2.2=0 then sure++[d] else sure) (asked++[d]):=by
 have hl:(asked++[d]).length<=i+1:=by have:=h.few;simp;omega
 have ha:∀ x∈asked,x∈asked++[d]:=λx hx=>List.mem_append_left _ hx;unfold Ei;split
 ·exact h.skip ha hl λx hx=>by simpa using hx
 ·rename_i hc;have hc:Jk d.f d.g d.b d.ps=0:=by simpa using hc
  split
  ·exact h.skip ha hl λx hx=>by simpa using hx
  ·rename_i hm;have hm:d.x∉L.map Dc.x:=λhh=>hm (Dx.2 hh);have hy:ok1 L (.com d):=⟨⟨hd,hc⟩,hm⟩;have hsub:∀ x∈nx L (.com d),x∈asked++[d]:=λx hx=>by
    have hx:x∈L++[d]:=hx;rcases Mz.1 hx with hx | hx
    ·exact ha x (h.sub x hx)
    ·exact List.mem_append_right _ hx
   have happ:=h.append hi hy (sure':=sure) ha hl (λx hx=>hx) hsub (λx _ hx=>List.mem_append_left _ hx);rcases happ with ⟨g1,g2,k,had,hk,hsn,hh,hu,hp⟩ | ⟨g1,g2⟩
   ·have g1:(Ak s q (1,d.by)).2.2=0:=g1;rw [Ff (by simpa using g1)];obtain ⟨_,hd0,hin⟩:=hu.nb;obtain ⟨af,ax⟩:=Acq hu (by omega);have huq:Uq (nx L (.com d)):=h.uq.nx hy;obtain ⟨s1,s2,s3⟩:=XH hd0 g2;by_cases he:(BJ (Ak s q (1,d.by)).1 (Ak s q (1,d.by)).2.1).2.2=0
    ·rw [Ff (by simpa using he)];simp only [if_true];have hdn:(BJ (Ak s q (1,d.by)).1 (Ak s q (1,d.by)).2.1).1.down=false:=by
      cases hq:(BJ (Ak s q (1,d.by)).1 (Ak s q (1,d.by)).2.1).1.down with
      |false=>rfl
      |true=>have:=(s3 hq).2;rw [show (BJ (Ak s q (Say.com d).rc).1 (Ak s q (Say.com d).rc).2.1).2.2=0 from he] at this;cases this
     have hcur:IC ((BJ (Ak s q (1,d.by)).1 (Ak s q (1,d.by)).2.1).2.1.state,(BJ (Ak s q (1,d.by)).1 (Ak s q (1,d.by)).2.1).2.1.l) e (L++[d]):=by
      have h1:(BJ (Ak s q (1,d.by)).1 (Ak s q (1,d.by)).2.1).2.1.state=_:=s1;have h2:(BJ (Ak s q (1,d.by)).1 (Ak s q (1,d.by)).2.1).2.1.l=_:=s2;rw [h1,h2];exact hp
     have hsn':∀ x∈sure++[d],x∈L++[d]:=λx hx=>by
      rcases Mz.1 hx with hx | hx
      ·exact hsn x hx
      ·exact List.mem_append_right _ hx
     have hk1:=af hdn;have he':(BJ (Ak s q (Say.com d).rc).1 (Ak s q (Say.com d).rc).2.1).2.2=0:=he;rw [if_pos he'] at hk1;refine ⟨⟨k+1,_,by omega,λp hp=>?_,λ_=>⟨hk1,hcur,hsn'⟩,λhx=>(by rw [hdn] at hx;cases hx)⟩,huq,hsub,hl,h.e1,by have:=h.e2;omega⟩;rw [Ms.1 hp];exact ⟨_,hcur,hsn',hsub⟩
    ·rw [if_pos (by simpa using he)];simp only;rw [Ff he];have he':¬ (BJ (Ak s q (Say.com d).rc).1 (Ak s q (Say.com d).rc).2.1).2.2=0:=he;rw [Ff he'] at af ax;have hcur:IC ((BJ (Ak s q (1,d.by)).1 (Ak s q (1,d.by)).2.1).2.1.state,(BJ (Ak s q (1,d.by)).1 (Ak s q (1,d.by)).2.1).2.1.l) e (L++[d]):=by
      have h1:(BJ (Ak s q (1,d.by)).1 (Ak s q (1,d.by)).2.1).2.1.state=_:=s1;have h2:(BJ (Ak s q (1,d.by)).1 (Ak s q (1,d.by)).2.1).2.1.l=_:=s2;rw [h1,h2];exact hp
     have hdn:(BJ (Ak s q (1,d.by)).1 (Ak s q (1,d.by)).2.1).1.down=true:=by
      cases hq:(BJ (Ak s q (1,d.by)).1 (Ak s q (1,d.by)).2.1).1.down with
      |true=>rfl
      |false=>exact absurd (Z5 hu (by omega) hq) he
     refine ⟨⟨k+1,_,by omega,λp hp=>?_,λhx=>(by rw [hdn] at hx;cases hx),λ_=>⟨ax hdn,(s3 hdn).1⟩⟩,h.uq,λx hx=>ha x (h.sub x hx),hl,h.e1,by have:=h.e2;omega⟩;rcases Mz.1 hp with hp | hp
     ·exact hh p hp
     ·rw [Ms.1 hp];exact ⟨_,hcur,hsn,hsub⟩
   ·have g1:(Ak s q (1,d.by)).2.2≠0:=g1;rw [if_pos g1];simp only;have hne:HH (Ak s q (1,d.by)).2.2≠0:=by
     unfold HH;split
     ·decide
     ·exact g1
    rw [Ff hne];exact g2
theorem Inv.fin(h:Inv i s q e L sure asked)(hi:i<40)(x:Nm):
  Inv (i+1) (FU s q L x).1 (FU s q L x).2.1 e (FU s q L x).2.2.1 (sure.filter λd=>!CL x d.x) asked:=by
 have hl:asked.length<=i+1:=by have:=h.few;omega
 have hf:∀ d∈sure.filter (λd=>!CL x d.x),d∈sure:=λd hd=>(List.mem_filter.1 hd).1;unfold FU;split
 ·exact h.skip (λ_ hx=>hx) hl hf
 ·rename_i hm;have hm:x∈L.map Dc.x:=Dx.1 (by
   cases hq:(getD L x).isSome with
   |true=>rfl
   |false=>exact absurd hq hm)
  have hy:ok1 L (.fin x):=hm;have hsub:∀ d∈nx L (.fin x),d∈asked:=λd hd=>h.sub d (List.mem_filter.1 hd).1;rcases h.append hi hy (λ_ hx=>hx) hl hf hsub (λd hd hdL=>List.mem_filter.2 ⟨hdL,(List.mem_filter.1 hd).2⟩) with ⟨g1,g2,k,had,hk,hsn,hh,hu,hp⟩ | ⟨g1,g2⟩
  ·have g1:(Ak s q (2,xnB x)).2.2=0:=g1;rw [Ff (by simpa using g1)];refine ⟨⟨k,had,by omega,hh,λ_=>⟨hu,hp,hsn⟩,λhx=>(by have:=hu.nb.2.1;rw [show (Ak s q (Say.fin x).rc).1.down=true from hx] at this;cases this)⟩,h.uq.nx hy,hsub,hl,h.e1,by have:=h.e2;omega⟩
  ·have g1:(Ak s q (2,xnB x)).2.2≠0:=g1;rw [if_pos g1];exact g2
theorem Inv.Dj(h:Inv i s q e L sure asked)(hi:i<40)(n:Int):Inv (i+1) (HG s n) q e L sure asked:=by
 obtain ⟨k,had,hk,hh,hu,hx⟩:=h.ex;have hl:asked.length<=i+1:=by have:=h.few;omega
 cases hd:s.down with
 |true=>
  have e0:HG s n=s:=by unfold HG;rw [if_pos hd]
  rw [e0];exact h.skip (λ_ hx=>hx) hl λ_ hx=>hx
 |false=>
  obtain ⟨h1,h2,h3⟩:=hu hd;obtain ⟨af,ax⟩:=Ada n h1;have hdn:(HG s n).down=false:=by unfold HG;rw [Ff (by simp [hd])];exact hd
  refine ⟨⟨k+1,_,by omega,λp hp=>?_,λ_=>⟨af hdn,h2,h3⟩,λhx=>(by rw [hdn] at hx;cases hx)⟩,h.uq,h.sub,hl,h.e1,by have:=h.e2;omega⟩;rcases Mz.1 hp with hp | hp
  ·exact hh p hp
  ·rw [Ms.1 hp];exact hh _ h1.nb.2.2
theorem Inv.AgB(h:Inv i s q e L sure asked)(hi:i<40)(keep:List Int)(hok:∀ f∈s.D,f.2.2<=f.2.1.length):
  ∃ k,k<=2*i+2/\FX (k+1) (50013+k*1213) (CF (C1 s) (namesS s.D) keep).D/\∃ s3 q3,Cl (CF (C1 s) (namesS s.D) keep) (namesS (CF (C1 s) (namesS s.D) keep).D) 300=(s3,some q3,0)/\
   KU 300 k s3 q3 [(q3.state,q3.l)]/\s3.Dj=0/\∃ L3,OS (q3.state,q3.l) e L3/\(∀ d∈sure,d∈L3)/\∀ d∈L3,d∈asked:=by
 obtain ⟨k,had,hk,hh,hu,hx⟩:=h.ex;have main:∃ k' had',k'<=2*i+2/\KX k' (C1 s) had'/\∀ p∈had',∃ L',IC p e L'/\(∀ d∈sure,d∈L')/\∀ d∈L',d∈asked:=by
  cases hd:s.down with
  |true=>
   obtain ⟨h1,h2⟩:=hx hd;have e0:C1 s=s:=by
    unfold C1;rcases h1 with ⟨n0,F,gs,g,c,E,st,R,rfl,_⟩ | ⟨n0,F,bs,st,rfl,_⟩<;>rfl
   rw [e0];exact ⟨k,had,by omega,h1,hh⟩
  |false=>
   obtain ⟨h1,h2,h3⟩:=hu hd;obtain ⟨af,ax⟩:=AaW h1;refine ⟨k+1,_,by omega,ax rfl,λp hp=>?_⟩;rcases Mz.1 hp with hp | hp
   ·exact hh p hp
   ·rw [Ms.1 hp];exact hh _ h1.nb.2.2
 obtain ⟨k',had',hk',hx',hh'⟩:=main;obtain ⟨fx,s3,q3,ho,hku,hin,hfu⟩:=Ab8 (lim:=300) keep hx' hok (by omega) (by decide);obtain ⟨L3,p1,p2,p3⟩:=hh' _ hin;obtain ⟨L',p4,p5⟩:=p1;exact ⟨k',hk',fx,s3,q3,ho,hku,hfu,L',p4,λd hd=>p5.mem_iff.2 (p2 d hd),λd hd=>p3 d (p5.mem_iff.1 hd)⟩
end
theorem Inv.opened{i k:Nat}{s3:DS}{q3:JS}{e:Nat}{L3 sure asked:List Dc}(hi:i<40)(hk:k<=2*i+2)(hku:KU 300 k s3 q3 [(q3.state,q3.l)])(hfu:s3.Dj=0)(hp:OS (q3.state,q3.l) e L3)(hsub:∀ d∈L3,d∈asked)(hf:asked.length<=i)(h1:1<=e)(h2:e<=i+1):
  (AE s3 (namesS s3.D) q3 (stB (e+1) (Bx L3))).2.2=0/\
  Inv (i+1) (AE s3 (namesS s3.D) q3 (stB (e+1) (Bx L3))).1 (AE s3 (namesS s3.D) q3 (stB (e+1) (Bx L3))).2.1 (e+1) L3 (Bx L3) (Bx L3):=by
 have huq:=hp.uq;have hlen:L3.length<=i:=by have:=huq.len hsub;omega
 have hst:(stB (e+1) (Bx L3)).length<=50000:=by
  have:=KT (ep:=e+1) (FH huq).ok
  rw [DX] at this;omega
 obtain ⟨c1,c2,c3,c4,c5⟩:=OE hku hfu (by omega) hst;obtain ⟨af,ax⟩:=Re hku (by omega) hst;have hk1:=af c4;rw [if_pos c1] at hk1;refine ⟨c1,⟨⟨k+1,_,by omega,λp hp'=>?_,λ_=>⟨hk1,?_,λd hd=>(EZ huq).1 hd⟩,λhx=>(by rw [c4] at hx;cases hx)⟩,huq,λd hd=>(EZ huq).2 hd,by rw [DX];omega,by omega,by omega⟩⟩
 ·rw [Ms.1 hp',c2,c3];exact ⟨_,⟨_,IC.fresh huq (by omega) (by omega) (by omega),.refl _⟩,λd hd=>hd,λd hd=>hd⟩
 ·rw [c2,c3];exact ⟨_,IC.fresh huq (by omega) (by omega) (by omega),PA huq⟩
end
end Go.Proofs.YtnennggfoegcmaaGreatDoor
namespace Go.Abs
variable {A A':AW} {v:Value} {F S:List Nat} {o c q:Nat} {e:TypeId}
structure ET (P:Program) (ts te:TypeId) (n:Nat) {β:Type} (f:β->List Value):Prop where
 us:P.underlying ts=some (.slice te)
 sz:szT P te=some (n+1)
 ag:N7 P te=some true
 by':∃ b,EB P te=some b/\b<=256
 hz:C9 P te (n+1)=true
 len:∀ x,(f x).length=n+1
 one:∀ x,(f x).all AK=true
 noT:∀ x,(f x).all (λv=>!isTuple v)=true
section
variable {P:Program} {ts te:TypeId} {n:Nat} {β:Type} {f:β->List Value}
def RdE(n:Nat)(f:β->List Value)(A:AW)(v:Value)(l:List β)(F:List Nat):Prop:=
 (l=[]/\F=[]/\∃ o c,v=.slice o 0 c)\/∃ r o c cs e g b ro,v=.slice (some ⟨r,o,none⟩) l.length c/\A.get r=some (.row cs e g b ro)/\g<A.next/\F=[g]/\∀ (i:Nat) p,l[i]? =some p->∃ rest,cs.drop (o+i*(n+1))=f p++rest
theorem RdE.keeps{l:List β}(h:RdE n f A v l F)(k:Ah A A' S)(hd:∀ x∈F,x∉S):RdE n f A' v l F:=by
 rcases h with h | ⟨r,o,c,cs,e,g,b,ro,h1,h2,h3,rfl,h4⟩
 ·exact .inl h
 ·exact .inr ⟨r,o,c,cs,e,g,b,ro,h1,k.get r _ h2 h3 (hd g (by simp)),Nat.lt_of_lt_of_le h3 k.next,rfl,h4⟩
theorem RdE.slice{A:AW}{v:Value}{l:List β}{F:List Nat}(h:RdE n f A v l F):∃ o c,v=.slice o l.length c:=by
 rcases h with ⟨rfl,_,o,c,rfl⟩ | ⟨r,o,c,cs,e,g,b,ro,rfl,_⟩<;>exact ⟨_,_,rfl⟩
theorem RdE.fam{l:List β}(h:RdE n f A v l F):∀ x∈F,x<A.next:=by
 rcases h with ⟨_,rfl,_⟩ | ⟨r,o,c,cs,e,g,b,ro,_,_,h3,rfl,_⟩
 ·simp
 ·simpa using h3
theorem RdE.nil(A:AW)(o:Option Addr)(c:Nat):RdE n f A (.slice o 0 c) [] []:=.inl ⟨rfl,rfl,o,c,rfl⟩
theorem RdE.len(T:ET P ts te n f){B:AW}{l:List β}(h:RdE n f A v l F):Bi P B ts v=some (.int .i64 (l.length:Int)):=by
 obtain ⟨o,c,rfl⟩:=h.slice;unfold Bi;simp only [T.us]
theorem DK:∀ (a rest:List Value),a.all (λv=>!isTuple v)=true->Bh (a++rest) a.length=some a
 |[],rest,_=>by simp [Bh]
 |v::a,rest,h=>by
  simp only [List.all_cons,Bq,Bool.not_eq_true'] at h;rw [List.cons_append,Lc,Nt h.1,DK a rest h.2]
theorem QT(T:ET P ts te n f){b len i:Nat}(hi:i<len):Ar P ts (.slice (some ⟨b,o,none⟩) len c) (.int .i64 (i:Int))=some (.pointer (some ⟨b,o+i*(n+1),none⟩)):=by
 show Ar P ts _ (.int .i64 (.ofNat i))=_;unfold Ar;simp only [T.us,AA.2 hi,Ct,T.sz];unfold Ek;cases hb:Nat.beq (i*(n+1)) 0 with
 |true=>rw [Ct,Nb hb,Nat.add_zero]
 |false=>rfl
theorem RdE.at(T:ET P ts te n f){A:AW}{v:Value}{l:List β}{F:List Nat}(h:RdE n f A v l F){i:Nat}{p:β}(hi:l[i]? =some p):
  ∃ r o,Ar P ts v (.int .i64 (i:Int))=some (.pointer (some ⟨r,o,none⟩))/\A.cells? ⟨r,o,none⟩ (n+1)=some (f p)/\Ae P A te (.pointer (some ⟨r,o,none⟩))=some (.agg ⟨f p⟩):=by
 rcases h with ⟨rfl,_⟩ | ⟨r,o,c,cs,e,g,b,ro,rfl,h2,h3,_,h4⟩
 ·simp at hi
 ·have hlt:i<l.length:=(Gs.1 hi).1;obtain ⟨rest,hr⟩:=h4 i p hi;have hc:A.cells? ⟨r,o+i*(n+1),none⟩ (n+1)=some (f p):=by
   rw [Bc h2,hr]
   have:=DK (f p) rest (T.noT p)
   rwa [T.len] at this
  refine ⟨r,o+i*(n+1),QT T hlt,hc,?_⟩;show Ef P A te _=_;unfold Ef;simp only [T.ag,T.sz,hc]
theorem cell_of{r m:Nat}{cs:List Value}(h:A.cells? ⟨r,o,none⟩ (m+1)=some cs){k:Nat}(hk:cs[k]? =some v):A.cell? ⟨r,o+k,none⟩=some v:=by
 unfold AW.cells? at h;simp only at h;unfold AW.cell?;simp only;split at h
 ·rename_i cs0 e g b ro hg;have key:∀ (m o k:Nat) (l cs:List Value),Bh (l.drop o) m=some cs->cs[k]? =some v->cellOf l (o+k)=some v:=by
   intro m
   induction m with
   |zero=>intro o k l cs h hk;unfold Bh at h;simp at h;subst h;simp at hk
   |succ m ih=>
    intro o k l cs h hk;cases hl:l.drop o with
    |nil=>rw [hl] at h;unfold Bh at h;cases h
    |cons x r=>
     rw [hl] at h;unfold Bh at h;cases hx:isTuple x with
     |true=>rw [hx] at h;cases h
     |false=>
      rw [hx,Cf] at h;cases hr:Bh r m with
      |none=>rw [hr] at h;cases h
      |some q=>
       rw [hr] at h;simp only [Oi] at h;subst h;have hget:l[o]? =some x:=by
        have:(l.drop o)[0]? =some x:=by rw [hl];rfl
        rw [List.getElem?_drop,Nat.add_zero] at this;exact this
       have hr':l.drop (o+1)=r:=by
        have:=SX hget
        rw [hl] at this
        simpa using this.symm
       cases k with
       |zero=>
        obtain rfl:x=v:=by simpa using hk
        exact Fz hget hx
       |succ k=>
        have:=ih (o+1) k l q (by rw [hr'];exact hr) (by simpa using hk)
        rw [show o+(k+1)=o+1+k by omega];exact this
  exact key (m+1) o k cs0 cs h hk
 ·cases h
def BF(te:TypeId)(n:Nat)(f:β->List Value)(A:AW)(v:Value)(l:List β)(F:List Nat):Prop:=Dq A te (n+1) v l.length (flat f l) F
theorem HI(a b:List β):flat f (a++b)=flat f a++flat f b:=by simp [flat]
theorem BF.rd(hlen:∀ x,(f x).length=n+1){l:List β}(h:BF te n f A v l F):RdE n f A v l F:=by
 rcases h with ⟨rfl,h2,_,rfl⟩ | ⟨b,g,rfl,h2,rfl⟩
 ·have:l=[]:=List.eq_nil_of_length_eq_zero h2
  subst this;exact .nil _ _ _
 ·exact .inr ⟨b,0,_,_,_,g,0,false,rfl,h2.row,h2.ltf,rfl,λi p hi=>by rw [Nat.zero_add];exact DM hlen l i p hi⟩
theorem BF.keeps{l:List β}(h:BF te n f A v l F)(k:Ah A A' S)(hd:∀ x∈F,x∉S):BF te n f A' v l F:=Dq.keeps h k hd
theorem BF.nil(A:AW):BF te n f A (.slice none 0 0) [] []:=Dq.nil _ _ _
theorem BF.lt{l:List β}(h:BF te n f A v l F):∀ x∈F,x<A.next:=Dq.lt h
theorem BF.one{l:List β}(h:BF te n f A v l F):AK v=true/\isTuple v=false:=Dq.one h
theorem Ny(T:ET P ts te n f){p:β}(hq:Row1 A q (f p) e):BM P A te ts (n+1) (.slice (some ⟨q,0,none⟩) 1 1)=some (0+1,f p):=by
 unfold BM;simp only [T.us];show Df A (n+1) (.slice (some ⟨q,0,none⟩) 1 1)=_;unfold Df
 have:=DK (f p) [] (T.noT p)
 rw [List.append_nil,T.len] at this;simp only [Nat.one_mul,Bc hq.row,List.drop_zero,this]
theorem BF.append (T:ET P ts te n f) {l:List β} {p:β} {K:Value->AW->Prop} (h:BF te n f A v l F) (hq:Row1 A q (f p) e) (hf:Aw A) (hA:A.next<Aj) (hl:l.length<100000000)
  (hk:∀ v' A' F',BF te n f A' v' (l++[p]) F'->Ah A A' F->(∀ x∈F',x∈F\/x=A.next)->A'.next=A.next+1->Aw A'->K v' A'):Ao (AU P A ts ts v (.slice (some ⟨q,0,none⟩) 1 1)) K:=by
 have hroom:room=68719476736:=rfl;obtain ⟨b,hb,hb2⟩:=T.by'
 have hse:BG P ts=some te:=by unfold BG;rw [T.us]
 have hm:(l.length+(0+1))*b<=(l.length+(0+1))*256:=Nat.mul_le_mul_left _ hb2;refine JT (m:=0) (size:=n) hse T.sz hb T.hz (Ny T hq) (by rw [T.len];omega) (T.one p) h hf hA (by omega) (by omega) λv' A' F' h1 h2 h3 h4 h5=>?_;refine hk v' A' F' ?_ h2 h3 h4 h5;show Dq A' te (n+1) v' (l++[p]).length (flat f (l++[p])) F';rw [Lq,HI];have e:flat f [p]=f p:=by simp [flat]
 rw [e];exact h1
theorem QD(hlen:∀ x,(f x).length=n+1){N:Nat}{gl:List (Nat × List Value × TypeId)}{L:List Arg}{j:Nat}{l:List β}{p:Nat × Nat}(hk:N+L.length+1<=Aj)(h:L[j]? =some (p,some (flat f l,e))):
  RdE n f (wR N gl L) (.slice (some ⟨N+j,0,none⟩) l.length c) l [N+L.length]:=
 .inr ⟨N+j,0,c,flat f l,e,N+L.length,0,true,rfl,Acg (by omega) h,by show N+L.length<N+L.length+1;omega,rfl,λi q hi=>by rw [Nat.zero_add];exact DM hlen l i q hi⟩
end
variable {A A':AW} {r c i it m:Nat} {S:List Nat} {K:Value->AW->Prop}
structure En (α β:Type) where
 k:α
 v:β
 b:Nat
section
variable {α β:Type} (ke:α->Value) (ve:β->Value)
def En.entry(e:En α β):MapEntry:={ key:=ke e.k,val:=ve e.v,born:=e.b }
structure MT (P:Program) (t kt et:TypeId) (ke:α->Value) (keq:α->α->Bool):Prop where
 ty:P.underlying t=some (.map kt et)
 eq:∀ a b,eqA P kt (ke a) (ke b)=some (keq a b)
 dec:∀ {a b},keq a b=true↔a=b
 q:∀ e a,KB P e kt (ke a)=true
 same:∀ a,(Ax 4 (ke a)&&Instr.sameBits 10000 (ke a) (ke a))=true
structure DJ (A:AW) (r:Nat) (es:List (En α β)) (c:Nat):Prop where
 row:TA A r (es.map (En.entry ke ve)) c
 lt:∀ e∈es,e.b<c
 nb:(es.map En.b).Nodup
 nk:(es.map En.k).Nodup
end
section
variable {P:Program} {X:Bt} {W0:World} {m0:Inj P} {α β:Type} {ke:α->Value} {ve:β->Value} {keq:α->α->Bool} {t kt et:TypeId}
theorem DJ.keeps{es:List (En α β)}(h:DJ ke ve A r es c)(k:Ah A A' S)(hn:r∉S):DJ ke ve A' r es c:=⟨h.row.keeps k hn,h.lt,h.nb,h.nk⟩
theorem DJ.ltA{es:List (En α β)}(h:DJ ke ve A r es c):r<A.next:=h.row.lt
theorem AeU{K:Value->AW->Prop}(hf:Aw A)(h:A.next<Aj)(hk:∀ A',DJ (α:=α) (β:=β) ke ve A' A.next [] 0->Ah A A' []->A'.next=A.next+1->Aw A'->K (.map (some A.next)) A'):Ao (G4 A) K:=
 AcN hf h λA' h1 h2 h3 h4=>hk A' ⟨h1,by simp,by simp,by simp⟩ h2 h3 h4
def Dw(keq:α->α->Bool):List (En α β)->α->Option β
 |[],_=>none
 |e::es,k=>if keq k e.k=true then some e.v else Dw keq es k
def atE(keq:α->α->Bool):List (En α β)->α->Nat->Option Nat
 |[],_,_=>none
 |e::es,k,i=>if keq k e.k=true then some i else atE keq es k (i+1)
theorem M9(T:MT P t kt et ke keq)(k:α):∀ (es:List (En α β)) (i:Nat),HK P kt (ke k) (es.map (En.entry ke ve)) i=some (atE keq es k i)
 |[],i=>rfl
 |e::es,i=>by
  show (match eqA P kt (ke k) (ke e.k) with | some true=>some (some i) | some false=>HK P kt (ke k) (es.map (En.entry ke ve)) (i+1) | none=>none)=_;rw [T.eq];unfold atE;cases h:keq k e.k with
  |true=>simp
  |false=>
   simp only [Bool.false_eq_true,if_false];exact M9 T k es (i+1)
theorem Nf{es:List (En α β)}{k:α}{j:Nat}(h:atE keq es k i=some j):i<=j/\j-i<es.length/\∃ e,es[j-i]? =some e/\keq k e.k=true/\Dw keq es k=some e.v:=by
 induction es generalizing i with
 |nil=>cases h
 |cons e es ih=>
  unfold atE at h;unfold Dw;split at h
  ·rename_i hk;cases h;rw [if_pos hk,Nat.sub_self];exact ⟨Nl _,by simp,e,rfl,hk,rfl⟩
  ·rename_i hk;obtain ⟨h1,h2,e',h3,h4,h5⟩:=ih h;refine ⟨by omega,by simp;omega,e',?_,h4,?_⟩
   ·rw [show j-i=(j-(i+1))+1 by omega];exact h3
   ·rw [Ff hk];exact h5
theorem Rm{es:List (En α β)}{k:α}(h:atE keq es k i=none):(∀ e∈es,keq k e.k=false)/\Dw keq es k=none:=by
 induction es generalizing i with
 |nil=>exact ⟨by simp,rfl⟩
 |cons e es ih=>
  unfold atE at h;unfold Dw;split at h
  ·cases h
  ·rename_i hk;obtain ⟨h1,h2⟩:=ih h;refine ⟨λx hx=>?_,by rw [Ff hk];exact h2⟩;rcases Mk.1 hx with rfl | hx
   ·simpa using hk
   ·exact h1 x hx
theorem I2(T:MT P t kt et ke keq):D0 P t=some (kt,et):=by unfold D0;rw [T.ty]
theorem DJ.look(T:MT P t kt et ke keq){es:List (En α β)}(h:DJ ke ve A r es c){z:Value}(hz:Dt P et=some z)(k:α)(ok:Bool):
  Cu P A t (.map (some r)) (ke k) ok=some (match Dw keq es k with | some v=>(bif ok then .tuple #[ve v,.bool true] else ve v) | none=>(bif ok then .tuple #[z,.bool false] else z)):=by
 unfold Cu L8;simp only [I2 T,h.row.row,T.q,Ct,M9 T];cases ha:atE keq es k 0 with
 |none=>
  rw [(Rm ha).2];simp only [hz]
 |some i=>
  obtain ⟨_,_,e,h3,_,h5⟩:=Nf ha;rw [Nat.sub_zero] at h3;rw [h5];simp only [List.getElem?_map,h3,Option.map_some];rfl
def Kp(keq:α->α->Bool):List (En α β)->α->β->Nat->List (En α β)
 |[],k,v,c=>[⟨k,v,c⟩]
 |e::es,k,v,c=>if keq k e.k=true then ⟨k,v,e.b⟩::es else e::Kp keq es k v c
theorem U3(k:α)(v:β)(c:Nat):∀ (es:List (En α β)) (i j:Nat),(∀ {a b},keq a b=true↔a=b)->atE keq es k i=some j->GD (es.map (En.entry ke ve)) (j-i) (ke k) (ve v)=(Kp keq es k v c).map (En.entry ke ve)
 |[],i,j,_,h=>by cases h
 |e::es,i,j,hd,h=>by
  unfold atE at h;unfold Kp;split at h
  ·rename_i hk;cases h;rw [if_pos hk,Nat.sub_self];rfl
  ·rename_i hk
   have:=(Nf h).1
   rw [Ff hk,show j-i=(j-(i+1))+1 by omega];show e.entry ke ve::GD (es.map (En.entry ke ve)) (j-(i+1)) (ke k) (ve v)=_;rw [U3 k v c es (i+1) j hd h];rfl
theorem IV{es:List (En α β)}{k:α}(hn:∀ e∈es,keq k e.k=false)(v:β)(c:Nat):Kp keq es k v c=es++[(⟨k,v,c⟩:En α β)]:=by
 induction es with
 |nil=>rfl
 |cons e es ih=>
  unfold Kp;rw [Ff (by rw [hn e List.mem_cons_self];simp),ih λx hx=>hn x (List.mem_cons_of_mem _ hx)];rfl
theorem R9(k:α)(v:β)(c:Nat):∀ (es:List (En α β)),(∀ {a b},keq a b=true↔a=b)->(∃ e∈es,keq k e.k=true)->(Kp keq es k v c).map En.k=es.map En.k/\(Kp keq es k v c).map En.b=es.map En.b
 |[],_,h=>by obtain ⟨e,he,_⟩:=h;cases he
 |e::es,hd,h=>by
  unfold Kp;split
  ·rename_i hk;rw [Mc,Mc,Mc,Mc,<- hd.1 hk];exact ⟨rfl,rfl⟩
  ·rename_i hk;obtain ⟨x,hx,h2⟩:=h;rcases Mk.1 hx with rfl | hx
   ·exact absurd h2 hk
   ·obtain ⟨h3,h4⟩:=R9 k v c es hd ⟨x,hx,h2⟩;rw [Mc,Mc,Mc,Mc,h3,h4];exact ⟨rfl,rfl⟩
theorem DJ.put (T:MT P t kt et ke keq) {es:List (En α β)} (h:DJ ke ve A r es c) (hf:Aw A) (hb:A.next<=Aj) {k:α} {v:β} {K:AW->Prop}
  (hk:∀ A' c',DJ ke ve A' r (Kp keq es k v c) c'->Ah A A' [r]->A'.next=A.next->Aw A'->K A'):Be (Cp P A t (.map (some r)) (ke k) (ve v)) K:=by
 unfold Cp;simp only [I2 T,h.row.row,T.q,Ct,M9 T];cases ha:atE keq es k 0 with
 |none=>
  obtain ⟨h1,h2⟩:=Rm ha;obtain ⟨g1,g2,g3,g4⟩:=h.row.put (es':=es.map (En.entry ke ve)++[{ key:=ke k,val:=ve v,born:=c }]) (c':=c+1) hf hb;simp only;refine JO.2 (hk _ (c+1) ⟨?_,?_,?_,?_⟩ g2 g3 g4)
  ·rw [IV h1,List.map_append];exact g1
  ·rw [IV h1];intro e he;rcases Mz.1 he with he | he
   ·have:=h.lt e he;omega
   ·rw [Ms.1 he];exact Nat.lt_succ_self c
  ·rw [IV h1,List.map_append,List.nodup_append];refine ⟨h.nb,by simp,λa ha b hb=>?_⟩;obtain ⟨e,he,rfl⟩:=List.mem_map.1 ha
   have:=h.lt e he
   simp at hb;omega
  ·rw [IV h1,List.map_append,List.nodup_append];refine ⟨h.nk,by simp,λa ha b hb=>?_⟩;obtain ⟨e,he,rfl⟩:=List.mem_map.1 ha
   have:=h1 e he
   simp at hb;subst hb;intro h0;rw [T.dec.2 h0.symm] at this;cases this
 |some i=>
  obtain ⟨_,_,e,h3,h4,_⟩:=Nf ha;rw [Nat.sub_zero] at h3;have hke:k=e.k:=T.dec.1 h4;simp only [List.getElem?_map,h3,Option.map_some];have hs:(Ax 4 (e.entry ke ve).key&&Instr.sameBits 10000 (e.entry ke ve).key (ke k))=true:=by
   show (Ax 4 (ke e.k)&&Instr.sameBits 10000 (ke e.k) (ke k))=true;rw [hke];exact T.same _
  rw [hs,Ct];have hset:=U3 (ke:=ke) (ve:=ve) k v c es 0 i T.dec ha;rw [Nat.sub_zero] at hset;rw [hset];obtain ⟨g1,g2,g3,g4⟩:=h.row.put (es':=(Kp keq es k v c).map (En.entry ke ve)) (c':=c) hf hb;obtain ⟨p1,p2⟩:=R9 k v c es T.dec ⟨e,List.mem_of_getElem? h3,h4⟩;refine JO.2 (hk _ c ⟨g1,λx hx=>?_,by rw [p2];exact h.nb,by rw [p1];exact h.nk⟩ g2 g3 g4)
  have:x.b∈(Kp keq es k v c).map En.b:=List.mem_map.2 ⟨x,hx,rfl⟩
  rw [p2] at this;obtain ⟨y,hy,hyb⟩:=List.mem_map.1 this
  have:=h.lt y hy
  omega
structure Iter (A:AW) (it m c:Nat) (vs:List (En α β)):Prop where
 get:A.get it=some (.mit (some m) c (vs.map En.b) c)
 lt:it<A.next
theorem Iter.keeps{vs:List (En α β)}(h:Iter A it m c vs)(k:Ah A A' S)(hn:it∉S):Iter A' it m c vs:=⟨k.get it _ h.get h.lt hn,Nat.lt_of_lt_of_le h.lt k.next⟩
theorem DJ.range (T:MT P t kt et ke keq) {es:List (En α β)} (h:DJ ke ve A r es c) (hf:Aw A) (hA:A.next<Aj) {K:Value->AW->Prop}
  (hk:∀ A',Iter (α:=α) (β:=β) A' A.next r c []->Ah A A' []->A'.next=A.next+1->Aw A'->K (.pointer (some ⟨A.next,0,none⟩)) A'):anW P X W0 m0 (NK P A t (.map (some r))) K:=by
 unfold NK AW.new;simp only [T.ty,h.row.row,AA.2 hA,Ct];exact .inl ⟨_,_,rfl,hk (A.push (.mit (some r) c [] c)) ⟨by rw [AW.BK _ hA,if_pos rfl];rfl,by rw [AW.B0];omega⟩ ((AW.BR _ hA).keeps hf) rfl (hf.push _ hA)⟩
theorem X8{vs:List (En α β)}(h:Iter A it m c vs)(hf:Aw A)(hA:A.next<=Aj)(e:En α β):Iter (A.put it (.mit (some m) c (vs.map En.b++[e.b]) c)) it m c (vs++[e])/\Ah A (A.put it (.mit (some m) c (vs.map En.b++[e.b]) c)) [it]/\
  (A.put it (.mit (some m) c (vs.map En.b++[e.b]) c)).next=A.next/\Aw (A.put it (.mit (some m) c (vs.map En.b++[e.b]) c)):=by
 have hlt:=h.lt;have hg:∀ i,(A.put it (.mit (some m) c (vs.map En.b++[e.b]) c)).get i=if i=it then some (.mit (some m) c (vs.map En.b++[e.b]) c) else A.get i:=λi=>AW.CA A it i _ (by omega)
 refine ⟨⟨by rw [hg,if_pos rfl,List.map_append];rfl,hlt⟩,⟨Nl _,λi o hi _ hn=>?_,λf _ _=>rfl⟩,rfl,⟨hf.fams,λi hi=>?_⟩⟩
 ·rw [hg,Ff (λe=>?_)]
  ·exact hi
  ·subst e;rw [h.get] at hi;cases hi;exact hn (Ms.2 rfl)
 ·have hi:A.next<=i:=hi;rw [hg,Ff (by omega)];exact hf.get i hi
theorem Vl{es:List (En α β)}(hn:(es.map En.b).Nodup):∀ {x y:En α β},x∈es->y∈es->x.b=y.b->x=y:=by
 induction es with
 |nil=>intro x y hx;cases hx
 |cons e es ih=>
  simp only [Mc,List.nodup_cons] at hn;intro x y hx hy hxy;rcases Mk.1 hx with hx | hx
  ·rcases Mk.1 hy with hy | hy
   ·rw [hx,hy]
   ·exact absurd (List.mem_map.2 ⟨y,hy,by rw [<- hxy,hx]⟩) hn.1
  ·rcases Mk.1 hy with hy | hy
   ·exact absurd (List.mem_map.2 ⟨x,hx,by rw [hxy,hy]⟩) hn.1
   ·exact ih hn.2 hx hy hxy
theorem EY{γ δ:Type}(f:γ->δ):∀ {l:List γ},(l.map f).Nodup->l.Nodup
 |[],_=>List.nodup_nil
 |x::l,h=>by
  simp only [Mc,List.nodup_cons] at h;exact List.nodup_cons.2 ⟨λhx=>h.1 (List.mem_map.2 ⟨x,hx,rfl⟩),EY f h.2⟩
theorem DJ.next {es vs:List (En α β)} (h:DJ ke ve A r es c) (hi:Iter A it r c vs) (hv:∀ e∈vs,e∈es) (hf:Aw A) (hA:A.next<=Aj)
  (hmore:∀ e A',e∈es->e∉vs->Iter A' it r c (vs++[e])->Ah A A' [it]->A'.next=A.next->Aw A'->K (.tuple #[.bool true,ke e.k,ve e.v]) A') (hdone:(∀ e∈es,e∈vs)->K (.tuple #[.bool false]) A):
  anW P X W0 m0 (Lk A (.pointer (some ⟨it,0,none⟩)) false) K:=by
 refine .inr (.inr (.inr ⟨it,A,by unfold Lk;simp only [hi.get],r,c,vs.map En.b,c,es.map (En.entry ke ve),c,false,hi.get,h.row.row,?_,λcd hcd=>?_⟩))
 ·cases hes:es with
  |nil=>simp
  |cons e es'=>
   have:e.b<c:=h.lt e (by rw [hes];simp)
   have hb:Nat.ble c e.b=false:=BL.2 this;simp [En.entry,hb]
 ·have inj:∀ {x y:En α β},x∈es->y∈es->x.b=y.b->x=y:=Vl h.nb;have seen:∀ e∈es,(vs.map En.b).contains e.b=true↔e∈vs:=by
   intro e he;rw [List.contains_iff_mem,List.mem_map];constructor
   ·rintro ⟨x,hx,hxe⟩;rw [<- inj (hv x hx) he hxe];exact hx
   ·intro hv';exact ⟨e,hv',rfl⟩
  unfold Rf at hcd;rcases Mz.1 hcd with hcd | hcd
  ·split at hcd
   ·rename_i hem;obtain rfl:cd=none:=by simpa using hcd
    refine hdone λe he=>?_;by_cases hin:e∈vs
    ·exact hin
    ·exfalso;have hc:(vs.map En.b).contains e.b=false:=by
      cases hcc:(vs.map En.b).contains e.b with
      |false=>rfl
      |true=>exact absurd ((seen e he).1 hcc) hin
     have:e.entry ke ve∈(((es.map (En.entry ke ve)).filter λe=>!(vs.map En.b).contains e.born).filter λe=>Nat.blt e.born c):=by
      rw [List.mem_filter,List.mem_filter];refine ⟨⟨List.mem_map.2 ⟨e,he,rfl⟩,?_⟩,AA.2 (h.lt e he)⟩;show (!(vs.map En.b).contains e.b)=true;rw [hc];rfl
     rw [List.isEmpty_iff.1 hem] at this;cases this
   ·cases hcd
  ·obtain ⟨me,hme,rfl⟩:=List.mem_map.1 hcd;have hme2:me∈(es.map (En.entry ke ve)).filter λe=>!(vs.map En.b).contains e.born:=by
    rcases Mz.1 hme with hme | hme
    ·exact (List.mem_filter.1 hme).1
    ·exact (List.mem_filter.1 hme).1
   obtain ⟨hm1,hm2⟩:=List.mem_filter.1 hme2;obtain ⟨e,he,rfl⟩:=List.mem_map.1 hm1;have hm2:(!(vs.map En.b).contains e.b)=true:=hm2;have hnv:e∉vs:=λhin=>by rw [(seen e he).2 hin] at hm2;cases hm2
   obtain ⟨g1,g2,g3,g4⟩:=X8 hi hf hA e;exact hmore e _ he hnv g1 g2 g3 g4
theorem Su(l:List Nat)(x:Nat):Kz (l++[x])=some x:=by
 induction l with
 |nil=>rfl
 |cons a l ih=>
  cases l with
  |nil=>rfl
  |cons b l=>exact ih
theorem DJ.entry{es vs:List (En α β)}(h:DJ ke ve A r es c){e:En α β}(hi:Iter A it r c (vs++[e]))(he:e∈es)(hk:K (.tuple #[ke e.k,ve e.v]) A):
  anW P X W0 m0 (Ow A (.pointer (some ⟨it,0,none⟩))) K:=by
 have hfind:∀ (l:List (En α β)) (i:Nat),e∈l->(l.map En.b).Nodup->∃ j,Eh e.b (l.map (En.entry ke ve)) i=some (i+j)/\l[j]? =some e:=by
  intro l
  induction l with
  |nil=>intro i h;cases h
  |cons x l ih=>
   intro i hx hn;simp only [Mc,List.nodup_cons] at hn;by_cases hxb:x.b=e.b
   ·rcases Mk.1 hx with rfl | hx
    ·refine ⟨0,?_,rfl⟩;show (bif Nat.beq e.b e.b then some i else _)=_;rw [Nat.beq_refl];rfl
    ·exact absurd (List.mem_map.2 ⟨e,hx,hxb.symm⟩) hn.1
   ·rcases Mk.1 hx with rfl | hx
    ·exact absurd rfl hxb
    ·obtain ⟨j,h1,h2⟩:=ih (i+1) hx hn.2;refine ⟨j+1,?_,h2⟩;show (bif Nat.beq x.b e.b then some i else Eh e.b (l.map (En.entry ke ve)) (i+1))=_
     have:Nat.beq x.b e.b=false:=by
      cases hb:Nat.beq x.b e.b with
      |false=>rfl
      |true=>exact absurd (Nb hb) hxb
     rw [this,Cf,h1,show i+1+j=i+(j+1) by omega]
 obtain ⟨j,h1,h2⟩:=hfind es 0 he h.nb;rw [Nat.zero_add] at h1;have hl:Kz ((vs++[e]).map En.b)=some e.b:=by rw [List.map_append];exact Su _ _
 have e1:Mf A (.pointer (some ⟨it,0,none⟩))=some (.tuple #[ke e.k,ve e.v]):=by
  unfold Mf;simp only [hi.get,hl,h.row.row,Nat.beq_refl,Ct,h1,List.getElem?_map,h2,Option.map_some];rfl
 unfold Ow;rw [e1];exact .inl ⟨_,_,rfl,hk⟩
theorem Nr{es vs:List (En α β)}(hn:(es.map En.b).Nodup)(hvn:(vs.map En.b).Nodup)(h1:∀ e∈vs,e∈es)(h2:∀ e∈es,e∈vs):vs.Perm es:=by
 have n1:es.Nodup:=EY _ hn;have n2:vs.Nodup:=EY _ hvn;exact (List.perm_ext_iff_of_nodup n2 n1).2 λe=>⟨h1 e,h2 e⟩
end
variable {A:AW} {r c:Nat}
section
variable {P:Program} {X:Bt} {W0:World} {m0:Inj P} {α β:Type} {ke:α->Value} {ve:β->Value} {keq:α->α->Bool} {t kt et:TypeId}
def Mg(keq:α->α->Bool)(es:List (En α β))(k:α):List (En α β):=es.filter λe=>!keq k e.k
theorem Zc{es:List (En α β)}{k:α}(hn:∀ e∈es,keq k e.k=false):Mg keq es k=es:=by
 unfold Mg;rw [List.filter_eq_self];intro e he;rw [hn e he];rfl
theorem Ze(hd:∀ {a b},keq a b=true↔a=b)(k:α):∀ (es:List (En α β)) (i j:Nat),(es.map En.k).Nodup->atE keq es k i=some j->es.eraseIdx (j-i)=Mg keq es k
 |[],_,_,_,h=>by simp [atE] at h
 |e::es,i,j,hn,h=>by
  simp only [Mc,List.nodup_cons] at hn;unfold atE at h;unfold Mg;split at h
  ·rename_i hk;cases h;rw [Nat.sub_self,List.eraseIdx_cons_zero,List.filter_cons_of_neg (by rw [hk];simp)];have hke:k=e.k:=hd.1 hk
   symm
   rw [List.filter_eq_self];intro x hx
   have:keq k x.k=false:=by
    cases hq:keq k x.k with
    |false=>rfl
    |true=>
     have:=hd.1 hq
     exact absurd (List.mem_map.2 ⟨x,hx,by rw [<- this,hke]⟩) hn.1
   rw [this];rfl
  ·rename_i hk;obtain ⟨h1,_,_⟩:=Nf h;rw [show j-i=(j-(i+1))+1 by omega,List.eraseIdx_cons_succ,List.filter_cons_of_pos (by simpa using hk),Ze hd k es (i+1) j hn.2 h];rfl
theorem LD{γ δ:Type}(f:γ->δ):∀ (l:List γ) (i:Nat),(l.map f).eraseIdx i=(l.eraseIdx i).map f
 |[],i=>by simp
 |x::l,0=>by simp
 |x::l,i+1=>by simp [LD f l i]
theorem DJ.del (T:MT P t kt et ke keq) {es:List (En α β)} (h:DJ ke ve A r es c) (hf:Aw A) (hb:A.next<=Aj) {k:α} {K:AW->Prop}
  (hk:∀ A',DJ ke ve A' r (Mg keq es k) c->Ah A A' [r]->A'.next=A.next->Aw A'->K A'):Be (FJ P A t (.map (some r)) (ke k)) K:=by
 have hsub:List.Sublist (Mg keq es k) es:=List.filter_sublist;have fin:∀ es',es'=Mg keq es k->Be (some (A.put r (.map (es'.map (En.entry ke ve)) c false))) K:=by
  rintro es' rfl;obtain ⟨g1,g2,g3,g4⟩:=h.row.put (es':=(Mg keq es k).map (En.entry ke ve)) (c':=c) hf hb;exact JO.2 (hk _ ⟨g1,λe he=>h.lt e (hsub.subset he),(hsub.map En.b).nodup h.nb,(hsub.map En.k).nodup h.nk⟩ g2 g3 g4)
 unfold FJ;simp only [I2 T,h.row.row,T.q,Ct,M9 T];cases ha:atE keq es k 0 with
 |none=>
  simp only;exact fin es (Zc (Rm ha).1).symm
 |some i=>
  simp only;rw [LD];refine fin _ ?_
  have:=Ze T.dec k es 0 i h.nk ha
  rwa [Nat.sub_zero] at this
theorem DJ.clone{es:List (En α β)}(h:DJ ke ve A r es c)(hf:Aw A)(hA:A.next<Aj):
  ∃ A',A.new (.map (es.map (En.entry ke ve)) c false)=some (A.next,A')/\DJ ke ve A' A.next es c/\Ah A A' []/\A'.next=A.next+1/\Aw A':=by
 refine ⟨A.push (.map (es.map (En.entry ke ve)) c false),?_,⟨⟨?_,?_⟩,h.lt,h.nb,h.nk⟩,(AW.BR _ hA).keeps hf,rfl,hf.push _ hA⟩
 ·unfold AW.new;rw [AA.2 hA,Ct];rfl
 ·rw [AW.BK _ hA,if_pos rfl]
 ·rw [AW.B0];omega
end
variable {A A':AW} {l D:Nat} {S:List Nat} {K:AW->Prop}
section
variable {P:Program} {X:Bt} {W0:World} {m0:Inj P}
theorem M6{i:Nat}{o o':AO}(h:A.get i=some o)(hfam:Y1 i o=i)(hlt:i<A.next)(hf:Aw A)(hA:A.next<=Aj):(A.put i o').get i=some o'/\Ah A (A.put i o') [i]/\(A.put i o').next=A.next/\Aw (A.put i o'):=by
 have hg:∀ j,(A.put i o').get j=if j=i then some o' else A.get j:=λj=>AW.CA A i j _ (by omega)
 refine ⟨by rw [hg,if_pos rfl],⟨Nl _,λj q hj _ hn=>?_,λf _ _=>rfl⟩,rfl,⟨hf.fams,λj hj=>?_⟩⟩
 ·rw [hg,Ff (λe=>?_)]
  ·exact hj
  ·subst e;rw [h] at hj;cases hj;exact hn (by rw [hfam];exact Ms.2 rfl)
 ·have hj:A.next<=j:=hj;rw [hg,Ff (by omega)];exact hf.get j hj
structure Fi (A:AW) (l:Nat) (r:GV):Prop where
 get:A.get l=some (.loop r)
 lt:l<A.next
theorem Fi.keeps{r:GV}(h:Fi A l r)(k:Ah A A' S)(hn:l∉S):Fi A' l r:=⟨k.get l _ h.get h.lt hn,Nat.lt_of_lt_of_le h.lt k.next⟩
structure Xh (A:AW) (D:Nat):Prop where
 get:A.get D=some (.deferred true)
 lt:D<A.next
theorem Xh.keeps(h:Xh A D)(k:Ah A A' S)(hn:D∉S):Xh A' D:=⟨k.get D _ h.get h.lt hn,Nat.lt_of_lt_of_le h.lt k.next⟩
theorem NY {fn:FuncId} {tm:Tm} {ps:List Tmp} {assign body:Code} {K:Nat->Nat->AW->Prop} (hf:Aw A) (hA:A.next+1<Aj)
  (hk:∀ A',Xh A' A.next->Fi A' (A.next+1) { state:=.ready,pending:=none,fn:=fn,tm:=tm,params:=ps,assign:=assign,body:=body,defers:=A.next }->Ah A A' []->A'.next=A.next+2->Aw A'->K A.next (A.next+1) A'):
  Vg A fn tm ps assign body K:=by
 have e1:A.new (.deferred true)=some (A.next,A.push (.deferred true)):=by
  unfold AW.new;simp only [AA.2 (show A.next<Aj by omega),Ct];rfl
 have f1:=hf.push (.deferred true) (show A.next<Aj by omega);have k1:=(AW.BR (A:=A) (.deferred true) (show A.next<Aj by omega)).keeps hf;have n1:(A.push (.deferred true)).next=A.next+1:=rfl;generalize A.push (.deferred true)=A1 at e1 f1 k1 n1;refine ⟨A.next,A1,A1.next,A1.push (.loop { state:=.ready,pending:=none,fn:=fn,tm:=tm,params:=ps,assign:=assign,body:=body,defers:=A.next }),e1,?_,?_⟩
 ·unfold AW.new;simp only [AA.2 (show A1.next<Aj by omega),Ct];rfl
 ·have k2:=(AW.BR (A:=A1) (.loop { state:=.ready,pending:=none,fn:=fn,tm:=tm,params:=ps,assign:=assign,body:=body,defers:=A.next }) (show A1.next<Aj by omega)).keeps f1;have hD:Xh A1 A.next:=⟨by
   unfold AW.new at e1;rw [AA.2 (show A.next<Aj by omega),Ct,Oi,Pj] at e1;rw [<- e1.2];show (A.put A.next _).get A.next=_;rw [AW.CA A A.next A.next _ (by omega),if_pos rfl],by omega⟩
  rw [n1];refine hk _ (hD.keeps k2 (by simp)) ⟨?_,?_⟩ (k1.trans k2 (by simp)) ?_ (f1.push _ (by omega))
  ·rw [<- n1,AW.BK _ (by omega),if_pos rfl]
  ·rw [AW.B0];omega
  ·rw [AW.B0];omega
theorem MR{r:GV}{K:AW->Prop}(h:Fi A l r)(hs:r.state=.ready)(hf:Aw A)(hA:A.next<=Aj)(hk:∀ A',Fi A' l { r with state:=.busy }->Ah A A' [l]->A'.next=A.next->Aw A'->K A'):Rl A l K:=by
 obtain ⟨h1,h2,h3,h4⟩:=M6 (o':=.loop { r with state:=.busy }) h.get rfl h.lt hf hA;exact ⟨r,h.get,hs,hk _ ⟨h1,h.lt⟩ h2 h3 h4⟩
theorem MI{r:GV}{j:Option Code}{K:Value->AW->Prop}(h:Fi A l r)(hf:Aw A)(hA:A.next<=Aj)(hk:∀ A',Fi A' l { r with state:=if j.isNone then .ready else .done,pending:=j }->Ah A A' [l]->A'.next=A.next->Aw A'->K (.bool j.isNone) A'):QN A l j K:=by
 obtain ⟨h1,h2,h3,h4⟩:=M6 (o':=.loop { r with state:=if j.isNone then .ready else .done,pending:=j }) h.get rfl h.lt hf hA;exact ⟨r,h.get,hk _ ⟨h1,h.lt⟩ h2 h3 h4⟩
theorem Kd{r:GV}{p q:AW->Prop}(h:Fi A l r)(hs:r.state≠ .busy)(hp:r.pending=none)(hf:Aw A)(hA:A.next<=Aj)(hk:∀ A',Ah A A' [l]->A'.next=A.next->Aw A'->p A'):LF A l p q:=by
 obtain ⟨h1,h2,h3,h4⟩:=M6 (o':=.loop { r with state:=.exhausted }) h.get rfl h.lt hf hA;exact ⟨r,h.get,hs,.inl ⟨hp,hk _ h2 h3 h4⟩⟩
theorem Ns(h:Xh A D)(hf:Aw A)(hA:A.next<=Aj)(hk:∀ A',Ah A A' [D]->A'.next=A.next->Aw A'->K A'):GA [D] A K:=by
 obtain ⟨h1,h2,h3,h4⟩:=M6 (o':=.deferred false) h.get rfl h.lt hf hA;exact ⟨h.get,hk _ h2 h3 h4⟩
theorem Mr{r:GV}{args:List Value}{K:Value->AW->Prop}(h:Fi A l r)(hn:args.length=r.params.length)(hk:Rs P X W0 m0 l r.fn (Cn r.tm (r.params.zip args)) r.assign r.body A K):
  anW P X W0 m0 (D2 P A (.func (.yield l) #[] #[]) args) K:=by
 refine .inr (.inr (.inl ⟨l,r.fn,Cn r.tm (r.params.zip args),r.assign,r.body,A,?_,hk⟩));unfold D2 Cz;simp only [h.get];rw [show (#[]:Array Value).toList++args=args from rfl];rw [show Nat.beq args.length r.params.length=true by rw [hn,Nat.beq_refl]];rfl
end
end Go.Abs
namespace Go.Proofs.YtnennggfoegcmaaGreatDoor
section
open Go.Abs
variable {A:AW} {K:Value->AW->Prop} {q r c:Nat}
theorem Afp(e:Bool)(s:ByteArray):KB Tp e 9 (.string s)=true:=by
 cases e<;>kernel_rfl
theorem XX(s:ByteArray):(Ax 4 (.string s)&&Instr.sameBits 10000 (.string s) (.string s))=true:=by
 have hs:Instr.sameBits 10000 (.string s) (.string s)=true:=by
  show Instr.sameBits (9999+1) (.string s) (.string s)=true;simp [Instr.sameBits,beq_toListBytes]
 rw [hs];rfl
theorem eqS(a b:ByteArray):eqA Tp 9 (.string a) (.string b)=some (a.data.toList==b.data.toList):=by
 unfold eqA;have hc:(Ax 4 (.string a)&&Ax 4 (.string b))=true:=rfl;rw [hc,Ct];show quiet Tp (Op.equalIn (9999+1) 9 _ _)=_;exact HB (by kernel_rfl)
theorem Ahu:BG Tp 86=some 9:=by kernel_rfl
theorem sz9:szT Tp 9=some 1:=by kernel_rfl
theorem by9:EB Tp 9=some 16:=by kernel_rfl
theorem hz9:C9 Tp 9 1=true:=by kernel_rfl
theorem Ahr:Tp.underlying 86=some (.slice 9):=by kernel_rfl
theorem AiY(A:AW)(s:ByteArray):Aq Tp A 86 1 [(0,.string s)]=(match A.newRow [.string s] 9 with | some (a,w')=>.ok (.slice (some a) 1 1) w' | none=>.fail "buildSlice new"):=by kernel_rfl
theorem Ade(A:AW)(l:Nat)(a:Addr):D2 Tp A (.func (.func 158) ⟨[]⟩ ⟨[.pointer (some a)]⟩) [.func (.yield l) #[] #[]]=.ok (.enter 158 [.func (.yield l) #[] #[],.pointer (some a)]) A:=by kernel_rfl
theorem SP(a b:Value):Ap (.tuple #[a,b]) 0=some a:=rfl
theorem Q4(a b c:Value):Ap (.tuple #[a,b,c]) 0=some a:=rfl
theorem Q5(a:Value):Ap (.tuple #[a]) 0=some a:=rfl
theorem Fs{γ:Type}:∀ {a b:List γ},a.Nodup->(∀ x∈a,x∈b)->a.length<=b.length
 |[],_,_,_=>Nat.zero_le _
 |x::a,b,hn,hs=>by
  obtain ⟨s,t,rfl⟩:=List.append_of_mem (hs x List.mem_cons_self);rw [List.nodup_cons] at hn
  have:=Fs (a:=a) (b:=s++t) hn.2 λy hy=>by
   have hne:y≠x:=λe=>hn.1 (e▸hy);rcases Mz.1 (hs y (List.mem_cons_of_mem _ hy)) with h | h
   ·exact List.mem_append_left _ h
   ·rcases Mk.1 h with h | h
    ·exact absurd h hne
    ·exact List.mem_append_right _ h
  simp only [Lq,Lc] at *;omega
theorem Aaq{s:ByteArray}(hf:Aw A)(h:A.next<Aj)(hk:∀ A',Made A A' [.string s] 9->K (.slice (some ⟨A.next,0,none⟩) 1 1) A'):Ao (Aq Tp A 86 1 [(0,.string s)]) K:=by
 rw [AiY];unfold AW.newRow AW.new;have hc:([Value.string s].all AK)=true:=rfl;simp only [hc,Ct,AA.2 h];exact AT.2 (hk (A.push (.row [.string s] 9 A.next 0 false)) ⟨AW.BR _ h,rfl,by rw [AW.BK _ h,if_pos rfl],hf.alone (Nl _),hf.push _ h⟩)
theorem Aeq(q b:Nat)(v:Value):(Cn (MA ⟨13,.nil⟩ [(0,.slice none 0 0),(1,.func (.func 158) ⟨[]⟩ ⟨[pP q 0]⟩),(2,pP b 0),(4,.slice none 0 0),(6,.func (.func 158) ⟨[]⟩ ⟨[pP q 0]⟩)]) [(7,v)]).sz=13/\
  (Cn (MA ⟨13,.nil⟩ [(0,.slice none 0 0),(1,.func (.func 158) ⟨[]⟩ ⟨[pP q 0]⟩),(2,pP b 0),(4,.slice none 0 0),(6,.func (.func 158) ⟨[]⟩ ⟨[pP q 0]⟩)]) [(7,v)]).get 2=.pointer (some ⟨b,0,none⟩)/\
  (Cn (MA ⟨13,.nil⟩ [(0,.slice none 0 0),(1,.func (.func 158) ⟨[]⟩ ⟨[pP q 0]⟩),(2,pP b 0),(4,.slice none 0 0),(6,.func (.func 158) ⟨[]⟩ ⟨[pP q 0]⟩)]) [(7,v)]).get 7=v:=⟨by kernel_rfl,by kernel_rfl,by kernel_rfl⟩
section
variable {W0:World} {m0:Inj Tp} {β:Type} {ve:β->Value}
def kS(s:ByteArray):Value:=.string s
abbrev Vi(tm:Tm)(D:Nat)(ac bd:Code):GV:={ state:=.ready,pending:=none,fn:=194,tm:=tm,params:=[7],assign:=ac,body:=bd,defers:=D }
theorem Ad1 {b l D:Nat} {es:List (En ByteArray β)} {tm:Tm} {ac bd:Code} (has:ac=cd 194 [1,0,1,0,0]) (hbd:bd=cd 194 [1,0,1,0,1]) (hq:Abs.Row1 A q [.map (some r)] 66) (hm:DJ kS ve A r es c) (hb:Abs.Row1 A b [.slice none 0 0] 86) (hl:Fi A l (Vi tm D ac bd)) (hbl:b≠l) (hqb:q≠b) (hql:q≠l) (hrb:r≠b) (hrl:r≠l)
  (ht:∀ v,(Cn tm [(7,v)]).sz=13/\(Cn tm [(7,v)]).get 2=.pointer (some ⟨b,0,none⟩)/\(Cn tm [(7,v)]).get 7=v) (hf:Aw A) (hes:es.length<100000) (hA:A.next+10+3*es.length<Aj)
  (hk:∀ A' sv F (vs:List (En ByteArray β)),Abs.Row1 A' b [sv] 86->Fi A' l (Vi tm D ac bd)->Dq A' 9 1 sv vs.length (vs.map λe=>kS e.k) F->vs.Perm es->(∀ x∈F,A.next<x)->Ah A A' [b,l]->A'.next<=A.next+1+3*es.length->Aw A'->K (.tuple ⟨[]⟩) A'):
  Wc Tp Al W0 m0 158 [.func (.yield l) #[] #[],pP q 0] A K:=by
 have hblt:=hb.lt;have hllt:=hl.lt;have hqlt:=hq.lt;have hrlt:=hm.ltA;let I:Nat->Nat->List Value->AW->Prop:=λg id vals A'=>id=0/\∃ (sv:Value) (F:List Nat) (vs:List (En ByteArray β)),vals=[.func (.yield l) #[] #[],pP A.next 0]/\Iter A' A.next r c vs/\DJ kS ve A' r es c/\Abs.Row1 A' b [sv] 86/\Fi A' l (Vi tm D ac bd)/\
  Dq A' 9 1 sv vs.length (vs.map λe=>kS e.k) F/\(∀ e∈vs,e∈es)/\(vs.map En.b).Nodup/\(∀ x∈F,A.next<x)/\Ah A A' [b,l]/\Aw A'/\A'.next<=A.next+1+3*vs.length/\g=es.length-vs.length
 refine AgW _ _ _ (AiS (I:=I) ?_) ?_
 ·rintro g id vals A' d ⟨rfl,sv,F,vs,rfl,hit,hm',hb',hl',ho,hvs,hnd,hF,k,f,nx,rfl⟩ hd;rw [Ac1];simp only [ZG,Mc,Mn,Li,and_true] at hd;obtain ⟨d0,d5⟩:=hd;rw [d0,d5];have hlen:=Fs (EY _ hnd) hvs;refine hm'.next hit hvs f (by omega) (λe A2 he hnv it2 k2 n2 f2=>?_) λhall=>?_
  ·have hm2:=hm'.keeps k2 (by simp;omega);have hb2:=hb'.keeps k2 (by simp;omega);have hl2:=hl'.keeps k2 (by simp;omega);have ho2:=ho.keeps k2 (λx hx=>by have:=hF x hx;simp;omega);have K2:Ah A A2 [b,l]:=k.trans k2 (by simp);have hvs2:∀ x∈vs++[e],x∈es:=λx hx=>by
    rcases Mz.1 hx with h | h
    ·exact hvs x h
    ·rw [Ms.1 h];exact he
   have hnd2:((vs++[e]).map En.b).Nodup:=by
    rw [List.map_append,List.nodup_append];refine ⟨hnd,by simp,λx hx y hy hxy=>hnv ?_⟩;obtain ⟨z,hz,rfl⟩:=List.mem_map.1 hx;obtain rfl:y=e.b:=by simpa using hy
    rw [<- Vl hm.nb (hvs z hz) he hxy];exact hz
   have hlen2:=Fs (EY _ hnd2) hvs2;have hl1:(vs++[e]).length=vs.length+1:=by simp
   simp only [Q4,Ab];refine Ag.2 ⟨λ_=>?_,λh=>by cases h⟩;refine hm2.entry it2 he ?_;simp only [SP,Ab];obtain ⟨t1,t2,t3⟩:=ht (kS e.k);refine Mr hl2 rfl (RR (T:=Tz) (L:=Lz) (N:=4000) gP (by decide) t1 ?_);rw [has,hbd,AcA];have t2:(Cn tm (List.zip [7] [kS e.k])).get 2=.pointer (some ⟨b,0,none⟩):=t2;have t3:(Cn tm (List.zip [7] [kS e.k])).get 7=kS e.k:=t3;refine MR hl2 rfl f2 (by omega) λA3 hl3 k3 n3 f3=>?_;have hb3:=hb2.keeps k3 (by simp;omega);have ho3:=ho2.keeps k3 (λx hx=>by have:=hF x hx;simp;omega);have one3:=ho3.one;simp only [t2,t3,AbC,Af hb3.row,cellOf,one3.2,Cf,Ab];refine Aaq f3 (by omega) λA4 m4=>?_;have n4:=m4.next;have k4:=m4.keeps f3;have hx:BM Tp A4 9 86 (0+1) (.slice (some ⟨A3.next,0,none⟩) 1 1)=some (0+1,[kS e.k]):=by
    unfold BM;rw [Ahr];show Df A4 1 (.slice (some ⟨A3.next,0,none⟩) 1 1)=_;unfold Df;simp only [Bc m4.Bk.row];rfl
   refine JT (m:=0) (size:=0) Ahu sz9 by9 hz9 hx rfl rfl (ho3.keeps k4 (by simp)) m4.Ay (by omega) (by have:room=68719476736:=rfl;omega) (by have:room=68719476736:=rfl;omega) λsv5 A5 F5 ho5 k5 hF5 n5 f5=>?_;have hb5:=(hb3.keeps k4 (by simp)).keeps k5 (λhm=>by have:=hF _ hm;omega);have hl5:=(hl3.keeps k4 (by simp)).keeps k5 (λhm=>by have:=hF _ hm;omega);have hm5:=((hm2.keeps k3 (by simp;omega)).keeps k4 (by simp)).keeps k5 (λhm=>by have:=hF _ hm;omega);have hit5:=((it2.keeps k3 (by simp;omega)).keeps k4 (by simp)).keeps k5 (λhm=>by have:=hF _ hm;omega);have hF5':∀ x∈F5,A.next<x:=λx hx=>by
    rcases hF5 x hx with h | h
    ·exact hF x h
    ·have:=k4.next;have:=K2.next;have:=it2.lt;omega
   obtain ⟨o5,hx5⟩:∃ o n c,sv5=.slice o n c:=by
    rcases ho5 with ⟨rfl,_⟩ | ⟨_,_,rfl,_⟩
    ·exact ⟨_,_,_,rfl⟩
    ·exact ⟨_,_,_,rfl⟩
   refine hb5.store f5 (by omega) (Aev _ _ _) (by obtain ⟨n,c,rfl⟩:=hx5;rfl) (by simp) (by obtain ⟨n,c,rfl⟩:=hx5;rfl) λA6 hb6 k6 n6 f6=>?_;have hb6:Abs.Row1 A6 b [sv5] 86:=by obtain ⟨n,c,rfl⟩:=hx5;exact hb6
   refine MI (hl5.keeps k6 (by simp;omega)) f6 (by omega) λA7 hl7 k7 n7 f7=>?_;have hl7:Fi A7 l (Vi tm D ac bd):=hl7;simp only [Bl,Ab];refine Ag.2 ⟨λh=>(by cases h),λ_=>?_⟩;refine Au.2 ⟨es.length-(vs.length+1),by omega,rfl,sv5,F5,vs++[e],rfl,(hit5.keeps k6 (by simp;omega)).keeps k7 (by simp;omega),(hm5.keeps k6 (by simp;omega)).keeps k7 (by simp;omega),hb6.keeps k7 (by simp;omega),hl7,?_,hvs2,hnd2,hF5',?_,f7,by omega,by omega⟩
   ·rw [List.map_append,hl1];exact (ho5.keeps k6 (λx hx=>by have:=hF5' x hx;simp;omega)).keeps k7 (λx hx=>by have:=hF5' x hx;simp;omega)
   ·exact ((((K2.trans k3 (by simp)).trans k4 (by simp)).trans k5 (λx hx=>.inr (by have:=hF x hx;omega))).trans k6 (by simp)).trans k7 (by simp)
  ·simp only [Q5,Ab];refine Ag.2 ⟨λh=>(by cases h),λ_=>?_⟩;exact hk A' sv F vs hb' hl' ho (Nr hm.nb hnd hvs hall) hF k (by omega) f
 ·rw [Aii];simp only [E1,Af hq.row,cellOf,Bp,Cf,Ab];refine hm.range (t:=66) (P:=Tp) (kt:=9) (et:=89) (keq:=λa b=>a.data.toList==b.data.toList) ?_ hf (by omega) λA1 hit k1 n1 f1=>?_
  ·exact ⟨by kernel_rfl,eqS,λ{a b}=>by rw [beq_iff_eq];exact ⟨Te,λh=>by rw [h]⟩,Afp,XX⟩
  ·exact Au.2 ⟨es.length,rfl,.slice none 0 0,[],[],rfl,hit,hm.keeps k1 (by simp),hb.keeps k1 (by simp),hl.keeps k1 (by simp),.nil _ _ _,by simp,by simp,by simp,k1.more (by simp),f1,by simp;omega,rfl⟩
theorem AdU {es:List (En ByteArray β)} (hq:Abs.Row1 A q [.map (some r)] 66) (hm:DJ kS ve A r es c) (hf:Aw A) (hes:es.length<100000) (hA:A.next+20+3*es.length<Aj)
  (hk:∀ A' sv F (vs:List (En ByteArray β)),Dq A' 9 1 sv vs.length (vs.map λe=>kS e.k) F->vs.Perm es->(∀ x∈F,A.next<=x)->Ah A A' []->A'.next<=A.next+10+3*es.length->Aw A'->K sv A'):
  Wc Tp Al W0 m0 194 [.slice none 0 0,.func (.func 158) ⟨[]⟩ ⟨[pP q 0]⟩] A K:=by
 have hqlt:=hq.lt;have hrlt:=hm.ltA;refine AgL _ _ _ BD ?_;rw [Ah7];refine AZ (cs:=[.slice none 0 0]) hf (by omega) rfl λA1 m1=>?_;have n1:=m1.next;have k1:=m1.keeps hf;refine NY m1.Ay (by omega) λA2 hD hl k2 n2 f2=>?_;have K2:Ah A A2 []:=k1.trans k2 (by simp);refine ⟨158,_,A2,Ade A2 _ ⟨q,0,none⟩,Ad1 rfl rfl (hq.keeps K2 (by simp)) (hm.keeps K2 (by simp)) (m1.Bk.keeps k2 (by simp)) hl (by omega) (by omega) (by omega) (by omega) (by omega) (λv=>Aeq q _ v) f2 hes (by omega) λA3 sv F vs hb3 hl3 ho3 hp hF k3 n3 f3=>?_⟩;refine Kd hl3 (show LoopState.ready≠LoopState.busy from λh=>by cases h) rfl f3 (by omega) λA4 k4 n4 f4=>?_;have hb4:=hb3.keeps k4 (by simp;omega);have ho4:=ho3.keeps k4 (λx hx=>by have:=hF x hx;simp;omega);have one4:=ho4.one;simp only [AbC,Af hb4.row,cellOf,one4.2,Cf,Ab];refine Ns ((hD.keeps k3 (by simp;omega)).keeps k4 (by simp)) f4 (by omega) λA5 k5 n5 f5=>?_;refine hk A5 sv F vs (ho4.keeps k5 (λx hx=>by have:=hF x hx;simp;omega)) hp (λx hx=>by have:=hF x hx;omega) ?_ (by omega) f5;exact ((K2.trans k3 (by simp;omega)).trans k4 (by simp;omega)).trans k5 (by simp;omega)
theorem Ad2 {es:List (En ByteArray β)} (hq:Abs.Row1 A q [.map (some r)] 66) (hm:DJ kS ve A r es c) (hf:Aw A) (hes:es.length<100000) (hA:A.next+20+3*es.length<Aj)
  (hk:∀ A' sv F (vs:List (En ByteArray β)),Dq A' 9 1 sv vs.length (vs.map λe=>kS e.k) F->vs.Perm es->(∀ x∈F,A.next<=x)->Ah A A' []->A'.next<=A.next+10+3*es.length->Aw A'->K sv A'):
  Wc Tp Al W0 m0 156 [.func (.func 158) ⟨[]⟩ ⟨[pP q 0]⟩] A K:=by
 refine AgX _ _ BD ?_;rw [Aij];exact AdU hq hm hf hes hA hk
end
theorem YL(A:AW)(a:Addr):Ae Tp A 148 (.pointer (some a))=A.cell? a:=by kernel_rfl
theorem Acs(A:AW)(a:Addr)(v:Value):Av Tp A 148 (.pointer (some a)) v=(bif Nat.beq v.cells.toList.length 1 then A.setCells a v.cells.toList else none):=by kernel_rfl
theorem Afw(b o n c i:Nat)(k:IntKind):Ar Tp 36 (.slice (some ⟨b,o,none⟩) n c) (.int k (.ofNat i))=(bif Nat.blt i n then some (.pointer (some (Ek ⟨b,o,none⟩ (i*1)))) else none):=by kernel_rfl
theorem AfZ(A:AW)(f:Int)(g b:ByteArray):Aq Tp A 148 1 [(0,.agg ⟨[.int .u32 f,.string g,.string b]⟩)]=(match A.newRow [.int .u32 f,.string g,.string b] 32 with | some (a,w')=>.ok (.slice (some a) 1 1) w' | none=>.fail "buildSlice new"):=by kernel_rfl
theorem V1{p q:Nm}:Hy (p.f:Int) (q.f:Int) p.g q.g p.b q.b=true↔p=q:=by
 unfold Hy;simp only [Bq,beq_iff_eq];constructor
 ·rintro ⟨h1,h2,h3⟩;have h2:=Te h2;have h3:=Te h3;obtain ⟨f,g,b⟩:=p;obtain ⟨f',g',b'⟩:=q;simp only at h1 h2 h3
  have:f=f':=by omega
  rw [this,h2,h3]
 ·rintro rfl;exact ⟨rfl,rfl,rfl⟩
theorem NB(p q:Nm):Hy (p.f:Int) (q.f:Int) p.g q.g p.b q.b=CL p q:=by
 rw [Bool.eq_iff_iff,V1,CK]
def kN(p:Nm):Value:=.agg ⟨p.cells⟩
theorem AfE(p q:Nm):eqA Tp 32 (kN p) (kN q)=some (CL p q):=by
 unfold eqA;have hc:(Ax 4 (kN p)&&Ax 4 (kN q))=true:=rfl;rw [hc,Ct,<- NB];exact U5 _ _ _ _ _ _
theorem AeV(p q:Nm)(xo yo:Operand):An Tp .neq 32 xo yo (.agg ⟨p.cells⟩) (.agg ⟨q.cells⟩)=some (.bool !(CL p q)):=by
 have hg:DI Tp 32 xo yo (kN p) (kN q)=true:=by
  show (!Tp.eqGuardType Tp.depth 32)=true
  kernel_rfl
 show (bif DI Tp 32 xo yo (kN p) (kN q) then (match eqA Tp 32 (kN p) (kN q) with | some b=>some (Value.bool !b) | none=>none) else none)=_;rw [hg,Ct,AfE]
theorem AhJ(e:Bool)(p:Nm):KB Tp e 32 (kN p)=true:=by
 cases e<;>kernel_rfl
theorem Acw(p:Nm):(Ax 4 (kN p)&&Instr.sameBits 10000 (kN p) (kN p))=true:=by
 have hs:Instr.sameBits 10000 (kN p) (kN p)=true:=by
  show Instr.sameBits (9999+1) (.agg ⟨p.cells⟩) (.agg ⟨p.cells⟩)=true;simp only [Nm.cells,Instr.sameBits,beq_self_eq_true,Bool.true_and];simp [Instr.sameBits,beq_toListBytes]
 rw [hs];rfl
theorem mtN:MT Tp 72 32 35 kN CL:=⟨by kernel_rfl,AfE,CK,AhJ,Acw⟩
theorem etN:ET Tp 148 32 2 Nm.cells:=⟨by kernel_rfl,by kernel_rfl,by kernel_rfl,⟨40,by kernel_rfl,by decide⟩,by kernel_rfl,λ_=>rfl,λ_=>rfl,λ_=>rfl⟩
theorem AfW(A:AW)(a b c:Int):Aq Tp A 36 3 [(0,.int .i64 a),(1,.int .i64 b),(2,.int .i64 c)]=(match A.newRow [.int .i64 a,.int .i64 b,.int .i64 c] 3 with | some (a,w')=>.ok (.slice (some a) 3 3) w' | none=>.fail "buildSlice new"):=by kernel_rfl
theorem YU(a b c:Int):Bn Tp (BZ (Tm.fill ⟨3,.nil⟩ 0 [.int .i64 a,.int .i64 b,.int .i64 c])) (.buildSlice 36 3 #[(0,.tmp 0),(1,.tmp 1),(2,.tmp 2)])=some (.slice [.int .i64 a,.int .i64 b,.int .i64 c] 3 3):=by kernel_rfl
variable {a b n c:Int} {A:AW} {K:Value->AW->Prop} {q:Nat}
def cpR:Go.Shelf.Ren:=⟨λ| 106=>164 | 213=>200 | 265=>233 | x=>x,λx=>x,λx=>x⟩
theorem cpX:Go.Proofs.Lays.n106 Tp cpR:=by apply Go.Proofs.Lays.n106.mk<;>(intros;kernel_rfl)
section
variable {W0:World} {m0:Inj Tp}
theorem Afq(a b:ByteArray):KC.Holds Tp W0 m0 ⟨164,[.string a,.string b],[.int .i64 (Jl a b)]⟩:=by
 refine ⟨λe=>absurd e (show (164:Nat)≠Et by decide),λ_ m args' W _ _ ha=>?_⟩;cases ha with
 |cons h1 h2=>
  cases h2 with
  |cons h3 h4=>
   cases h4;cases h1;cases h3;refine (Go.Proofs.Any.strings_Compare cpX a b W).mono ?_;rintro e w' ⟨rfl,rfl⟩;exact ⟨_,Ms.2 rfl,rfl,⟨⟨rfl,rfl,rfl,Nl _,λ_ _=>rfl⟩,λ_=>Nl _⟩⟩
theorem AbG{a b:ByteArray}(hk:K (.int .i64 (Jl a b)) A):knW Tp W0 m0 164 [.string a,.string b] A K:=
 .inl ⟨_,by decide,Afq a b,rfl,λv hv=>by rw [Ms.1 hv];exact hk⟩
theorem Abd(hk:K (.bool false) A):Wc Tp Al W0 m0 199 [.int .u32 n] A K:=by
 refine AgJ _ _ BD ?_;rw [Ah5]
 have:(n != n)=false:=by simp
 simp only [Bw,Ab,this];exact hk
theorem AdY{m:Int}(hk:K (.int .i64 (Ml n m)) A):Wc Tp Al W0 m0 163 [.int .u32 n,.int .u32 m] A K:=by
 refine AgS _ _ _ BD ?_;rw [Aie];refine Abd (Abd ?_);refine Ag.2 ⟨λh=>by simp at h,λ_=>Ag.2 ⟨λh=>by simp at h,λ_=>?_⟩⟩;simp only [Br,B3,Ab,Az];unfold Ml at hk;refine ⟨λh=>?_,λh=>⟨λh2=>?_,λh2=>?_⟩⟩
 ·rw [if_pos h] at hk;exact hk
 ·rw [Ff h,if_pos h2] at hk;exact hk
 ·rw [Ff h,Ff h2] at hk;exact hk
theorem Ac9{n i:Nat}(hi:i<n):Ar Tp 36 (.slice (some ⟨q,0,none⟩) n n) (.int .i64 (i:Int))=some (pP q i):=by
 show Ar Tp 36 _ (.int .i64 (.ofNat i))=_;rw [Afw,AA.2 hi,Ct];unfold Ek;cases hb:Nat.beq (i*1) 0 with
 |true=>rw [Ct];have:=Nb hb;rw [Nat.mul_one] at this;rw [this]
 |false=>rw [Cf,Nat.mul_one,Nat.zero_add]
theorem AdZ(hr:Abs.Row1 A q [.int .i64 a,.int .i64 b,.int .i64 c] 3)(hk:K (.int .i64 (orL [a,b,c])) A):Wc Tp Al W0 m0 162 [.slice (some ⟨q,0,none⟩) 3 3] A K:=by
 let I:Nat->Nat->List Value->AW->Prop:=λg id vals A'=>id=0/\A'=A/\∃ i:Nat,vals=[.int .i64 0,.slice (some ⟨q,0,none⟩) 3 3,.int .i64 3,.int .i64 (i:Int)]/\g=3-i/\i<=3/\orL [a,b,c]=orL ([a,b,c].drop i);refine AgT _ _ (c162 (I:=I) ?_) ?_
 ·rintro g id vals A' d ⟨rfl,rfl,i,rfl,rfl,hi,ho⟩ hd;rw [AcZ];simp only [ZE,Mc,Mn,Li,and_true] at hd;obtain ⟨h3,h6,h7,h8⟩:=hd;simp only [h3,h6,h7,h8,Br,Ab,Az];have hcase:i=0\/i=1\/i=2\/i=3:=by omega
  have fin:∀ {x:Int} {r:List Int},[a,b,c].drop i=x::r->Ae Tp A' 3 (pP q i)=some (.int .i64 x)->i<3->
    Aa (Ae Tp A' 3 (pP q i)) λt2=>Aa (An Tp .neq 3 (.tmp 12) (.tmp 13) t2 (.int .i64 0)) λt3=>Ai t3 (K t2 A') (Aa (An Tp .add 3 (.tmp 8) (.const (.int .i64 1)) (.int .i64 (i:Int)) (.int .i64 1)) λt4=>BE (Pp 0) (Pp 0) (∃ g',g'<3-i/\I g' 0 [.int .i64 0,.slice (some ⟨q,0,none⟩) 3 3,.int .i64 3,t4] A')):=by
   intro x r hdr hld hlt;rw [hld];simp only [Ab,Bw,Bj,Bm];rw [hdr] at ho;refine ⟨λhx=>?_,λhx=>?_⟩
   ·rw [ho] at hk;simp only [orL] at hk;rw [if_pos hx] at hk;exact hk
   ·rw [wrap_i64 (by omega) (by omega)];refine Au.2 ⟨3-(i+1),by omega,rfl,rfl,i+1,rfl,rfl,by omega,?_⟩
    have:[a,b,c].drop (i+1)=r:=by rw [<- List.drop_drop,hdr];rfl
    rw [this,ho];simp only [orL];rw [Ff (by simp [hx])]
  rcases hcase with rfl | rfl | rfl | rfl
  ·refine ⟨λ_=>?_,λh=>absurd (by decide) h⟩;rw [Ac9 (by decide)];simp only [Ab];exact fin rfl (by rw [GL,Af hr.row];rfl) (by decide)
  ·refine ⟨λ_=>?_,λh=>absurd (by decide) h⟩;rw [Ac9 (by decide)];simp only [Ab];exact fin rfl (by rw [GL,Af hr.row];rfl) (by decide)
  ·refine ⟨λ_=>?_,λh=>absurd (by decide) h⟩;rw [Ac9 (by decide)];simp only [Ab];exact fin rfl (by rw [GL,Af hr.row];rfl) (by decide)
  ·refine ⟨λh=>absurd h (by decide),λ_=>?_⟩;rw [ho] at hk;exact hk
 ·rw [Aif];simp only [AbA,Ab];exact Au.2 ⟨3,rfl,rfl,0,rfl,rfl,by decide,rfl⟩
theorem Wk(hf:Aw A)(h:A.next<Aj)(hk:∀ A',Made A A' [.int .i64 a,.int .i64 b,.int .i64 c] 3->K (.slice (some ⟨A.next,0,none⟩) 3 3) A'):Ao (Aq Tp A 36 3 [(0,.int .i64 a),(1,.int .i64 b),(2,.int .i64 c)]) K:=by
 rw [AfW];unfold AW.newRow AW.new;have hc:([Value.int .i64 a,.int .i64 b,.int .i64 c].all AK)=true:=rfl;simp only [hc,Ct,AA.2 h];exact AT.2 (hk (A.push (.row [.int .i64 a,.int .i64 b,.int .i64 c] 3 A.next 0 false)) ⟨AW.BR _ h,rfl,by rw [AW.BK _ h,if_pos rfl],hf.alone (Nl _),hf.push _ h⟩)
theorem Wz{p:Prop}(h:A.get q=some (.row [.int .i64 a,.int .i64 b,.int .i64 c] 3 q 0 false))(hp:p):Cd (Bn Tp (BZ (Tm.fill ⟨3,.nil⟩ 0 [.int .i64 a,.int .i64 b,.int .i64 c])) (.buildSlice 36 3 #[(0,.tmp 0),(1,.tmp 1),(2,.tmp 2)])) A (.slice (some ⟨q,0,none⟩) 3 3) p:=by
 refine ⟨⟨_,YU a b c,?_⟩,hp⟩;simp only [B4,Eu,h,EF,EV,Bool.and_self,Option.isNone_none,Bool.true_and,Nat.beq_refl]
theorem Agg{p q:Nm}(hf:Aw A)(hA:A.next+5<Aj)(hk:∀ A',Grow A A' 3->K (.int .i64 (DP p q)) A'):Wc Tp Al W0 m0 99 [.agg ⟨p.cells⟩,.agg ⟨q.cells⟩] A K:=by
 refine w99 _ _ _ BD ?_;rw [e99];refine AZ (cs:=p.cells) hf (by omega) rfl λA1 m1=>?_;have n1:=m1.next;refine AZ (cs:=q.cells) m1.Ay (by omega) rfl λA2 m2=>?_;have n2:=m2.next;have g2:=(Grow.made m1 hf).trans (.made m2 m1.Ay);have r1:Abs.Row1 A2 A.next [.int .u32 (p.f:Int),.string p.g,.string p.b] 32:=(m1.Bk).keeps (m2.keeps m1.Ay) (by simp);have r2:Abs.Row1 A2 A1.next [.int .u32 (q.f:Int),.string q.g,.string q.b] 32:=m2.Bk;simp only [Vt,LB,Is,N5,Eg,Af r1.row,Af r2.row,cellOf,isTuple,Cf,Ab,Nat.zero_add];refine AdY ?_;simp only [Af r1.row,Af r2.row,cellOf,isTuple,Cf,Ab,AR];refine AbG ?_;simp only [Af r1.row,Af r2.row,cellOf,isTuple,Cf,Ab,AR];refine AbG ?_;refine Wk m2.Ay (by omega) λA3 m3=>?_;have n3:=m3.next;have q1:=r1.keeps (m3.keeps m2.Ay) (by simp);have q2:=r2.keeps (m3.keeps m2.Ay) (by simp);refine Wz m3.row ?_;simp only [Af q1.row,Af q2.row,cellOf,isTuple,Cf,Ab,AR];exact AdZ m3.Bk (hk A3 (g2.trans (.made m3 m2.Ay)))
end
end
section
open Go.Abs Go.Sort
def Abr:Go.Shelf.Ren:=⟨λ| 6=>160 | 15=>196 | 14=>198 | 28=>223 | 29=>224 | 20=>225 | 21=>226 | 22=>227 | 23=>228 | 24=>229 | 25=>230 | 26=>231 | 27=>232 | 46=>254 | 47=>249 | 48=>250 | 49=>255 | 50=>256 | 57=>266 | x=>x,λ| 22=>148 | 24=>32 | 25=>153 | 3=>3 | 39=>42 | 0=>0 | 53=>30 | 55=>136 | 4=>4 | 46=>244 | 45=>243 | 50=>248 | 5=>5 | 9=>9 | 66=>270 | 70=>274 | 76=>287 | 77=>288 | x=>x,λx=>x⟩
theorem Aez:Go.Proofs.SlLaysF0.n6 Tp Abr where
 mixed:=by kernel_rfl
 f6:=⟨Tryz.f160.name,by decide,Tryz.func160.trans (congrArg some (by kernel_rfl))⟩
 f14:=⟨Tryz.f198.name,by decide,Tryz.func198.trans (congrArg some (by kernel_rfl))⟩
 f15:=Tryz.func196.trans (congrArg some (by kernel_rfl))
 f20:=⟨Tryz.f225.name,by decide,Tryz.func225.trans (congrArg some (by kernel_rfl))⟩
 f21:=⟨Tryz.f226.name,by decide,Tryz.func226.trans (congrArg some (by kernel_rfl))⟩
 f22:=⟨Tryz.f227.name,by decide,Tryz.func227.trans (congrArg some (by kernel_rfl))⟩
 f23:=⟨Tryz.f228.name,by decide,Tryz.func228.trans (congrArg some (by kernel_rfl))⟩
 f24:=⟨Tryz.f229.name,by decide,Tryz.func229.trans (congrArg some (by kernel_rfl))⟩
 f25:=⟨Tryz.f230.name,by decide,Tryz.func230.trans (congrArg some (by kernel_rfl))⟩
 f26:=⟨Tryz.f231.name,by decide,Tryz.func231.trans (congrArg some (by kernel_rfl))⟩
 f27:=⟨Tryz.f232.name,by decide,Tryz.func232.trans (congrArg some (by kernel_rfl))⟩
 f28:=Tryz.func223.trans (congrArg some (by kernel_rfl))
 f29:=Tryz.func224.trans (congrArg some (by kernel_rfl))
 f46:=⟨Tryz.f254.name,by decide,Tryz.func254.trans (congrArg some (by kernel_rfl))⟩
 f47:=Tryz.func249.trans (congrArg some (by kernel_rfl))
 f48:=Tryz.func250.trans (congrArg some (by kernel_rfl))
 f49:=⟨Tryz.f255.name,by decide,Tryz.func255.trans (congrArg some (by kernel_rfl))⟩
 f50:=⟨Tryz.f256.name,by decide,Tryz.func256.trans (congrArg some (by kernel_rfl))⟩
 f57:=⟨Tryz.f266.name,by decide,Tryz.func266.trans (congrArg some (by kernel_rfl))⟩
 t0:=Tryz.underlying0
 a0:=Tryz.isAgg0
 z0:=Tryz.sizeOf0
 v0:=Tryz.zeroValue0
 t3:=Tryz.underlying3
 a3:=Tryz.isAgg3
 z3:=Tryz.sizeOf3
 v3:=Tryz.zeroValue3
 t4:=Tryz.underlying4
 a4:=Tryz.isAgg4
 z4:=Tryz.sizeOf4
 v4:=Tryz.zeroValue4
 t5:=Tryz.underlying5
 a5:=Tryz.isAgg5
 z5:=Tryz.sizeOf5
 v5:=Tryz.zeroValue5
 t9:=Tryz.underlying9
 a9:=Tryz.isAgg9
 z9:=Tryz.sizeOf9
 v9:=Tryz.zeroValue9
 t22:=Tryz.underlying148
 a22:=Tryz.isAgg148
 z22:=Tryz.sizeOf148
 v22:=Tryz.zeroValue148
 t25:=Tryz.underlying153
 a25:=Tryz.isAgg153
 z25:=Tryz.sizeOf153
 v25:=Tryz.zeroValue153
 t39:=Tryz.underlying42
 a39:=Tryz.isAgg42
 z39:=Tryz.sizeOf42
 v39:=Tryz.zeroValue42
 t45:=Tryz.underlying243
 a45:=Tryz.isAgg243
 z45:=Tryz.sizeOf243
 v45:=Tryz.zeroValue243
 t46:=Tryz.underlying244
 a46:=Tryz.isAgg244
 z46:=Tryz.sizeOf244
 v46:=Tryz.zeroValue244
 t50:=Tryz.underlying248
 a50:=Tryz.isAgg248
 z50:=Tryz.sizeOf248
 v50:=Tryz.zeroValue248
 t53:=Tryz.underlying30
 a53:=Tryz.isAgg30
 z53:=Tryz.sizeOf30
 v53:=Tryz.zeroValue30
 t55:=Tryz.underlying136
 a55:=Tryz.isAgg136
 z55:=Tryz.sizeOf136
 v55:=Tryz.zeroValue136
 t66:=Tryz.underlying270
 a66:=Tryz.isAgg270
 z66:=Tryz.sizeOf270
 v66:=Tryz.zeroValue270
 t70:=Tryz.underlying274
 a70:=Tryz.isAgg274
 z70:=Tryz.sizeOf274
 v70:=Tryz.zeroValue274
 t76:=Tryz.underlying287
 a76:=Tryz.isAgg287
 z76:=Tryz.sizeOf287
 v76:=Tryz.zeroValue287
 t77:=Tryz.underlying288
 a77:=Tryz.isAgg288
 z77:=Tryz.sizeOf288
 v77:=Tryz.zeroValue288
section
variable {W0:World} {m0:Inj Tp}
theorem PR(x:Nm):x.cells.all (Ax 3)=true:=rfl
theorem AcJ(x:Nm):x.cells.all AK=true:=rfl
theorem AfQ(W:World)(x y:Nm):Wc Tp Al W (mF Tp) 99 [.agg ⟨x.cells⟩,.agg ⟨y.cells⟩] (wF Tp.globals.size) λv _=>v=.int .i64 (DP x y):=
 Agg ⟨λ_ _=>by simp [wF,Trie.get?],λ_ _=>II _ _⟩ (of_decide_eq_true (by kernel_rfl)) λ_ _=>rfl
theorem TP {v:Value} {l:List Nm} {F:List Nat} {A:AW} {K:Value->AW->Prop} (h:BF 32 2 Nm.cells A v l F) (hf:Aw A) (hl:l.length<1000000)
  (hk:∀ A',BF 32 2 Nm.cells A' v (l.mergeSort λx y=>!(Go.Proofs.ltOf DP y x)) F->Ah A A' F->A'.next=A.next->Aw A'->K (.tuple #[]) A'):knW Tp W0 m0 160 [v,.func (.func 99) #[] #[]] A K:=by
 refine .inr (YE (P:=Tp) (ρ:=Abr) Aez (k:=3) (by decide) Tryz.isAgg32 Tryz.sizeOf32 (enc:=Nm.cells) (λ_=>rfl) (λx u hu=>?_) AcJ PR Xk TG (g:=99) ?_ (Zj gP ?_ (of_decide_eq_true (by kernel_rfl)) PR AfQ) h hf (by omega) λA' h1 k1 n1 f1=>hk A' ?_ k1 n1 f1)
 ·simp only [Nm.cells,Mk,List.not_mem_nil,or_false] at hu;rcases hu with rfl | rfl | rfl<;>rfl
 ·exact enters_of Tryz.func99 (by kernel_rfl) rfl
 ·exact of_decide_eq_true (by kernel_rfl)
 ·unfold BF;rw [List.length_mergeSort];exact h1
end
end
section
open Go.Abs
theorem AaN(b o:Nat):Ad Tp 38 (pP b o) 0=some (pP b o):=by kernel_rfl
theorem Nc(b o:Nat):Ad Tp 38 (pP b o) 1=some (pP b (o+1)):=by kernel_rfl
theorem AaM(b o:Nat):Ad Tp 38 (pP b o) 2=some (pP b (o+5)):=by kernel_rfl
theorem Vs(b o:Nat):Ad Tp 38 (pP b o) 3=some (pP b (o+6)):=by kernel_rfl
theorem JL(b o:Nat):Ad Tp 74 (pP b o) 0=some (pP b o):=by kernel_rfl
theorem LA(b o:Nat):Ad Tp 74 (pP b o) 1=some (pP b (o+1)):=by kernel_rfl
theorem Hb(b o:Nat):Ad Tp 74 (pP b o) 2=some (pP b (o+2)):=by kernel_rfl
theorem Ae4(A:AW)(a:Addr):Ae Tp A 38 (.pointer (some a))=(match A.cells? a 7 with | some l=>some (.agg ⟨l⟩) | none=>none):=by kernel_rfl
theorem PT(A:AW)(a:Addr):Ae Tp A 69 (.pointer (some a))=A.cell? a:=by kernel_rfl
theorem Lu(A:AW)(a:Addr):Ae Tp A 72 (.pointer (some a))=A.cell? a:=by kernel_rfl
theorem AbE(A:AW)(a:Addr):Ae Tp A 75 (.pointer (some a))=A.cell? a:=by kernel_rfl
theorem Abq(A:AW)(a:Addr)(v:Value):Av Tp A 30 (.pointer (some a)) v=(bif Nat.beq v.cells.toList.length 1 then A.setCells a v.cells.toList else none):=by kernel_rfl
theorem Aex(A:AW)(a:Addr)(v:Value):Av Tp A 38 (.pointer (some a)) v=(bif Nat.beq v.cells.toList.length 7 then A.setCells a v.cells.toList else none):=by kernel_rfl
theorem Aew(A:AW)(a:Addr)(v:Value):Av Tp A 77 (.pointer (some a)) v=(bif Nat.beq v.cells.toList.length 3 then A.setCells a v.cells.toList else none):=by kernel_rfl
theorem Afv(b o i:Nat)(k:IntKind):Ar Tp 77 (pP b o) (.int k (.ofNat i))=(bif Nat.blt i 3 then some (.pointer (some (Ek ⟨b,o,none⟩ (i*1)))) else none):=by kernel_rfl
theorem Ae0(A:AW)(a:Option Addr)(n c:Nat):Bi Tp A 22 (.slice a n c)=some (.int .i64 n):=by kernel_rfl
variable {A:AW} {b q r c:Nat} {e:TypeId} {K:Value->AW->Prop}
theorem Adc(A:AW)(l:Nat)(a:Addr):D2 Tp A (.func (.func 161) ⟨[]⟩ ⟨[.pointer (some a)]⟩) [.func (.yield l) #[] #[]]=.ok (.enter 161 [.func (.yield l) #[] #[],.pointer (some a)]) A:=by kernel_rfl
theorem I3{p:Nm}(h:Abs.Row1 A b p.cells e):Ae Tp A 32 (pP b 0)=some (.agg ⟨p.cells⟩):=by
 rw [EH,Bc h.row];rfl
theorem AcM{p:Nm}(hf:Aw A)(h:A.next<Aj)(hk:∀ A',Made A A' p.cells 32->K (.slice (some ⟨A.next,0,none⟩) 1 1) A'):Ao (Aq Tp A 148 1 [(0,.agg ⟨p.cells⟩)]) K:=by
 show Ao (Aq Tp A 148 1 [(0,.agg ⟨[.int .u32 (p.f:Int),.string p.g,.string p.b]⟩)]) K;rw [AfZ];unfold AW.newRow AW.new;have hc:([Value.int .u32 (p.f:Int),.string p.g,.string p.b].all AK)=true:=rfl;simp only [hc,Ct,AA.2 h];exact AT.2 (hk (A.push (.row p.cells 32 A.next 0 false)) ⟨AW.BR _ h,rfl,by rw [AW.BK _ h,if_pos rfl],hf.alone (Nl _),hf.push _ h⟩)
theorem U6{p:Nm}{cs:List Value}{K:AW->Prop}(h:Abs.Row1 A q cs e)(hl:cs.length=3)(hf:Aw A)(hb:A.next<=Aj)(hk:∀ A',Abs.Row1 A' q p.cells e->Ah A A' [q]->A'.next=A.next->Aw A'->K A'):
  Be (Av Tp A 32 (pP q 0) (.agg ⟨p.cells⟩)) K:=by
 refine h.store hf hb (Py _ _ _) rfl (by omega) rfl λA' h1 k1 n1 f1=>hk A' ?_ k1 n1 f1
 match cs,hl with
 |[_,_,_],_=>exact h1
theorem Aep(q b:Nat)(v:Value):(Cn (MA ⟨13,.nil⟩ [(0,.slice none 0 0),(1,.func (.func 161) ⟨[]⟩ ⟨[pP q 0]⟩),(2,pP b 0),(4,.slice none 0 0),(6,.func (.func 161) ⟨[]⟩ ⟨[pP q 0]⟩)]) [(7,v)]).sz=13/\
  (Cn (MA ⟨13,.nil⟩ [(0,.slice none 0 0),(1,.func (.func 161) ⟨[]⟩ ⟨[pP q 0]⟩),(2,pP b 0),(4,.slice none 0 0),(6,.func (.func 161) ⟨[]⟩ ⟨[pP q 0]⟩)]) [(7,v)]).get 2=.pointer (some ⟨b,0,none⟩)/\
  (Cn (MA ⟨13,.nil⟩ [(0,.slice none 0 0),(1,.func (.func 161) ⟨[]⟩ ⟨[pP q 0]⟩),(2,pP b 0),(4,.slice none 0 0),(6,.func (.func 161) ⟨[]⟩ ⟨[pP q 0]⟩)]) [(7,v)]).get 7=v:=⟨by kernel_rfl,by kernel_rfl,by kernel_rfl⟩
section
variable {W0:World} {m0:Inj Tp} {β:Type} {ve:β->Value}
abbrev Vh(tm:Tm)(D:Nat)(ac bd:Code):GV:={ state:=.ready,pending:=none,fn:=197,tm:=tm,params:=[7],assign:=ac,body:=bd,defers:=D }
theorem Ad0 {l D:Nat} {es:List (En Nm β)} {tm:Tm} {ac bd:Code} (has:ac=cd 197 [1,0,1,0,0]) (hbd:bd=cd 197 [1,0,1,0,1]) (hq:Abs.Row1 A q [.map (some r)] 72) (hm:DJ kN ve A r es c) (hb:Abs.Row1 A b [.slice none 0 0] 148) (hl:Fi A l (Vh tm D ac bd)) (hbl:b≠l) (hqb:q≠b) (hql:q≠l) (hrb:r≠b) (hrl:r≠l)
  (ht:∀ v,(Cn tm [(7,v)]).sz=13/\(Cn tm [(7,v)]).get 2=.pointer (some ⟨b,0,none⟩)/\(Cn tm [(7,v)]).get 7=v) (hf:Aw A) (hes:es.length<100000) (hA:A.next+20+6*es.length<Aj)
  (hk:∀ A' sv F (vs:List (En Nm β)),Abs.Row1 A' b [sv] 148->Fi A' l (Vh tm D ac bd)->BF 32 2 Nm.cells A' sv (vs.map En.k) F->vs.Perm es->(∀ x∈F,A.next<x)->Ah A A' [b,l]->A'.next<=A.next+1+6*es.length->Aw A'->K (.tuple ⟨[]⟩) A'):
  Wc Tp Al W0 m0 161 [.func (.yield l) #[] #[],pP q 0] A K:=by
 have hblt:=hb.lt;have hllt:=hl.lt;have hqlt:=hq.lt;have hrlt:=hm.ltA;let I:Nat->Nat->List Value->AW->Prop:=λg id vals A'=>id=0/\∃ (sv:Value) (F:List Nat) (vs:List (En Nm β)),vals=[.func (.yield l) #[] #[],pP A.next 0]/\Iter A' A.next r c vs/\DJ kN ve A' r es c/\Abs.Row1 A' b [sv] 148/\Fi A' l (Vh tm D ac bd)/\
  BF 32 2 Nm.cells A' sv (vs.map En.k) F/\(∀ e∈vs,e∈es)/\(vs.map En.b).Nodup/\(∀ x∈F,A.next<x)/\Ah A A' [b,l]/\Aw A'/\A'.next<=A.next+1+6*vs.length/\g=es.length-vs.length
 refine AgU _ _ _ (AiR (I:=I) ?_) ?_
 ·rintro g id vals A' d ⟨rfl,sv,F,vs,rfl,hit,hm',hb',hl',ho,hvs,hnd,hF,k,f,nx,rfl⟩ hd;rw [Ac0];simp only [ZF,Mc,Mn,Li,and_true] at hd;obtain ⟨d0,d5⟩:=hd;rw [d0,d5];have hlen:=Fs (EY _ hnd) hvs;refine hm'.next hit hvs f (by omega) (λe A2 he hnv it2 k2 n2 f2=>?_) λhall=>?_
  ·have hm2:=hm'.keeps k2 (by simp;omega);have hb2:=hb'.keeps k2 (by simp;omega);have hl2:=hl'.keeps k2 (by simp;omega);have ho2:=ho.keeps k2 (λx hx=>by have:=hF x hx;simp;omega);have K2:Ah A A2 [b,l]:=k.trans k2 (by simp);have hvs2:∀ x∈vs++[e],x∈es:=λx hx=>by
    rcases Mz.1 hx with h | h
    ·exact hvs x h
    ·rw [Ms.1 h];exact he
   have hnd2:((vs++[e]).map En.b).Nodup:=by
    rw [List.map_append,List.nodup_append];refine ⟨hnd,by simp,λx hx y hy hxy=>hnv ?_⟩;obtain ⟨z,hz,rfl⟩:=List.mem_map.1 hx;obtain rfl:y=e.b:=by simpa using hy
    rw [<- Vl hm.nb (hvs z hz) he hxy];exact hz
   have hlen2:=Fs (EY _ hnd2) hvs2;have hl1:(vs++[e]).length=vs.length+1:=by simp
   have hle:=K2.next;simp only [Q4,Ab];refine Ag.2 ⟨λ_=>?_,λh=>by cases h⟩;refine hm2.entry it2 he ?_;simp only [SP,Ab];refine AH IE f2 (by omega) rfl λA3 m3=>?_;have n3:=m3.next;have k3:=m3.keeps f2;refine U6 (p:=e.k) m3.Bk rfl m3.Ay (by omega) λA4 h4 k4 n4 f4=>?_;have K24:Ah A2 A4 []:=k3.trans k4 (by simp);simp only [I3 h4,Ab];have hb4:=hb2.keeps K24 (by simp);have hl4:=hl2.keeps K24 (by simp);have hm4:=hm2.keeps K24 (by simp);have it4:=it2.keeps K24 (by simp);have ho4:=ho2.keeps K24 (by simp);obtain ⟨t1,t2,t3⟩:=ht (kN e.k);refine Mr hl4 rfl (RR (T:=Tz) (L:=Lz) (N:=4000) gP (by decide) t1 ?_);rw [has,hbd,Acz];have t2:(Cn tm (List.zip [7] [kN e.k])).get 2=.pointer (some ⟨b,0,none⟩):=t2;have t3:(Cn tm (List.zip [7] [kN e.k])).get 7=.agg ⟨e.k.cells⟩:=t3;refine AH IE f4 (by omega) rfl λA5 m5=>?_;have n5:=m5.next;have k5:=m5.keeps f4;have t3':(Cn tm (List.zip [7] [Value.agg ⟨e.k.cells⟩])).get 7=.agg ⟨e.k.cells⟩:=t3;have t2':(Cn tm (List.zip [7] [Value.agg ⟨e.k.cells⟩])).get 2=.pointer (some ⟨b,0,none⟩):=t2;simp only [t3'];refine U6 (p:=e.k) m5.Bk rfl m5.Ay (by omega) λA6 h6 k6 n6 f6=>?_;have K46:Ah A4 A6 []:=k5.trans k6 (by simp);refine MR (hl4.keeps K46 (by simp)) rfl f6 (by omega) λA7 hl7 k7 n7 f7=>?_;have hb7:=(hb4.keeps K46 (by simp)).keeps k7 (by simp;omega);have ho7:=(ho4.keeps K46 (by simp)).keeps k7 (λx hx=>by have:=hF x hx;simp;omega);have h7:=h6.keeps k7 (by simp;omega);have one7:=ho7.one;simp only [t2',YL,Af hb7.row,cellOf,one7.2,Cf,I3 h7,Ab];refine AcM f7 (by omega) λA8 m8=>?_;have n8:=m8.next;have k8:=m8.keeps f7;refine BF.append etN (ho7.keeps k8 (by simp)) m8.Bk m8.Ay (by omega) (by rw [List.length_map];omega) λsv5 A9 F5 ho9 k9 hF9 n9 f9=>?_;have hb9:=(hb7.keeps k8 (by simp)).keeps k9 (λhm=>by have:=hF _ hm;omega);have hl9:=(hl7.keeps k8 (by simp)).keeps k9 (λhm=>by have:=hF _ hm;omega);have hm9:=(((hm4.keeps K46 (by simp)).keeps k7 (by simp;omega)).keeps k8 (by simp)).keeps k9 (λhm=>by have:=hF _ hm;omega);have hit9:=(((it4.keeps K46 (by simp)).keeps k7 (by simp;omega)).keeps k8 (by simp)).keeps k9 (λhm=>by have:=hF _ hm;omega);have hF9':∀ x∈F5,A.next<x:=λx hx=>by
    rcases hF9 x hx with h | h
    ·exact hF x h
    ·omega
   obtain ⟨o5,hx5⟩:∃ o n c,sv5=.slice o n c:=by
    rcases ho9 with ⟨rfl,_⟩ | ⟨_,_,rfl,_⟩
    ·exact ⟨_,_,_,rfl⟩
    ·exact ⟨_,_,_,rfl⟩
   refine hb9.store f9 (by omega) (Acs _ _ _) (by obtain ⟨n,c,rfl⟩:=hx5;rfl) (by simp) (by obtain ⟨n,c,rfl⟩:=hx5;rfl) λA10 hb10 k10 n10 f10=>?_;have hb10:Abs.Row1 A10 b [sv5] 148:=by obtain ⟨n,c,rfl⟩:=hx5;exact hb10
   refine MI (hl9.keeps k10 (by simp;omega)) f10 (by omega) λA11 hl11 k11 n11 f11=>?_;have hl11:Fi A11 l (Vh tm D ac bd):=hl11;simp only [Bl,Ab];refine Ag.2 ⟨λh=>(by cases h),λ_=>?_⟩;refine Au.2 ⟨es.length-(vs.length+1),by omega,rfl,sv5,F5,vs++[e],rfl,(hit9.keeps k10 (by simp;omega)).keeps k11 (by simp;omega),(hm9.keeps k10 (by simp;omega)).keeps k11 (by simp;omega),hb10.keeps k11 (by simp;omega),hl11,?_,hvs2,hnd2,hF9',?_,f11,by omega,by omega⟩
   ·rw [List.map_append];exact (ho9.keeps k10 (λx hx=>by have:=hF9' x hx;simp;omega)).keeps k11 (λx hx=>by have:=hF9' x hx;simp;omega)
   ·exact ((((((K2.trans K24 (by simp)).trans K46 (by simp)).trans k7 (by simp)).trans k8 (by simp)).trans k9 (λx hx=>.inr (by have:=hF x hx;omega))).trans k10 (by simp)).trans k11 (by simp)
  ·simp only [Q5,Ab];refine Ag.2 ⟨λh=>(by cases h),λ_=>?_⟩;exact hk A' sv F vs hb' hl' ho (Nr hm.nb hnd hvs hall) hF k (by omega) f
 ·rw [Aig];simp only [Lu,Af hq.row,cellOf,Bp,Cf,Ab];refine hm.range mtN hf (by omega) λA1 hit k1 n1 f1=>?_;exact Au.2 ⟨es.length,rfl,.slice none 0 0,[],[],rfl,hit,hm.keeps k1 (by simp),hb.keeps k1 (by simp),hl.keeps k1 (by simp),.nil _,by simp,by simp,by simp,k1.more (by simp),f1,by simp;omega,rfl⟩
theorem AdT {es:List (En Nm β)} (hq:Abs.Row1 A q [.map (some r)] 72) (hm:DJ kN ve A r es c) (hf:Aw A) (hes:es.length<100000) (hA:A.next+40+6*es.length<Aj)
  (hk:∀ A' sv F (vs:List (En Nm β)),BF 32 2 Nm.cells A' sv (vs.map En.k) F->vs.Perm es->(∀ x∈F,A.next<=x)->Ah A A' []->A'.next<=A.next+20+6*es.length->Aw A'->K sv A'):
  Wc Tp Al W0 m0 197 [.slice none 0 0,.func (.func 161) ⟨[]⟩ ⟨[pP q 0]⟩] A K:=by
 have hqlt:=hq.lt;have hrlt:=hm.ltA;refine AgK _ _ _ BD ?_;rw [Ah6];refine AZ (cs:=[.slice none 0 0]) hf (by omega) rfl λA1 m1=>?_;have n1:=m1.next;have k1:=m1.keeps hf;refine NY m1.Ay (by omega) λA2 hD hl k2 n2 f2=>?_;have K2:Ah A A2 []:=k1.trans k2 (by simp);refine ⟨161,_,A2,Adc A2 _ ⟨q,0,none⟩,Ad0 rfl rfl (hq.keeps K2 (by simp)) (hm.keeps K2 (by simp)) (m1.Bk.keeps k2 (by simp)) hl (by omega) (by omega) (by omega) (by omega) (by omega) (λv=>Aep q _ v) f2 hes (by omega) λA3 sv F vs hb3 hl3 ho3 hp hF k3 n3 f3=>?_⟩;refine Kd hl3 (show LoopState.ready≠LoopState.busy from λh=>by cases h) rfl f3 (by omega) λA4 k4 n4 f4=>?_;have hb4:=hb3.keeps k4 (by simp;omega);have ho4:=ho3.keeps k4 (λx hx=>by have:=hF x hx;simp;omega);have one4:=ho4.one;simp only [YL,Af hb4.row,cellOf,one4.2,Cf,Ab];refine Ns ((hD.keeps k3 (by simp;omega)).keeps k4 (by simp)) f4 (by omega) λA5 k5 n5 f5=>?_;refine hk A5 sv F vs (ho4.keeps k5 (λx hx=>by have:=hF x hx;simp;omega)) hp (λx hx=>by have:=hF x hx;omega) ?_ (by omega) f5;exact ((K2.trans k3 (by simp;omega)).trans k4 (by simp;omega)).trans k5 (by simp;omega)
theorem Agi {es:List (En Nm β)} (hq:Abs.Row1 A q [.map (some r)] 72) (hm:DJ kN ve A r es c) (hf:Aw A) (hes:es.length<100000) (hA:A.next+40+6*es.length<Aj)
  (hk:∀ A' sv F (vs:List (En Nm β)),BF 32 2 Nm.cells A' sv (srt (vs.map En.k)) F->vs.Perm es->(∀ x∈F,A.next<=x)->Ah A A' []->A'.next<=A.next+20+6*es.length->Aw A'->K sv A'):
  Wc Tp Al W0 m0 97 [.func (.func 161) ⟨[]⟩ ⟨[pP q 0]⟩,.func (.func 99) #[] #[]] A K:=by
 refine w97 _ _ _ BD ?_;rw [e97];refine AgV _ _ BD ?_;rw [Aih];refine AdT hq hm hf hes hA λA1 sv F vs ho hp hF k1 n1 f1=>?_;have hlen:=hp.length_eq;refine TP ho f1 (by rw [List.length_map];omega) λA2 ho2 k2 n2 f2=>?_;exact hk A2 sv F vs ho2 hp hF (k1.trans k2 λx hx=>.inr (hF x hx)) (by omega) f2
end
end
section
open Go.Abs Go.Jr
variable {A:AW} {d mp:Nat} {s:DS} {K:Value->AW->Prop}
abbrev Fv:=ByteArray × Nat
def vF(v:Fv):Value:=.agg ⟨[.string v.1,.int .i64 (v.2:Int)]⟩
def Fg(a b:ByteArray):Bool:=a.data.toList==b.data.toList
def fF(v:Fv):Fil:=(v.1.data.toList,v.2)
def fE(e:En ByteArray Fv):List UInt8 × Fil:=(e.k.data.toList,fF e.v)
theorem mtF:MT Tp 66 9 89 kS Fg:=⟨by kernel_rfl,eqS,λ{a b}=>by unfold Fg;rw [beq_iff_eq];exact ⟨Te,λh=>by rw [h]⟩,Afp,XX⟩
theorem zF:Dt Tp 89=some (vF (⟨⟨[]⟩⟩,0)):=by kernel_rfl
theorem Ael(v:Fv):(vF v).cells.toList=[.string v.1,.int .i64 (v.2:Int)]:=rfl
theorem FT:∀ (es:List (En ByteArray Fv)) (k:ByteArray),(Dw Fg es k).map fF=BV (es.map fE) k.data.toList
 |[],_=>rfl
 |e::es,k=>by
  have ih:=FT es k;unfold BV at ih ⊢;unfold Dw;rw [Mc,List.find?_cons];have e1:((fE e).1==k.data.toList)=Fg k e.k:=by
   show (e.k.data.toList==k.data.toList)=(k.data.toList==e.k.data.toList);rw [Bool.eq_iff_iff,beq_iff_eq,beq_iff_eq];exact eq_comm
  rw [e1];cases Fg k e.k with
  |true=>simp [fE]
  |false=>simpa using ih
theorem JA(k:ByteArray)(v:Fv)(c:Nat):∀ (es:List (En ByteArray Fv)),(Kp Fg es k v c).map fE=Cm (es.map fE) k.data.toList (fF v)
 |[]=>rfl
 |e::es=>by
  have ih:=JA k v c es;unfold Kp;rw [Mc,Cm];have e1:((fE e).1==k.data.toList)=Fg k e.k:=by
   show (e.k.data.toList==k.data.toList)=(k.data.toList==e.k.data.toList);rw [Bool.eq_iff_iff,beq_iff_eq,beq_iff_eq];exact eq_comm
  rw [e1];cases h:Fg k e.k with
  |true=>
   have hk:k=e.k:=mtF.dec.1 h;subst hk;simp [fE]
  |false=>simp [ih]
theorem Vw(k:ByteArray)(es:List (En ByteArray Fv)):(Mg Fg es k).map fE=Ho (es.map fE) k.data.toList:=by
 unfold Mg Ho;rw [List.filter_map]
 congr 1
 apply List.filter_congr;intro e _;show (!Fg k e.k)=!(e.k.data.toList==k.data.toList);unfold Fg
 congr 1
 rw [Bool.eq_iff_iff,beq_iff_eq,beq_iff_eq];exact eq_comm
def Dk(A:AW)(d mp:Nat)(s:DS):Prop:=∃ es c,Abs.Row1 A d [.map (some mp),.int .i64 s.room,.int .i64 s.Dj,.bool s.down] 68/\DJ kS vF A mp es c/\d≠mp/\s.D=es.map fE
theorem Dk.keeps{A':AW}{S:List Nat}(h:Dk A d mp s)(k:Ah A A' S)(hd:d∉S)(hm:mp∉S):Dk A' d mp s:=by
 obtain ⟨es,c,h1,h2,h3,h4⟩:=h;exact ⟨es,c,h1.keeps k hd,h2.keeps k hm,h3,h4⟩
theorem Dk.lt(h:Dk A d mp s):d<A.next/\mp<A.next:=by
 obtain ⟨es,c,h1,h2,h3,h4⟩:=h;exact ⟨h1.lt,h2.ltA⟩
theorem AeE(a:Addr)(xo yo:Operand):An Tp .neq 23 xo yo (.pointer (some a)) (.pointer none)=some (.bool true):=by kernel_rfl
theorem AhA(r:Nat)(xo yo:Operand):An Tp .neq 66 xo yo (.map (some r)) (.map none)=some (.bool true):=by kernel_rfl
section
variable {W0:World} {m0:Inj Tp}
theorem Rz(h:Dk A d mp s)(hk:K (.bool true) A):Wc Tp Al W0 m0 36 [pP d 0] A K:=by
 obtain ⟨es,c,hr,hm,hne,hD⟩:=h;refine w36 _ _ BD ?_;rw [e36];simp only [AeE,Ab,AD];refine Ag.2 ⟨λ_=>?_,λh=>by cases h⟩;simp only [C2,E1,Af hr.row,cellOf,Bp,Cf,Ab,AhA];exact hk
theorem Pr(h:Dk A d mp s)(hk:K (.int .i64 (IN s)) A):Wc Tp Al W0 m0 134 [pP d 0] A K:=by
 refine Ahh _ _ BD ?_;rw [AiD];refine Rz h ?_;obtain ⟨es,c,hr,hm,hne,hD⟩:=h;simp only [Bl,Ab,AD,Ir,QS,Af hr.row,cellOf,Di,Cf,Nat.zero_add];refine Ag.2 ⟨λh=>by simp at h,λ_=>?_⟩;unfold IN at hk;refine Ag.2 ⟨λh=>?_,λh=>?_⟩
 ·rw [if_pos h] at hk;exact hk
 ·rw [Ff (by rw [h];simp)] at hk;exact hk
theorem AdG(h:Dk A d mp s)(hk:K (.bool s.down) A):Wc Tp Al W0 m0 54 [pP d 0] A K:=by
 refine w54 _ _ BD ?_;rw [e54];refine Rz h ?_;obtain ⟨es,c,hr,hm,hne,hD⟩:=h;simp only [Bl,Ab,AD,Ir,QS,Af hr.row,cellOf,Di,Cf,Nat.zero_add];exact Ag.2 ⟨λh=>by simp at h,λ_=>hk⟩
end
end
section
open Go.Abs
def srR:Go.Shelf.Ren:=⟨λ| 125=>196 | 128=>223 | 129=>224 | 190=>157 | 258=>195 | 302=>214 | 303=>215 | 304=>216 | 305=>217 | 306=>218 | 307=>219 | 308=>220 | 309=>221 | 310=>222 | 329=>249 | 330=>250 | 333=>248 | 334=>251 | 335=>252 | 336=>253 | 344=>265 | x=>x,λ| 31=>86 | 46=>42 | 51=>30 | 53=>136 | 131=>248 | 182=>243 | 183=>244 | 218=>270 | 222=>274 | 228=>287 | 229=>288 | x=>x,λx=>x⟩
theorem srX:Go.Proofs.Lays.n190 Tp srR where
 mixed:=by kernel_rfl
 f125:=Tryz.func196.trans (congrArg some (by kernel_rfl))
 f128:=Tryz.func223.trans (congrArg some (by kernel_rfl))
 f129:=Tryz.func224.trans (congrArg some (by kernel_rfl))
 f190:=Tryz.func157.trans (congrArg some (by kernel_rfl))
 f258:=Tryz.func195.trans (congrArg some (by kernel_rfl))
 f302:=Tryz.func214.trans (congrArg some (by kernel_rfl))
 f303:=Tryz.func215.trans (congrArg some (by kernel_rfl))
 f304:=Tryz.func216.trans (congrArg some (by kernel_rfl))
 f305:=Tryz.func217.trans (congrArg some (by kernel_rfl))
 f306:=Tryz.func218.trans (congrArg some (by kernel_rfl))
 f307:=Tryz.func219.trans (congrArg some (by kernel_rfl))
 f308:=Tryz.func220.trans (congrArg some (by kernel_rfl))
 f309:=Tryz.func221.trans (congrArg some (by kernel_rfl))
 f310:=Tryz.func222.trans (congrArg some (by kernel_rfl))
 f329:=Tryz.func249.trans (congrArg some (by kernel_rfl))
 f330:=Tryz.func250.trans (congrArg some (by kernel_rfl))
 f333:=Tryz.func248.trans (congrArg some (by kernel_rfl))
 f334:=Tryz.func251.trans (congrArg some (by kernel_rfl))
 f335:=Tryz.func252.trans (congrArg some (by kernel_rfl))
 f336:=Tryz.func253.trans (congrArg some (by kernel_rfl))
 f344:=Tryz.func265.trans (congrArg some (by kernel_rfl))
 t0:=Tryz.underlying0
 a0:=Tryz.isAgg0
 z0:=Tryz.sizeOf0
 v0:=Tryz.zeroValue0
 t3:=Tryz.underlying3
 a3:=Tryz.isAgg3
 z3:=Tryz.sizeOf3
 v3:=Tryz.zeroValue3
 t4:=Tryz.underlying4
 a4:=Tryz.isAgg4
 z4:=Tryz.sizeOf4
 v4:=Tryz.zeroValue4
 t5:=Tryz.underlying5
 a5:=Tryz.isAgg5
 z5:=Tryz.sizeOf5
 v5:=Tryz.zeroValue5
 t9:=Tryz.underlying9
 a9:=Tryz.isAgg9
 z9:=Tryz.sizeOf9
 v9:=Tryz.zeroValue9
 t31:=Tryz.underlying86
 a31:=Tryz.isAgg86
 z31:=Tryz.sizeOf86
 v31:=Tryz.zeroValue86
 t46:=Tryz.underlying42
 a46:=Tryz.isAgg42
 z46:=Tryz.sizeOf42
 v46:=Tryz.zeroValue42
 t51:=Tryz.underlying30
 a51:=Tryz.isAgg30
 z51:=Tryz.sizeOf30
 v51:=Tryz.zeroValue30
 t53:=Tryz.underlying136
 a53:=Tryz.isAgg136
 z53:=Tryz.sizeOf136
 v53:=Tryz.zeroValue136
 t131:=Tryz.underlying248
 a131:=Tryz.isAgg248
 z131:=Tryz.sizeOf248
 v131:=Tryz.zeroValue248
 t182:=Tryz.underlying243
 a182:=Tryz.isAgg243
 z182:=Tryz.sizeOf243
 v182:=Tryz.zeroValue243
 t183:=Tryz.underlying244
 a183:=Tryz.isAgg244
 z183:=Tryz.sizeOf244
 v183:=Tryz.zeroValue244
 t218:=Tryz.underlying270
 a218:=Tryz.isAgg270
 z218:=Tryz.sizeOf270
 v218:=Tryz.zeroValue270
 t222:=Tryz.underlying274
 a222:=Tryz.isAgg274
 z222:=Tryz.sizeOf274
 v222:=Tryz.zeroValue274
 t228:=Tryz.underlying287
 a228:=Tryz.isAgg287
 z228:=Tryz.sizeOf287
 v228:=Tryz.zeroValue287
 t229:=Tryz.underlying288
 a229:=Tryz.isAgg288
 z229:=Tryz.sizeOf288
 v229:=Tryz.zeroValue288
end
end Go.Proofs.YtnennggfoegcmaaGreatDoor
namespace Go.Abs
open Go.Sort Go.Proofs
def txV(s:List UInt8):Value:=.string ⟨⟨s⟩⟩
section
variable {P:Program} {X:Bt} {W0:World} {m0:Inj P}
theorem Sp {w w1:World} {blk off:Nat} {cs cs2:Array Value} {e:TypeId} {fr:Nat × Nat} {l':List (List UInt8)} (h0:w.heap[blk]? =some (.cells cs e fr)) (hsz:off+l'.length<=cs.size)
  (g2:w1.heap[blk]? =some (.cells cs2 e fr)) (g4:∀ j,(j<off\/off+l'.length<=j)->cs2[j]? =cs[j]?) (g5:∀ j,j<l'.length->cs2[off+j]? =(l'.map txV)[j]?) (g6:∀ b,b≠blk->w1.heap[b]? =w.heap[b]?) (g7:w1.heap.size=w.heap.size)
  (g8:w1.os=w.os) (g9:w1.tape=w.tape) (g10:w1.output=w.output) (g11:w1.drawn=w.drawn) (n:Nat) (os:Array Obj) {q:Prop}:Low q w1 (grow (putRow encStr (Sort.ahead w n) blk off l'.toArray) os):=by
 have hb:blk<w.heap.size:=(Array.getElem?_eq_some_iff.1 h0).1;refine ⟨⟨g8.symm,g9.symm,g10.symm,?_,λc hc=>?_⟩,λ_=>?_⟩
 ·show w1.heap.size<=((w.heap.modify blk _)++os).size;rw [g7];simp
 ·show ((w.heap.modify blk (onCells (putCells encStr off l'.toArray)))++os)[c]? =w1.heap[c]?;rw [Array.getElem?_append_left (by simp;omega),Array.getElem?_modify];by_cases hcb:blk=c
  ·subst hcb;rw [if_pos rfl,h0,g2];simp only [Option.map_some,onCells,Oi,Obj.cells.injEq,and_true];apply Array.ext_getElem?;intro i;unfold putCells;rw [Array.getElem?_mapIdx];by_cases hi:off<=i/\i<off+l'.length
   ·have hics:i<cs.size:=by omega
    have h5:=g5 (i-off) (by omega);rw [show off+(i-off)=i by omega] at h5;have hj:i-off<l'.length:=by omega
    rw [h5,Array.getElem?_eq_getElem hics,List.getElem?_map,Ge hj];simp only [Option.map_some,List.size_toArray,Oi];rw [if_pos hi,getElem!_pos l'.toArray (i-off) (by simpa using hj)];simp [encStr,txV]
   ·rw [g4 i (by omega)];cases hx:cs[i]? with
    |none=>rfl
    |some x=>
     simp only [Option.map_some,List.size_toArray,Oi];rw [Ff hi]
  ·rw [Ff hcb,g6 c (λh=>hcb h.symm)]
 ·show w1.drawn<=w.drawn+n;omega
theorem PB:∀ (new:List Value) (pre cs:List Value),cs.length=new.length->Gg (pre++cs) pre.length new=pre++new
 |[],pre,cs,h=>by
  have:cs=[]:=List.eq_nil_of_length_eq_zero h
  subst this;rfl
 |v::r,pre,[],h=>by simp at h
 |v::r,pre,c::cs,h=>by
  have hs:(pre++c::cs).set pre.length v=(pre++[v])++cs:=by simp
  have hl:pre.length+1=(pre++[v]).length:=by simp
  rw [Gg,hs,hl,PB r (pre++[v]) cs (by simpa using h)]
  simp
theorem UW(l:List (List UInt8)):(l.map txV).all AK=true:=by
 rw [List.all_eq_true];intro u hu;obtain ⟨x,_,rfl⟩:=List.mem_map.1 hu;rfl
theorem Wp {ρ:Go.Shelf.Ren} (L:Go.Proofs.Lays.n190 P ρ) {A:AW} {e:TypeId} {v:Value} {l:List (List UInt8)} {F:List Nat} {K:Value->AW->Prop} (h:Dq A e 1 v l.length (l.map txV) F) (hf:Aw A) (hlen:l.length<4611686018427387904)
  (hK:∀ A',Dq A' e 1 v l.length ((l.mergeSort λx y=>decide (x<=y)).map txV) F->Ah A A' F->A'.next=A.next->Aw A'->K (.tuple #[]) A'):Aa8 P W0 m0 (ρ.f 190) [v] A K:=by
 intro m w args' r _ _ ha;cases ha with
 |cons hv ht=>
 cases ht;rcases h with ⟨rfl,hn,hc,rfl⟩ | ⟨b,f,rfl,ho,rfl⟩
 ·
  have hl:l=[]:=List.eq_nil_of_length_eq_zero hn;subst hl;cases hv;refine (Go.Proofs.Any.slices_Sort_string_none L none 0 w).mono ?_;rintro e w' ⟨rfl,rfl⟩;exact ⟨_,_,m,A,hK A (.inl ⟨rfl,rfl,by rw [List.mergeSort_nil];rfl,rfl⟩) (.refl _ _) rfl hf,rfl,.tuple .nil,.refl r _⟩
 ·
  have hpos:=ho.pos;cases hv with
  |@slice a a' n c c' hc hn har=>
  have hc':0<c':=by omega
  obtain ⟨_,hs',d,hm,hoff⟩:=har hc';obtain ⟨blk,off,sp⟩:=a';simp only at hs' hm hoff;subst hs';have hoff:off=d:=by omega
  subst hoff;obtain ⟨o',q1,cs',fr,rfl,hrow⟩:=r.obj b _ blk off ho.row hm;have hlcs:(l.map txV).length=l.length:=List.length_map _;have hcells:∀ j,j<l.length->cs'[off+j]? =(l.map txV)[j]? /\¬ (fr.1<=off+j/\off+j<fr.2):=by
   intro j hj;have hjl:j<(l.map txV).length:=by omega
   obtain ⟨u,k1,k2,k3⟩:=hrow j _ (Ge hjl);have e1:(l.map txV)[j]=txV l[j]:=List.getElem_map _;rw [k1,Ge hjl,e1,DC 4 (txV l[j]) u rfl (by rw [<- e1];exact k2 (by rw [e1];rfl))];exact ⟨rfl,k3 rfl⟩
  have hsize:off+l.length<=cs'.size:=by
   have h2:=(hcells (l.length-1) (by omega)).1;rw [Ge (by omega:l.length-1<(l.map txV).length)] at h2
   have:=(Array.getElem?_eq_some_iff.1 h2).1
   omega
  have hH:Go.Sort.Holds encStr w blk off l.toArray:=by
   intro j hj;have hj:j<l.length:=by simpa using hj
   obtain ⟨h2,h3⟩:=hcells j hj;refine ⟨?_,?_⟩
   ·simp only [World.cell?,q1,Option.isSome_none,Bool.false_eq_true,if_false];rw [h2,List.getElem?_map,Ge hj,getElem!_pos l.toArray j (by simpa using hj)];simp [encStr,txV]
   ·simp only [World.frozen?,q1];cases hx:(decide (fr.1<=off+j)&&decide (off+j<fr.2)) with
    |false=>rfl
    |true=>simp at hx;exact (h3 (by simpa using hx)).elim
  have hblk:blk<w.heap.size:=(Array.getElem?_eq_some_iff.1 q1).1;have hcon:=Go.Proofs.Any.slices_Sort_string L blk off c' l w hH hblk hlen;refine hcon.mono ?_;rintro e2 w' ⟨rfl,nn,os,rfl⟩;generalize hl':(l.mergeSort λx y=>decide (x<=y))=l';rw [hl'] at hK;have hl'len:l'.length=l.length:=by rw [<- hl'];exact List.length_mergeSort _
  have hnl:(l'.map txV).length=l.length:=by rw [List.length_map,hl'len]
  have hbl:=hf.lt ho.row;have hml:∀ i∈A.members f,i<Aj:=λi hi=>by have:=(ho.mem i hi).2.1;have:=r.lim;omega
  obtain ⟨A',k1,k2,k3,k4,k5,k6⟩:=Ib (new:=l'.map txV) (off:=0) ho.row hml (by rw [hnl,hlcs];omega) (UW l') (by have:=r.lim;omega);have hmem:∀ g,A'.members g=A.members g:=I1 k6;have hset:Gg (l.map txV) 0 (l'.map txV)=l'.map txV:=PB (l'.map txV) [] (l.map txV) (by rw [hnl,hlcs]);rw [hset] at k2;obtain ⟨w1,s1,s2,s3⟩:=Ev.setCells (i:=0) (a':=⟨blk,off,none⟩) r (AJ.Dr (m:=m) λu hu=>by obtain ⟨x,_,rfl⟩:=List.mem_map.1 hu;exact Cb 4 _ rfl) (λ_=>⟨rfl,rfl,off,hm,rfl⟩) k1;obtain ⟨w2,cs2,g1,g2,g3,g4,g5,g6,g7,g8,g9,g10,g11⟩:=ER (P:=P) blk e fr ⟨blk,off,none⟩ rfl rfl (l'.map txV) 0 cs' w q1 (by show off+0+_<=_;rw [hnl];omega)
   (λj hj=>by rw [hnl] at hj;show ¬ (fr.1<=off+0+j/\off+0+j<fr.2);rw [Nat.add_zero];exact (hcells j hj).2) (λu hu=>List.all_eq_true.1 (UW l') u hu)
  rw [s1] at g1;cases g1;have hlow:Low (Fl m) w1 (grow (putRow encStr (Sort.ahead w nn) blk off l'.toArray) os):=Sp q1 (by rw [hl'len];exact hsize) g2 (λj hj=>g4 j (by show j<off+0\/off+0+_<=j;rw [hnl];rw [hl'len] at hj;omega)) (λj hj=>by
   have:=g5 j (by rw [hnl];rw [hl'len] at hj;exact hj)
   rw [show (⟨blk,off,none⟩:Addr).off+0+j=off+j by rfl] at this;exact this) g6 g7 g8 g9 g10 g11 nn os
  refine ⟨_,_,m,A',hK A' (.inr ⟨b,f,rfl,⟨ho.pos,k2,by rw [hnl];omega,Nat.zero_le _,Nat.zero_le _,by rw [k5];exact ho.ltf,λi hi=>?_⟩,rfl⟩) ⟨by rw [k5];exact Nl _,λi o hi _ hn=>?_,λg _ _=>hmem g⟩ k5 ⟨λi hi=>?_,λi hi=>?_⟩,rfl,.tuple .nil,(s2.low (Nl _)).trans (EvL.grow s2.rel hlow _)⟩
  ·rw [hmem] at hi;obtain ⟨_,h2,cs',e',b',ro',h3⟩:=ho.mem i hi;obtain ⟨cs2,h4⟩:=k4 i _ _ _ _ _ h3;exact ⟨Nat.zero_le _,by rw [k5];exact h2,cs2,e',b',ro',h4⟩
  ·rw [k3 i (λe=>?_) (λhm=>?_)]
   ·exact hi
   ·subst e;rw [ho.row] at hi;cases hi;exact hn (Ms.2 rfl)
   ·obtain ⟨_,_,cs',e',b',ro',h3⟩:=ho.mem i hm;rw [hi] at h3;cases h3;exact hn (Ms.2 rfl)
  ·rw [k6];exact hf.fams i (by rw [k5] at hi;exact hi)
  ·rw [k5] at hi;rw [k3 i (λe=>by omega) (λhm=>by have:=(ho.mem i hm).2.1;omega)];exact hf.get i hi
end
end Go.Abs
namespace Go.Abs
structure ES (P:Program) (ts te:TypeId) {β:Type} (f:β->List Value):Prop where
 us:P.underlying ts=some (.slice te)
 sz:szT P te=some 1
 by':∃ b,EB P te=some b/\b<=256
 hz:C9 P te 1=true
 ld:∀ A a,Ae P A te (.pointer (some a))=A.cell? a
 len:∀ x,(f x).length=1
 one:∀ x,(f x).all AK=true
 noT:∀ x,(f x).all (λv=>!isTuple v)=true
section
variable {P:Program} {ts te:TypeId} {β:Type} {f:β->List Value}
theorem ES.Ul(T:ES P ts te f){A B:AW}{v:Value}{l:List β}{F:List Nat}(h:RdE 0 f A v l F):Bi P B ts v=some (.int .i64 (l.length:Int)):=by
 obtain ⟨o,c,rfl⟩:=h.slice;unfold Bi;rw [T.us]
theorem ES.src(T:ES P ts te f){A:AW}{q:Nat}{p:β}{e:TypeId}(hq:Row1 A q (f p) e):BM P A te ts 1 (.slice (some ⟨q,0,none⟩) 1 1)=some (0+1,f p):=by
 unfold BM;simp only [T.us];show Df A 1 (.slice (some ⟨q,0,none⟩) 1 1)=_;unfold Df
 have:=DK (f p) [] (T.noT p)
 rw [List.append_nil,T.len] at this;simp only [Nat.one_mul,Bc hq.row,List.drop_zero,this]
theorem ES.ia(T:ES P ts te f){b o len c i:Nat}(hi:i<len):Ar P ts (.slice (some ⟨b,o,none⟩) len c) (.int .i64 (i:Int))=some (.pointer (some ⟨b,o+i,none⟩)):=by
 show Ar P ts (.slice (some ⟨b,o,none⟩) len c) (.int .i64 (.ofNat i))=_;unfold Ar;simp only [T.us,T.sz,AA.2 hi,Ct,Nat.mul_one];unfold Ek;cases hb:Nat.beq i 0 with
 |true=>
  have:=Nb hb
  subst this
  simp
 |false=>simp
theorem ES.at(T:ES P ts te f){A:AW}{v:Value}{l:List β}{F:List Nat}(h:RdE 0 f A v l F){i:Nat}{p:β}(hi:l[i]? =some p){w:Value}(hw:f p=[w]):∃ a,Ar P ts v (.int .i64 (i:Int))=some (.pointer (some a))/\Ae P A te (.pointer (some a))=some w:=by
 have hlt:=(Gs.1 hi).1;rcases h with ⟨rfl,_⟩ | ⟨r,o,c,cs,e,g,b,ro,rfl,h2,h3,h4,h5⟩
 ·simp at hi
 ·obtain ⟨rest,hr⟩:=h5 i p hi;refine ⟨_,T.ia hlt,?_⟩;rw [T.ld,Af h2];have hn:=T.noT p;rw [hw] at hr hn;have h1:cs[o+i]? =some w:=by
   have:=congrArg (λl:List Value=>l[0]?) hr
   simpa using this
  exact Fz h1 (by simpa using hn)
end
end Go.Abs
namespace Go.Proofs.YtnennggfoegcmaaGreatDoor
open Go.Abs Go.Jr
variable {A:AW} {mp d:Nat} {K:Value->AW->Prop} {s:DS}
theorem leB_trans(a b c:List UInt8)(h:leB a b=true)(k:leB b c=true):leB a c=true:=by
 unfold leB at *;rw [decide_eq_true_iff] at *;exact List.le_trans h k
theorem leB_total(a b:List UInt8):(leB a b || leB b a)=true:=by
 unfold leB;rw [Bool.or_eq_true,decide_eq_true_iff,decide_eq_true_iff];exact List.le_total a b
theorem YG{a b:List UInt8}(h:leB a b=true)(k:leB b a=true):a=b:=by
 unfold leB at *;rw [decide_eq_true_iff] at *;exact List.le_antisymm h k
theorem VW{a b:List (List UInt8)}(h:a.Perm b):a.mergeSort leB=b.mergeSort leB:=
 List.Perm.eq_of_pairwise (le:=λx y=>leB x y=true) (λ_ _ _ _ h k=>YG h k) (List.pairwise_mergeSort leB_trans leB_total a) (List.pairwise_mergeSort leB_trans leB_total b)
  ((List.mergeSort_perm a leB).trans (h.trans (List.mergeSort_perm b leB).symm))
section
variable {W0:World} {m0:Inj Tp}
theorem Agj(hf:Aw A)(hA:A.next<Aj)(hk:∀ A',Abs.Row1 A' A.next [.map (some mp)] 66->Ah A A' []->A'.next=A.next+1->Aw A'->K (.func (.func 158) ⟨[]⟩ ⟨[pP A.next 0]⟩) A'):
  Wc Tp Al W0 m0 96 [.map (some mp)] A K:=by
 refine w96 _ _ BD ?_;rw [e96];refine AZ (cs:=[.map (some mp)]) hf hA rfl λA1 m1=>?_;exact hk A1 m1.Bk (m1.keeps hf) m1.next m1.Ay
theorem Agk {q c:Nat} {es:List (En ByteArray Fv)} (hq:Abs.Row1 A q [.map (some mp)] 66) (hm:DJ kS vF A mp es c) (hf:Aw A) (hes:es.length<100000) (hA:A.next+20+3*es.length<Aj)
  (hk:∀ A' sv F,Dq A' 9 1 sv (namesS (es.map fE)).length ((namesS (es.map fE)).map txV) F->(∀ x∈F,A.next<=x)->Ah A A' []->A'.next<=A.next+10+3*es.length->Aw A'->K sv A'):
  Wc Tp Al W0 m0 95 [.func (.func 158) ⟨[]⟩ ⟨[pP q 0]⟩] A K:=by
 refine w95 _ _ BD ?_;rw [e95];refine Ad2 hq hm hf hes hA λA1 sv F vs ho hp hF k1 n1 f1=>?_;have el:(vs.map λe=>kS e.k)=(vs.map λe=>e.k.data.toList).map txV:=by
  rw [List.map_map];apply List.map_congr_left;intro e _;rfl
 have hlen:=hp.length_eq;have ho':Dq A1 9 1 sv (vs.map λe=>e.k.data.toList).length ((vs.map λe=>e.k.data.toList).map txV) F:=by
  rw [<- el,List.length_map];exact ho
 have hs:((vs.map λe=>e.k.data.toList).mergeSort λx y=>decide (x<=y))=namesS (es.map fE):=by
  show (vs.map λe=>e.k.data.toList).mergeSort leB=_;unfold namesS;rw [List.map_map];exact VW (hp.map _)
 refine .inr (Wp srX ho' f1 (by rw [List.length_map];omega) λA2 h2 k2 n2 f2=>?_);rw [hs] at h2;have hl2:(vs.map λe=>e.k.data.toList).length=(namesS (es.map fE)).length:=by rw [<- hs,List.length_mergeSort]
 rw [hl2] at h2;exact hk A2 sv F h2 hF (k1.trans k2 λx hx=>.inr (hF x hx)) (by omega) f2
theorem ZW (h:Dk A d mp s) (hf:Aw A) (hes:s.D.length<100000) (hA:A.next+30+3*s.D.length<Aj)
  (hk:∀ A' sv F,Dq A' 9 1 sv (namesS s.D).length ((namesS s.D).map txV) F->(∀ x∈F,A.next<=x)->Ah A A' []->A'.next<=A.next+15+3*s.D.length->Aw A'->K sv A'):
  Wc Tp Al W0 m0 37 [pP d 0] A K:=by
 refine w37 _ _ BD ?_;rw [e37];refine Rz h ?_;obtain ⟨es,c,hr,hm,hne,hD⟩:=h;rw [hD] at hk hes hA;rw [List.length_map] at hes hA;simp only [Bl,Ab,AD,C2,E1,Af hr.row,cellOf,Bp,Cf];refine Ag.2 ⟨λh=>by simp at h,λ_=>?_⟩;have hmlt:=hm.ltA;refine Agj hf (by omega) λA1 q1 k1 n1 f1=>?_;refine Agk q1 (hm.keeps k1 (by simp)) f1 hes (by omega) λA2 sv F h2 hF k2 n2 f2=>?_;rw [List.length_map] at hk;exact hk A2 sv F h2 (λx hx=>by have:=hF x hx;omega) (k1.trans k2 (by simp)) (by omega) f2
theorem AdB:(vF (⟨⟨[]⟩⟩,0)).cells.toList=[.string ⟨⟨[]⟩⟩,.int .i64 0]:=rfl
theorem E6(a b:Value):Ap (.tuple #[a,b]) 1=some b:=rfl
theorem XK{a b:List Nat}(h:a.Perm b):a.foldr (·+·) 0=b.foldr (·+·) 0:=by
 induction h with
 |nil=>rfl
 |cons x _ ih=>simp [ih]
 |swap x y l=>simp;omega
 |trans _ _ ih1 ih2=>exact ih1.trans ih2
theorem XJ(l:List Nat)(x:Nat):(l++[x]).foldr (·+·) 0=l.foldr (·+·) 0+x:=by
 induction l with
 |nil=>simp
 |cons y l ih=>simp only [List.cons_append,List.foldr_cons,ih];omega
theorem XL{l:List Nat}{M:Nat}(h:∀ x∈l,x<=M):l.foldr (·+·) 0<=M*l.length:=by
 induction l with
 |nil=>simp
 |cons y l ih=>
  have h1:=h y (by simp);have h2:=ih λx hx=>h x (by simp [hx]);simp only [List.foldr_cons,Lc,Nat.mul_succ];omega
def Um(e:En ByteArray Fv):Nat:=e.v.1.data.toList.length
theorem Ad9 (h:Dk A d mp s) (hw:OkD s) (hf:Aw A) (hA:A.next+30+3*s.D.length<Aj)
  (hk:∀ A',Ah A A' []->A'.next<=A.next+1+s.D.length->Aw A'->K (.int .i64 (IJ s.D:Int)) A'):
  Wc Tp Al W0 m0 138 [pP d 0] A K:=by
 have h0:=h;obtain ⟨es,c,hr,hm,hne,hD⟩:=h;have hl:s.D.length=es.length:=by rw [hD,List.length_map]
 have hfew:=hw.few;have hM:∀ e∈es,Um e<=1048576:=λe he=>hw.len (fE e) (by rw [hD];exact List.mem_map.2 ⟨e,he,rfl⟩);have hmlt:=hm.ltA;have hu:IJ s.D=(es.map Um).foldr (·+·) 0:=by
  unfold IJ;rw [hD,List.map_map];rfl
 let I:Nat->Nat->List Value->AW->Prop:=λg id vals A'=>id=0/\∃ (vs:List (En ByteArray Fv)),vals=[.int .i64 ((vs.map Um).foldr (·+·) 0:Nat),pP A.next 0]/\Iter A' A.next mp c vs/\DJ kS vF A' mp es c/\
  (∀ e∈vs,e∈es)/\(vs.map En.b).Nodup/\Ah A A' []/\Aw A'/\A'.next<=A.next+1+vs.length/\g=es.length-vs.length
 refine Ahd _ _ (c138 (I:=I) ?_) ?_
 ·rintro g id vals A' dd ⟨rfl,vs,rfl,hit,hm',hvs,hnd,k,f,nx,rfl⟩ hd;rw [Ac3];simp only [ZH,Mc,Mn,Li,and_true] at hd;obtain ⟨d3,d12⟩:=hd;rw [d3,d12];have hlen:=Fs (EY _ hnd) hvs;refine hm'.next hit hvs f (by omega) (λe A2 he hnv it2 k2 n2 f2=>?_) λhall=>?_
  ·have hm2:=hm'.keeps k2 (by simp;omega);have hitlt:=hit.lt;have K2:Ah A A2 []:=k.trans k2 (λx hx=>by have:=Ms.1 hx;exact .inr (by omega));have hvs2:∀ x∈vs++[e],x∈es:=λx hx=>by
    rcases Mz.1 hx with h | h
    ·exact hvs x h
    ·rw [Ms.1 h];exact he
   have hnd2:((vs++[e]).map En.b).Nodup:=by
    rw [List.map_append,List.nodup_append];refine ⟨hnd,by simp,λx hx y hy hxy=>hnv ?_⟩;obtain ⟨z,hz,rfl⟩:=List.mem_map.1 hx;obtain rfl:y=e.b:=by simpa using hy
    rw [<- Vl hm.nb (hvs z hz) he hxy];exact hz
   have hlen2:=Fs (EY _ hnd2) hvs2;have hl1:(vs++[e]).length=vs.length+1:=by simp
   simp only [Q4,Ab];refine Ag.2 ⟨λ_=>?_,λh=>by cases h⟩;refine hm2.entry it2 he ?_;simp only [E6,Ab];refine AH zF f2 (by omega) rfl λA3 m3=>?_;have n3:=m3.next;have k3:=m3.keeps f2;refine m3.Bk.store m3.Ay (by omega) (FN _ _ _) rfl (by show 0+2<=2;omega) rfl λA4 r4 k4 n4 f4=>?_;have r4:Abs.Row1 A4 A2.next [.string e.v.1,.int .i64 (e.v.2:Int)] 89:=r4;simp only [Ha,Eg,Af r4.row,cellOf,AG,Cf,Ab,Hj,Bm];have hb1:(vs.map Um).foldr (·+·) 0<=1048576*vs.length:=by
    have:=XL (l:=vs.map Um) (M:=1048576) λx hx=>by obtain ⟨y,hy,rfl⟩:=List.mem_map.1 hx;exact hM y (hvs y hy)
    rwa [List.length_map] at this
   have hb2:=hM e he;have hb3:e.v.1.data.toList.length=Um e:=rfl;rw [hb3,wrap_i64 (by omega) (by omega)];have k4':Ah A3 A4 [A2.next]:=k4;refine Au.2 ⟨es.length-(vs.length+1),by omega,rfl,vs++[e],?_,(it2.keeps k3 (by simp)).keeps k4' (by have:=it2.lt;simp;omega),(hm2.keeps k3 (by simp)).keeps k4' (by have:=hm2.ltA;simp;omega),hvs2,hnd2,?_,f4,by omega,by omega⟩
   ·rw [List.map_append,List.map_singleton,XJ]
    congr 3
   ·exact (K2.trans k3 (by simp)).trans k4' (λx hx=>by have:=Ms.1 hx;have:=K2.next;exact .inr (by omega))
  ·simp only [Q5,Ab];refine Ag.2 ⟨λh=>(by cases h),λ_=>?_⟩;have hp:=Nr hm.nb hnd hvs hall;rw [XK (hp.map Um),<- hu];exact hk A' k (by omega) f
 ·rw [Aiz];refine Rz h0 ?_;refine Ag.2 ⟨λ_=>?_,λh=>by cases h⟩;simp only [AD,C2,E1,Af hr.row,cellOf,Bp,Cf,Ab];refine hm.range (t:=66) (P:=Tp) (kt:=9) (et:=89) (keq:=Fg) mtF hf (by omega) λA1 hit k1 n1 f1=>?_;exact Au.2 ⟨es.length,rfl,[],rfl,hit,hm.keeps k1 (by simp),by simp,by simp,k1.more (by simp),f1,by simp;omega,rfl⟩
end
variable {A:AW} {b mp c:Nat}
def NJ(s:DS)(n:List UInt8):List UInt8 × Int:=
 if s.down=true then ([],100) else match BV s.D n with | none=>([],7) | some f=>(f.1,0)
theorem Af2:Bd Tp 89 []=some (vF (⟨⟨[]⟩⟩,0)):=by kernel_rfl
theorem Tf(b:ByteArray)(n:Int):Bd Tp 89 [(0,.string b),(1,.int .i64 n)]=some (.agg ⟨[.string b,.int .i64 n]⟩):=by kernel_rfl
theorem Zl{x y:Value}{e:TypeId}(h:Abs.Row1 A b [x,y] e)(hx:isTuple x=false)(hy:isTuple y=false):A.cells? ⟨b,0,none⟩ 2=some [x,y]:=by
 rw [Bc h.row];simp only [List.drop_zero,Bh,hx,hy,Cf]
theorem YH{v:Fv}(h:Abs.Row1 A b [.string v.1,.int .i64 (v.2:Int)] 89):Ae Tp A 89 (pP b 0)=some (vF v):=by
 rw [Ae2,Zl h rfl rfl];rfl
theorem FI(a b:Value):Ap (.tuple #[a,b]) 0=some a:=rfl
theorem Ci(a b:Value):Ap (.tuple ⟨[a,b]⟩) 0=some a:=rfl
theorem Ch(a b:Value):Ap (.tuple ⟨[a,b]⟩) 1=some b:=rfl
theorem lookW{es:List (En ByteArray Fv)}(hm:DJ kS vF A mp es c)(k:ByteArray):Cu Tp A 66 (.map (some mp)) (.string k) true=some (match Dw Fg es k with | some v=>.tuple #[vF v,.bool true] | none=>.tuple #[vF (⟨⟨[]⟩⟩,0),.bool false]):=by
 have:=hm.look mtF zF k true
 refine this.trans ?_;cases Dw Fg es k<;>rfl
theorem Abz{es:List (En ByteArray Fv)}(hm:DJ kS vF A mp es c)(k:ByteArray):Cu Tp A 66 (.map (some mp)) (.string k) false=some (vF ((Dw Fg es k).getD (⟨⟨[]⟩⟩,0))):=by
 have:=hm.look mtF zF k false
 refine this.trans ?_;cases Dw Fg es k<;>rfl
section
variable {W0:World} {m0:Inj Tp}
theorem Ags {d:Nat} {s:DS} {n:ByteArray} {K:Value->AW->Prop} (h:Dk A d mp s) (hf:Aw A) (hA:A.next+10<Aj)
  (hk:∀ A',Ah A A' []->A'.next<=A.next+3->Aw A'->K (.tuple ⟨[.string ⟨⟨(NJ s n.data.toList).1⟩⟩,.int .i64 (NJ s n.data.toList).2]⟩) A'):
  Wc Tp Al W0 m0 55 [pP d 0,.string n] A K:=by
 have fin:∀ (f:Fv) (q:Nat) (e:Int) (A1:AW),Ah A A1 []->A1.next<=A.next+2->Aw A1->NJ s n.data.toList=(f.1.data.toList,e)->
   Ao (BB Tp A1 89) λt3 At3=>Be (Av Tp At3 89 t3 (vF f)) λAt4=>Aa (Ad Tp 89 t3 0) λt5=>Aa (Ae Tp At4 9 t5) λt6=>K (.tuple ⟨[t6,.int .i64 e]⟩) At4:=by
  intro f q e A1 k1 n1 f1 he;rw [he] at hk;refine AH zF f1 (by omega) rfl λA3 m3=>?_;have n3:=m3.next;refine m3.Bk.store m3.Ay (by omega) (FN _ _ _) rfl (by show 0+2<=2;omega) rfl λA4 r4 k4 n4 f4=>?_;have r4:Abs.Row1 A4 A1.next [.string f.1,.int .i64 (f.2:Int)] 89:=r4;simp only [Ha,Eg,Af r4.row,cellOf,AG,Cf,Ab];have hk0:=k1.next;exact hk A4 ((k1.trans (m3.keeps f1) (by simp)).trans k4 (λx hx=>by have:=Ms.1 hx;exact .inr (by omega))) (by omega) f4
 refine w55 _ _ _ BD ?_;rw [e55];refine Ahm _ _ _ BD ?_;rw [AiI];have hlt:=h.lt;refine AH zF hf (by omega) rfl λA1 m1=>?_;have n1:=m1.next;have k1:=m1.keeps hf;have h1:=h.keeps k1 (by simp) (by simp);refine Pr h1 ?_;simp only [Bw,Ab];unfold IN;unfold NJ at fin hk;refine Bj.2 ⟨λhe=>?_,λhe=>?_⟩
 ·have hd:s.down=true:=by
   cases hq:s.down with
   |true=>rfl
   |false=>rw [hq] at he;simp at he
  rw [if_pos hd] at fin;rw [if_pos hd];simp only [Af2,Ab];refine m1.Bk.store m1.Ay (by omega) (FN _ _ _) rfl (by show 0+2<=2;omega) rfl λA2 r2 k2 n2 f2=>?_;rw [YH (v:=(⟨⟨[]⟩⟩,0)) r2];simp only [Ab,Ci,Ch];exact fin (⟨⟨[]⟩⟩,0) 0 100 A2 (k1.trans k2 (λx hx=>by have:=Ms.1 hx;exact .inr (by omega))) (by omega) f2 rfl
 ·have hd:s.down=false:=by
   cases hq:s.down with
   |false=>rfl
   |true=>rw [hq] at he;simp at he
  rw [hd] at fin;simp only [Bool.false_eq_true,if_false] at fin;obtain ⟨es,c,hr,hm,hne,hD⟩:=h1;simp only [AD,C2,E1,Af hr.row,cellOf,Bp,Cf,Ab,lookW hm];have hlk:=FT es n;rw [<- hD] at hlk;rw [<- hlk] at fin;cases hq:Dw Fg es n with
  |none=>
   rw [hq] at fin;simp only [FI,E6,Ab];refine AH zF m1.Ay (by omega) rfl λA2 m2=>?_;have n2:=m2.next;refine m2.Bk.store m2.Ay (by omega) (FN _ _ _) rfl (by show 0+2<=2;omega) rfl λA3 r3 k3 n3 f3=>?_;simp only [Bl,Ab];refine Ag.2 ⟨λ_=>?_,λh=>by simp at h⟩;simp only [Af2,Ab];have r1:=(m1.Bk.keeps (m2.keeps m1.Ay) (by simp)).keeps k3 (by simp;omega);refine r1.store f3 (by omega) (FN _ _ _) rfl (by show 0+2<=2;omega) rfl λA4 r4 k4 n4 f4=>?_;rw [YH (v:=(⟨⟨[]⟩⟩,0)) r4];simp only [Ab,Ci,Ch];refine fin (⟨⟨[]⟩⟩,0) 0 7 A4 (((k1.trans (m2.keeps m1.Ay) (by simp)).trans k3 (λx hx=>by have:=Ms.1 hx;exact .inr (by omega))).trans k4 (λx hx=>by have:=Ms.1 hx;exact .inr (by omega))) (by omega) f4 rfl
  |some v=>
   rw [hq] at fin;simp only [FI,E6,Ab];refine AH zF m1.Ay (by omega) rfl λA2 m2=>?_;have n2:=m2.next;refine m2.Bk.store m2.Ay (by omega) (FN _ _ _) rfl (by show 0+2<=2;omega) rfl λA3 r3 k3 n3 f3=>?_;simp only [Bl,Ab];refine Ag.2 ⟨λh=>by simp at h,λ_=>?_⟩;rw [YH (v:=v) r3];simp only [Ab];have r1:=(m1.Bk.keeps (m2.keeps m1.Ay) (by simp)).keeps k3 (by simp;omega);refine r1.store f3 (by omega) (FN _ _ _) rfl (by show 0+2<=2;omega) rfl λA4 r4 k4 n4 f4=>?_;rw [YH (v:=v) r4];simp only [Ab,Ci,Ch];exact fin v 0 0 A4 (((k1.trans (m2.keeps m1.Ay) (by simp)).trans k3 (λx hx=>by have:=Ms.1 hx;exact .inr (by omega))).trans k4 (λx hx=>by have:=Ms.1 hx;exact .inr (by omega))) (by omega) f4 rfl
end
variable {A:AW} {K:Value->AW->Prop} {caps:List Value}
theorem AhK(s:ByteArray)(k:IntKind)(i:Nat):Io Tp 9 (.string s) (.int k (.ofNat i))=(match s.data.toList[i]? with | some b=>some (.int .u8 b.toNat) | none=>none):=by kernel_rfl
theorem ix9{s:ByteArray}{k:IntKind}{i:Nat}{b:UInt8}(h:s.data.toList[i]? =some b):Io Tp 9 (.string s) (.int k (i:Int))=some (.int .u8 (b.toNat:Int)):=by
 show Io Tp 9 (.string s) (.int k (.ofNat i))=_;rw [AhK,h]
theorem Ai9{a b:ByteArray}{xo yo:Operand}(h:a.data.toList.length+b.data.toList.length<1099511627776):An Tp .add 9 xo yo (.string a) (.string b)=some (.string ⟨⟨a.data.toList++b.data.toList⟩⟩):=by
 show (bif Nat.blt (a.data.toList++b.data.toList).length 1099511627776 then some (Value.string ⟨⟨a.data.toList++b.data.toList⟩⟩) else none)=_;rw [Lq,AA.2 h,Ct]
theorem XM(a b:ByteArray)(xo yo:Operand):An Tp .eql 9 xo yo (.string a) (.string b)=some (.bool (a.data.toList==b.data.toList)):=FA
section
variable {W0:World} {m0:Inj Tp}
def P2(c:UInt8):Bool:=decide (33<=c)&&decide (c<=126)
theorem P1(c:UInt8):P2 c=(!decide ((c.toNat:Int)<33)&&!decide ((126:Int)<(c.toNat:Int))):=by
 unfold P2;have h1:(33:UInt8)=UInt8.ofNat 33:=rfl;have h2:(33<=c)↔(33<=c.toNat):=by rw [UInt8.le_iff_toNat_le];rfl
 have h3:(c<=126)↔(c.toNat<=126):=by rw [UInt8.le_iff_toNat_le];rfl
 rw [Bool.eq_iff_iff];simp only [Bq,decide_eq_true_iff,Bool.not_eq_true',decide_eq_false_iff_not,h2,h3];omega
theorem Xr{n:ByteArray}(hk:K (.bool (FR n.data.toList)) A):Wc Tp Al W0 m0 137 [.string n] A K:=by
 obtain ⟨l,hl⟩:∃ l,n.data.toList=l:=⟨_,rfl⟩;let I:Nat->Nat->List Value->AW->Prop:=λg id vals A'=>id=0/\A'=A/\∃ i:Nat,vals=[.string n,.int .i64 (l.length:Int),.int .i64 (i:Int)]/\g=l.length-i/\i<=l.length/\(l.take i).all P2=true/\l≠[]/\l.length<=40;refine Ahe _ _ (AiU (I:=I) ?_) ?_
 ·rintro g id vals A' d ⟨rfl,rfl,i,rfl,rfl,hi,hall,hne,h40⟩ hd;rw [Ac4];simp only [ZI,Mc,Mn,Li,and_true] at hd;obtain ⟨d0,d12,d13⟩:=hd;simp only [d0,d12,d13,Br,Ab,Az];refine ⟨λhlt=>?_,λhge=>?_⟩
  ·have hlt:i<l.length:=by omega
   have hc:n.data.toList[i]? =some l[i]:=by rw [hl];exact Ge hlt
   have hb:P2 l[i]=false->FR n.data.toList=false:=by
    intro hb;rw [hl];unfold FR
    have:(l.all λc=>decide (33<=c)&&decide (c<=126))=false:=by
     cases hq:(l.all λc=>decide (33<=c)&&decide (c<=126)) with
     |false=>rfl
     |true=>
      have:=List.all_eq_true.1 hq l[i] (List.getElem_mem hlt)
      unfold P2 at hb;rw [hb] at this;cases this
    rw [this]
    simp
   rw [P1] at hb;simp only [ix9 hc,Ab,Br,B3,Az];refine ⟨λh1=>?_,λh1=>⟨λh2=>?_,λh2=>?_⟩⟩
   ·rw [hb (by simp [h1])] at hk;exact hk
   ·rw [hb (by simp [h2])] at hk;exact hk
   ·simp only [Bm,Ab];rw [wrap_i64 (by omega) (by omega)];refine Au.2 ⟨l.length-(i+1),by omega,rfl,rfl,i+1,rfl,rfl,by omega,?_,hne,h40⟩;rw [List.take_add_one,Ge hlt,List.all_append,hall];show (true&&(P2 l[i]&&true))=true;rw [P1];simp [h1,h2]
  ·have hi':i=l.length:=by omega
   have:FR n.data.toList=true:=by
    rw [hl];unfold FR;rw [hi',List.take_length] at hall;have e:(l.all λc=>decide (33<=c)&&decide (c<=126))=true:=hall;rw [e];simp [hne,h40]
   rw [this] at hk;exact hk
 ·rw [AiA];simp only [XM,Ab];refine Ag.2 ⟨λh=>?_,λh=>?_⟩
  ·have h0:l=[]:=by rw [hl] at h;exact beq_iff_eq.1 h
   have:FR n.data.toList=false:=by rw [hl,h0];rfl
   rw [this] at hk;exact hk
  ·have hne:l≠[]:=by
    intro h0;rw [hl,h0] at h;cases h
   simp only [Hj,hl,Ab,B3,Az];refine ⟨λh1=>?_,λh1=>?_⟩
   ·have:FR n.data.toList=false:=by
     rw [hl];unfold FR
     have:decide (l.length<=40)=false:=decide_eq_false (by omega)
     rw [this]
     simp
    rw [this] at hk;exact hk
   ·exact Au.2 ⟨l.length,rfl,rfl,0,rfl,rfl,Nat.zero_le _,by simp,hne,by omega⟩
theorem Hs{f:FuncId}{args all:List Value}(hdyn:D2 Tp A (.func (.func f) ⟨[]⟩ ⟨caps⟩) args=.ok (.enter f all) A)(hkn:NW f Al.known=false)(h:Wc Tp Al W0 m0 f all A K):
  anW Tp Al W0 m0 (D2 Tp A (.func (.func f) ⟨[]⟩ ⟨caps⟩) args) K:=by
 refine .inr (.inl ⟨f,all,A,hdyn,?_⟩);unfold toW;rw [hkn,Cf];exact h
theorem RA {d mp f n:Nat} {s:DS} {g:Fls->Fls} {though:Bool} {K:Value->AW->Prop} (h:Dk A d mp s) (hf:Aw A) (hA:A.next+n+2<Aj) (hfu:s.Dj<9223372036854775808)
  (hdyn:∀ A,D2 Tp A (.func (.func f) ⟨[]⟩ ⟨caps⟩) []=.ok (.enter f caps) A) (hkn:NW f Al.known=false)
  (hdo:∀ A1 s1 (K1:Value->AW->Prop),Ah A A1 [d]->A1.next=A.next->Aw A1->Dk A1 d mp s1->s1.D=s.D->(∀ A2 v,Dk A2 d mp { s1 with D:=g s1.D }->Ah A1 A2 [mp]->A2.next<=A1.next+n->Aw A2->K1 v A2)->Wc Tp Al W0 m0 f caps A1 K1)
  (hk:∀ A2,Dk A2 d mp (El s g though).1->Ah A A2 [d,mp]->A2.next<=A.next+n->Aw A2->K (.int .i64 (El s g though).2) A2):
  Wc Tp Al W0 m0 135 [pP d 0,.func (.func f) ⟨[]⟩ ⟨caps⟩,.bool though] A K:=by
 refine Ahg _ _ _ _ BD ?_;rw [AiC];have h0:=h;obtain ⟨es,c,hr,hm,hne,hD⟩:=h;have hdl:=hr.lt;simp only [AD,Na,Ir,GL,Af hr.row,cellOf,Bp,AI,Cf,Ab,Nat.zero_add,B3,Az];unfold El at hk;refine ⟨λhpos=>?_,λhpos=>?_⟩
 ·rw [if_pos hpos] at hk;simp only [Db,Ab];rw [wrap_i64 (by omega) (by omega)];refine hr.store hf (by omega) (Qp _ _ _) rfl (by show 2+1<=4;omega) rfl λA1 r1 k1 n1 f1=>?_;have r1:Abs.Row1 A1 d [.map (some mp),.int .i64 s.room,.int .i64 (s.Dj-1),.bool s.down] 68:=r1;have k1:Ah A A1 [d]:=k1;have h1:Dk A1 d mp ⟨s.D,s.room,s.Dj-1,s.down⟩:=⟨es,c,r1,hm.keeps k1 (by simp;exact λe=>hne e.symm),hne,hD⟩;simp only [Af r1.row,cellOf,Bp,AI,Cf,Ab,B8,Cg];refine ⟨λhz=>?_,λhz=>?_⟩
  ·rw [if_pos hz] at hk;refine Ag.2 ⟨λht=>?_,λht=>?_⟩
   ·rw [if_pos ht] at hk;refine Hs (hdyn A1) hkn (hdo A1 _ _ k1 n1 f1 h1 rfl λA2 v h2 k2 n2 f2=>?_);obtain ⟨es2,c2,hr2,hm2,_,hD2⟩:=h2;refine hr2.store f2 (by omega) (OV _ _ _) rfl (by show 3+1<=4;omega) rfl λA3 r3 k3 n3 f3=>?_;have r3:Abs.Row1 A3 d [.map (some mp),.int .i64 s.room,.int .i64 (s.Dj-1),.bool true] 68:=r3;have k3:Ah A2 A3 [d]:=k3;rw [hz] at r3;exact hk A3 ⟨es2,c2,r3,hm2.keeps k3 (by simp;exact λe=>hne e.symm),hne,hD2⟩ (((k1.more (by simp)).trans k2 (by simp)).trans k3 (by simp)) (by omega) f3
   ·rw [Ff (by rw [ht];simp)] at hk;refine r1.store f1 (by omega) (OV _ _ _) rfl (by show 3+1<=4;omega) rfl λA3 r3 k3 n3 f3=>?_;have r3:Abs.Row1 A3 d [.map (some mp),.int .i64 s.room,.int .i64 (s.Dj-1),.bool true] 68:=r3;have k3:Ah A1 A3 [d]:=k3;rw [hz] at r3;exact hk A3 ⟨es,c,r3,(hm.keeps k1 (by simp;exact λe=>hne e.symm)).keeps k3 (by simp;exact λe=>hne e.symm),hne,hD⟩ ((k1.more (T:=[d,mp]) (by simp)).trans k3 (by simp)) (by omega) f3
  ·rw [Ff hz] at hk;refine Hs (hdyn A1) hkn (hdo A1 _ _ k1 n1 f1 h1 rfl λA2 v h2 k2 n2 f2=>?_);exact hk A2 h2 ((k1.more (T:=[d,mp]) (by simp)).trans k2 (by simp)) (by omega) f2
 ·rw [Ff hpos] at hk;refine Hs (hdyn A) hkn (hdo A s _ (.refl _ _) rfl hf h0 rfl λA2 v h2 k2 n2 f2=>?_);exact hk A2 h2 (k2.more (by simp)) (by omega) f2
end
end Go.Proofs.YtnennggfoegcmaaGreatDoor
