/-
  This text prints what the functions reached ask of their memory, and shows what they answer. Conditions: none for the last theorem, those that each theorem states for the others.
-/
import Derived.Test.YtdpdajpiadohjaaGreatDoorPg
set_option maxRecDepth 100000
set_option maxHeartbeats 1000000
namespace Go.Proofs.YtdpdajpiadohjaaGreatDoor
open Go Go.Abs Go.Lib
structure TV where
 r:SL
 a:SL
def fTb(x:TV):List Value:=[x.r.val,x.a.val]
structure TT (A:AW) (x:TV) (rs:List TR) (asl:List AV):Prop where
 r:∃ F,RdE 6 fR A x.r.val rs F
 a:∃ F,RdE 4 fA A x.a.val asl F
theorem TT.keeps{A A':AW}{x:TV}{rs:List TR}{asl:List AV}(h:TT A x rs asl)(k:Bs A A' []):TT A' x rs asl where
 r:=by obtain ⟨F,h⟩:=h.r;exact ⟨F,h.keeps k (by simp)⟩
 a:=by obtain ⟨F,h⟩:=h.a;exact ⟨F,h.keeps k (by simp)⟩
def R0(r:TR):Prop:=DA r.x.g r.x.b=0∧1≤r.state∧r.state≤4∧r.why≤2∧((r.state=1∧r.why=0∧r.timeout≠0∧1≤r.left∧r.left≤r.timeout)∨(¬ (r.state=1∧r.why=0∧r.timeout≠0)∧r.left=0∧(r.state=1∨r.why=0)))
def Zw(rs:List TR):Prop:=Adj (fun a b:TR=>B6 a.x b.x) rs
def O6(rs:List TR)(asl:List AV):Prop:=(∀ r∈rs,R0 r)∧Zw rs∧asP asl∧∀ a∈asl,∃ r∈rs,r.x=a.x∧r.state=1
theorem Yb{rs:List TR}(h:Zw rs){a b:TR}(ha:a∈rs)(hb:b∈rs)(he:a.x=b.x):a=b:=by
 obtain ⟨i,hi⟩:=List.mem_iff_getElem?.1 ha;obtain ⟨j,hj⟩:=List.mem_iff_getElem?.1 hb;rcases Nat.lt_trichotomy i j with h1 | h1 | h1
 ·have:=E5 (c:=fun a b:TR=>B6 a.x b.x) (fun x y z=>Cb) h h1 hi hj
  simp only [he,C2.2] at this;exact absurd this (by decide)
 ·subst h1;rw [hi] at hj;cases hj;rfl
 ·have:=E5 (c:=fun a b:TR=>B6 a.x b.x) (fun x y z=>Cb) h h1 hj hi
  simp only [he,C2.2] at this;exact absurd this (by decide)
theorem QG{A:AW}{r:Nat}{x:TR}(h:Go.Abs.Row1 A r (fR x) 100):A.cell? ⟨r,3,none⟩=some (.int .u8 (x.state:Int))∧A.cell? ⟨r,4,none⟩=some (.int .u8 (x.why:Int))∧A.cell? ⟨r,5,none⟩=some (.int .u32 (x.timeout:Int))∧A.cell? ⟨r,6,none⟩=some (.int .u32 (x.left:Int))∧Ad Tp A 100 (pP r 0)=some (.agg ⟨fR x⟩):=by
 have h2:A.cells? ⟨r,0,none⟩ 7=some (fR x):=by rw [Bd h.row];rfl
 refine ⟨?_,?_,?_,?_,by rw [Acf,h2]⟩<;>(rw [Ax h.row];exact AK rfl rfl)
theorem DK{A:AW}{r:Nat}{x:TV}(h:Go.Abs.Row1 A r (fTb x) 41):A.cell? ⟨r,0,none⟩=some x.r.val∧A.cell? ⟨r,1,none⟩=some x.a.val∧Ad Tp A 41 (pP r 0)=some (.agg ⟨fTb x⟩):=by
 have h2:A.cells? ⟨r,0,none⟩ 2=some (fTb x):=by rw [Bd h.row];rfl
 refine ⟨?_,?_,by rw [Aey,h2]⟩<;>(rw [Ax h.row];exact AK rfl rfl)
theorem ZY:Ci Tp 100=some (.agg ⟨[.int .u32 0,.string ⟨⟨[]⟩⟩,.string ⟨⟨[]⟩⟩,.int .u8 0,.int .u8 0,.int .u32 0,.int .u32 0]⟩):=by kernel_rfl
theorem Rj{A:AW}{x:TR}{K:Value→AW→Prop}(hf:AH A)(hA:A.next<Ao)(hk:∀ A',Grow A A' 1→Go.Abs.Row1 A' A.next (fR x) 100→K (pP A.next 0) A'):Al (BB Tp A 100) fun t A1=>B5 (Bg Tp A1 100 t (.agg ⟨fR x⟩)) fun A2=>K t A2:=Lg ZY rfl (n:=7) rfl rfl AbP rfl hf hA hk
theorem AcZ(A:AW)(v w:Value):Cu Tp Ak A (.func (.func 102) #[] #[]) [v,w]=.ok (.enter 102 [v,w]) A:=by kernel_rfl
section
variable {W0:World} {m0:Inj Tp}
theorem Agh{r:TR}{A:AW}{K:Value→AW→Prop}(hf:AH A)(hA:A.next+3<Ao)(hk:∀ A',Grow A A' 2→K (.bool (dP (R0 r))) A'):Wc Tp Ak W0 m0 68 [.agg ⟨fR r⟩] A K:=by
 refine w68 _ _ (Au (S:=fun _ _ _=>False) fun _ _ _ h=>h) ?_;rw [e68];refine Am (cs:=fR r) hf (by omega) rfl fun A1 m1=>?_;have g1:=Grow.made m1 hf;have n1:=m1.next;simp only [EH,FY m1.AS,Ab];refine Z1 m1.Ap (by omega) fun A2 g2=>?_;have r2:=m1.AS.keeps g2.keeps (by simp);have hk:=hk A2 (g1.trans g2);obtain ⟨c3,c4,c5,c6,_⟩:=QG r2;have q:¬ (r.state=1∧r.why=0∧r.timeout≠0)→DA r.x.g r.x.b=0→1≤r.state→r.state≤4→r.why≤2→NW K (pP A.next 0) A2:=by
  intro h0 h1 h2 h3 h4;unfold NW;simp only [D3,Ld,OG,P5,JF,VP,Nat.zero_add,c3,c4,c6,AQ,Ab];refine Aq.2 ⟨fun h5=>Aq.2 ⟨fun h6=>kT hk ⟨h1,h2,h3,h4,.inr ⟨h0,by omega,.inl (by omega)⟩⟩,fun h6=>kB hk ?_⟩,fun h5=>kF hk fun ok=>?_⟩
  ·rw [beq_iff_eq];refine ⟨fun h7=>⟨h1,h2,h3,h4,.inr ⟨h0,by omega,.inr (by omega)⟩⟩,fun ok=>?_⟩;rcases ok.2.2.2.2 with h | h
   ·exact absurd ⟨h.1,h.2.1,h.2.2.1⟩ h0
   ·have:=h.2.2;omega
  ·rcases ok.2.2.2.2 with h | h
   ·exact absurd ⟨h.1,h.2.1,h.2.2.1⟩ h0
   ·have:=h.2.1;omega
 simp only [D3,Ld,SX,OG,P5,JF,VP,Nat.zero_add,c3,c4,c5,c6,AR,Ar,Bc,BL,CV,AQ,Ab,Ah];refine Aj.2 ⟨fun h1=>kF hk fun ok=>?_,fun h1=>?_⟩
 ·rw [ok.1] at h1;cases h1
 have h1:DA r.x.g r.x.b=0:=by simpa using h1
 refine ⟨fun h2=>kF hk fun ok=>by have:=ok.2.1;omega,fun h2=>⟨fun h3=>kF hk fun ok=>by have:=ok.2.2.1;omega,fun h3=>⟨fun h4=>kF hk fun ok=>by have:=ok.2.2.2.1;omega,fun h4=>?_⟩⟩⟩;refine AL.2 ⟨fun h5=>q (by omega) h1 (by omega) (by omega) (by omega),fun h5=>?_⟩;refine AL.2 ⟨fun h6=>q (by omega) h1 (by omega) (by omega) (by omega),fun h6=>?_⟩;refine Aq.2 ⟨fun h7=>q (by omega) h1 (by omega) (by omega) (by omega),fun h7=>?_⟩;refine ⟨fun h8=>kB hk ?_,fun h8=>kF hk fun ok=>?_⟩
 ·rw [decide_eq_true_iff];refine ⟨fun h9=>⟨h1,by omega,by omega,by omega,.inl ⟨by omega,by omega,by omega,by omega,by omega⟩⟩,fun ok=>?_⟩;rcases ok.2.2.2.2 with h | h
  ·have:=h.2.2.2.2;omega
  ·exact absurd ⟨by omega,by omega,by omega⟩ h.1
 ·rcases ok.2.2.2.2 with h | h
  ·have:=h.2.2.2.1;omega
  ·exact absurd ⟨by omega,by omega,by omega⟩ h.1
theorem Agf {n:Nm} {v:Value} {l:List TR} {F:List Nat} {A:AW} {K:Value→AW→Prop} (hl:RdE 6 fR A v l F) (hlen:l.length≤20) (hs:Zw l) (hf:AH A) (hA:A.next+500<Ao)
  (hk:∀ (r:Nat) (b:Bool) A',Grow A A' 380→(b=true↔∃ x∈l,x.x=n)→(b=true→∃ x,l[r]? =some x∧x.x=n)→K (.tuple ⟨[.int .i64 (r:Int),.bool b]⟩) A'):Wc Tp Ak W0 m0 70 [v,.agg ⟨n.cells⟩] A K:=by
 refine w70 _ _ _ (Au (S:=fun _ _ _=>False) fun _ _ _ h=>h) ?_;rw [e70];refine Am (cs:=n.cells) hf (by omega) rfl fun A1 m1=>?_;have g1:=Grow.made m1 hf;have n1:=m1.next;simp only [Dk m1.AS,Ab];let cmp:Nat→Int:=fun i=>match l[i]? with | some x=>B6 x.x n | none=>0
 have hget:∀ {i:Nat} {x:TR},l[i]? =some x→cmp i=B6 x.x n:=fun {i x} h=>by simp only [cmp,h]
 refine Ad0 (hl.keeps g1.keeps (by simp)) (by omega) m1.Ap (by omega) (cmp:=cmp) (c:=6) (fun i j hij hj h0=>?_) (fun i x A2 K2 hx g2 hk2=>?_) fun r b A2 g2 hr hb hb2=>?_
 ·have hi:l[i]? =some l[i]:=Ge (by omega);have hj:l[j]? =some l[j]:=Ge hj;rw [hget hj] at h0;rw [hget hi];exact Vu (E5 (c:=fun a b:TR=>B6 a.x b.x) (fun x y z=>Cb) hs hij hi hj) h0
 ·have n2:=g2.next;refine .inr (.inl ⟨102,_,_,AcZ _ _ _,?_⟩);refine AdZ g2.Ap (by omega) fun A5 g5=>?_
  have:=hk2 A5 g5
  rw [hget hx] at this;exact this
 ·simp only [Aw,List.getElem?_cons_zero,List.getElem?_cons_succ,Ab];refine hk r b A2 ((g1.trans g2).more (by omega)) ?_ fun h=>?_
  ·rw [hb];constructor
   ·rintro ⟨i,hi,h0⟩;have hi:l[i]? =some l[i]:=Ge hi;rw [hget hi] at h0;exact ⟨_,List.mem_of_getElem? hi,C2.1 h0⟩
   ·rintro ⟨x,hx,h0⟩;obtain ⟨i,hi⟩:=List.mem_iff_getElem?.1 hx;exact ⟨i,(Gs.1 hi).1,by rw [hget hi];exact C2.2 h0⟩
  ·obtain ⟨h1,h2⟩:=hb2 h;have hi:l[r]? =some l[r]:=Ge h1;rw [hget hi] at h2;exact ⟨_,hi,C2.1 h2⟩
theorem Agw {t:TV} {rs:List TR} {asl:List AV} {A:AW} {K:Value→AW→Prop} (h:TT A t rs asl) (hrl:rs.length≤20) (hal:asl.length≤20) (hf:AH A) (hA:A.next+9000<Ao)
  (hk:∀ A',Grow A A' 8500→K (.int .i64 (eI 190 (O6 rs asl))) A'):Wc Tp Ak W0 m0 38 [.agg ⟨fTb t⟩] A K:=by
 have kN:∀ {B},Grow A B 8500→¬ O6 rs asl→K (.int .i64 190) B:=fun {B} g hn=>(kE (hk B g)).2 hn;let I:Nat→Nat→List Value→AW→Prop:=fun g id vals A'=>Go.Abs.Row1 A' A.next (fTb t) 41∧
  ((id=0∧∃ i:Nat,vals=[pP A.next 0,t.r.val,.int .i64 (rs.length:Int),.int .i64 (i:Int)]∧i≤rs.length∧(∀ (j:Nat) r,j<i→rs[j]? =some r→R0 r)∧(∀ (j:Nat) a b,j+1<i→rs[j]? =some a→rs[j+1]? =some b→B6 a.x b.x<0)∧g=1000-i∧Grow A A' (1+8*i))∨
  (id=2∧∃ i:Nat,vals=[pP A.next 0,t.a.val,.int .i64 (asl.length:Int),.int .i64 (i:Int)]∧i≤asl.length∧((∀ r∈rs,R0 r)∧Zw rs∧asP asl)∧(∀ (j:Nat) a,j<i→asl[j]? =some a→∃ r∈rs,r.x=a.x∧r.state=1)∧g=100-i∧Grow A A' (400+390*i)))
 refine w38 _ _ (c38 (I:=I) fun g id vals A' d hI hd=>?_) ?_
 ·obtain ⟨hr,hI⟩:=hI;rcases hI with ⟨rfl,i,rfl,hi,hall,hadj,rfl,hg⟩ | ⟨rfl,i,rfl,hi,hok,hall,rfl,hg⟩
  ·have ng:=hg.next;rw [Afb];simp only [L38,Mc,Mn,Li,and_true] at hd;obtain ⟨d1,d10,d11,d12⟩:=hd;obtain ⟨F,hrs⟩:=(h.keeps hg.keeps).r;simp only [d1,d10,d11,d12,Ar,Ab,Ah];refine ⟨fun hlt=>?_,fun hge=>?_⟩
   ·have hlt:i<rs.length:=by omega
    obtain ⟨x,hx⟩:∃ x,rs[i]? =some x:=⟨_,Ge hlt⟩;have hxm:=List.mem_of_getElem? hx;obtain ⟨r,o,a1,a2,a3⟩:=hrs.at etR hx;simp only [a1,a3,Ab];refine Rj hg.Ap (by omega) fun A2 g2 r2=>?_;have g02:=hg.trans g2;have n2:=g2.next;simp only [(QG r2).2.2.2.2,Ab];refine Agh g2.Ap (by omega) fun A3 g3=>?_;have g03:=g02.trans g3;have n3:=g3.next;have r3:=r2.keeps g3.keeps (by simp);have hr3:=(hr.keeps g2.keeps (by simp)).keeps g3.keeps (by simp);simp only [Bo,Bc,Ab,Ah];refine Aj.2 ⟨fun h3=>kN (g03.more (by omega)) fun ok=>?_,fun h3=>?_⟩
    ·rw [Bu.2 (ok.1 x hxm)] at h3;cases h3
    ·have h3:=Bu.1 (by simpa using h3);have go:∀ B,Grow A3 B 3→(∀ a,0<i→rs[i-1]? =some a→B6 a.x x.x<0)→AE (T38 0) (T38 0) (∃ g',g'<1000-i∧I g' 0 [pP A.next 0,t.r.val,.int .i64 (rs.length:Int),.int .i64 ((i:Int)+1)] B):=fun B gb hprev=>by
      refine Ai.2 ⟨1000-(i+1),by omega,hr3.keeps gb.keeps (by simp),.inl ⟨rfl,i+1,rfl,by omega,fun j y hj hy=>?_,fun j a b hj ha hb=>?_,rfl,(g03.trans gb).more (by omega)⟩⟩
      ·by_cases hji:j=i
       ·subst hji;rw [hx] at hy;cases hy;exact h3
       ·exact hall j y (by omega) hy
      ·by_cases hji:j+1=i
       ·rw [hji] at hb;rw [hx] at hb;cases hb;exact hprev a (by omega) (by rw [show i-1=j by omega];exact ha)
       ·exact hadj j a b (by omega) ha hb
     refine ⟨fun h4=>?_,fun h4=>?_⟩
     ·obtain ⟨a,ha⟩:∃ a,rs[i-1]? =some a:=⟨_,Ge (by omega)⟩;obtain ⟨F,hrs3⟩:=(h.keeps g03.keeps).r;obtain ⟨r5,o5,b1,b2,b3⟩:=hrs3.at etR ha;have cc:Ad Tp A3 46 (pP r5 o5)=some (.agg ⟨a.x.cells⟩):=by
       have:=CY b2 (k:=0) (m:=2) (by omega) rfl
       rw [D0,Nat.add_zero] at *;rw [this];rfl
      simp only [DU,G7,(DK hr3).1,Cp,Ab];rw [wrap_i64 (by omega) (by omega),show (i:Int)-1=((i-1:Nat):Int) by omega];simp only [b1,EH,cc,FY r3,Ab];refine Wi g3.Ap (by omega) fun A4 g4=>?_;simp only [BL,AA,Ab,Ah];rw [wrap_i64 (by omega) (by omega)];refine ⟨fun h5=>kN ((g03.trans g4).more (by omega)) fun ok=>?_,fun h5=>go A4 g4 fun y _ hy=>?_⟩
      ·have:=ok.2.1 (i-1) a x ha (by rw [show i-1+1=i by omega];exact hx)
       simp only at this;omega
      ·rw [ha] at hy;cases hy;omega
     ·simp only [AA,Ab];rw [wrap_i64 (by omega) (by omega)];exact go A3 ((Grow.refl g3.Ap).more (by omega)) fun a h0=>by omega
   ·have hib:i=rs.length:=by omega
    obtain ⟨F2,has⟩:=(h.keeps hg.keeps).a;simp only [K8,Sx,Nat.zero_add,(DK hr).2.1,Ab];refine Agg has hal hg.Ap (by omega) fun A2 g2=>?_;have g02:=hg.trans g2;have hr2:=hr.keeps g2.keeps (by simp);simp only [AR,K8,Sx,Nat.zero_add,(DK hr2).2.1,(has.keeps g2.keeps (by simp)).len etA,Ab];refine Aj.2 ⟨fun h3=>kN (g02.more (by omega)) fun ok=>?_,fun h3=>?_⟩
    ·rw [Gj ok.2.2.1] at h3;cases h3
    ·have h3:asP asl:=(FG (n:=180) (by decide)).1 (by simpa using h3);refine Ai.2 ⟨100-0,by omega,hr2,.inr ⟨rfl,0,rfl,Nat.zero_le _,⟨fun r hrm=>?_,fun j a b ha hb=>hadj j a b (by have:=(Gs.1 hb).1;omega) ha hb,h3⟩,fun j a hj=>by omega,rfl,g02.more (by omega)⟩⟩;obtain ⟨j,hj⟩:=List.mem_iff_getElem?.1 hrm;exact hall j r (by have:=(Gs.1 hj).1;omega) hj
  ·have ng:=hg.next;rw [Afa];simp only [L38,Mc,Mn,Li,and_true] at hd;obtain ⟨d1,d43,d44,d45⟩:=hd;obtain ⟨F,has⟩:=(h.keeps hg.keeps).a;simp only [d1,d43,d44,d45,Ar,Ab,Ah];refine ⟨fun hlt=>?_,fun hge=>?_⟩
   ·have hlt:i<asl.length:=by omega
    obtain ⟨x,hx⟩:∃ x,asl[i]? =some x:=⟨_,Ge hlt⟩;have hxm:=List.mem_of_getElem? hx;obtain ⟨r,o,a1,a2,a3⟩:=has.at etA hx;simp only [a1,a3,Ab];refine V5 hg.Ap (by omega) fun A2 g2 r2=>?_;have g02:=hg.trans g2;have n2:=g2.next;have hr2:=hr.keeps g2.keeps (by simp);obtain ⟨F2,hrs2⟩:=(h.keeps g02.keeps).r;simp only [DU,Gf,G7,Nat.zero_add,(DK hr2).1,(DC r2).2.2.1,Ab];refine Agf hrs2 hrl hok.2.1 g2.Ap (by omega) fun r3 b3 A3 g3 hb3 hb4=>?_;have g03:=g02.trans g3;have hr3:=hr2.keeps g3.keeps (by simp);simp only [Aw,List.getElem?_cons_zero,List.getElem?_cons_succ,Bo,Ab];refine Aj.2 ⟨fun h3=>kN (g03.more (by omega)) fun ok=>?_,fun h3=>?_⟩
    ·obtain ⟨y,hy,he,_⟩:=ok.2.2.2 x hxm;rw [hb3.2 ⟨y,hy,he⟩] at h3;cases h3
    ·obtain ⟨y,hy,he⟩:=hb4 (by simpa using h3);obtain ⟨F3,hrs3⟩:=(h.keeps g03.keeps).r;obtain ⟨r5,o5,b1,b2,b3'⟩:=hrs3.at etR hy;have cc:A3.cell? ⟨r5,o5+3,none⟩=some (.int .u8 (y.state:Int)):=cell_of b2 (k:=3) rfl;simp only [DU,G7,Nat.zero_add,(DK hr3).1,b1,D3,JF,cc,AR,AA,Ab];rw [wrap_i64 (by omega) (by omega)];refine AL.2 ⟨fun h4=>kN (g03.more (by omega)) fun ok=>?_,fun h4=>?_⟩
     ·obtain ⟨z,hz,hze,hzs⟩:=ok.2.2.2 x hxm;rw [Yb hok.2.1 hz (List.mem_of_getElem? hy) (by rw [hze,he])] at hzs;omega
     ·refine Ai.2 ⟨100-(i+1),by omega,hr3,.inr ⟨rfl,i+1,rfl,by omega,hok,fun j z hj hz=>?_,rfl,g03.more (by omega)⟩⟩;by_cases hji:j=i
      ·subst hji;rw [hx] at hz;cases hz;exact ⟨y,List.mem_of_getElem? hy,he,by omega⟩
      ·exact hall j z (by omega) hz
   ·refine (kE (hk A' (hg.more (by omega)))).1 ⟨hok.1,hok.2.1,hok.2.2,fun a ha=>?_⟩;obtain ⟨j,hj⟩:=List.mem_iff_getElem?.1 ha;exact hall j a (by have:=(Gs.1 hj).1;omega) hj
 ·rw [e38];refine Am (cs:=fTb t) hf (by omega) rfl fun A1 m1=>?_;have g1:=Grow.made m1 hf;obtain ⟨F,hrs⟩:=(h.keeps g1.keeps).r;simp only [DU,G7,(DK m1.AS).1,hrs.len etR,Ab];exact Ai.2 ⟨1000-0,m1.AS,.inl ⟨rfl,0,rfl,Nat.zero_le _,fun j r hj=>by omega,fun j a b hj=>by omega,rfl,g1⟩⟩
end
theorem elA{A:AW}{r o:Nat}{a:AV}(h:A.cells? ⟨r,o,none⟩ (4+1)=some (fA a)):A.cell? ⟨r,o,none⟩=some (.int .u64 (a.s:Int))∧A.cell? ⟨r,o+4,none⟩=some (.bool a.susp)∧Ad Tp A 46 (pP r (o+1))=some (.agg ⟨a.x.cells⟩):=by
 refine ⟨cell_of h (k:=0) rfl,cell_of h (k:=4) rfl,?_⟩
 have:=CY h (k:=1) (m:=2) (by omega) rfl
 rw [D0,this];rfl
theorem elR{A:AW}{r o:Nat}{x:TR}(h:A.cells? ⟨r,o,none⟩ (6+1)=some (fR x)):Ad Tp A 46 (pP r o)=some (.agg ⟨x.x.cells⟩)∧A.cell? ⟨r,o+3,none⟩=some (.int .u8 (x.state:Int)):=by
 refine ⟨?_,cell_of h (k:=3) rfl⟩
 have:=CY h (k:=0) (m:=2) (by omega) rfl
 rw [Nat.add_zero] at this;rw [D0,this];rfl
section
variable {W0:World} {m0:Inj Tp}
theorem Aga {A:AW} {v:Value} {l:List AV} {F:List Nat} {K:Value→AW→Prop} (hl:RdE 4 fA A v l F) (hlen:l.length≤20) (hf:AH A) (hA:A.next+100<Ao)
  (hk:∀ A',Grow A A' 80→K (.int .i64 (eI 180 (asP l))) A'):Wc Tp Ak W0 m0 77 [v] A K:=by
 have kN:∀ {B},Grow A B 80→¬ asP l→K (.int .i64 180) B:=fun {B} g hn=>(kE (hk B g)).2 hn;let P0:Nat→Prop:=fun i=>(∀ (j:Nat) a,j<i→l[j]? =some a→a.s≠0∧DA a.x.g a.x.b=0)∧(∀ (j:Nat) a b,j+1<i→l[j]? =some a→l[j+1]? =some b→Kd a b<0);let PP:Nat→Nat→Prop:=fun i k=>(∀ (k' j:Nat) a b,k'<j→(j<i∨(j=i∧k'<k))→l[k']? =some a→l[j]? =some b→a.susp=false→b.susp=false→a.s≠b.s);let I:Nat→Nat→List Value→AW→Prop:=fun g id vals A'=>
  (id=0∧∃ i:Nat,vals=[v,.int .i64 (i:Int)]∧i≤l.length∧P0 i∧PP i 0∧g=10000-i*100∧Grow A A' (4*i))∨
  (id=2∧∃ i k:Nat,vals=[v,.int .i64 (i:Int),.int .i64 (k:Int)]∧i<l.length∧k≤i∧P0 (i+1)∧PP i k∧g=10000-i*100-1-k∧Grow A A' (4*i+4))
 refine w77 _ _ (c77 (I:=I) fun g id vals A' d hI hd=>?_) ?_
 ·rcases hI with ⟨rfl,i,rfl,hi,hp,hpp,rfl,hg⟩ | ⟨rfl,i,k,rfl,hi,hki,hp,hpp,rfl,hg⟩
  ·have ng:=hg.next;rw [AeJ];simp only [L77,Mc,Mn,Li,and_true] at hd;obtain ⟨d0,d3⟩:=hd;have h':=hl.keeps hg.keeps (by simp);simp only [d0,d3,h'.len etA,Ar,Ab,Ah];refine ⟨fun hlt=>?_,fun hge=>?_⟩
   ·have hlt:i<l.length:=by omega
    obtain ⟨a,ha⟩:∃ a,l[i]? =some a:=⟨_,Ge hlt⟩;have ham:=List.mem_of_getElem? ha;obtain ⟨r,o,a1,a2,a3⟩:=h'.at etA ha;obtain ⟨c0,c4,cx⟩:=elA a2;simp only [a1,Fj,Gf,Cl,c0,cx,AQ,Ab];refine Aq.2 ⟨fun h1=>kN (hg.more (by omega)) fun ok=>(ok.1 a ham).1 (by omega),fun h1=>?_⟩;refine Z0 hg.Ap (by omega) fun A3 g3=>?_;have g03:=hg.trans g3;have n3:=g3.next;have h3':=hl.keeps g03.keeps (by simp);obtain ⟨r3,o3,b1,b2,b3⟩:=h3'.at etA ha;obtain ⟨rfl,rfl⟩:r3=r∧o3=o:=by
     have:=b1.symm.trans a1
     simpa using this
    obtain ⟨e0,e4,ex⟩:=elA b2;simp only [AR,Bc,Ab,Ah];refine Aj.2 ⟨fun h2=>kN (g03.more (by omega)) fun ok=>?_,fun h2=>?_⟩
    ·rw [(ok.1 a ham).2] at h2;cases h2
    have h2:DA a.x.g a.x.b=0:=by simpa using h2
    have go:∀ B,Grow A3 B 3→(∀ x,0<i→l[i-1]? =some x→Kd x a<0)→AE (T77 2) (T77 2) (∃ g',g'<10000-i*100∧I g' 2 [v,.int .i64 (i:Int),.int .i64 0] B):=fun B gb hprev=>by
     refine Ai.2 ⟨10000-i*100-1-0,by omega,.inr ⟨rfl,i,0,rfl,hlt,Nat.zero_le _,⟨fun j x hj hx=>?_,fun j x y hj hx hy=>?_⟩,hpp,rfl,(g03.trans gb).more (by omega)⟩⟩
     ·by_cases hji:j=i
      ·subst hji;rw [ha] at hx;cases hx;exact ⟨by omega,h2⟩
      ·exact hp.1 j x (by omega) hx
     ·by_cases hji:j+1=i
      ·rw [hji] at hy;rw [ha] at hy;cases hy;exact hprev x (by omega) (by rw [show i-1=j by omega];exact hx)
      ·exact hp.2 j x y (by omega) hx hy
    refine ⟨fun h4=>?_,fun h4=>go A3 ((Grow.refl g3.Ap).more (by omega)) fun x h0=>by omega⟩;obtain ⟨x,hx⟩:∃ x,l[i-1]? =some x:=⟨_,Ge (by omega)⟩;obtain ⟨r5,o5,f1,f2,f3⟩:=h3'.at etA hx;obtain ⟨k0,k4,kx⟩:=elA f2;have okx:asP l→Kd x a<0:=fun ok=>ok.2.1 (i-1) x a hx (by rw [show i-1+1=i by omega];exact ha);simp only [Cp,Ab];rw [wrap_i64 (by omega) (by omega),show (i:Int)-1=((i-1:Nat):Int) by omega];simp only [f1,Fj,Gf,Cl,e0,k0,ex,kx,Bc,AQ,Ab,Ah];refine ⟨fun h5=>kN (g03.more (by omega)) fun ok=>?_,fun h5=>?_⟩
    ·have:=Hn.1 (okx ok);omega
    refine Aq.2 ⟨fun h6=>?_,fun h6=>go A3 ((Grow.refl g3.Ap).more (by omega)) fun y _ hy=>?_⟩
    ·have hxc:=IZ (hp.1 (i-1) x (by omega) hx).2;refine Z2 g3.Ap (by omega) (by omega) (by omega) fun A6 r6 g6 hr6=>?_;simp only [BL,Ab,Ah];refine ⟨fun h7=>kN ((g03.trans g6).more (by omega)) fun ok=>?_,fun h7=>go A6 (g6.more (by omega)) fun y _ hy=>?_⟩
     ·rcases Hn.1 (okx ok) with h | h
      ·omega
      ·have:=hr6.2 h.2;omega
     ·rw [hx] at hy;cases hy;exact Hn.2 (.inr ⟨by omega,hr6.1 (by omega)⟩)
    ·rw [hx] at hy;cases hy;exact Hn.2 (.inl (by omega))
   ·refine (kE (hk A' (hg.more (by omega)))).1 (We.2 ⟨fun a ha=>?_,fun j a b ha hb=>hp.2 j a b (by have:=(Gs.1 hb).1;omega) ha hb,fun k j a b hkj ha hb=>hpp k j a b hkj (.inl (by have:=(Gs.1 hb).1;omega)) ha hb⟩);obtain ⟨j,hj⟩:=List.mem_iff_getElem?.1 ha;exact hp.1 j a (by have:=(Gs.1 hj).1;omega) hj
  ·have ng:=hg.next;rw [AeI];simp only [L77,Mc,Mn,Li,and_true] at hd;obtain ⟨d0,d3,d4⟩:=hd;have h':=hl.keeps hg.keeps (by simp);simp only [d0,d3,d4,Ar,Ab,Ah];refine ⟨fun hlt=>?_,fun hge=>?_⟩
   ·have hlt:k<i:=by omega
    obtain ⟨a,ha⟩:∃ a,l[k]? =some a:=⟨_,Ge (by omega)⟩;obtain ⟨b,hb⟩:∃ b,l[i]? =some b:=⟨_,Ge hi⟩;obtain ⟨r,o,a1,a2,a3⟩:=h'.at etA ha;obtain ⟨c0,c4,_⟩:=elA a2;obtain ⟨r2,o2,b1,b2,b3⟩:=h'.at etA hb;obtain ⟨e0,e4,_⟩:=elA b2;have go:¬ (a.s=b.s∧a.susp=false∧b.susp=false)→Ir (fun id vals A'=>∃ g',g'<10000-i*100-1-k∧I g' id vals A') A' (.int .i64 (k:Int)) v (.int .i64 (i:Int)):=by
     intro hn;unfold Ir;simp only [AA,Ab];rw [wrap_i64 (by omega) (by omega)];refine Ai.2 ⟨10000-i*100-1-(k+1),by omega,.inr ⟨rfl,i,k+1,rfl,hi,by omega,hp,fun k' j x y hkj hj hx hy hsx hsy he=>?_,rfl,hg⟩⟩;by_cases hh:j=i∧k'=k
     ·obtain ⟨rfl,rfl⟩:=hh;rw [ha] at hx;cases hx;rw [hb] at hy;cases hy;exact hn ⟨he,hsx,hsy⟩
     ·exact hpp k' j x y hkj (by omega) hx hy hsx hsy he
    simp only [a1,b1,Fj,OF,KR,Cl,c0,c4,e0,e4,Bo,AQ,Ab];refine Aq.2 ⟨fun h1=>Aj.2 ⟨fun h2=>Aj.2 ⟨fun h3=>kN (hg.more (by omega)) fun ok=>?_,fun h3=>go fun hh=>?_⟩,fun h2=>go fun hh=>?_⟩,fun h1=>go fun hh=>h1 (by rw [hh.1])⟩
    ·exact (We.1 ok).2.2 k i a b hlt ha hb (by simpa using h2) (by simpa using h3) (by omega)
    ·rw [hh.2.2] at h3;cases h3
    ·rw [hh.2.1] at h2;cases h2
   ·simp only [AA,Ab];rw [wrap_i64 (by omega) (by omega)];exact Ai.2 ⟨10000-(i+1)*100,by omega,.inl ⟨rfl,i+1,rfl,by omega,hp,fun k' j x y hkj hj hx hy=>hpp k' j x y hkj (by omega) hx hy,rfl,hg.more (by omega)⟩⟩
 ·rw [e77];exact Ai.2 ⟨10000-0*100,.inl ⟨rfl,0,rfl,Nat.zero_le _,⟨fun j a hj=>by omega,fun j a b hj=>by omega⟩,fun k j a b hkj hj=>by omega,rfl,(Grow.refl hf).more (by omega)⟩⟩
theorem Af9 {t:TV} {rs:List TR} {asl:List AV} {n:Nm} {A:AW} {K:Value→AW→Prop} (h:TT A t rs asl) (hrl:rs.length≤20) (hf:AH A) (hA:A.next+9<Ao)
  (hk:∀ (r:Int) A',Grow A A' 2→((r= -1∧∀ b∈rs,b.x≠n)∨∃ (i:Nat) (b:TR),r=i∧rs[i]? =some b∧b.x=n)→K (.int .i64 r) A'):Wc Tp Ak W0 m0 78 [.agg ⟨fTb t⟩,.agg ⟨n.cells⟩] A K:=by
 let I:Nat→Nat→List Value→AW→Prop:=fun g id vals A'=>id=0∧∃ i:Nat,vals=[pP A.next 0,pP (A.next+1) 0,.int .i64 (i:Int)]∧i≤rs.length∧(∀ (j:Nat) b,j<i→rs[j]? =some b→b.x≠n)∧g=100-i∧Go.Abs.Row1 A' A.next (fTb t) 41∧Go.Abs.Row1 A' (A.next+1) n.cells 46∧Grow A A' 2;refine w78 _ _ _ (c78 (I:=I) fun g id vals A' d hI hd=>?_) ?_
 ·obtain ⟨rfl,i,rfl,hi,hall,rfl,hr,hr2,hg⟩:=hI;rw [AeH];simp only [L78,Mc,Mn,Li,and_true] at hd;obtain ⟨d2,d3,d5⟩:=hd;obtain ⟨F,hrs⟩:=(h.keeps hg.keeps).r;simp only [d2,d3,d5,DU,G7,(DK hr).1,hrs.len etR,Ar,Ab,Ah];refine ⟨fun hlt=>?_,fun hge=>?_⟩
  ·have hlt:i<rs.length:=by omega
   obtain ⟨b,hb⟩:∃ b,rs[i]? =some b:=⟨_,Ge hlt⟩;obtain ⟨r,o,a1,a2,a3⟩:=hrs.at etR hb;simp only [a1,EH,(elR a2).1,Dk hr2,eqN,AA,Ab];refine Aj.2 ⟨fun h1=>hk _ _ hg (.inr ⟨i,b,rfl,hb,Dr.1 h1⟩),fun h1=>?_⟩;rw [wrap_i64 (by omega) (by omega)];refine Ai.2 ⟨100-(i+1),by omega,rfl,i+1,rfl,by omega,fun j b' hj hb'=>?_,rfl,hr,hr2,hg⟩;by_cases hji:j=i
   ·subst hji;rw [hb] at hb';cases hb';exact fun he=>by rw [Dr.2 he] at h1;cases h1
   ·exact hall j b' (by omega) hb'
  ·refine hk _ _ hg (.inl ⟨rfl,fun b hb=>?_⟩);obtain ⟨j,hj⟩:=List.mem_iff_getElem?.1 hb;exact hall j b (by have:=(Gs.1 hj).1;omega) hj
 ·rw [e78];refine Am (cs:=fTb t) hf (by omega) rfl fun A1 m1=>?_;have g1:=Grow.made m1 hf;have n1:=m1.next;refine Am (cs:=n.cells) m1.Ap (by omega) rfl fun A2 m2=>?_;have g2:=Grow.made m2 m1.Ap;have r2:=m2.AS;rw [n1] at r2;have hn1:(.pointer (some ⟨A1.next,0,none⟩):Value)=.pointer (some ⟨A.next+1,0,none⟩):=by rw [n1]
  rw [hn1];exact Ai.2 ⟨100-0,rfl,0,rfl,Nat.zero_le _,fun j q hj=>by omega,rfl,m1.AS.keeps g2.keeps (by simp),r2,g1.trans g2⟩
theorem Agr {t:TV} {rs:List TR} {asl:List AV} {A:AW} {K:Value→AW→Prop} (h:TT A t rs asl) (hrl:rs.length≤20) (hal:asl.length≤20) (hf:AH A) (hA:A.next+600<Ao)
  (hk:∀ A',Grow A A' 500→K (.int .i64 (eI 190 (O6 rs asl))) A'):Wc Tp Ak W0 m0 43 [.agg ⟨fTb t⟩] A K:=by
 have kN:∀ {B},Grow A B 500→¬ O6 rs asl→K (.int .i64 190) B:=fun {B} g hn=>(kE (hk B g)).2 hn;let I:Nat→Nat→List Value→AW→Prop:=fun g id vals A'=>Go.Abs.Row1 A' A.next (fTb t) 41∧
  ((id=0∧∃ i:Nat,vals=[pP A.next 0,.int .i64 (i:Int)]∧i≤rs.length∧(∀ (j:Nat) r,j<i→rs[j]? =some r→R0 r)∧(∀ (j:Nat) a b,j+1<i→rs[j]? =some a→rs[j+1]? =some b→B6 a.x b.x<0)∧g=1000-i∧Grow A A' (1+6*i))∨
  (id=2∧∃ i:Nat,vals=[pP A.next 0,.int .i64 (i:Int)]∧i≤asl.length∧((∀ r∈rs,R0 r)∧Zw rs∧asP asl)∧(∀ (j:Nat) a,j<i→asl[j]? =some a→∃ r∈rs,r.x=a.x∧r.state=1)∧g=100-i∧Grow A A' (210+3*i)))
 refine w43 _ _ (c43 (I:=I) fun g id vals A' d hI hd=>?_) ?_
 ·obtain ⟨hr,hI⟩:=hI;rcases hI with ⟨rfl,i,rfl,hi,hall,hadj,rfl,hg⟩ | ⟨rfl,i,rfl,hi,hok,hall,rfl,hg⟩
  ·have ng:=hg.next;rw [Ae3];simp only [L43,Mc,Mn,Li,and_true] at hd;obtain ⟨d1,d3⟩:=hd;obtain ⟨F,hrs⟩:=(h.keeps hg.keeps).r;simp only [d1,d3,DU,G7,(DK hr).1,hrs.len etR,Ar,Ab,Ah];refine ⟨fun hlt=>?_,fun hge=>?_⟩
   ·have hlt:i<rs.length:=by omega
    obtain ⟨x,hx⟩:∃ x,rs[i]? =some x:=⟨_,Ge hlt⟩;have hxm:=List.mem_of_getElem? hx;obtain ⟨r,o,a1,a2,a3⟩:=hrs.at etR hx;simp only [a1,a3,Ab];refine Rj hg.Ap (by omega) fun A2 g2 r2=>?_;have g02:=hg.trans g2;have n2:=g2.next;simp only [EH,FY r2,Ab];refine Z0 g2.Ap (by omega) fun A3 g3=>?_;have g03:=g02.trans g3;have n3:=g3.next;have r3:=r2.keeps g3.keeps (by simp);have hr3:=(hr.keeps g2.keeps (by simp)).keeps g3.keeps (by simp);simp only [AR,Bc,Ab,Ah];refine Aj.2 ⟨fun h3=>kN (g03.more (by omega)) fun ok=>?_,fun h3=>?_⟩
    ·rw [(ok.1 x hxm).1] at h3;cases h3
    have h3:DA x.x.g x.x.b=0:=by simpa using h3
    have go:∀ B,Grow A3 B 2→(∀ a,0<i→rs[i-1]? =some a→B6 a.x x.x<0)→Kx (fun id vals A'=>∃ g',g'<1000-i∧I g' id vals A') K (pP A'.next 0) B (.int .i64 (i:Int)) (pP A.next 0):=by
     intro B gb hprev;have rb:=r3.keeps gb.keeps (by simp);obtain ⟨c3,c4,c5,c6,_⟩:=QG rb;have kB':¬ R0 x→K (.int .i64 190) B:=fun hn=>kN ((g03.trans gb).more (by omega)) fun ok=>hn (ok.1 x hxm);have next:R0 x→AE (T43 0) (T43 0) (∃ g',g'<1000-i∧I g' 0 [pP A.next 0,.int .i64 ((i:Int)+1)] B):=fun hrow=>by
      refine Ai.2 ⟨1000-(i+1),by omega,hr3.keeps gb.keeps (by simp),.inl ⟨rfl,i+1,rfl,by omega,fun j y hj hy=>?_,fun j a b hj ha hb=>?_,rfl,(g03.trans gb).more (by omega)⟩⟩
      ·by_cases hji:j=i
       ·subst hji;rw [hx] at hy;cases hy;exact hrow
       ·exact hall j y (by omega) hy
      ·by_cases hji:j+1=i
       ·rw [hji] at hb;rw [hx] at hb;cases hb;exact hprev a (by omega) (by rw [show i-1=j by omega];exact ha)
       ·exact hadj j a b (by omega) ha hb
     have q0:1≤x.state→x.state≤4→x.why≤2→(x.state=1∨x.why=0)→Ky (fun id vals A'=>∃ g',g'<1000-i∧I g' id vals A') K (pP A'.next 0) B (.int .i64 (i:Int)) (pP A.next 0):=by
      intro s1 s2 s3 s4;unfold Ky;simp only [D3,Ld,SX,OG,P5,JF,VP,Nat.zero_add,c3,c4,c5,c6,AQ,AR,Bc,Ar,AA,Ab,Ah];rw [wrap_i64 (by omega) (by omega)];have rest:¬ (x.state=1∧x.why=0∧x.timeout≠0)→Ae (.bool ((x.left:Int) != 0)) (K (.int .i64 190) B) (AE (T43 0) (T43 0) (∃ g',g'<1000-i∧I g' 0 [pP A.next 0,.int .i64 ((i:Int)+1)] B)):=fun h0=>
       AL.2 ⟨fun h5=>kB' fun hrow=>by
        rcases hrow.2.2.2.2 with h | h
        ·exact h0 ⟨h.1,h.2.1,h.2.2.1⟩
        ·have:=h.2.1;omega,fun h5=>next ⟨h3,s1,s2,s3,.inr ⟨h0,by omega,s4⟩⟩⟩
      refine Aq.2 ⟨fun t1=>Aq.2 ⟨fun t2=>⟨fun t3=>⟨fun t4=>kB' fun hrow=>?_,fun t4=>⟨fun t5=>kB' fun hrow=>?_,fun t5=>next ⟨h3,s1,s2,s3,.inl ⟨by omega,by omega,by omega,by omega,by omega⟩⟩⟩⟩,fun t3=>rest (by omega)⟩,fun t2=>rest (by omega)⟩,fun t1=>rest (by omega)⟩
      ·rcases hrow.2.2.2.2 with h | h
       ·have:=h.2.2.2.1;omega
       ·exact h.1 ⟨by omega,by omega,by omega⟩
      ·rcases hrow.2.2.2.2 with h | h
       ·have:=h.2.2.2.2;omega
       ·exact h.1 ⟨by omega,by omega,by omega⟩
     unfold Kx;simp only [D3,Ld,JF,VP,Nat.zero_add,c3,c4,AR,Bc,Ar,Ab,Ah];refine ⟨fun t1=>kB' fun hrow=>by have:=hrow.2.1;omega,fun t1=>⟨fun t2=>kB' fun hrow=>by have:=hrow.2.2.1;omega,fun t2=>⟨fun t3=>kB' fun hrow=>by have:=hrow.2.2.2.1;omega,fun t3=>?_⟩⟩⟩;refine AL.2 ⟨fun t4=>AL.2 ⟨fun t5=>kB' fun hrow=>?_,fun t5=>q0 (by omega) (by omega) (by omega) (.inr (by omega))⟩,fun t4=>q0 (by omega) (by omega) (by omega) (.inl (by omega))⟩;rcases hrow.2.2.2.2 with h | h
     ·have:=h.1;omega
     ·have:=h.2.2;omega
    refine ⟨fun h4=>?_,fun h4=>go A3 ((Grow.refl g3.Ap).more (by omega)) fun a h0=>by omega⟩;obtain ⟨a,ha⟩:∃ a,rs[i-1]? =some a:=⟨_,Ge (by omega)⟩;obtain ⟨F,hrs3⟩:=(h.keeps g03.keeps).r;obtain ⟨r5,o5,b1,b2,b3⟩:=hrs3.at etR ha;simp only [DU,G7,(DK hr3).1,Cp,Ab];rw [wrap_i64 (by omega) (by omega),show (i:Int)-1=((i-1:Nat):Int) by omega];simp only [b1,EH,(elR b2).1,FY r3,Ab];have hxc:=IZ (hall (i-1) a (by omega) ha).1;refine Z2 g3.Ap (by omega) (by omega) (by omega) fun A4 r6 g4 hr6=>?_;simp only [BL,Ab,Ah];refine ⟨fun h5=>kN ((g03.trans g4).more (by omega)) fun ok=>?_,fun h5=>go A4 g4 fun y _ hy=>?_⟩
    ·have:=ok.2.1 (i-1) a x ha (by rw [show i-1+1=i by omega];exact hx)
     have:=hr6.2 this
     omega
    ·rw [ha] at hy;cases hy;exact hr6.1 (by omega)
   ·have hib:i=rs.length:=by omega
    obtain ⟨F2,has⟩:=(h.keeps hg.keeps).a;simp only [K8,Sx,Nat.zero_add,(DK hr).2.1,Ab];refine Aga has hal hg.Ap (by omega) fun A2 g2=>?_;have g02:=hg.trans g2;have hr2:=hr.keeps g2.keeps (by simp);simp only [AR,Ab];refine Aj.2 ⟨fun h3=>kN (g02.more (by omega)) fun ok=>?_,fun h3=>?_⟩
    ·rw [Gj ok.2.2.1] at h3;cases h3
    ·have h3:asP asl:=(FG (n:=180) (by decide)).1 (by simpa using h3);refine Ai.2 ⟨100-0,by omega,hr2,.inr ⟨rfl,0,rfl,Nat.zero_le _,⟨fun r hrm=>?_,fun j a b ha hb=>hadj j a b (by have:=(Gs.1 hb).1;omega) ha hb,h3⟩,fun j a hj=>by omega,rfl,g02.more (by omega)⟩⟩;obtain ⟨j,hj⟩:=List.mem_iff_getElem?.1 hrm;exact hall j r (by have:=(Gs.1 hj).1;omega) hj
  ·have ng:=hg.next;rw [Ae2];simp only [L43,Mc,Mn,Li,and_true] at hd;obtain ⟨d1,d5⟩:=hd;obtain ⟨F,has⟩:=(h.keeps hg.keeps).a;simp only [d1,d5,K8,Sx,Nat.zero_add,(DK hr).2.1,(DK hr).2.2,has.len etA,Ar,Ab,Ah];refine ⟨fun hlt=>?_,fun hge=>?_⟩
   ·have hlt:i<asl.length:=by omega
    obtain ⟨x,hx⟩:∃ x,asl[i]? =some x:=⟨_,Ge hlt⟩;have hxm:=List.mem_of_getElem? hx;obtain ⟨r,o,a1,a2,a3⟩:=has.at etA hx;obtain ⟨_,_,cx⟩:=elA a2;simp only [a1,Gf,cx,Ab];refine Af9 (h.keeps hg.keeps) hrl hg.Ap (by omega) fun r3 A3 g3 hr3=>?_;have g03:=hg.trans g3;have hr3':=hr.keeps g3.keeps (by simp);simp only [Ar,Ab,Ah];rcases hr3 with ⟨rfl,hno⟩ | ⟨i3,y,rfl,hy,he⟩
    ·refine ⟨fun _=>kN (g03.more (by omega)) fun ok=>?_,fun h=>absurd (by decide) h⟩;obtain ⟨z,hz,hze,_⟩:=ok.2.2.2 x hxm;exact hno z hz hze
    ·refine ⟨fun h=>by omega,fun _=>?_⟩;obtain ⟨F3,hrs3⟩:=(h.keeps g03.keeps).r;obtain ⟨r5,o5,b1,b2,b3'⟩:=hrs3.at etR hy;simp only [DU,G7,Nat.zero_add,(DK hr3').1,b1,D3,JF,(elR b2).2,AR,AA,Ab];rw [wrap_i64 (by omega) (by omega)];refine AL.2 ⟨fun h4=>kN (g03.more (by omega)) fun ok=>?_,fun h4=>?_⟩
     ·obtain ⟨z,hz,hze,hzs⟩:=ok.2.2.2 x hxm;rw [Yb hok.2.1 hz (List.mem_of_getElem? hy) (by rw [hze,he])] at hzs;omega
     ·refine Ai.2 ⟨100-(i+1),by omega,hr3',.inr ⟨rfl,i+1,rfl,by omega,hok,fun j z hj hz=>?_,rfl,g03.more (by omega)⟩⟩;by_cases hji:j=i
      ·subst hji;rw [hx] at hz;cases hz;exact ⟨y,List.mem_of_getElem? hy,he,by omega⟩
      ·exact hall j z (by omega) hz
   ·refine (kE (hk A' (hg.more (by omega)))).1 ⟨hok.1,hok.2.1,hok.2.2,fun a ha=>?_⟩;obtain ⟨j,hj⟩:=List.mem_iff_getElem?.1 ha;exact hall j a (by have:=(Gs.1 hj).1;omega) hj
 ·rw [e43];refine Am (cs:=fTb t) hf (by omega) rfl fun A1 m1=>?_;exact Ai.2 ⟨1000-0,m1.AS,.inl ⟨rfl,0,rfl,Nat.zero_le _,fun j r hj=>by omega,fun j a b hj=>by omega,rfl,.made m1 hf⟩⟩
end
theorem Afn:quiet Tp (underlying 102)=some (.struct (Tp.fieldsOf 102)):=by kernel_rfl
noncomputable def TH(i:Nat):Field:=(Tp.fieldsOf 102).toList.getD i default
theorem Afp:(Tp.fieldsOf 102).toList=[TH 0,TH 1]:=by kernel_rfl
theorem VI(f:Int)(g b:ByteArray)(c:Bool):quiet Tp (part (TH 0).type ⟨[.int .u32 f,.string g,.string b,.bool c]⟩ (TH 0).offset)=some (.agg ⟨[.int .u32 f,.string g,.string b]⟩):=by kernel_rfl
theorem VH(f:Int)(g b:ByteArray)(c:Bool):quiet Tp (part (TH 1).type ⟨[.int .u32 f,.string g,.string b,.bool c]⟩ (TH 1).offset)=some (.bool c):=by kernel_rfl
theorem Aac:(TH 0).type=46:=by kernel_rfl
theorem Aab:(TH 1).type=4:=by kernel_rfl
theorem ut4:quiet Tp (underlying 4)=some .bool:=by kernel_rfl
theorem Yd(n:Nat)(f f':Int)(g g' b b':ByteArray)(c c':Bool):quiet Tp (Op.equalIn (n+1+1+1) 102 (.agg ⟨[.int .u32 f,.string g,.string b,.bool c]⟩) (.agg ⟨[.int .u32 f',.string g',.string b',.bool c']⟩))=some (Mg f f' g g' b b'&&c==c'):=by
 rw [HD (n+1+1) 102 _ _ Afn (by kernel_rfl),Afp];rw [Dh (by kernel_rfl) (VI f g b c) (VI f' g' b' c') (by rw [Aac];exact VE n _ _ _ _ _ _)];rw [Dh (by kernel_rfl) (VH f g b c) (VH f' g' b' c') (by rw [Aab];exact Pb (n+1) 4 _ _ ut4)];cases Mg f f' g g' b b'<;>cases c==c'<;>rfl
def Aao(p q:HV):Bool:=Mg (p.x.f:Int) (q.x.f:Int) p.x.g q.x.g p.x.b q.x.b&&p.c==q.c
theorem SC{p q:HV}:Aao p q=true↔p=q:=by
 unfold Aao;rw [Bq,PS,beq_iff_eq];constructor
 ·rintro ⟨h1,h2⟩;obtain ⟨x,c⟩:=p;obtain ⟨x',c'⟩:=q;simp only at h1 h2;rw [h1,h2]
 ·rintro rfl;exact ⟨rfl,rfl⟩
theorem AhM(p q:HV)(xo yo:Operand):Af Tp .neq 102 xo yo (.agg ⟨fH p⟩) (.agg ⟨fH q⟩)=some (.bool !(Aao p q)):=by
 have hg:CT Tp 102 xo yo (.agg ⟨fH p⟩) (.agg ⟨fH q⟩)=true:=by
  show (!Tp.eqGuardType Tp.depth 102)=true
  kernel_rfl
 have he:eqA Tp 102 (.agg ⟨fH p⟩) (.agg ⟨fH q⟩)=some (Aao p q):=by
  unfold eqA;have hc:(Av 4 (.agg ⟨fH p⟩)&&Av 4 (.agg ⟨fH q⟩))=true:=rfl;rw [hc,Ct];exact Yd 9997 _ _ _ _ _ _ _ _
 show (bif CT Tp 102 xo yo (.agg ⟨fH p⟩) (.agg ⟨fH q⟩) then (match eqA Tp 102 (.agg ⟨fH p⟩) (.agg ⟨fH q⟩) with | some b=>some (Value.bool !b) | none=>none) else none)=_;rw [hg,Ct,he]
theorem AfH(x:Nm)(c:Bool):Ch Tp 102 [(0,.agg ⟨x.cells⟩),(1,.bool c)]=some (.agg ⟨fH ⟨x,c⟩⟩):=by kernel_rfl
theorem Ajv(A:AW)(u:HV):AG Tp A 35 1 [(0,.agg ⟨fH u⟩)]=(match A.newRow (fH u) 102 with | some (a,w')=>.ok (.slice (some a) 1 1) w' | none=>.fail "buildSlice new"):=by kernel_rfl
theorem Zg{A:AW}{u:HV}{K:Value→AW→Prop}(hf:AH A)(h:A.next<Ao)(hk:∀ A',Made A A' (fH u) 102→K (.slice (some ⟨A.next,0,none⟩) 1 1) A'):Al (AG Tp A 35 1 [(0,.agg ⟨fH u⟩)]) K:=by
 rw [Ajv];unfold AW.newRow AW.new;have hc:(fH u).all AT=true:=rfl;simp only [hc,Ct,AF.2 h];exact AU.2 (hk (A.push (.row (fH u) 102 A.next 0 false)) ⟨AW.C6 _ h,rfl,by rw [AW.B8 _ h,if_pos rfl],hf.alone (Nl _),hf.push _ h⟩)
theorem Afz(A:AW)(v w:Value):Cu Tp Ak A (.func (.func 41) #[] #[]) [v,w]=.ok (.enter 41 [v,w]) A:=by kernel_rfl
theorem PR{α β:Type}{f:β→α}{l:List α}{m:List β}(hl:l.length=m.length)(h:∀ (j:Nat) a b,l[j]? =some a→m[j]? =some b→a=f b):l=m.map f:=by
 refine List.ext_getElem? fun j=>?_;rw [List.getElem?_map];by_cases hj:j<l.length
 ·have h1:l[j]? =some l[j]:=Ge hj;have h2:m[j]? =some m[j]:=Ge (by omega);rw [h2,h1];simp only [Option.map_some];rw [h j _ _ h1 h2]
 ·rw [List.getElem?_eq_none (by omega),List.getElem?_eq_none (by omega)];rfl
def inO(r:TR):Option Nm:=if r.state=2 then some r.x else none
def heO(r:TR):Option HV:=if r.state=3∨r.state=4 then some ⟨r.x,(r.state:Int)==3⟩ else none
theorem VU(l:List TR)(r:TR):(l++[r]).filterMap inO=l.filterMap inO++(inO r).toList:=by
 rw [List.filterMap_append];cases h:inO r<;>simp [h]
theorem VW(l:List TR)(r:TR):(l++[r]).filterMap heO=l.filterMap heO++(heO r).toList:=by
 rw [List.filterMap_append];cases h:heO r<;>simp [h]
section
variable {W0:World} {m0:Inj Tp} {s:SV} {qs:List QD} {bs:List BD} {hs:List HV} {R:MV→ByteArray × Int}
theorem Agv{A:AW}{v w:Value}{l m:List HV}{F G:List Nat}{K:Value→AW→Prop}(hl:RdE 3 fH A v l F)(hm:RdE 3 fH A w m G)(hlen:l.length≤60)(hk:K (.bool (dP (l=m))) A):Wc Tp Ak W0 m0 39 [v,w] A K:=by
 let I:Nat→Nat→List Value→AW→Prop:=fun g id vals A'=>id=0∧A'=A∧l.length=m.length∧∃ i:Nat,vals=[v,w,.int .i64 (l.length:Int),.int .i64 (i:Int)]∧(∀ (j:Nat) a b,j<i→l[j]? =some a→m[j]? =some b→a=b)∧g=100-i∧i≤l.length;refine w39 _ _ _ (c39 (I:=I) fun g id vals A' d hI hd=>?_) ?_
 ·obtain ⟨rfl,rfl,hlm,i,rfl,hall,rfl,hi⟩:=hI;rw [Ae9];simp only [L39,Mc,Mn,Li,and_true] at hd;obtain ⟨d0,d1,d12,d13⟩:=hd;simp only [d0,d1,d12,d13,Ar,Ab,Ah];refine ⟨fun hlt=>?_,fun hge=>?_⟩
  ·obtain ⟨a,ha⟩:∃ a,l[i]? =some a:=⟨_,Ge (by omega)⟩;obtain ⟨b,hb⟩:∃ b,m[i]? =some b:=⟨_,Ge (by omega)⟩;obtain ⟨r,o,a1,a2,a3⟩:=hl.at etH ha;obtain ⟨r2,o2,b1,b2,b3⟩:=hm.at etH hb;simp only [a1,a3,b1,b3,AhM,AA,Ab];rw [wrap_i64 (by omega) (by omega)];refine Aj.2 ⟨fun h1=>kF hk fun he=>?_,fun h1=>?_⟩
   ·subst he;rw [ha] at hb;cases hb;rw [SC.2 rfl] at h1;cases h1
   ·have h1:a=b:=SC.1 (by simpa using h1);refine Ai.2 ⟨100-(i+1),by omega,rfl,rfl,hlm,i+1,rfl,fun j x y hj hx hy=>?_,rfl,by omega⟩;by_cases hji:j=i
    ·subst hji;rw [ha] at hx;rw [hb] at hy;cases hx;cases hy;exact h1
    ·exact hall j x y (by omega) hx hy
  ·refine kT hk ?_
   have:=PR (f:=id) hlm fun j a b ha hb=>hall j a b (by have:=(Gs.1 ha).1;omega) ha hb
   simpa using this
 ·rw [e39];simp only [hl.len etH,hm.len etH,AR,Ab];refine AL.2 ⟨fun h=>kF hk fun he=>h (by rw [he]),fun h=>?_⟩;exact Ai.2 ⟨100-0,rfl,rfl,by omega,0,rfl,fun j a b hj=>by omega,rfl,Nat.zero_le _⟩
theorem Agt{x:Nm}{b:BV}{A:AW}{K:Value→AW→Prop}(hf:AH A)(hA:A.next+3<Ao)(hk:∀ A',Grow A A' 2→K (.bool (QX x b.x)) A'):Wc Tp Ak W0 m0 41 [.agg ⟨x.cells⟩,.agg ⟨fB b⟩] A K:=by
 refine w41 _ _ _ (Au (S:=fun _ _ _=>False) fun _ _ _ h=>h) ?_;rw [e41];refine Am (cs:=x.cells) hf (by omega) rfl fun A1 m1=>?_;have g1:=Grow.made m1 hf;have n1:=m1.next;refine Am (cs:=fB b) m1.Ap (by omega) rfl fun A2 m2=>?_;have g2:=Grow.made m2 m1.Ap;simp only [Dk (m1.AS.keeps g2.keeps (by simp)),HS,x89 m2.AS,eqN,Ab];exact hk A2 (g1.trans g2)
theorem Agu {A:AW} {v w:Value} {l:List Nm} {m:List BV} {F G:List Nat} {K:Value→AW→Prop} (hl:RdE 2 Nm.cells A v l F) (hm:RdE 4 fB A w m G) (hlen:l.length≤60) (hf:AH A) (hA:A.next+300<Ao)
  (hk:∀ A',Grow A A' 240→K (.bool (dP (l=m.map (·.x)))) A'):Wc Tp Ak W0 m0 40 [v,w,.func (.func 41) #[] #[]] A K:=by
 let I:Nat→Nat→List Value→AW→Prop:=fun g id vals A'=>id=0∧l.length=m.length∧∃ i:Nat,vals=[w,.func (.func 41) #[] #[],v,.int .i64 (l.length:Int),.int .i64 (i:Int)]∧(∀ (j:Nat) a b,j<i→l[j]? =some a→m[j]? =some b→a=b.x)∧g=100-i∧i≤l.length∧Grow A A' (4*i);refine w40 _ _ _ _ (c40 (I:=I) fun g id vals A' d hI hd=>?_) ?_
 ·obtain ⟨rfl,hlm,i,rfl,hall,rfl,hi,hg⟩:=hI;have ng:=hg.next;rw [Ae8];simp only [L40,Mc,Mn,Li,and_true] at hd;obtain ⟨d1,d2,d15,d16,d17⟩:=hd;simp only [d1,d2,d15,d16,d17,Ar,Ab,Ah];refine ⟨fun hlt=>?_,fun hge=>?_⟩
  ·obtain ⟨a,ha⟩:∃ a,l[i]? =some a:=⟨_,Ge (by omega)⟩;obtain ⟨b,hb⟩:∃ b,m[i]? =some b:=⟨_,Ge (by omega)⟩;obtain ⟨r,o,a1,a2,a3⟩:=(hl.keeps hg.keeps (by simp)).at etN ha;simp only [a1,a3,Ab];refine Vb hg.Ap (by omega) fun A2 g2 r2=>?_;have g02:=hg.trans g2;have n2:=g2.next;obtain ⟨r5,o5,b1,b2,b3⟩:=(hm.keeps g02.keeps (by simp)).at etB hb;simp only [b1,b3,Ab];refine Va g2.Ap (by omega) fun A3 g3 r3=>?_;have g03:=g02.trans g3;have n3:=g3.next;simp only [Dk (r2.keeps g3.keeps (by simp)),Nr r3,Ab];refine .inr (.inl ⟨41,_,_,Afz _ _ _,?_⟩);refine Agt g3.Ap (by omega) fun A4 g4=>?_;have g04:=g03.trans g4;simp only [Bo,AA,Ab];rw [wrap_i64 (by omega) (by omega)];refine Aj.2 ⟨fun h1=>kF (hk A4 (g04.more (by omega))) fun he=>?_,fun h1=>?_⟩
   ·have:l[i]? =some b.x:=by rw [he,List.getElem?_map,hb];rfl
    rw [ha] at this;cases this;rw [Dr.2 rfl] at h1;cases h1
   ·have h1:a=b.x:=Dr.1 (by simpa using h1);refine Ai.2 ⟨100-(i+1),by omega,rfl,hlm,i+1,rfl,fun j x y hj hx hy=>?_,rfl,by omega,g04.more (by omega)⟩;by_cases hji:j=i
    ·subst hji;rw [ha] at hx;rw [hb] at hy;cases hx;cases hy;exact h1
    ·exact hall j x y (by omega) hx hy
  ·exact kT (hk A' (hg.more (by omega))) (PR hlm fun j a b ha hb=>hall j a b (by have:=(Gs.1 ha).1;omega) ha hb)
 ·rw [e40];simp only [hl.len etN,hm.len etB,AR,Ab];refine AL.2 ⟨fun h=>kF (hk A ((Grow.refl hf).more (by omega))) fun he=>h (by rw [he,List.length_map]),fun h=>?_⟩;exact Ai.2 ⟨100-0,rfl,by omega,0,rfl,fun j a b hj=>by omega,rfl,Nat.zero_le _,Grow.refl hf⟩
def Uz(R:MV→ByteArray × Int)(next:Nat)(qs:List QD)(bs:List BD)(hs:List HV)(rs:List TR)(asl:List AV):Prop:=Eu R next qs bs hs∧O6 rs asl∧rs.filterMap heO=hs∧rs.filterMap inO=bs.map (·.b.x)
theorem Agz {t:TV} {rs:List TR} {asl:List AV} {A:AW} {K:Value→AW→Prop} (h:ST A s qs bs hs) (hz:SZ qs bs hs) (hpm:∀ q∈qs,∀ m∈q.ms,PK W0 m0 R m) (hp:∀ b∈bs,∀ u∈b.us,PK W0 m0 R u.m)
  (ht:TT A t rs asl) (hrl:rs.length≤20) (hal:asl.length≤20) (hf:AH A) (hA:A.next+710000<Ao)
  (hk:∀ A',Grow A A' 670000→K (.bool (dP (Uz R s.next qs bs hs rs asl))) A'):Wc Tp Ak W0 m0 16 [.agg ⟨fS s⟩,.agg ⟨fTb t⟩] A K:=by
 let I:Nat→Nat→List Value→AW→Prop:=fun g id vals A'=>id=0∧Eu R s.next qs bs hs∧O6 rs asl∧∃ (i:Nat) (iv hv:Value) (Fi Fh:List Nat),vals=[pP A.next 0,iv,hv,t.r.val,.int .i64 (rs.length:Int),.int .i64 (i:Int)]∧i≤rs.length∧
  Ia 46 2 Nm.cells A' iv ((rs.take i).filterMap inO) Fi∧Ia 102 3 fH A' hv ((rs.take i).filterMap heO) Fh∧(∀ x∈Fi,A.next<x)∧(∀ x∈Fh,A.next<x)∧(∀ x∈Fi,x∉Fh)∧g=100-i∧Go.Abs.Row1 A' A.next (fS s) 37∧Grow A A' (668600+4*i)
 refine w16 _ _ _ (c16 (I:=I) fun g id vals A' d hI hd=>?_) ?_
 ·obtain ⟨rfl,hso,hto,i,iv,hv,Fi,Fh,rfl,hi,hoi,hoh,hFi,hFh,hdis,rfl,hr,hg⟩:=hI;have ng:=hg.next;have lg:=hg.le;have hli:((rs.take i).filterMap inO).length≤20:=Nat.le_trans (List.length_filterMap_le _ _) (by rw [List.length_take];omega);have hlh:((rs.take i).filterMap heO).length≤20:=Nat.le_trans (List.length_filterMap_le _ _) (by rw [List.length_take];omega);rw [Aff];simp only [L16,Mc,Mn,Li,and_true] at hd;obtain ⟨d2,d5,d6,d18,d19,d20⟩:=hd;simp only [d2,d5,d6,d18,d19,d20,Ar,Ab,Ah];refine ⟨fun hlt=>?_,fun hge=>?_⟩
  ·have hlt:i<rs.length:=by omega
   obtain ⟨x,hx⟩:∃ x,rs[i]? =some x:=⟨_,Ge hlt⟩;obtain ⟨F,hrs⟩:=(ht.keeps hg.keeps).r;obtain ⟨r,o,a1,a2,a3⟩:=hrs.at etR hx;simp only [a1,a3,Ab];refine Rj hg.Ap (by omega) fun A2 g2 r2=>?_;have g02:=hg.trans g2;have n2:=g2.next;have l2:=g2.le;have hr2:=hr.keeps g2.keeps (by simp);have hoi2:=hoi.keeps g2.keeps (by simp);have hoh2:=hoh.keeps g2.keeps (by simp);obtain ⟨c3,_⟩:=QG r2;have hsn:rs.take (i+1)=rs.take i++[x]:=by rw [List.take_add_one,hx];rfl
   have hni:=VU (rs.take i) x;have hnh:=VW (rs.take i) x;have hq:(x.state=3∨x.state=4)→KA (fun id vals A'=>∃ g',g'<100-i∧I g' id vals A') (pP A'.next 0) A2 hv (.int .i64 (i:Int)) (pP A.next 0) iv t.r.val (.int .i64 (rs.length:Int)):=by
    intro hst;unfold KA;simp only [EH,D3,JF,Nat.zero_add,FY r2,c3,AQ,AfH,Ab];refine Zg g2.Ap (by omega) fun A3 m3=>?_;have g3:=Grow.made m3 g2.Ap;have g03:=g02.trans g3;have n3:=m3.next;refine Ia.append etH (hoh2.keeps g3.keeps (by simp)) m3.AS g3.Ap (by omega) (by omega) fun hv' A4 F4 ho4 k4 hF4 n4 f4=>?_;have hoi3:=hoi2.keeps g3.keeps (by simp);have hiL:=hoi3.lt;simp only [AA,Ab];rw [wrap_i64 (by omega) (by omega)];refine Ai.2 ⟨100-(i+1),by omega,rfl,hso,hto,i+1,iv,hv',Fi,F4,rfl,by omega,?_,?_,hFi,fun y hy=>?_,fun y hy hy4=>?_,rfl,(hr2.keeps g3.keeps (by simp)).keeps k4 (fun hh=>by have:=hFh _ hh;omega),(g03.own k4 (fun y hy=>by have:=hFh y hy;omega) (m:=1) (by omega) f4).more (by omega)⟩
    ·rw [hsn,hni,show inO x=none by unfold inO;rw [Ff (by omega)]];simp only [Option.toList_none,List.append_nil];exact hoi3.keeps k4 hdis
    ·rw [hsn,hnh,show heO x=some ⟨x.x,(x.state:Int)==3⟩ by unfold heO;rw [if_pos hst]];exact ho4
    ·rcases hF4 y hy with h | h
     ·exact hFh y h
     ·omega
    ·rcases hF4 y hy4 with h | h
     ·exact hdis y hy h
     ·have:=hiL y hy;omega
   simp only [EH,D3,JF,Nat.zero_add,FY r2,c3,AQ,AA,Ab];rw [wrap_i64 (by omega) (by omega)];refine Aq.2 ⟨fun h1=>?_,fun h1=>Aq.2 ⟨fun h2=>hq (.inl (by omega)),fun h2=>Aq.2 ⟨fun h3=>hq (.inr (by omega)),fun h3=>?_⟩⟩⟩
   ·refine Ab0 g2.Ap (by omega) fun A3 m3=>?_;have g3:=Grow.made m3 g2.Ap;have g03:=g02.trans g3;have n3:=m3.next;refine Ia.append etN (hoi2.keeps g3.keeps (by simp)) m3.AS g3.Ap (by omega) (by omega) fun iv' A4 F4 ho4 k4 hF4 n4 f4=>?_;have hoh3:=hoh2.keeps g3.keeps (by simp);have hhL:=hoh3.lt;refine Ai.2 ⟨100-(i+1),by omega,rfl,hso,hto,i+1,iv',hv,F4,Fh,rfl,by omega,?_,?_,fun y hy=>?_,hFh,fun y hy4 hy=>?_,rfl,(hr2.keeps g3.keeps (by simp)).keeps k4 (fun hh=>by have:=hFi _ hh;omega),(g03.own k4 (fun y hy=>by have:=hFi y hy;omega) (m:=1) (by omega) f4).more (by omega)⟩
    ·rw [hsn,hni,show inO x=some x.x by unfold inO;rw [if_pos (by omega)]];exact ho4
    ·rw [hsn,hnh,show heO x=none by unfold heO;rw [Ff (by omega)]];simp only [Option.toList_none,List.append_nil];exact hoh3.keeps k4 (fun y hy hy'=>hdis y hy' hy)
    ·rcases hF4 y hy with h | h
     ·exact hFi y h
     ·omega
    ·rcases hF4 y hy4 with h | h
     ·exact hdis y h hy
     ·have:=hhL y hy;omega
   ·refine Ai.2 ⟨100-(i+1),by omega,rfl,hso,hto,i+1,iv,hv,Fi,Fh,rfl,by omega,?_,?_,hFi,hFh,hdis,rfl,hr2,g02.more (by omega)⟩
    ·rw [hsn,hni,show inO x=none by unfold inO;rw [Ff (by omega)]];simp only [Option.toList_none,List.append_nil];exact hoi2
    ·rw [hsn,hnh,show heO x=none by unfold heO;rw [Ff (by omega)]];simp only [Option.toList_none,List.append_nil];exact hoh2
  ·have hir:rs.take i=rs:=List.take_of_length_le (by omega);rw [hir] at hoi hoh hli hlh;obtain ⟨F,hh⟩:=(h.keeps hg.keeps).h;simp only [FF,KS,Nat.zero_add,(BK hr).2.2.2.1,Ab];refine Agv (hoh.rd etH.len) hh (by omega) ?_;refine Aj.2 ⟨fun h1=>?_,fun h1=>kF (hk A' (hg.more (by omega))) fun ok=>?_⟩
   ·have h1:=Bu.1 h1;obtain ⟨F2,hb⟩:=(h.keeps hg.keeps).b;simp only [D7,H7,Nat.zero_add,(BK hr).2.2.1,Ab];refine Agu (hoi.rd etN.len) hb (by omega) hg.Ap (by omega) fun A2 g2=>?_;refine kB (hk A2 ((hg.trans g2).more (by omega))) ?_;rw [Bu,List.map_map];exact ⟨fun h2=>⟨hso,hto,h1,h2⟩,fun ok=>ok.2.2.2⟩
   ·rw [Bu.2 ok.2.2.1] at h1;cases h1
 ·rw [e16];refine Am (cs:=fS s) hf (by omega) rfl fun A1 m1=>?_;have g1:=Grow.made m1 hf;have n1:=m1.next;refine Am (cs:=fTb t) m1.Ap (by omega) rfl fun A2 m2=>?_;have g2:=Grow.made m2 m1.Ap;have g02:=g1.trans g2;have n2:=m2.next;have r1:=m1.AS.keeps g2.keeps (by simp);have r2:=m2.AS;simp only [(BK r1).2.2.2.2,Ab];refine Agx (R:=R) (h.keeps g02.keeps) hz hpm hp m2.Ap (by omega) fun A3 g3=>?_;have g03:=g02.trans g3;have n3:=g3.next;simp only [AR,Ab];refine Aj.2 ⟨fun h3=>kF (hk A3 (g03.more (by omega))) fun ok=>?_,fun h3=>?_⟩
  ·rw [Gj ok.1] at h3;cases h3
  have h3:Eu R s.next qs bs hs:=(FG (n:=140) (by decide)).1 (by simpa using h3);simp only [(DK (r2.keeps g3.keeps (by simp))).2.2,Ab];refine Agw (ht.keeps g03.keeps) hrl hal g3.Ap (by omega) fun A4 g4=>?_;have g04:=g03.trans g4;simp only [AR,Ab];refine Aj.2 ⟨fun h4=>kF (hk A4 (g04.more (by omega))) fun ok=>?_,fun h4=>?_⟩
  ·rw [Gj ok.2.1] at h4;cases h4
  have h4:O6 rs asl:=(FG (n:=190) (by decide)).1 (by simpa using h4);obtain ⟨F,hrs⟩:=(ht.keeps g04.keeps).r;simp only [DU,G7,(DK ((r2.keeps g3.keeps (by simp)).keeps g4.keeps (by simp))).1,hrs.len etR,Ab];exact Ai.2 ⟨100-0,rfl,h3,h4,0,.slice none 0 0,.slice none 0 0,[],[],rfl,Nat.zero_le _,Ia.nil _,Ia.nil _,by simp,by simp,by simp,rfl,(r1.keeps g3.keeps (by simp)).keeps g4.keeps (by simp),g04.more (by omega)⟩
end
def Uy(R:MV→ByteArray × Int)(next:Nat)(qs:List QD)(bs:List BD)(hs:List HV)(rs:List TR)(asl:List AV):Prop:=Eu R next qs bs hs∧O6 rs asl∧(∀ x∈rs.filterMap inO,∃ b∈bs,b.b.x=x)∧(∀ h∈rs.filterMap heO,h∈hs)∧(rs.filterMap inO).length=bs.length∧(rs.filterMap heO).length=hs.length
theorem O0{α:Type}{c:α→α→Int}(ht:∀ x y z,c x y<0→c y z<0→c x z<0){l:List α}(h:Adj c l):l.Pairwise fun a b=>c a b<0:=by
 rw [List.pairwise_iff_getElem];intro i j hi hj hij;exact E5 ht h hij (Ge hi) (Ge hj)
theorem LD{α:Type}{c:α→α→Int}(hi:∀ x,¬ c x x<0)(ht:∀ x y z,c x y<0→c y z<0→c x z<0):∀ {l m:List α},l.Pairwise (fun a b=>c a b<0)→m.Pairwise (fun a b=>c a b<0)→(∀ x∈l,x∈m)→l.length=m.length→l=m
 |[],[],_,_,_,_=>rfl
 |[],_::_,_,_,_,h=>by simp at h
 |_::_,[],_,_,_,h=>by simp at h
 |a::l,b::m,hl,hm,hs,hlen=>by
  have hl':=List.pairwise_cons.1 hl;have hm':=List.pairwise_cons.1 hm;have hn:∀ {k:List α},k.Pairwise (fun a b=>c a b<0)→k.Nodup:=fun h=>h.imp fun hab he=>by subst he;exact hi _ hab
  have hab:a=b:=by
   rcases Mk.1 (hs a List.mem_cons_self) with h | h
   ·exact h
   ·have hlt:=hm'.1 a h;have hsub:∀ x∈a::l,x∈m:=fun x hx=>by
     rcases Mk.1 (hs x hx) with h2 | h2
     ·subst h2;rcases Mk.1 hx with h3 | h3
      ·subst h3;exact h
      ·exact absurd (ht _ _ _ hlt (hl'.1 x h3)) (hi _)
     ·exact h2
    have:=PY (hn hl) hsub
    simp only [Lc] at this hlen;omega
  subst hab;have hsub:∀ x∈l,x∈m:=fun x hx=>by
   rcases Mk.1 (hs x (List.mem_cons_of_mem _ hx)) with h2 | h2
   ·subst h2;exact absurd (hl'.1 x hx) (hi _)
   ·exact h2
  rw [LD hi ht hl'.2 hm'.2 hsub (by simpa using hlen)]
theorem Kf(x:Nm):¬ B6 x x<0:=by rw [C2.2 rfl];decide
theorem Uw{R:MV→ByteArray × Int}{next:Nat}{qs:List QD}{bs:List BD}{hs:List HV}{rs:List TR}{asl:List AV}:Uy R next qs bs hs rs asl↔Uz R next qs bs hs rs asl:=by
 constructor
 ·rintro ⟨hso,hto,h1,h2,h3,h4⟩;have hrp:rs.Pairwise fun a b=>B6 a.x b.x<0:=O0 (c:=fun a b:TR=>B6 a.x b.x) (fun x y z=>Cb) hto.2.1;refine ⟨hso,hto,?_,?_⟩
  ·refine LD (c:=fun a b:HV=>B6 a.x b.x) (fun x=>Kf _) (fun x y z=>Cb) ?_ (O0 (c:=fun a b:HV=>B6 a.x b.x) (fun x y z=>Cb) hso.2.2.2.2.1) h2 h4;rw [List.pairwise_filterMap];refine hrp.imp fun {a b} hab x hx y hy=>?_;unfold heO at hx hy;split at hx
   ·split at hy
    ·cases hx;cases hy;exact hab
    ·cases hy
   ·cases hx
  ·refine LD (c:=B6) Kf (fun x y z=>Cb) ?_ ?_ (fun x hx=>?_) (by rw [List.length_map];exact h3)
   ·rw [List.pairwise_filterMap];refine hrp.imp fun {a b} hab x hx y hy=>?_;unfold inO at hx hy;split at hx
    ·split at hy
     ·cases hx;cases hy;exact hab
     ·cases hy
    ·cases hx
   ·have:=O0 (c:=fun a b:BD=>B6 a.b.x b.b.x) (fun x y z=>Cb) hso.2.2.2.1.2.2
    rw [List.pairwise_map];exact this
   ·obtain ⟨b,hb,he⟩:=h1 x hx;exact List.mem_map.2 ⟨b,hb,he⟩
 ·rintro ⟨hso,hto,h1,h2⟩;refine ⟨hso,hto,fun x hx=>?_,fun h hh=>by rw [← h1];exact hh,by rw [h2,List.length_map],by rw [h1]⟩;rw [h2] at hx;obtain ⟨b,hb,he⟩:=List.mem_map.1 hx;exact ⟨b,hb,he⟩
theorem Zm{xo yo:Operand}{a b:Bool}:Af Tp .neq 4 xo yo (.bool a) (.bool b)=some (.bool (a != b)):=by cases a<;>cases b<;>kernel_rfl
section
variable {W0:World} {m0:Inj Tp} {s:SV} {qs:List QD} {bs:List BD} {hs:List HV} {R:MV→ByteArray × Int}
theorem Agy {t:TV} {rs:List TR} {asl:List AV} {A:AW} {K:Value→AW→Prop} (h:ST A s qs bs hs) (hz:SZ qs bs hs) (htz:TZ qs bs) (hR:∀ (m:MV) i,R { m with id:=i }=R m) (hpm:∀ q∈qs,∀ m∈q.ms,PK W0 m0 R m) (hp:∀ b∈bs,∀ u∈b.us,PK W0 m0 R u.m)
  (ht:TT A t rs asl) (hrl:rs.length≤20) (hal:asl.length≤20) (hf:AH A) (hA:A.next+12000<Ao)
  (hk:∀ A',Grow A A' 11000→K (.bool (dP (Uy R s.next qs bs hs rs asl))) A'):Wc Tp Ak W0 m0 17 [.agg ⟨fS s⟩,.agg ⟨fTb t⟩] A K:=by
 let I:Nat→Nat→List Value→AW→Prop:=fun g id vals A'=>id=0∧Eu R s.next qs bs hs∧O6 rs asl∧∃ i:Nat,vals=[pP A.next 0,pP (A.next+1) 0,.int .i64 (((rs.take i).filterMap inO).length:Int),.int .i64 (((rs.take i).filterMap heO).length:Int),.int .i64 (i:Int)]∧i≤rs.length∧
  (∀ x∈(rs.take i).filterMap inO,∃ b∈bs,b.b.x=x)∧(∀ h∈(rs.take i).filterMap heO,h∈hs)∧g=100-i∧Go.Abs.Row1 A' A.next (fS s) 37∧Go.Abs.Row1 A' (A.next+1) (fTb t) 41∧Grow A A' (10510+5*i)
 refine w17 _ _ _ (c17 (I:=I) fun g id vals A' d hI hd=>?_) ?_
 ·obtain ⟨rfl,hso,hto,i,rfl,hi,hin,hhe,rfl,hr,hr2,hg⟩:=hI;have ng:=hg.next;have hli:((rs.take i).filterMap inO).length≤20:=Nat.le_trans (List.length_filterMap_le _ _) (by rw [List.length_take];omega);have hlh:((rs.take i).filterMap heO).length≤20:=Nat.le_trans (List.length_filterMap_le _ _) (by rw [List.length_take];omega);rw [Afe];simp only [L17,Mc,Mn,Li,and_true] at hd;obtain ⟨d2,d3,d5,d6,d7⟩:=hd;obtain ⟨F,hrs⟩:=(ht.keeps hg.keeps).r;simp only [d2,d3,d5,d6,d7,DU,G7,(DK hr2).1,hrs.len etR,Ar,Ab,Ah];refine ⟨fun hlt=>?_,fun hge=>?_⟩
  ·have hlt:i<rs.length:=by omega
   obtain ⟨x,hx⟩:∃ x,rs[i]? =some x:=⟨_,Ge hlt⟩;have hxm:=List.mem_of_getElem? hx;obtain ⟨r,o,a1,a2,a3⟩:=hrs.at etR hx;simp only [a1,EH,(elR a2).1,Ab];refine Vb hg.Ap (by omega) fun A2 g2 r2=>?_;have g02:=hg.trans g2;have n2:=g2.next;have h1r:=hr.keeps g2.keeps (by simp);have h1t:=hr2.keeps g2.keeps (by simp);simp only [(BK h1r).2.2.2.2,Dk r2,Ab];refine Agq (h.keeps g02.keeps) hz g2.Ap (by omega) fun hi3 A3 g3 hh3=>?_;have g03:=g02.trans g3;have n3:=g3.next;have h3r:=h1r.keeps g3.keeps (by simp);have h3t:=h1t.keeps g3.keeps (by simp);obtain ⟨F3,hrs3⟩:=(ht.keeps g03.keeps).r;obtain ⟨r3,o3,b1,b2,b3⟩:=hrs3.at etR hx;have hsn:rs.take (i+1)=rs.take i++[x]:=by rw [List.take_add_one,hx];rfl
   have hni:=VU (rs.take i) x;have hnh:=VW (rs.take i) x;have hsh:(fun h:HV=>h∈hs)=fun h:HV=>h∈hs:=rfl;have hq:(x.state=3∨x.state=4)→Kz (fun id vals A'=>∃ g',g'<100-i∧I g' id vals A') K (.int .i64 (((rs.take i).filterMap heO).length:Int)) (.int .i64 hi3) A3 (pP A.next 0) (pP (A.next+1) 0) (.int .i64 (i:Int)) (.int .i64 (((rs.take i).filterMap inO).length:Int)):=by
    intro hst;have hho:heO x=some ⟨x.x,(x.state:Int)==3⟩:=by unfold heO;rw [if_pos hst]
    have hhm:(⟨x.x,(x.state:Int)==3⟩:HV)∈rs.filterMap heO:=List.mem_filterMap.2 ⟨x,hxm,hho⟩;unfold Kz;simp only [AA,Ar,Ab,Ah];rw [wrap_i64 (by omega) (by omega)];rcases hh3 with ⟨rfl,hno⟩ | ⟨ih,y,rfl,hy,hyx⟩
    ·exact ⟨fun _=>kF (hk A3 (g03.more (by omega))) fun ok=>hno _ (ok.2.2.2.1 _ hhm) rfl,fun h=>absurd (by decide) h⟩
    ·refine ⟨fun h=>by omega,fun _=>?_⟩;obtain ⟨F4,hh4⟩:=(h.keeps g03.keeps).h;obtain ⟨r4,o4,e1,e2,e3⟩:=hh4.at etH hy;have cc:A3.cell? ⟨r4,o4+3,none⟩=some (.bool y.c):=cell_of e2 (k:=3) rfl;simp only [FF,DU,KS,G7,Nat.zero_add,(BK h3r).2.2.2.1,(DK h3t).1,e1,b1,Y1,D3,KR,JF,cc,(elR b2).2,AQ,Zm,AA,Ab];rw [wrap_i64 (by omega) (by omega)];refine Aj.2 ⟨fun h5=>kF (hk A3 (g03.more (by omega))) fun ok=>?_,fun h5=>?_⟩
     ·have h6:=ok.2.2.2.1 _ hhm;have h7:(⟨x.x,(x.state:Int)==3⟩:HV)=y:=by
       obtain ⟨j,hj⟩:=List.mem_iff_getElem?.1 h6;rcases Nat.lt_trichotomy ih j with h8 | h8 | h8
       ·have:=E5 (c:=fun a b:HV=>B6 a.x b.x) (fun x y z=>Cb) hso.2.2.2.2.1 h8 hy hj
        simp only [hyx] at this;exact absurd this (Kf _)
       ·subst h8;rw [hy] at hj;cases hj;rfl
       ·have:=E5 (c:=fun a b:HV=>B6 a.x b.x) (fun x y z=>Cb) hso.2.2.2.2.1 h8 hj hy
        simp only [hyx] at this;exact absurd this (Kf _)
      rw [← h7] at h5;simp at h5
     ·have h5:y.c=((x.state:Int)==3):=by simpa using h5
      have hym:(⟨x.x,(x.state:Int)==3⟩:HV)∈hs:=by
       have:(⟨x.x,(x.state:Int)==3⟩:HV)=y:=by rw [← h5,← hyx]
       rw [this];exact List.mem_of_getElem? hy
      have hl1:((((rs.take i).filterMap heO).length:Nat):Int)+1=(((rs.take (i+1)).filterMap heO).length:Int):=by
       rw [hsn,hnh,hho];simp
      have hl2:(rs.take (i+1)).filterMap inO=(rs.take i).filterMap inO:=by
       rw [hsn,hni,show inO x=none by unfold inO;rw [Ff (by omega)]];simp
      rw [hl1,← hl2];refine Ai.2 ⟨100-(i+1),by omega,rfl,hso,hto,i+1,rfl,by omega,by rw [hl2];exact hin,fun z hz=>?_,rfl,h3r,h3t,g03.more (by omega)⟩;rw [hsn,hnh,hho] at hz;rcases Mz.1 hz with hz | hz
      ·exact hhe z hz
      ·rw [Ms.1 hz];exact hym
   simp only [DU,G7,(DK h3t).1,b1,D3,JF,(elR b2).2,AQ,AA,Ab];rw [wrap_i64 (n:=(i:Int)+1) (by omega) (by omega)];refine Aq.2 ⟨fun h1=>?_,fun h1=>Aq.2 ⟨fun h2=>hq (.inl (by omega)),fun h2=>Aq.2 ⟨fun h3=>hq (.inr (by omega)),fun h3=>?_⟩⟩⟩
   ·rw [wrap_i64 (by omega) (by omega)];have hio:inO x=some x.x:=by unfold inO;rw [if_pos (by omega)]
    have him:x.x∈rs.filterMap inO:=List.mem_filterMap.2 ⟨x,hxm,hio⟩;simp only [(BK h3r).2.2.2.2,Dk (r2.keeps g3.keeps (by simp)),Ab];refine Adv (h.keeps g03.keeps) hz g3.Ap (by omega) fun r4 A4 g4 hr4=>?_;have g04:=g03.trans g4;simp only [Ar,Ab,Ah];rcases hr4 with ⟨rfl,hno⟩ | ⟨ib,y,rfl,hy,hyx⟩
    ·exact ⟨fun _=>kF (hk A4 (g04.more (by omega))) fun ok=>(by obtain ⟨b,hb,he⟩:=ok.2.2.1 _ him;exact hno b hb he),fun h=>absurd (by decide) h⟩
    ·refine ⟨fun h=>by omega,fun _=>?_⟩;have hl1:((((rs.take i).filterMap inO).length:Nat):Int)+1=(((rs.take (i+1)).filterMap inO).length:Int):=by
      rw [hsn,hni,hio];simp
     have hl2:(rs.take (i+1)).filterMap heO=(rs.take i).filterMap heO:=by
      rw [hsn,hnh,show heO x=none by unfold heO;rw [Ff (by omega)]];simp
     rw [hl1,← hl2];refine Ai.2 ⟨100-(i+1),by omega,rfl,hso,hto,i+1,rfl,by omega,fun z hz=>?_,by rw [hl2];exact hhe,rfl,h3r.keeps g4.keeps (by simp),h3t.keeps g4.keeps (by simp),g04.more (by omega)⟩;rw [hsn,hni,hio] at hz;rcases Mz.1 hz with hz | hz
     ·exact hin z hz
     ·rw [Ms.1 hz];exact ⟨y,List.mem_of_getElem? hy,hyx⟩
   ·have hl1:(rs.take (i+1)).filterMap inO=(rs.take i).filterMap inO:=by
     rw [hsn,hni,show inO x=none by unfold inO;rw [Ff (by omega)]];simp
    have hl2:(rs.take (i+1)).filterMap heO=(rs.take i).filterMap heO:=by
     rw [hsn,hnh,show heO x=none by unfold heO;rw [Ff (by omega)]];simp
    rw [← hl1,← hl2];exact Ai.2 ⟨100-(i+1),by omega,rfl,hso,hto,i+1,rfl,by omega,by rw [hl1];exact hin,by rw [hl2];exact hhe,rfl,h3r,h3t,g03.more (by omega)⟩
  ·have hir:rs.take i=rs:=List.take_of_length_le (by omega);rw [hir] at hin hhe hli hlh;rw [hir];obtain ⟨F2,hb⟩:=(h.keeps hg.keeps).b;obtain ⟨F3,hh⟩:=(h.keeps hg.keeps).h;have hk:=hk A' (hg.more (by omega));simp only [D7,FF,H7,KS,Nat.zero_add,(BK hr).2.2.1,(BK hr).2.2.2.1,hb.len etB,hh.len etH,List.length_map,AQ,Ab];refine Aq.2 ⟨fun h1=>kB hk ?_,fun h1=>kF hk fun ok=>h1 (by rw [ok.2.2.2.2.1])⟩;rw [beq_iff_eq];exact ⟨fun h2=>⟨hso,hto,hin,hhe,by omega,by omega⟩,fun ok=>by rw [ok.2.2.2.2.2]⟩
 ·rw [e17];refine Am (cs:=fS s) hf (by omega) rfl fun A1 m1=>?_;have g1:=Grow.made m1 hf;have n1:=m1.next;refine Am (cs:=fTb t) m1.Ap (by omega) rfl fun A2 m2=>?_;have g2:=Grow.made m2 m1.Ap;have g02:=g1.trans g2;have n2:=m2.next;have r1:=m1.AS.keeps g2.keeps (by simp);have r2:=m2.AS;rw [n1] at r2;have hn1:(.pointer (some ⟨A1.next,0,none⟩):Value)=.pointer (some ⟨A.next+1,0,none⟩):=by rw [n1]
  rw [hn1];simp only [(BK r1).2.2.2.2,Ab];refine Ags (R:=R) (h.keeps g02.keeps) hz htz hR hpm hp m2.Ap (by omega) fun A3 g3=>?_;have g03:=g02.trans g3;have n3:=g3.next;simp only [AR,Ab];refine Aj.2 ⟨fun h3=>kF (hk A3 (g03.more (by omega))) fun ok=>?_,fun h3=>?_⟩
  ·rw [Gj ok.1] at h3;cases h3
  have h3:Eu R s.next qs bs hs:=(FG (n:=140) (by decide)).1 (by simpa using h3);simp only [(DK (r2.keeps g3.keeps (by simp))).2.2,Ab];refine Agr (ht.keeps g03.keeps) hrl hal g3.Ap (by omega) fun A4 g4=>?_;have g04:=g03.trans g4;simp only [AR,Ab];refine Aj.2 ⟨fun h4=>kF (hk A4 (g04.more (by omega))) fun ok=>?_,fun h4=>?_⟩
  ·rw [Gj ok.2.1] at h4;cases h4
  have h4:O6 rs asl:=(FG (n:=190) (by decide)).1 (by simpa using h4);exact Ai.2 ⟨100-0,rfl,h3,h4,0,rfl,Nat.zero_le _,by simp,by simp,rfl,(r1.keeps g3.keeps (by simp)).keeps g4.keeps (by simp),(r2.keeps g3.keeps (by simp)).keeps g4.keeps (by simp),g04.more (by omega)⟩
end
end Go.Proofs.YtdpdajpiadohjaaGreatDoor
namespace Go.Proofs.YtdpdajpiadohjaaGreatDoor
open Go Go.Abs Go.ChangeShapes Go.WideShapes Go.ChangeAt Go.RowKit Go.Joins Go.Deep
def vks(v:VV):SL:=⟨v.ko,v.kl,v.kc⟩
def vls(v:VV):SL:=⟨v.lo,v.ll,v.lc⟩
def sl0:SL:=⟨none,0,0⟩
def oSl{α:Type}(f:α→SL):Option α→SL
 |none=>sl0
 |some a=>f a
noncomputable def aV(a b:Nat)(v:VV):VV:=⟨v.kind,v.n,v.s,((vks v).ab a).o,v.kl,v.kc,((vls v).ab b).o,v.ll,v.lc⟩
theorem Un{W:World}{v:VV}(h:OkV W v):DW (vks v).val∧DW (vls v).val:=by
 obtain ⟨k,t,h⟩:=h;cases k with
 |zero=>cases h
 |succ k=>
  obtain ⟨⟨keys,Ka,h1⟩,l,La,h2,_⟩:=h;exact ⟨h1.isSlice,h2.isSlice⟩
section
variable {W:World}
theorem Y2{m:Inj Tp}{x' x:MV}(h:Cw m x'.app x.app)(e:x'={ x with app:=x'.app }):Ay m (fM x') (fM x):=by
 obtain ⟨id,key,dur,red,pid,app,body⟩:=x;obtain ⟨id',key',dur',red',pid',app',body'⟩:=x';simp only [MV.mk.injEq,true_and] at e;obtain ⟨rfl,rfl,rfl,rfl,rfl,rfl⟩:=e;obtain ⟨h1,h2,h3,h4,h5,_,_⟩:=h;obtain ⟨k,n,s,ko,kl,kc,lo,ll,lc⟩:=app;obtain ⟨k',n',s',ko',kl',kc',lo',ll',lc'⟩:=app';simp only at h1 h2 h3;subst h1 h2 h3;exact .cons (.int _ _) (.cons (.string _) (.cons (.bool _) (.cons (.bool _) (.cons (.string _) (.cons (.int _ _) (.cons (.int _ _) (.cons (.string _) (.cons h4 (.cons h5 (.cons (.string _) .nil))))))))))
theorem Afq{β:Type}(f:β→List Value):flat f []=[]:=rfl
end
theorem AhQ{W:World}{m0:Inj Tp}{x' x:VV}(hx:Cw m0 x' x)(h:OkV W x):VK W m0 x':=by
 obtain ⟨k,t,ht⟩:=h;refine ⟨fun e=>absurd e (show (60:Nat)≠C3 by decide),fun _ m args' W' hle hb ha=>?_⟩;cases ha with
 |cons h1 h2=>
  cases h2;obtain ⟨y',rfl,hs⟩:=hx.back hle h1;exact Wq ((CZ.grow hb k x t ht).same hs)
theorem Ei{α β:Type}{l:List α}{l':List β}{M:Nat}(hM:0<M)(h:l'.length=min l.length M)(hl:l≠[]):l'≠[]:=by
 have:=List.length_pos_iff.2 hl
 refine List.length_pos_iff.1 ?_;omega
end Go.Proofs.YtdpdajpiadohjaaGreatDoor
namespace Go.Proofs.YtdpdajpiadohjaaGreatDoor
open Go.Abs
def VK2(sz:VV→Prop)(W0:World)(m0:Inj Tp)(x:VV):Prop:=(sz x∧VK W0 m0 x)∨KC.Holds Tp W0 m0 ⟨60,[.agg ⟨fV x⟩],[.bool false]⟩
section
variable {W0:World} {m0:Inj Tp} {sz:VV→Prop}
theorem AaH{A:AW}{x:MV}{K:Value→AW→Prop}(hf:AH A)(hA:A.next+5<Ao)(hv:VK2 sz W0 m0 x.app)(hk:∀ b A',(b=true→sz x.app)→Grow A A' 1→K (.bool b) A'):Wc Tp Ak W0 m0 34 [.agg ⟨x.BM⟩] A K:=by
 refine w34 _ _ (Au (S:=fun _ _ _=>False) fun _ _ _ h=>h) ?_;rw [e34];refine Am (cs:=x.BM) hf (by omega) rfl fun A1 m1=>?_;have g1:=Grow.made m1 hf;have hr:Go.Abs.Row1 A1 A.next [.string x.key,.bool x.dur,.bool x.red,.string x.pid,.int .u8 (x.app.kind:Int),.int .u64 (x.app.n:Int),.string x.app.s,.slice x.app.ko x.app.kl x.app.kc,.slice x.app.lo x.app.ll x.app.lc] 82:=m1.AS;have hc:A1.cells? ⟨A.next,4,none⟩ 5=some (fV x.app):=by rw [Bd hr.row];rfl
 simp only [K5,Jl,FE,B1,Sw,hc,Ax hr.row,cellOf,YO,BX,Cf,Ab,Eb,CV,Ah,Nat.zero_add];refine ⟨fun _=>⟨fun _=>?_,fun _=>hk _ _ (fun h=>Bool.noConfusion h) g1⟩,fun _=>hk _ _ (fun h=>Bool.noConfusion h) g1⟩;rcases hv with ⟨hs,hv⟩ | hv
 ·refine knL (by decide) hv rfl fun v hv=>?_;rcases Mk.1 hv with rfl | hv
  ·exact hk _ _ (fun _=>hs) g1
  ·rw [Ms.1 hv];exact hk _ _ (fun _=>hs) g1
 ·refine knL (by decide) hv rfl fun v hv=>?_;rw [Ms.1 hv];exact hk _ _ (fun h=>Bool.noConfusion h) g1
theorem Ads{A:AW}{v:Value}{l:List UV}{F:List Nat}{K:Value→AW→Prop}(hl:RdT 11 fU A v l.length l F)(hl2:l.length≤20)(hv:∀ x∈l,VK2 sz W0 m0 x.m.app)(hf:AH A)(hA:A.next+50<Ao)(hk:∀ b A',(b=true→∀ x∈l,sz x.m.app)→Grow A A' 20→K (.bool b) A'):Wc Tp Ak W0 m0 61 [v,.int .i64 110] A K:=by
 let I:Nat→Nat→List Value→AW→Prop:=fun g id vals A'=>id=0∧∃ (i:Nat) (m:Int),vals=[v,.int .i64 m,.int .i64 (i:Int)]∧i≤l.length∧0≤m∧m≤20000∧(∀ (j:Nat) x,j<i→l[j]? =some x→sz x.m.app)∧g=l.length-i∧Grow A A' i;refine w61 _ _ _ (c61 (I:=I) fun g id vals A' d hI hd=>?_) ?_
 ·obtain ⟨rfl,i,m,rfl,hi,hm0,hm1,hall,rfl,hgr⟩:=hI;have hl':=hl.keeps hgr.keeps (by simp);have hn:=hgr.next;rw [AeZ];simp only [L61,Mc,Mn,Li,and_true] at hd;obtain ⟨d0,d5,d6⟩:=hd;simp only [d0,d5,d6,hl'.len etU,Ar,Ab,Ah];refine ⟨fun hlt=>?_,fun hge=>hk _ _ (fun _ x hx=>by obtain ⟨j,hj⟩:=List.mem_iff_getElem?.1 hx;exact hall j x (by have:=(Gs.1 hj).1;omega) hj) (hgr.more (by omega))⟩;have hlt:i<l.length:=by omega
  obtain ⟨x,hx⟩:∃ x,l[i]? =some x:=⟨_,Ge hlt⟩;obtain ⟨r,o,a1,a2,a3⟩:=hl'.at etU hx;have hb:A'.cell? ⟨r,o+11,none⟩=some (.string x.m.body):=cell_of a2 (k:=11) rfl;have hq:A'.cell? ⟨r,o,none⟩=some (.string x.queue):=cell_of a2 (k:=0) rfl;have hp:A'.cells? ⟨r,o+2,none⟩ 9=some x.m.BM:=CY a2 (k:=2) (m:=8) (by omega) rfl;simp only [a1,Ab,IJ,OD,OC,B1,Sv,hb,hq,hp,Eb,Bc,Ah];refine ⟨fun _=>hk _ _ (fun h=>Bool.noConfusion h) (hgr.more (by omega)),fun h1=>⟨fun _=>hk _ _ (fun h=>Bool.noConfusion h) (hgr.more (by omega)),fun h2=>?_⟩⟩;refine AaH hgr.Ap (by omega) (hv x (List.mem_of_getElem? hx)) fun b A2 hbz g2=>?_;have hgr2:=hgr.trans g2;simp only [Bo,Ab];refine Aj.2 ⟨fun _=>hk _ _ (fun h=>Bool.noConfusion h) (hgr2.more (by omega)),fun hbt=>?_⟩;have hxz:=hbz (by simpa using hbt);have hl2':=hl.keeps hgr2.keeps (by simp);obtain ⟨r',o',b1,b2,b3⟩:=hl2'.at etU hx;rw [a1] at b1;simp only [Oi,Value.pointer.injEq,Addr.mk.injEq] at b1;obtain ⟨rfl,rfl,_⟩:=b1;have hb2:A2.cell? ⟨r,o+11,none⟩=some (.string x.m.body):=cell_of b2 (k:=11) rfl;simp only [Ab,hb2,Eb,Cp,AA];rw [wrap_i64 (by omega) (by omega),wrap_i64 (by omega) (by omega)];exact Ai.2 ⟨l.length-(i+1),by omega,rfl,i+1,_,rfl,by omega,by omega,by omega,fun j y hj hy=>(by
   by_cases hji:j=i
   ·subst hji;rw [hx] at hy;cases hy;exact hxz
   ·exact hall j y (by omega) hy),rfl,hgr2⟩
 ·rw [e61];simp only [hl.len etU,Ab,Bc,Ah];refine ⟨fun _=>hk _ _ (fun h=>Bool.noConfusion h) ((Grow.refl hf).more (by omega)),fun _=>?_⟩;exact Ai.2 ⟨l.length-0,rfl,0,20000,rfl,by omega,by omega,by omega,fun j x hj=>by omega,rfl,Grow.refl hf⟩
theorem Adx {A:AW} {b:BV} {us:List UV} {fs:List FV} {F F':List Nat} {K:Value→AW→Prop} (hu:RdT 11 fU A b.ps.val us.length us F) (hul:us.length≤20) (hv:∀ x∈us,VK2 sz W0 m0 x.m.app) (hfl:RdT 1 fF A b.ts.val fs.length fs F') (hfs:fs.length≤20) (hf:AH A) (hA:A.next+80<Ao)
  (hk:∀ r A',(r=true→∀ x∈us,sz x.m.app)→Grow A A' 21→K (.bool r) A'):Wc Tp Ak W0 m0 35 [.agg ⟨fE b⟩] A K:=by
 let I:Nat→Nat→List Value→AW→Prop:=fun g id vals A'=>id=0∧∃ (i:Nat),vals=[pP A.next 0,.int .i64 (i:Int)]∧i≤fs.length∧g=fs.length-i∧(∀ x∈us,sz x.m.app)∧Go.Abs.Row1 A' A.next (fE b) 92∧Grow A A' 21;refine w35 _ _ (c35 (I:=I) fun g id vals A' d hI hd=>?_) ?_
 ·obtain ⟨rfl,i,rfl,hi,rfl,hsz,hr,hgr⟩:=hI;have hr:Go.Abs.Row1 A' A.next [.int .u8 4,.string ⟨⟨[]⟩⟩,.int .u64 0,.int .u32 (b.x.f:Int),.string b.x.g,.string b.x.b,.slice b.ps.o b.ps.len b.ps.cap,.slice b.ts.o b.ts.len b.ts.cap] 92:=hr;have hfl':=hfl.keeps hgr.keeps (by simp);have hll:=Ya hfl;rw [Afd];simp only [L35,Mc,Mn,Li,and_true] at hd;obtain ⟨d1,d3⟩:=hd;simp only [d1,d3,K0,G6,Ax hr.row,cellOf,CC,BX,B7,Cf,Ab,YD,hll,Ar,Ah,Nat.zero_add];refine ⟨fun hlt=>?_,fun hge=>hk _ _ (fun _=>hsz) hgr⟩;have hlt:i<fs.length:=by omega
  obtain ⟨x,hx⟩:∃ x,fs[i]? =some x:=⟨_,Ge hlt⟩;obtain ⟨r,o,a1,a2,a3⟩:=hfl'.at etF hx;have a1:Ag Tp 87 (.slice b.ts.o fs.length b.ts.cap) (.int .i64 (i:Int))=some (pP r o):=by rw [← hll];exact a1
  have hq:A'.cell? ⟨r,o,none⟩=some (.string x.queue):=cell_of a2 (k:=0) rfl;simp only [a1,Ab,IK,B1,hq,Eb,Bc,Ah];refine ⟨fun _=>hk _ _ (fun h=>Bool.noConfusion h) hgr,fun _=>?_⟩;simp only [AA,Ab];rw [wrap_i64 (by omega) (by omega)];exact Ai.2 ⟨fs.length-(i+1),by omega,rfl,i+1,rfl,by omega,rfl,hsz,hr,hgr⟩
 ·rw [e35];refine Am (cs:=fE b) hf (by omega) rfl fun A1 m1=>?_;have n1:=m1.next;have k1:=m1.keeps hf;have g1:=Grow.made m1 hf;have hll:=Ya hfl;have hr:Go.Abs.Row1 A1 A.next [.int .u8 4,.string ⟨⟨[]⟩⟩,.int .u64 0,.int .u32 (b.x.f:Int),.string b.x.g,.string b.x.b,.slice b.ps.o b.ps.len b.ps.cap,.slice b.ts.o b.ts.len b.ts.cap] 92:=m1.AS;simp only [K0,Nw,Nv,G6,KQ,B1,Ax hr.row,cellOf,CC,BX,B7,Cf,Ab,YD,Eb,hll,Bc,Ah,Nat.zero_add];refine ⟨fun _=>hk _ _ (fun h=>Bool.noConfusion h) (g1.more (by omega)),fun _=>⟨fun _=>hk _ _ (fun h=>Bool.noConfusion h) (g1.more (by omega)),fun _=>?_⟩⟩;refine Ads (hu.keeps k1 (by simp)) hul hv m1.Ap (by omega) fun r A2 hrz g2=>?_;have g12:=(g1.trans g2).more (n:=1+20) (m:=21) (by omega);simp only [Bo,Ab];refine Aj.2 ⟨fun _=>hk _ _ (fun h=>Bool.noConfusion h) g12,fun hrt=>?_⟩;exact Ai.2 ⟨fs.length-0,rfl,0,rfl,by omega,rfl,hrz (by simpa using hrt),m1.AS.keeps g2.keeps (by simp),g12⟩
end
structure SRx (sz:VV→Prop) (W0:World) (m0:Inj Tp) (A:AW) (s:SV) (qs:List QV) (ms:Nat→List MV) (bs:List BV) (us:Nat→List UV) (fs:Nat→List FV):Prop where
 q:∃ F,RdT 2 fQ A s.qs.val s.qs.len qs F
 ql:qs.length=min s.qs.len 12
 m:∀ (k:Nat) q,qs[k]? =some q→∃ F,RdT 10 fM A q.ms.val q.ms.len (ms k) F
 ml:∀ (k:Nat) q,qs[k]? =some q→(ms k).length=min q.ms.len 40
 mv:∀ k,∀ x∈ms k,VK2 sz W0 m0 x.app
 b:∃ F,RdT 4 fB A s.bs.val s.bs.len bs F
 bl:bs.length=min s.bs.len 12
 u:∀ (k:Nat) b,bs[k]? =some b→∃ F,RdT 11 fU A b.ps.val b.ps.len (us k) F
 ul:∀ (k:Nat) b,bs[k]? =some b→(us k).length=min b.ps.len 20
 uv:∀ k,∀ x∈us k,VK2 sz W0 m0 x.m.app
 f:∀ (k:Nat) b,bs[k]? =some b→∃ F,RdT 1 fF A b.ts.val b.ts.len (fs k) F
 fl:∀ (k:Nat) b,bs[k]? =some b→(fs k).length=min b.ts.len 20
theorem SRx.keeps{sz:VV→Prop}{W0:World}{m0:Inj Tp}{A A':AW}{s:SV}{qs:List QV}{ms:Nat→List MV}{bs:List BV}{us:Nat→List UV}{fs:Nat→List FV}(h:SRx sz W0 m0 A s qs ms bs us fs)(k:Bs A A' []):SRx sz W0 m0 A' s qs ms bs us fs:=by
 obtain ⟨⟨F,hq⟩,h1,h2,h3,h4,⟨F2,h5⟩,h6,h7,h8,h9,h10,h11⟩:=h;exact ⟨⟨F,hq.keeps k (by simp)⟩,h1,fun i x hx=>(h2 i x hx).elim fun F h=>⟨F,h.keeps k (by simp)⟩,h3,h4,⟨F2,h5.keeps k (by simp)⟩,h6,fun i x hx=>(h7 i x hx).elim fun F h=>⟨F,h.keeps k (by simp)⟩,h8,h9,fun i x hx=>(h10 i x hx).elim fun F h=>⟨F,h.keeps k (by simp)⟩,h11⟩
section
variable {W0:World} {m0:Inj Tp} {sz:VV→Prop}
theorem AdD {A:AW} {s:SV} {qs:List QV} {ms:Nat→List MV} {bs:List BV} {us:Nat→List UV} {fs:Nat→List FV} {K:Value→AW→Prop} (h:SRx sz W0 m0 A s qs ms bs us fs) (hf:AH A) (hA:A.next+2000<Ao)
  (hk:∀ r A',(r=true→s.qs.len≤12∧s.bs.len≤12∧s.hs.len≤40∧(∀ (k:Nat) q,qs[k]? =some q→q.ms.len≤40∧∀ m∈ms k,sz m.app)∧∀ (k:Nat) b,bs[k]? =some b→b.ps.len≤20∧b.ts.len≤20∧∀ u∈us k,sz u.m.app)→Grow A A' 1000→K (.bool r) A'):Wc Tp Ak W0 m0 15 [.agg ⟨fS s⟩] A K:=by
 let M:Nat→AW→Prop:=fun n A'=>s.qs.len≤12∧(s.bs.len≤12∧s.hs.len≤40)∧Go.Abs.Row1 A' A.next (fS s) 37∧Grow A A' n;let I:Nat→Nat→List Value→AW→Prop:=fun g id vals A'=>
  (id=0∧∃ i:Nat,vals=[pP A.next 0,.int .i64 (i:Int)]∧i≤s.qs.len∧(∀ (k:Nat) q,k<i→qs[k]? =some q→q.ms.len≤40∧∀ m∈ms k,sz m.app)∧g=1000000-i*1000∧M (1+41*i) A')∨
  (id=2∧∃ i k:Nat,vals=[pP A.next 0,.int .i64 (i:Int),.int .i64 (k:Int)]∧i<s.qs.len∧(∀ (k:Nat) q,k<i→qs[k]? =some q→q.ms.len≤40∧∀ m∈ms k,sz m.app)∧(∀ q,qs[i]? =some q→q.ms.len≤40∧k≤q.ms.len)∧(∀ (j:Nat) m,j<k→(ms i)[j]? =some m→sz m.app)∧g=1000000-i*1000-1-k∧M (1+41*i+k) A')∨
  (id=4∧∃ i:Nat,vals=[pP A.next 0,.int .i64 (i:Int)]∧i≤s.bs.len∧(∀ (k:Nat) q,qs[k]? =some q→q.ms.len≤40∧∀ m∈ms k,sz m.app)∧(∀ (k:Nat) b,k<i→bs[k]? =some b→b.ps.len≤20∧b.ts.len≤20∧∀ u∈us k,sz u.m.app)∧g=1000-i∧M (493+25*i) A')
 refine w15 _ _ (c15 (I:=I) fun g id vals A' d hI hd=>?_) ?_
 ·rcases hI with ⟨rfl,i,rfl,hi,hq,rfl,h12,⟨hb12,hh40⟩,hr,hgr⟩ | ⟨rfl,i,k,rfl,hi,hq,hkq,hmz,rfl,h12,⟨hb12,hh40⟩,hr,hgr⟩ | ⟨rfl,i,rfl,hi,hq,hbz,rfl,h12,⟨hb12,hh40⟩,hr,hgr⟩
  ·have hr:Go.Abs.Row1 A' A.next [.int .u64 (s.next:Int),.slice s.qs.o s.qs.len s.qs.cap,.slice s.bs.o s.bs.len s.bs.cap,.slice s.hs.o s.hs.len s.hs.cap] 37:=hr;have h':=h.keeps hgr.keeps;have hn:=hgr.next;rw [Afi];simp only [L15,Mc,Mn,Li,and_true] at hd;obtain ⟨d1,d3⟩:=hd;simp only [d1,d3,EG,IB,Ax hr.row,cellOf,CC,B7,Cf,Ab,Aa9,Ar,Ah,Nat.zero_add];refine ⟨fun hlt=>?_,fun hge=>?_⟩
   ·have hlt:i<s.qs.len:=by omega
    have hql:=h.ql;obtain ⟨x,hx⟩:∃ x,qs[i]? =some x:=⟨_,Ge (by omega)⟩;obtain ⟨F,hqr⟩:=h'.q;obtain ⟨r,o,a1,a2,a3⟩:=hqr.at etQ hx;have a1:Ag Tp 33 (.slice s.qs.o s.qs.len s.qs.cap) (.int .i64 (i:Int))=some (pP r o):=a1;have c0:A'.cell? ⟨r,o,none⟩=some (.string x.name):=cell_of a2 (k:=0) rfl;have c2:A'.cell? ⟨r,o+2,none⟩=some (.slice x.ms.o x.ms.len x.ms.cap):=cell_of a2 (k:=2) rfl;simp only [a1,Ab,GI,GH,Mx,B1,c0,c2,Aa7,Eb,Bc,Ah];refine ⟨fun _=>hk _ _ (fun h=>Bool.noConfusion h) (hgr.more (by omega)),fun hm=>⟨fun _=>hk _ _ (fun h=>Bool.noConfusion h) (hgr.more (by omega)),fun _=>?_⟩⟩;exact Ai.2 ⟨1000000-i*1000-1-0,by omega,.inr (.inl ⟨rfl,i,0,rfl,hlt,hq,fun q hq'=>(by
     rw [hx] at hq';obtain rfl:x=q:=by simpa using hq'
     exact ⟨by omega,Nat.zero_le _⟩),fun j m hj=>by omega,rfl,h12,⟨hb12,hh40⟩,hr,hgr⟩)⟩
   ·exact Ai.2 ⟨1000-0,by omega,.inr (.inr ⟨rfl,0,rfl,by omega,fun k q hq'=>hq k q (by have:=(Gs.1 hq').1;have:=h.ql;omega) hq',fun k b hk=>by omega,rfl,h12,⟨hb12,hh40⟩,hr,hgr.more (by omega)⟩)⟩
  ·have hr:Go.Abs.Row1 A' A.next [.int .u64 (s.next:Int),.slice s.qs.o s.qs.len s.qs.cap,.slice s.bs.o s.bs.len s.bs.cap,.slice s.hs.o s.hs.len s.hs.cap] 37:=hr;have h':=h.keeps hgr.keeps;have hn:=hgr.next;have hql:=h.ql;obtain ⟨x,hx⟩:∃ x,qs[i]? =some x:=⟨_,Ge (by omega)⟩;have hxm:=(hkq x hx).1;have hkx:=(hkq x hx).2;obtain ⟨F,hqr⟩:=h'.q;obtain ⟨r,o,a1,a2,a3⟩:=hqr.at etQ hx;have a1:Ag Tp 33 (.slice s.qs.o s.qs.len s.qs.cap) (.int .i64 (i:Int))=some (pP r o):=a1;have c2:A'.cell? ⟨r,o+2,none⟩=some (.slice x.ms.o x.ms.len x.ms.cap):=cell_of a2 (k:=2) rfl;rw [Afh];simp only [L15,Mc,Mn,Li,and_true] at hd;obtain ⟨d1,d3,d4⟩:=hd;simp only [d1,d3,d4,EG,IB,Ax hr.row,cellOf,CC,B7,Cf,Ab,a1,GH,Mx,c2,Aa7,Ar,Ah,Nat.zero_add];refine ⟨fun hlt=>?_,fun hge=>?_⟩
   ·have hlt:k<x.ms.len:=by omega
    have hml:=h.ml i x hx;obtain ⟨y,hy⟩:∃ y,(ms i)[k]? =some y:=⟨_,Ge (by omega)⟩;obtain ⟨F2,hmr⟩:=h'.m i x hx;obtain ⟨r2,o2,b1,b2,b3⟩:=hmr.at etM hy;have b1:Ag Tp 73 (.slice x.ms.o x.ms.len x.ms.cap) (.int .i64 (k:Int))=some (pP r2 o2):=b1;have e10:A'.cell? ⟨r2,o2+10,none⟩=some (.string y.body):=cell_of b2 (k:=10) rfl;have e1:A'.cells? ⟨r2,o2+1,none⟩ 9=some y.BM:=CY b2 (k:=1) (m:=8) (by omega) rfl;simp only [b1,Ab,Q8,Q7,B1,Sv,e10,e1,Eb,Bc,Ah];refine ⟨fun _=>hk _ _ (fun h=>Bool.noConfusion h) (hgr.more (by omega)),fun _=>?_⟩;refine AaH hgr.Ap (by omega) (h.mv i y (List.mem_of_getElem? hy)) fun b A2 hbz g2=>?_;have hg2:=hgr.trans g2;simp only [Bo,Ab];refine Aj.2 ⟨fun _=>hk _ _ (fun h=>Bool.noConfusion h) (hg2.more (by omega)),fun hbt=>?_⟩;have hyz:=hbz (by simpa using hbt);simp only [AA,Ab];rw [wrap_i64 (by omega) (by omega)];have hkn:∀ q,qs[i]? =some q→q.ms.len≤40∧k+1≤q.ms.len:=fun q hq'=>by
     rw [hx] at hq';obtain rfl:x=q:=by simpa using hq'
     exact ⟨hxm,by omega⟩
    exact Ai.2 ⟨1000000-i*1000-1-(k+1),by omega,.inr (.inl ⟨rfl,i,k+1,rfl,hi,hq,hkn,fun j m hj hm=>(by
     by_cases hjk:j=k
     ·subst hjk;rw [hy] at hm;cases hm;exact hyz
     ·exact hmz j m (by omega) hm),rfl,h12,⟨hb12,hh40⟩,hr.keeps g2.keeps (by simp),hg2.more (by omega)⟩)⟩
   ·simp only [AA,Ab];rw [wrap_i64 (by omega) (by omega)];have hml:=h.ml i x hx;refine Ai.2 ⟨1000000-(i+1)*1000,by omega,.inl ⟨rfl,i+1,rfl,by omega,fun k' q hk' hq'=>?_,rfl,h12,⟨hb12,hh40⟩,hr,hgr.more (by omega)⟩⟩;by_cases hki:k'=i
    ·subst hki;rw [hx] at hq';obtain rfl:x=q:=by simpa using hq'
     refine ⟨hxm,fun m hm=>?_⟩;obtain ⟨j,hj⟩:=List.mem_iff_getElem?.1 hm;exact hmz j m (by have:=(Gs.1 hj).1;omega) hj
    ·exact hq k' q (by omega) hq'
  ·have hr:Go.Abs.Row1 A' A.next [.int .u64 (s.next:Int),.slice s.qs.o s.qs.len s.qs.cap,.slice s.bs.o s.bs.len s.bs.cap,.slice s.hs.o s.hs.len s.hs.cap] 37:=hr;have h':=h.keeps hgr.keeps;have hn:=hgr.next;rw [Afg];simp only [L15,Mc,Mn,Li,and_true] at hd;obtain ⟨d1,d5⟩:=hd;simp only [d1,d5,D7,H7,Ax hr.row,cellOf,CC,B7,Cf,Ab,Aa8,Ar,Ah,Nat.zero_add];refine ⟨fun hlt=>?_,fun hge=>hk _ _ (fun _=>⟨h12,hb12,hh40,hq,fun k b hb=>hbz k b (by have:=(Gs.1 hb).1;have:=h.bl;omega) hb⟩) (hgr.more (by omega))⟩;have hlt:i<s.bs.len:=by omega
   have hbl:=h.bl;obtain ⟨x,hx⟩:∃ x,bs[i]? =some x:=⟨_,Ge (by omega)⟩;obtain ⟨F,hbr⟩:=h'.b;obtain ⟨r,o,a1,a2,a3⟩:=hbr.at etB hx;have a1:Ag Tp 34 (.slice s.bs.o s.bs.len s.bs.cap) (.int .i64 (i:Int))=some (pP r o):=a1;have c3:A'.cell? ⟨r,o+3,none⟩=some (.slice x.ps.o x.ps.len x.ps.cap):=cell_of a2 (k:=3) rfl;have c4:A'.cell? ⟨r,o+4,none⟩=some (.slice x.ts.o x.ts.len x.ts.cap):=cell_of a2 (k:=4) rfl;simp only [a1,Ab,K4,HR,KQ,G6,c3,c4,Aeq,YD,Bc,Ah,a3];refine ⟨fun _=>hk _ _ (fun h=>Bool.noConfusion h) (hgr.more (by omega)),fun h1=>⟨fun _=>hk _ _ (fun h=>Bool.noConfusion h) (hgr.more (by omega)),fun h2=>?_⟩⟩;refine Adw hgr.Ap (by omega) fun A2 g2=>?_;have hg2:=hgr.trans g2;have hn2:=hg2.next;have h2':=h.keeps hg2.keeps;obtain ⟨F3,hu⟩:=h2'.u i x hx;obtain ⟨F4,hfl⟩:=h2'.f i x hx;have hul:=h.ul i x hx;have hfll:=h.fl i x hx;have eu:x.ps.len=(us i).length:=by omega
   have ef:x.ts.len=(fs i).length:=by omega
   refine Adx (by rw [← eu];exact hu) (by omega) (h.uv i) (by rw [← ef];exact hfl) (by omega) hg2.Ap (by omega) fun b A3 hbt g3=>?_;have hg3:=hg2.trans g3;simp only [Bo,Ab];refine Aj.2 ⟨fun _=>hk _ _ (fun h=>Bool.noConfusion h) (hg3.more (by omega)),fun hb1=>?_⟩;simp only [AA,Ab];rw [wrap_i64 (by omega) (by omega)];exact Ai.2 ⟨1000-(i+1),by omega,.inr (.inr ⟨rfl,i+1,rfl,by omega,hq,fun k' b' hk' hb'=>(by
    by_cases hki:k'=i
    ·subst hki;rw [hx] at hb';cases hb';exact ⟨by omega,by omega,hbt (by simpa using hb1)⟩
    ·exact hbz k' b' (by omega) hb'),rfl,h12,⟨hb12,hh40⟩,(hr.keeps g2.keeps (by simp)).keeps g3.keeps (by simp),hg3.more (by omega)⟩)⟩
 ·rw [e15];refine Am (cs:=fS s) hf (by omega) rfl fun A1 m1=>?_;have g1:=Grow.made m1 hf;have hr:Go.Abs.Row1 A1 A.next [.int .u64 (s.next:Int),.slice s.qs.o s.qs.len s.qs.cap,.slice s.bs.o s.bs.len s.bs.cap,.slice s.hs.o s.hs.len s.hs.cap] 37:=m1.AS;simp only [EG,D7,FF,IB,H7,KS,Ax hr.row,cellOf,CC,B7,Cf,Ab,Aa9,Aa8,Aet,Bc,Ah,Nat.zero_add];refine ⟨fun _=>hk _ _ (fun h=>Bool.noConfusion h) (g1.more (by omega)),fun h1=>⟨fun _=>hk _ _ (fun h=>Bool.noConfusion h) (g1.more (by omega)),fun h2=>⟨fun _=>hk _ _ (fun h=>Bool.noConfusion h) (g1.more (by omega)),fun _=>?_⟩⟩⟩;exact Ai.2 ⟨1000000-0*1000,.inl ⟨rfl,0,rfl,by omega,fun k q hk=>by omega,rfl,by omega,⟨by omega,by omega⟩,m1.AS,g1.more (by omega)⟩⟩
end
def EO:List (Nat × List Value × TypeId):=[(1,Oz,237),(2,Vo,240)]
theorem okM:okG Tp.globals.size EO=true:=by kernel_rfl
theorem nGl:Tp.globals.size=3:=by kernel_rfl
theorem Afl{L:List Arg}(hk:Tp.globals.size+L.length+1≤Ao):GT (wR Tp.globals.size EO L):=by
 have hget:∀ i,i<3→(wR Tp.globals.size EO L).get i=(JA EO).get? i:=fun i hi=>by
  show (PA (Tp.globals.size+L.length) Tp.globals.size L (JA EO)).get? i=_;rw [IT _ L _ _ _ (by omega),if_pos (by rw [nGl];exact hi)]
 refine ⟨⟨237,true,?_⟩,⟨240,true,?_⟩,?_⟩
 ·rw [hget 1 (by omega)];kernel_rfl
 ·rw [hget 2 (by omega)];kernel_rfl
 ·show 2<Tp.globals.size+L.length+1;rw [nGl];omega
theorem Holds.grow{W W':World}{rows:List (Nat × List Value × TypeId)}(h:Go.Abs.Holds W rows)(hb:Go.RowKit.Below W.heap.size W W'):Go.Abs.Holds W' rows:=fun x hx=>by
 obtain ⟨fr,hc⟩:=h x hx;exact ⟨fr,by rw [hb.block x.1 (Array.getElem?_eq_some_iff.1 hc).1];exact hc⟩
theorem I4{m m':MV}{k:Nat}{t:DT (k+1)}(h1:m.key=m'.key)(h2:m.dur=m'.dur)(h3:m.red=m'.red)(h4:m.pid=m'.pid)(h5:m.app.kind=m'.app.kind):Gw m k t=Gw m' k t:=by
 unfold Gw QP NY Ju EE Hc;rw [h1,h2,h3,h4,h5]
theorem Ml(m:MV)(k:Nat)(t:DT (k+1)):Av 4 (Gw m k t)=true:=rfl
theorem Qs {L:List Arg} {g:FuncId} {args args':List Value} {v:Value} {W:World} (hk:Tp.globals.size+L.length+1≤Ao) (hv:Av 4 v=true) (hW:Go.Abs.Holds W EO) (hA:TJ Tp W L) (ha:Ay (mR Tp L) args args')
  (h:Wc Tp Ak W (mR Tp L) g args (wR Tp.globals.size EO L) fun x _=>x=v):Calls Tp g ⟨args'⟩ W fun e W'=>∃ r∈[v],e=.returned r∧Low W W':=by
 refine (IQ gP h (AbT okM hk hW hA) (fun i hi=>LN hi) (WI okM (by omega)) ha).mono ?_;rintro e w' ⟨x,v',m',A',rfl,rfl,h2,h3⟩;exact ⟨_,Ms.2 rfl,by rw [DM 4 _ _ hv h2],UB h3 (WI okM (by omega))⟩
theorem NX{m:Inj Tp}{y:MV}{v':VV}(h:Cw m v' y.app):Ay m [.agg ⟨({ y with app:=v' }:MV).BM⟩] [.agg ⟨y.BM⟩]:=
 .cons (.agg (.cons (.string _) (.cons (.bool _) (.cons (.bool _) (.cons (.string _) h.R7))))) .nil
theorem Aah{W:World}{y:MV}{k:Nat}{t:DT (k+1)}(hW:Go.Abs.Holds W EO)(h:CW W (k+1) y.app t)(hsz:Bl (k+1) t≤400):Calls Tp 156 #[.agg ⟨y.BM⟩] W fun e W'=>∃ r∈[Gw y k t],e=.returned r∧Low W W':=by
 obtain ⟨L,v',hL,hA,hv',hrd⟩:=Sy h;have hg:=nGl;have hmax:Ao=4194304:=rfl;have hkk:Tp.globals.size+L.length+1≤Ao:=by omega
 have hT:=hrd EO hkk;have e:Gw ({ y with app:=v' }:MV) k t=Gw y k t:=I4 rfl rfl rfl rfl hv'.kind;refine Qs (args:=[.agg ⟨({ y with app:=v' }:MV).BM⟩]) hkk (Ml _ _ _) hW hA (NX hv') ?_;refine AdF (t:=t) (m:={ y with app:=v' }) (Afl hkk) hT ?_ (E8 okM hkk) hsz ?_ fun A'=>e
 ·show Tp.globals.size+L.length<Tp.globals.size+L.length+1;omega
 ·show Tp.globals.size+L.length+1+3400000<Ao;omega
theorem VT {g:FuncId} {vals:List Value} {k n:Nat} {W:World} {m0:Inj Tp} {x' x:VV} {y:DT k} (hg:g≠C3) (hx:Cw m0 x' x) (ht:CW W k x y)
  (ih:∀ W v,CW W k v y→Calls Tp g #[.agg ⟨fV v⟩,.int .i64 (n:Int)] W fun e W'=>∃ r∈vals,e=.returned r∧Low W W'):KC.Holds Tp W m0 ⟨g,[.agg ⟨fV x'⟩,.int .i64 (n:Int)],vals⟩:=by
 refine ⟨fun e=>absurd e hg,fun _ m args' W' hle hb ha=>?_⟩;cases ha with
 |cons h1 h2=>
  cases h2 with
  |cons h3 h4=>
   cases h3;cases h4;obtain ⟨y',rfl,hs⟩:=hx.back hle h1;exact ih W' y' ((CW.grow hb k x y ht).same hs)
theorem Yh{W:World}{y:MV}{k:Nat}{t:DT (k+1)}(hW:Go.Abs.Holds W EO)(h:CW W (k+1) y.app t)(hn:QR (k+1) t)(hsz:Bl (k+1) t≤400):Calls Tp 128 #[.agg ⟨y.BM⟩] W fun e W'=>∃ r∈[Gw y k t],e=.returned r∧Low W W':=by
 obtain ⟨L,v',hL,hA,hv',hrd⟩:=Sy h;have hg:=nGl;have hmax:Ao=4194304:=rfl;have hkk:Tp.globals.size+L.length+1≤Ao:=by omega
 have hT:=hrd EO hkk;have e:Gw ({ y with app:=v' }:MV) k t=Gw y k t:=I4 rfl rfl rfl rfl hv'.kind;refine Qs (args:=[.agg ⟨({ y with app:=v' }:MV).BM⟩]) hkk (Ml _ _ _) hW hA (NX hv') ?_;refine AdR (t:=t) (m:={ y with app:=v' }) hT hn ?_ (E8 okM hkk) hsz ?_ (VT (n:=6) (show (87:Nat)≠C3 by decide) hv' h fun W' v2 ht=>Qo _ t W' v2 ht hsz 6 (by omega)) (VT (n:=200) (show (86:Nat)≠C3 by decide) hv' h fun W' v2 ht=>KP _ _ W' v2 ht.form 200 (by omega)) fun A'=>e
 ·show Tp.globals.size+L.length<Tp.globals.size+L.length+1;omega
 ·show Tp.globals.size+L.length+1+100000<Ao;omega
theorem OV{m0 m:Inj Tp}(hle:m0.le m){x':MV}{x:VV}(hx:Cw m0 x'.app x){args':List Value}(ha:Ay m [.agg ⟨x'.BM⟩] args'):∃ y:VV,args'=[.agg ⟨({ x' with app:=y }:MV).BM⟩]∧Wh x y:=by
 cases ha with
 |cons h1 h2=>
  cases h2;cases h1 with
  |agg hs=>
   cases hs with
   |cons a1 hs=>
    cases a1;cases hs with
    |cons a2 hs=>
     cases a2;cases hs with
     |cons a3 hs=>
      cases a3;cases hs with
      |cons a4 hs=>
       cases a4;obtain ⟨y,e,hs'⟩:=hx.back hle (.agg hs);simp only [Value.agg.injEq,Array.mk.injEq] at e;subst e;exact ⟨y,rfl,hs'⟩
theorem Aef{W:World}{m0:Inj Tp}{x':MV}{x:VV}{k:Nat}{t:DT (k+1)}(hW:Go.Abs.Holds W EO)(hx:Cw m0 x'.app x)(ht:CW W (k+1) x t)(hn:QR (k+1) t)(hsz:Bl (k+1) t≤400):
  KC.Holds Tp W m0 ⟨156,[.agg ⟨x'.BM⟩],[Gw x' k t]⟩∧KC.Holds Tp W m0 ⟨128,[.agg ⟨x'.BM⟩],[Gw x' k t]⟩:=by
 refine ⟨⟨fun e=>absurd e (show (156:Nat)≠C3 by decide),fun _ m args' W' hle hb ha=>?_⟩,⟨fun e=>absurd e (show (128:Nat)≠C3 by decide),fun _ m args' W' hle hb ha=>?_⟩⟩
 ·obtain ⟨y,rfl,hs⟩:=OV hle hx ha;have e:Gw ({ x' with app:=y }:MV) k t=Gw x' k t:=I4 rfl rfl rfl rfl (by show y.kind=x'.app.kind;rw [hx.kind,hs.kind]);rw [← e];exact Aah (y:={ x' with app:=y }) (Holds.grow hW hb) ((CW.grow hb _ x t ht).same hs) hsz
 ·obtain ⟨y,rfl,hs⟩:=OV hle hx ha;have e:Gw ({ x' with app:=y }:MV) k t=Gw x' k t:=I4 rfl rfl rfl rfl (by show y.kind=x'.app.kind;rw [hx.kind,hs.kind]);rw [← e];exact Yh (y:={ x' with app:=y }) (Holds.grow hW hb) ((CW.grow hb _ x t ht).same hs) hn hsz
def PKp(W0:World)(m0:Inj Tp)(ps:List Value):Prop:=∃ r:ByteArray × Int,KC.Holds Tp W0 m0 ⟨156,[.agg ⟨ps⟩],[.tuple ⟨[.string r.1,.int .i64 r.2]⟩]⟩∧KC.Holds Tp W0 m0 ⟨128,[.agg ⟨ps⟩],[.tuple ⟨[.string r.1,.int .i64 r.2]⟩]⟩
noncomputable def RP(W0:World)(m0:Inj Tp)(m:MV):ByteArray × Int:=@dite _ (PKp W0 m0 m.BM) (Classical.propDecidable _) (fun h=>Classical.choose h) fun _=>(.empty,0)
theorem Aee{W0:World}{m0:Inj Tp}{m:MV}(h:PKp W0 m0 m.BM):PK W0 m0 (RP W0 m0) m:=by
 have h2:=Classical.choose_spec h;have e:RP W0 m0 m=Classical.choose h:=by unfold RP;rw [dif_pos h]
 refine ⟨?_,?_⟩<;>unfold T5<;>rw [e]
 ·exact h2.1
 ·exact h2.2
theorem Aec(W0:World)(m0:Inj Tp)(m:MV)(i:Nat):RP W0 m0 { m with id:=i }=RP W0 m0 m:=rfl
def szV(W0:World)(m0:Inj Tp)(v:VV):Prop:=∀ (key:ByteArray) (dur red:Bool) (pid:ByteArray),PKp W0 m0 ([.string key,.bool dur,.bool red,.string pid]++fV v)
theorem Aa2{W0:World}{m0:Inj Tp}{m:MV}(h:szV W0 m0 m.app):PK W0 m0 (RP W0 m0) m:=Aee (h m.key m.dur m.red m.pid)
section
variable {W0:World} {m0:Inj Tp}
theorem Adt {A:AW} {x:VV} {k:Nat} {t:Tr k} {K:Value→AW→Prop} (hf:AH A) (hA:A.next+5<Ao) (hbig:¬ CE k t≤400)
  (hl:KC.Holds Tp W0 m0 ⟨86,[.agg ⟨fV x⟩,.int .i64 400],[.int .i64 (Dd k t 400)]⟩)
  (hk:∀ A',K (.bool false) A'):Wc Tp Ak W0 m0 60 [.agg ⟨fV x⟩] A K:=by
 refine w60 _ _ (Au (S:=fun _ _ _=>False) fun _ _ _ h=>h) ?_;rw [e60];refine Am (cs:=fV x) hf (by omega) rfl fun A1 m1=>?_;have hc:A1.cells? ⟨A.next,0,none⟩ 5=some (fV x):=by rw [Bd m1.AS.row];rfl
 simp only [Sw,hc,Ab];refine knL (by decide) hl rfl fun v hv=>?_;obtain rfl:=Ms.1 hv;simp only [Ar,Ab,Ah];refine ⟨fun _=>hk _,fun h=>?_⟩
 have:=Ec k t 400 (by decide)
 rw [this] at h;split at h<;>omega
end
theorem Wp{k:Nat}{t:Tr k}{W:World}{v:VV}(h:CZ W k v t)(hbig:¬ CE k t≤400):Calls Tp 60 #[.agg ⟨fV v⟩] W fun e W'=>∃ r∈[Value.bool false],e=.returned r∧Low W W':=by
 cases k with
 |zero=>cases h
 |succ k=>
  have h0:=h;obtain ⟨keys,Ka,l,La,hk,hl,hlen,hch,hsl⟩:=KV h;obtain ⟨L,v',l',hL,hA,hv',hll,hvals,hrd⟩:=G0 (P:=Tp) hk hl hsl 0 0;have hg:=Qd;have hmax:Ao=4194304:=rfl;have hkk:Tp.globals.size+L.length+1≤Ao:=by omega
  refine FL (args:=[.agg ⟨fV v'⟩]) hkk (fun r hr=>.inr ⟨_,Ms.1 hr⟩) hA (.cons (.agg hv'.R7) .nil) ?_;exact Adt (t:=t) (E8 QQ hkk) (by show Tp.globals.size+L.length+1+5<Ao;omega) hbig (J4 (n:=400) (by decide) hv' h0 fun W' v2 ht=>KP _ t W' v2 ht 400 (by omega)) fun A'=>by simp
def OkD(W:World)(v:VV):Prop:=∃ k t,CW W (k+1) v t∧QR (k+1) t
theorem OkD.okV{W:World}{v:VV}(h:OkD W v):OkV W v:=by
 obtain ⟨k,t,h,_⟩:=h;exact ⟨k+1,_,h.form⟩
theorem Abc{W:World}{m0:Inj Tp}{x' x:VV}(hW:Go.Abs.Holds W EO)(hx:Cw m0 x' x)(h:OkD W x):VK2 (szV W m0) W m0 x':=by
 obtain ⟨k,t,ht,hn⟩:=h;by_cases hsz:Bl (k+1) t≤400
 ·refine .inl ⟨fun key dur red pid=>?_,AhQ hx ⟨_,_,ht.form⟩⟩;obtain ⟨h1,h2⟩:=Aef (x':=⟨0,key,dur,red,pid,x',.empty⟩) hW hx ht hn hsz;exact ⟨(⟨⟨@ite _ (Ju ⟨0,key,dur,red,pid,x',.empty⟩ k t) (Classical.propDecidable _) (QP ⟨0,key,dur,red,pid,x',.empty⟩ k t) []⟩⟩,NY ⟨0,key,dur,red,pid,x',.empty⟩ k t),h1,h2⟩
 ·refine .inr ⟨fun e=>absurd e (show (60:Nat)≠C3 by decide),fun _ m args' W' hle hb ha=>?_⟩;cases ha with
  |cons h1 h2=>
   cases h2;obtain ⟨y',rfl,hs⟩:=hx.back hle h1;exact Wp ((CW.grow hb _ x t ht).same hs).form hsz
end Go.Proofs.YtdpdajpiadohjaaGreatDoor
namespace Go.Proofs.YtdpdajpiadohjaaGreatDoor
open Go Go.Abs Go.ChangeShapes Go.WideShapes Go.ChangeAt Go.RowKit Go.Joins Go.Deep
theorem Tryz.cells38:Tp.cellsOf 38=1:=by kernel_rfl
theorem Tryz.cells39:Tp.cellsOf 39=1:=by kernel_rfl
theorem Tryz.cells41:Tp.cellsOf 41=2:=by kernel_rfl
theorem Tryz.cells97:Tp.cellsOf 97=1:=by kernel_rfl
theorem Tryz.cells98:Tp.cellsOf 98=1:=by kernel_rfl
theorem Tryz.cells100:Tp.cellsOf 100=7:=by kernel_rfl
theorem Tryz.cells129:Tp.cellsOf 129=5:=by kernel_rfl
def Adc(W:World)(q:QV):Prop:=Bm q.name<9223372036854775808∧∃ l La,Bb W fM q.ms.val l La∧∀ m∈l,OkD W m.app
def Ade(W:World)(b:BV):Prop:=(∃ l La,Bb W fU b.ps.val l La∧∀ u∈l,Bm u.queue<9223372036854775808∧OkD W u.m.app)∧∃ l La,Bb W fF b.ts.val l La∧∀ r∈l,Bm r.queue<9223372036854775808
def Adb(W:World)(s:SV):Prop:=(∃ l La,Bb W fQ s.qs.val l La∧∀ q∈l,Adc W q)∧(∃ l La,Bb W fB s.bs.val l La∧∀ b∈l,Ade W b)∧∃ l La,Bb W fH s.hs.val l La
def Ada(W:World)(t:TV):Prop:=(∃ l La,Bb W fR t.r.val l La)∧∃ l La,Bb W fA t.a.val l La
section
variable {H:Type} {enc:TypeId × Value→H} {w:World} {q:Nat}
theorem VB:∀ (m:Nat) {q:Nat} {cs:List Value} {y:DataW H × List MemPlace},q≤2*m→DataW.trod enc Tp w 0 (fun _=>true) true q 80 cs=some y→∃ v:VV,cs=fV v∧∃ t:DT m,CW w m v t∧QR m t
 |0,q,cs,y,hq,h=>by
  obtain ⟨xs,n,hn,_⟩:=DataW.trod_struct Tryz.underlying80 h;omega
 |m+1,q,cs,y,hq,h=>by
  obtain ⟨xs,n,hn,_,hl,hlen,hg⟩:=DataW.trod_struct Tryz.underlying80 h;have hl:cs.length=5:=hl.trans Tryz.cells80
  match cs,hl,xs,hlen with
  |[c0,c1,c2,c3,c4],_,[y0,y1,y2,y3,y4],_=>
   have g0:DataW.trod enc Tp w 0 (fun _=>true) true n 76 [c0]=some y0:=by simpa [Tryz.cells76] using hg 0 _ rfl
   have g1:DataW.trod enc Tp w 0 (fun _=>true) true n 32 [c1]=some y1:=by simpa [Tryz.cells32] using hg 1 _ rfl
   have g2:DataW.trod enc Tp w 0 (fun _=>true) true n 9 [c2]=some y2:=by simpa [Tryz.cells9] using hg 2 _ rfl
   have g3:DataW.trod enc Tp w 0 (fun _=>true) true n 77 [c3]=some y3:=by simpa [Tryz.cells77] using hg 3 _ rfl
   have g4:DataW.trod enc Tp w 0 (fun _=>true) true n 78 [c4]=some y4:=by simpa [Tryz.cells78] using hg 4 _ rfl
   obtain ⟨k0,rfl,_⟩:=C5 Tryz.underlying76 rfl g0;obtain ⟨n0,rfl,hn0⟩:=C5 Tryz.underlying32 rfl g1;obtain ⟨s0,rfl,_⟩:=D2 g2;obtain ⟨s3,keys,Ka,e3,hk,_⟩:=DQ (f:=fT) (ok:=fun _=>True) .empty Tryz.underlying77 (by rw [Tryz.cells9];decide) (fun f=>by rw [Tryz.cells9];rfl) (fun q cs y hy=>by
    obtain ⟨g,rfl,_⟩:=DataW.trod_string Tryz.underlying9 hy;exact ⟨g,rfl,trivial⟩) g3
   obtain ⟨s4,l,La,e4,hll,hw⟩:=Ua (f:=fV) (ok:=fun v=>∃ t:DT m,CW w m v t∧QR m t) ⟨0,0,.empty,none,0,0,none,0,0⟩ Tryz.underlying78 (by rw [Tryz.cells80];decide) (fun f=>by rw [Tryz.cells80];rfl) (fun q' hq' cs y hy=>VB m (by omega) hy) g4;obtain rfl:c3=s3:=by simpa using e3
   obtain rfl:c4=s4:=by simpa using e4
   obtain ⟨p3,rfl⟩:=Jz hk;obtain ⟨p4,rfl⟩:=Jz hll;obtain ⟨ts,h1,h2⟩:=Tn (R:=fun x (t:DT m)=>CW w m x t∧QR m t) l hw;have hmax:(n0:Int)≤18446744073709551615:=hn0;refine ⟨⟨k0,n0,s0,p3.o,p3.len,p3.cap,p4.o,p4.len,p4.cap⟩,rfl,(⟨k0,n0,s0,keys⟩,ts),⟨⟨rfl,rfl,rfl⟩,⟨Ka,hk⟩,l,La,hll,h1,fun i x y hx hy=>(h2 i x y hx hy).1⟩,?_,fun y hy=>?_⟩
   ·show n0<18446744073709551616;omega
   ·obtain ⟨i,hi⟩:=List.mem_iff_getElem?.1 hy;have hi:ts[i]? =some y:=hi;have hil:=(Gs.1 hi).1;obtain ⟨x,hx⟩:∃ x,l[i]? =some x:=⟨_,Ge (by omega)⟩;exact (h2 i x y hx hi).2
theorem X9{cs:List Value}{y:DataW H × List MemPlace}(h:DataW.trod enc Tp w 0 (fun _=>true) true q 80 cs=some y):∃ v:VV,cs=fV v∧OkD w v:=by
 obtain ⟨v,rfl,t,ht,hn⟩:=VB (q+1) (by omega) h;exact ⟨v,rfl,q,t,ht,hn⟩
theorem Mp{cs:List Value}{y:DataW H × List MemPlace}(h:DataW.trod enc Tp w 0 (fun _=>true) true q 82 cs=some y):∃ (key:ByteArray) (dur red:Bool) (pid:ByteArray) (app:VV),cs=[.string key,.bool dur,.bool red,.string pid]++fV app∧OkD w app:=by
 obtain ⟨xs,n,_,_,hl,hlen,hg⟩:=DataW.trod_struct Tryz.underlying82 h;have hl:cs.length=9:=hl.trans Tryz.cells82
 match cs,hl,xs,hlen with
 |[c0,c1,c2,c3,c4,c5,c6,c7,c8],_,[y0,y1,y2,y3,y4],_=>
  have g0:DataW.trod enc Tp w 0 (fun _=>true) true n 9 [c0]=some y0:=by simpa [Tryz.cells9] using hg 0 _ rfl
  have g1:DataW.trod enc Tp w 0 (fun _=>true) true n 4 [c1]=some y1:=by simpa [Tryz.cells4] using hg 1 _ rfl
  have g2:DataW.trod enc Tp w 0 (fun _=>true) true n 4 [c2]=some y2:=by simpa [Tryz.cells4] using hg 2 _ rfl
  have g3:DataW.trod enc Tp w 0 (fun _=>true) true n 9 [c3]=some y3:=by simpa [Tryz.cells9] using hg 3 _ rfl
  have g4:DataW.trod enc Tp w 0 (fun _=>true) true n 80 [c4,c5,c6,c7,c8]=some y4:=by simpa [Tryz.cells80] using hg 4 _ rfl
  obtain ⟨key,rfl,_⟩:=D2 g0;obtain ⟨dur,rfl⟩:=I5 g1;obtain ⟨red,rfl⟩:=I5 g2;obtain ⟨pid,rfl,_⟩:=D2 g3;obtain ⟨app,ha,hok⟩:=X9 g4;exact ⟨key,dur,red,pid,app,by rw [← ha];rfl,hok⟩
theorem WB{cs:List Value}{y:DataW H × List MemPlace}(h:DataW.trod enc Tp w 0 (fun _=>true) true q 84 cs=some y):∃ m:MV,cs=fM m∧OkD w m.app:=by
 obtain ⟨xs,n,_,_,hl,hlen,hg⟩:=DataW.trod_struct Tryz.underlying84 h;have hl:cs.length=11:=hl.trans Tryz.cells84
 match cs,hl,xs,hlen with
 |[c0,c1,c2,c3,c4,c5,c6,c7,c8,c9,c10],_,[y0,y1,y2],_=>
  have g0:DataW.trod enc Tp w 0 (fun _=>true) true n 32 [c0]=some y0:=by simpa [Tryz.cells32] using hg 0 _ rfl
  have g1:DataW.trod enc Tp w 0 (fun _=>true) true n 82 [c1,c2,c3,c4,c5,c6,c7,c8,c9]=some y1:=by simpa [Tryz.cells82] using hg 1 _ rfl
  have g2:DataW.trod enc Tp w 0 (fun _=>true) true n 9 [c10]=some y2:=by simpa [Tryz.cells9] using hg 2 _ rfl
  obtain ⟨id,rfl,_⟩:=C5 Tryz.underlying32 rfl g0;obtain ⟨key,dur,red,pid,app,ha,hok⟩:=Mp g1;obtain ⟨body,rfl,_⟩:=D2 g2;refine ⟨⟨id,key,dur,red,pid,app,body⟩,?_,hok⟩;show _=.int .u64 (id:Int)::((([.string key,.bool dur,.bool red,.string pid]++fV app:List Value))++[.string body]);rw [← ha];rfl
theorem WA{cs:List Value}{y:DataW H × List MemPlace}(h:DataW.trod enc Tp w 0 (fun _=>true) true q 134 cs=some y):∃ u:UV,cs=fU u∧Bm u.queue<9223372036854775808∧OkD w u.m.app:=by
 obtain ⟨xs,n,_,_,hl,hlen,hg⟩:=DataW.trod_struct Tryz.underlying134 h;have hl:cs.length=12:=hl.trans Tryz.cells134
 match cs,hl,xs,hlen with
 |[cq,c0,c1,c2,c3,c4,c5,c6,c7,c8,c9,c10],_,[yq,y0,y1,y2],_=>
  have gq:DataW.trod enc Tp w 0 (fun _=>true) true n 9 [cq]=some yq:=by simpa [Tryz.cells9] using hg 0 _ rfl
  have g0:DataW.trod enc Tp w 0 (fun _=>true) true n 32 [c0]=some y0:=by simpa [Tryz.cells32] using hg 1 _ rfl
  have g1:DataW.trod enc Tp w 0 (fun _=>true) true n 82 [c1,c2,c3,c4,c5,c6,c7,c8,c9]=some y1:=by simpa [Tryz.cells82] using hg 2 _ rfl
  have g2:DataW.trod enc Tp w 0 (fun _=>true) true n 9 [c10]=some y2:=by simpa [Tryz.cells9] using hg 3 _ rfl
  obtain ⟨queue,rfl,hqs⟩:=D2 gq;obtain ⟨id,rfl,_⟩:=C5 Tryz.underlying32 rfl g0;obtain ⟨key,dur,red,pid,app,ha,hok⟩:=Mp g1;obtain ⟨body,rfl,_⟩:=D2 g2;refine ⟨⟨queue,⟨id,key,dur,red,pid,app,body⟩⟩,?_,hqs,hok⟩;show _=.string queue:: .int .u64 (id:Int)::((([.string key,.bool dur,.bool red,.string pid]++fV app:List Value))++[.string body]);rw [← ha];rfl
theorem Wz{cs:List Value}{y:DataW H × List MemPlace}(h:DataW.trod enc Tp w 0 (fun _=>true) true q 120 cs=some y):∃ u:FV,cs=fF u∧Bm u.queue<9223372036854775808:=by
 obtain ⟨xs,n,_,_,hl,hlen,hg⟩:=DataW.trod_struct Tryz.underlying120 h;have hl:cs.length=2:=hl.trans Tryz.cells120
 match cs,hl,xs,hlen with
 |[cq,c0],_,[yq,y0],_=>
  have gq:DataW.trod enc Tp w 0 (fun _=>true) true n 9 [cq]=some yq:=by simpa [Tryz.cells9] using hg 0 _ rfl
  have g0:DataW.trod enc Tp w 0 (fun _=>true) true n 32 [c0]=some y0:=by simpa [Tryz.cells32] using hg 1 _ rfl
  obtain ⟨queue,rfl,hqs⟩:=D2 gq;obtain ⟨id,rfl,_⟩:=C5 Tryz.underlying32 rfl g0;exact ⟨⟨queue,id⟩,rfl,hqs⟩
theorem WC{cs:List Value}{y:DataW H × List MemPlace}(h:DataW.trod enc Tp w 0 (fun _=>true) true q 102 cs=some y):∃ u:HV,cs=fH u:=by
 obtain ⟨xs,n,_,_,hl,hlen,hg⟩:=DataW.trod_struct Tryz.underlying102 h;have hl:cs.length=4:=hl.trans Tryz.cells102
 match cs,hl,xs,hlen with
 |[c0,c1,c2,c3],_,[y0,y1],_=>
  have g0:DataW.trod enc Tp w 0 (fun _=>true) true n 46 [c0,c1,c2]=some y0:=by simpa [Tryz.cells46] using hg 0 _ rfl
  have g1:DataW.trod enc Tp w 0 (fun _=>true) true n 4 [c3]=some y1:=by simpa [Tryz.cells4] using hg 1 _ rfl
  obtain ⟨f,g,b,rfl,rfl,rfl,_⟩:=Kr g0;obtain ⟨c,rfl⟩:=I5 g1;exact ⟨⟨⟨f,g,b⟩,c⟩,rfl⟩
theorem X8{cs:List Value}{y:DataW H × List MemPlace}(h:DataW.trod enc Tp w 0 (fun _=>true) true q 100 cs=some y):∃ u:TR,cs=fR u:=by
 obtain ⟨xs,n,_,_,hl,hlen,hg⟩:=DataW.trod_struct Tryz.underlying100 h;have hl:cs.length=7:=hl.trans Tryz.cells100
 match cs,hl,xs,hlen with
 |[c0,c1,c2,c3,c4,c5,c6],_,[y0,y1,y2,y3,y4],_=>
  have g0:DataW.trod enc Tp w 0 (fun _=>true) true n 46 [c0,c1,c2]=some y0:=by simpa [Tryz.cells46] using hg 0 _ rfl
  have g1:DataW.trod enc Tp w 0 (fun _=>true) true n 97 [c3]=some y1:=by simpa [Tryz.cells97] using hg 1 _ rfl
  have g2:DataW.trod enc Tp w 0 (fun _=>true) true n 98 [c4]=some y2:=by simpa [Tryz.cells98] using hg 2 _ rfl
  have g3:DataW.trod enc Tp w 0 (fun _=>true) true n 44 [c5]=some y3:=by simpa [Tryz.cells44] using hg 3 _ rfl
  have g4:DataW.trod enc Tp w 0 (fun _=>true) true n 44 [c6]=some y4:=by simpa [Tryz.cells44] using hg 4 _ rfl
  obtain ⟨f,g,b,rfl,rfl,rfl,_⟩:=Kr g0;obtain ⟨s,rfl,_⟩:=C5 Tryz.underlying97 rfl g1;obtain ⟨y,rfl,_⟩:=C5 Tryz.underlying98 rfl g2;obtain ⟨t,rfl,_⟩:=C5 Tryz.underlying44 rfl g3;obtain ⟨l,rfl,_⟩:=C5 Tryz.underlying44 rfl g4;exact ⟨⟨⟨f,g,b⟩,s,y,t,l⟩,rfl⟩
theorem Ub{cs:List Value}{y:DataW H × List MemPlace}(h:DataW.trod enc Tp w 0 (fun _=>true) true q 129 cs=some y):∃ u:AV,cs=fA u:=by
 obtain ⟨xs,n,_,_,hl,hlen,hg⟩:=DataW.trod_struct Tryz.underlying129 h;have hl:cs.length=5:=hl.trans Tryz.cells129
 match cs,hl,xs,hlen with
 |[c0,c1,c2,c3,c4],_,[y0,y1,y2],_=>
  have g0:DataW.trod enc Tp w 0 (fun _=>true) true n 32 [c0]=some y0:=by simpa [Tryz.cells32] using hg 0 _ rfl
  have g1:DataW.trod enc Tp w 0 (fun _=>true) true n 46 [c1,c2,c3]=some y1:=by simpa [Tryz.cells46] using hg 1 _ rfl
  have g2:DataW.trod enc Tp w 0 (fun _=>true) true n 4 [c4]=some y2:=by simpa [Tryz.cells4] using hg 2 _ rfl
  obtain ⟨s,rfl,_⟩:=C5 Tryz.underlying32 rfl g0;obtain ⟨f,g,b,rfl,rfl,rfl,_⟩:=Kr g1;obtain ⟨c,rfl⟩:=I5 g2;exact ⟨⟨s,⟨f,g,b⟩,c⟩,rfl⟩
theorem Sb{cs:List Value}{y:DataW H × List MemPlace}(h:DataW.trod enc Tp w 0 (fun _=>true) true q 75 cs=some y):∃ u:QV,cs=fQ u∧Adc w u:=by
 obtain ⟨xs,n,_,_,hl,hlen,hg⟩:=DataW.trod_struct Tryz.underlying75 h;have hl:cs.length=3:=hl.trans Tryz.cells75
 match cs,hl,xs,hlen with
 |[c0,c1,c2],_,[y0,y1,y2],_=>
  have g0:DataW.trod enc Tp w 0 (fun _=>true) true n 9 [c0]=some y0:=by simpa [Tryz.cells9] using hg 0 _ rfl
  have g1:DataW.trod enc Tp w 0 (fun _=>true) true n 32 [c1]=some y1:=by simpa [Tryz.cells32] using hg 1 _ rfl
  have g2:DataW.trod enc Tp w 0 (fun _=>true) true n 73 [c2]=some y2:=by simpa [Tryz.cells73] using hg 2 _ rfl
  obtain ⟨name,rfl,hns⟩:=D2 g0;obtain ⟨lim,rfl,_⟩:=C5 Tryz.underlying32 rfl g1;obtain ⟨s4,l,La,e4,hll,hw⟩:=DQ (f:=fM) (ok:=fun m=>OkD w m.app) ⟨0,.empty,false,false,.empty,⟨0,0,.empty,none,0,0,none,0,0⟩,.empty⟩ Tryz.underlying73 (by rw [Tryz.cells84];decide) (fun f=>by rw [Tryz.cells84];rfl) (fun q' cs y hy=>WB hy) g2;obtain rfl:c2=s4:=by simpa using e4
  obtain ⟨p,rfl⟩:=Jz hll;exact ⟨⟨name,lim,p⟩,rfl,hns,l,La,hll,hw⟩
theorem QK{cs:List Value}{y:DataW H × List MemPlace}(h:DataW.trod enc Tp w 0 (fun _=>true) true q 89 cs=some y):∃ u:BV,cs=fB u∧Ade w u:=by
 obtain ⟨xs,n,_,_,hl,hlen,hg⟩:=DataW.trod_struct Tryz.underlying89 h;have hl:cs.length=5:=hl.trans Tryz.cells89
 match cs,hl,xs,hlen with
 |[c0,c1,c2,c3,c4],_,[y0,y1,y2],_=>
  have g0:DataW.trod enc Tp w 0 (fun _=>true) true n 46 [c0,c1,c2]=some y0:=by simpa [Tryz.cells46] using hg 0 _ rfl
  have g1:DataW.trod enc Tp w 0 (fun _=>true) true n 86 [c3]=some y1:=by simpa [Tryz.cells86] using hg 1 _ rfl
  have g2:DataW.trod enc Tp w 0 (fun _=>true) true n 87 [c4]=some y2:=by simpa [Tryz.cells87] using hg 2 _ rfl
  obtain ⟨f,g,b,rfl,rfl,rfl,w1,w2⟩:=Kr g0;obtain ⟨s4,l,La,e4,hll,hw⟩:=DQ (f:=fU) (ok:=fun m=>Bm m.queue<9223372036854775808∧OkD w m.m.app) ⟨.empty,0,.empty,false,false,.empty,⟨0,0,.empty,none,0,0,none,0,0⟩,.empty⟩ Tryz.underlying86 (by rw [Tryz.cells134];decide) (fun f=>by rw [Tryz.cells134];rfl) (fun q' cs y hy=>WA hy) g1;obtain ⟨s5,l2,La2,e5,hll2,hw2⟩:=DQ (f:=fF) (ok:=fun r=>Bm r.queue<9223372036854775808) ⟨.empty,0⟩ Tryz.underlying87 (by rw [Tryz.cells120];decide) (fun f=>by rw [Tryz.cells120];rfl) (fun q' cs y hy=>by
   exact Wz hy) g2
  obtain rfl:c3=s4:=by simpa using e4
  obtain rfl:c4=s5:=by simpa using e5
  obtain ⟨p,rfl⟩:=Jz hll;obtain ⟨p2,rfl⟩:=Jz hll2;exact ⟨⟨⟨f,g,b⟩,p,p2⟩,rfl,⟨l,La,hll,hw⟩,l2,La2,hll2,hw2⟩
theorem Sa{cs:List Value}{y:DataW H × List MemPlace}(h:DataW.trod enc Tp w 0 (fun _=>true) true q 37 cs=some y):∃ u:SV,cs=fS u∧Adb w u:=by
 obtain ⟨xs,n,_,_,hl,hlen,hg⟩:=DataW.trod_struct Tryz.underlying37 h;have hl:cs.length=4:=hl.trans Tryz.cells37
 match cs,hl,xs,hlen with
 |[c0,c1,c2,c3],_,[y0,y1,y2,y3],_=>
  have g0:DataW.trod enc Tp w 0 (fun _=>true) true n 32 [c0]=some y0:=by simpa [Tryz.cells32] using hg 0 _ rfl
  have g1:DataW.trod enc Tp w 0 (fun _=>true) true n 33 [c1]=some y1:=by simpa [Tryz.cells33] using hg 1 _ rfl
  have g2:DataW.trod enc Tp w 0 (fun _=>true) true n 34 [c2]=some y2:=by simpa [Tryz.cells34] using hg 2 _ rfl
  have g3:DataW.trod enc Tp w 0 (fun _=>true) true n 35 [c3]=some y3:=by simpa [Tryz.cells35] using hg 3 _ rfl
  obtain ⟨next,rfl,_⟩:=C5 Tryz.underlying32 rfl g0;obtain ⟨s4,l,La,e4,hll,hw⟩:=DQ (f:=fQ) (ok:=Adc w) ⟨.empty,0,none,0,0⟩ Tryz.underlying33 (by rw [Tryz.cells75];decide) (fun f=>by rw [Tryz.cells75];rfl) (fun q' cs y hy=>Sb hy) g1;obtain ⟨s5,l2,La2,e5,hll2,hw2⟩:=DQ (f:=fB) (ok:=Ade w) ⟨⟨0,.empty,.empty⟩,⟨none,0,0⟩,none,0,0⟩ Tryz.underlying34 (by rw [Tryz.cells89];decide) (fun f=>by rw [Tryz.cells89];rfl) (fun q' cs y hy=>QK hy) g2;obtain ⟨s6,l3,La3,e6,hll3,_⟩:=DQ (f:=fH) (ok:=fun _=>True) ⟨⟨0,.empty,.empty⟩,false⟩ Tryz.underlying35 (by rw [Tryz.cells102];decide) (fun f=>by rw [Tryz.cells102];rfl) (fun q' cs y hy=>by
   obtain ⟨u,hu⟩:=WC hy;exact ⟨u,hu,trivial⟩) g3
  obtain rfl:c1=s4:=by simpa using e4
  obtain rfl:c2=s5:=by simpa using e5
  obtain rfl:c3=s6:=by simpa using e6
  obtain ⟨p,rfl⟩:=Jz hll;obtain ⟨p2,rfl⟩:=Jz hll2;obtain ⟨p3,rfl⟩:=Jz hll3;exact ⟨⟨next,p,p2,p3⟩,rfl,⟨l,La,hll,hw⟩,⟨l2,La2,hll2,hw2⟩,l3,La3,hll3⟩
theorem T9{cs:List Value}{y:DataW H × List MemPlace}(h:DataW.trod enc Tp w 0 (fun _=>true) true q 41 cs=some y):∃ u:TV,cs=fTb u∧Ada w u:=by
 obtain ⟨xs,n,_,_,hl,hlen,hg⟩:=DataW.trod_struct Tryz.underlying41 h;have hl:cs.length=2:=hl.trans Tryz.cells41
 match cs,hl,xs,hlen with
 |[c0,c1],_,[y0,y1],_=>
  have g0:DataW.trod enc Tp w 0 (fun _=>true) true n 38 [c0]=some y0:=by simpa [Tryz.cells38] using hg 0 _ rfl
  have g1:DataW.trod enc Tp w 0 (fun _=>true) true n 39 [c1]=some y1:=by simpa [Tryz.cells39] using hg 1 _ rfl
  obtain ⟨s4,l,La,e4,hll,_⟩:=DQ (f:=fR) (ok:=fun _=>True) ⟨⟨0,.empty,.empty⟩,0,0,0,0⟩ Tryz.underlying38 (by rw [Tryz.cells100];decide) (fun f=>by rw [Tryz.cells100];rfl) (fun q' cs y hy=>by
   obtain ⟨u,hu⟩:=X8 hy;exact ⟨u,hu,trivial⟩) g0
  obtain ⟨s5,l2,La2,e5,hll2,_⟩:=DQ (f:=fA) (ok:=fun _=>True) ⟨0,⟨0,.empty,.empty⟩,false⟩ Tryz.underlying39 (by rw [Tryz.cells129];decide) (fun f=>by rw [Tryz.cells129];rfl) (fun q' cs y hy=>by
   obtain ⟨u,hu⟩:=Ub hy;exact ⟨u,hu,trivial⟩) g1
  obtain rfl:c0=s4:=by simpa using e4
  obtain rfl:c1=s5:=by simpa using e5
  obtain ⟨p,rfl⟩:=Jz hll;obtain ⟨p2,rfl⟩:=Jz hll2;exact ⟨⟨p,p2⟩,rfl,⟨l,La,hll⟩,l2,La2,hll2⟩
end
structure SE where
 s:SV
 t:TV
 qs:List QV
 ms:Nat→List MV
 bs:List BV
 us:Nat→List UV
 fs:Nat→List FV
 hs:List HV
 rs:List TR
 asl:List AV
structure SE.Ok (W:World) (d:SE):Prop where
 q:∃ La,Bb W fQ d.s.qs.val d.qs La
 nq:∀ q∈d.qs,Bm q.name<9223372036854775808
 m:∀ (k:Nat) q,d.qs[k]? =some q→(∃ La,Bb W fM q.ms.val (d.ms k) La)∧∀ y∈d.ms k,OkD W y.app
 m0:∀ k:Nat,d.qs[k]? =none→d.ms k=[]
 b:∃ La,Bb W fB d.s.bs.val d.bs La
 u:∀ (k:Nat) b,d.bs[k]? =some b→(∃ La,Bb W fU b.ps.val (d.us k) La)∧∀ y∈d.us k,Bm y.queue<9223372036854775808∧OkD W y.m.app
 u0:∀ k:Nat,d.bs[k]? =none→d.us k=[]
 f:∀ (k:Nat) b,d.bs[k]? =some b→(∃ La,Bb W fF b.ts.val (d.fs k) La)∧∀ y∈d.fs k,Bm y.queue<9223372036854775808
 f0:∀ k:Nat,d.bs[k]? =none→d.fs k=[]
 h:∃ La,Bb W fH d.s.hs.val d.hs La
 r:∃ La,Bb W fR d.t.r.val d.rs La
 a:∃ La,Bb W fA d.t.a.val d.asl La
theorem Aeb{W:World}{s:SV}{t:TV}(hs:Adb W s)(ht:Ada W t):∃ d:SE,d.s=s∧d.t=t∧d.Ok W:=by
 obtain ⟨⟨qs,Lq,q1,q2⟩,⟨bs,Lb,b1,b2⟩,hh,Lh,h1⟩:=hs;obtain ⟨⟨rs,Lr,r1⟩,asl,La,a1⟩:=ht;obtain ⟨ms,m1,m0⟩:=pick (R:=fun q b=>(∃ La,Bb W fM (QV.ms q).val b La)∧∀ y∈b,OkD W y.app) qs fun q h=>by
  obtain ⟨_,b,La,h1,h2⟩:=q2 q h;exact ⟨b,⟨La,h1⟩,h2⟩
 obtain ⟨us,u1,u0⟩:=pick (R:=fun q b=>(∃ La,Bb W fU (BV.ps q).val b La)∧∀ y∈b,Bm y.queue<9223372036854775808∧OkD W y.m.app) bs fun q h=>by
  obtain ⟨⟨b,La,h1,h2⟩,_⟩:=b2 q h;exact ⟨b,⟨La,h1⟩,h2⟩
 obtain ⟨fs,f1,f0⟩:=pick (R:=fun q b=>(∃ La,Bb W fF (BV.ts q).val b La)∧∀ y∈b,Bm y.queue<9223372036854775808) bs fun q h=>by
  obtain ⟨_,b,La,h1,h2⟩:=b2 q h;exact ⟨b,⟨La,h1⟩,h2⟩
 exact ⟨⟨s,t,qs,ms,bs,us,fs,hh,rs,asl⟩,rfl,rfl,⟨Lq,q1⟩,fun q h=>(q2 q h).1,m1,m0,⟨Lb,b1⟩,u1,u0,f1,f0,⟨Lh,h1⟩,⟨Lr,r1⟩,⟨La,a1⟩⟩
def cy(t k j:Nat):Nat:=(t*12+k)*40+j
theorem Y7{t k j:Nat}(hk:k<12)(hj:j<40):cy t k j/480=t∧cy t k j/40%12=k∧cy t k j%40=j:=by
 unfold cy;refine ⟨by omega,by omega,by omega⟩
theorem Abh{t k j:Nat}(ht:t<12)(hk:k<12)(hj:j<40):cy t k j<5760:=by
 unfold cy;omega
def syT(d:SE)(t k j:Nat):SL:=
 match t with
 |0=>d.t.r
 |1=>d.s.qs
 |2=>d.s.bs
 |3=>d.s.hs
 |4=>oSl QV.ms d.qs[k]?
 |5=>oSl (fun m=>vks m.app) (d.ms k)[j]?
 |6=>oSl (fun m=>vls m.app) (d.ms k)[j]?
 |7=>oSl BV.ps d.bs[k]?
 |8=>oSl BV.ts d.bs[k]?
 |9=>oSl (fun u=>vks u.m.app) (d.us k)[j]?
 |10=>oSl (fun u=>vls u.m.app) (d.us k)[j]?
 |_=>d.t.a
def sy(d:SE)(x:Nat):SL:=syT d (x/480) (x/40%12) (x%40)
theorem Ad5(d:SE){t k j:Nat}(hk:k<12)(hj:j<40):sy d (cy t k j)=syT d t k j:=by
 obtain ⟨h1,h2,h3⟩:=Y7 (t:=t) hk hj;unfold sy;rw [h1,h2,h3]
def ply(d:SE):List (Nat × Nat):=(List.range 5760).map fun x=>placeOf (sy d x).val
theorem D4(d:SE){t k j:Nat}(ht:t<12)(hk:k<12)(hj:j<40):(ply d)[cy t k j]? =some (placeOf (syT d t k j).val):=by
 unfold ply;rw [List.getElem?_map,List.getElem?_range (Abh ht hk hj),Option.map_some,Ad5 d hk hj]
noncomputable def ySt(s:SV):SV:=⟨s.next,s.qs.ab (cy 1 0 0),s.bs.ab (cy 2 0 0),s.hs.ab (cy 3 0 0)⟩
noncomputable def yT(t:TV):TV:=⟨t.r.ab (cy 0 0 0),t.a.ab (cy 11 0 0)⟩
noncomputable def yQ(k:Nat)(q:QV):QV:=⟨q.name,q.limit,q.ms.ab (cy 4 k 0)⟩
noncomputable def yM(k j:Nat)(m:MV):MV:=⟨m.id,m.key,m.dur,m.red,m.pid,aV (cy 5 k j) (cy 6 k j) m.app,m.body⟩
noncomputable def yB(k:Nat)(b:BV):BV:=⟨b.x,b.ps.ab (cy 7 k 0),b.ts.ab (cy 8 k 0)⟩
noncomputable def yU(k j:Nat)(u:UV):UV:=⟨u.queue,u.m.id,u.m.key,u.m.dur,u.m.red,u.m.pid,aV (cy 9 k j) (cy 10 k j) u.m.app,u.m.body⟩
noncomputable def kQ(d:SE):List QV:=HJ 12 yQ d.qs
noncomputable def kM(d:SE)(k:Nat):List MV:=if k<12 then HJ 40 (yM k) (d.ms k) else []
noncomputable def kBr(d:SE):List BV:=HJ 12 yB d.bs
noncomputable def kU(d:SE)(k:Nat):List UV:=if k<12 then HJ 20 (yU k) (d.us k) else []
noncomputable def kFs(d:SE)(k:Nat):List FV:=if k<12 then HJ 20 (fun _ x=>x) (d.fs k) else []
noncomputable def kH(d:SE):List HV:=HJ 40 (fun _ x=>x) d.hs
noncomputable def kRs(d:SE):List TR:=HJ 20 (fun _ x=>x) d.rs
noncomputable def kAs(d:SE):List AV:=HJ 20 (fun _ x=>x) d.asl
noncomputable def yC(d:SE)(t k:Nat):List Value:=
 match t with
 |0=>flat fR (kRs d)
 |1=>flat fQ (kQ d)
 |2=>flat fB (kBr d)
 |3=>flat fH (kH d)
 |4=>flat fM (kM d k)
 |7=>flat fU (kU d k)
 |8=>flat fF (kFs d k)
 |11=>flat fA (kAs d)
 |_=>[]
noncomputable def yCx(d:SE)(x:Nat):List Value:=yC d (x/480) (x/40%12)
theorem Adk(d:SE){t k j:Nat}(hk:k<12)(hj:j<40):yCx d (cy t k j)=yC d t k:=by
 obtain ⟨h1,h2,_⟩:=Y7 (t:=t) hk hj;unfold yCx;rw [h1,h2]
section
variable {W:World} {d:SE}
theorem Xu{a b:Nat}{v:VV}(h:OkD W v)(ha:(ply d)[a]? =some (placeOf (vks v).val))(hb:(ply d)[b]? =some (placeOf (vls v).val)):Cw (mA Tp (ply d)) (aV a b v) v:=by
 obtain ⟨h1,h2⟩:=Un h.okV;obtain ⟨r1,c1⟩:=Fs h1 ha;obtain ⟨r2,c2⟩:=Fs h2 hb;exact ⟨rfl,rfl,rfl,r1,r2,c1,c2⟩
theorem Xt(h:d.Ok W)(k:Nat):∀ y∈d.ms k,OkD W y.app:=by
 intro y hy;cases hq:d.qs[k]? with
 |none=>rw [h.m0 k hq] at hy;cases hy
 |some q=>exact (h.m k q hq).2 y hy
theorem TK(h:d.Ok W)(k:Nat):∀ y∈d.us k,Bm y.queue<9223372036854775808∧OkD W y.m.app:=by
 intro y hy;cases hq:d.bs[k]? with
 |none=>rw [h.u0 k hq] at hy;cases hy
 |some q=>exact (h.u k q hq).2 y hy
theorem Abp(h:d.Ok W)(k:Nat):∀ y∈d.fs k,Bm y.queue<9223372036854775808:=by
 intro y hy;cases hq:d.bs[k]? with
 |none=>rw [h.f0 k hq] at hy;cases hy
 |some q=>exact (h.f k q hq).2 y hy
theorem Xz(h:d.Ok W){k j:Nat}{m:MV}(hk:k<12)(hj:j<40)(hm:(d.ms k)[j]? =some m):Cw (mA Tp (ply d)) (yM k j m).app m.app:=by
 refine Xu (Xt h k m (List.mem_of_getElem? hm)) ?_ ?_
 ·rw [D4 d (by omega) hk hj];show some (placeOf (oSl _ _).val)=_;rw [hm];rfl
 ·rw [D4 d (by omega) hk hj];show some (placeOf (oSl _ _).val)=_;rw [hm];rfl
theorem Xv(h:d.Ok W){k j:Nat}{m:UV}(hk:k<12)(hj:j<40)(hm:(d.us k)[j]? =some m):Cw (mA Tp (ply d)) (yU k j m).m.app m.m.app:=by
 refine Xu (TK h k m (List.mem_of_getElem? hm)).2 ?_ ?_
 ·rw [D4 d (by omega) hk hj];show some (placeOf (oSl _ _).val)=_;rw [hm];rfl
 ·rw [D4 d (by omega) hk hj];show some (placeOf (oSl _ _).val)=_;rw [hm];rfl
theorem Xx(h:d.Ok W):Ay (mA Tp (ply d)) (fS (ySt d.s)) (fS d.s):=by
 obtain ⟨La,h1⟩:=h.q;obtain ⟨La2,h2⟩:=h.b;obtain ⟨La3,h3⟩:=h.h;refine .cons (.int _ _) (.cons (Fs h1.isSlice ?_).1 (.cons (Fs h2.isSlice ?_).1 (.cons (Fs h3.isSlice ?_).1 .nil)))
 ·rw [D4 d (by omega) (by omega) (by omega)];rfl
 ·rw [D4 d (by omega) (by omega) (by omega)];rfl
 ·rw [D4 d (by omega) (by omega) (by omega)];rfl
theorem Xw(h:d.Ok W):Ay (mA Tp (ply d)) (fTb (yT d.t)) (fTb d.t):=by
 obtain ⟨La,h1⟩:=h.r;obtain ⟨La2,h2⟩:=h.a;refine .cons (Fs h1.isSlice ?_).1 (.cons (Fs h2.isSlice ?_).1 .nil)
 ·rw [D4 d (by omega) (by omega) (by omega)];rfl
 ·rw [D4 d (by omega) (by omega) (by omega)];rfl
theorem Xy(h:d.Ok W){k:Nat}{s:QV}(hk:k<12)(hs:d.qs[k]? =some s):Ay (mA Tp (ply d)) (fQ (yQ k s)) (fQ s):=by
 obtain ⟨⟨La,h1⟩,_⟩:=h.m k s hs;refine .cons (.string _) (.cons (.int _ _) (.cons (Fs h1.isSlice ?_).1 .nil));rw [D4 d (by omega) hk (by omega)];show some (placeOf (oSl _ _).val)=_;rw [hs];rfl
theorem XA(h:d.Ok W){k:Nat}{s:BV}(hk:k<12)(hs:d.bs[k]? =some s):Ay (mA Tp (ply d)) (fB (yB k s)) (fB s):=by
 obtain ⟨⟨La,h1⟩,_⟩:=h.u k s hs;obtain ⟨⟨La2,h2⟩,_⟩:=h.f k s hs;refine .cons (.int _ _) (.cons (.string _) (.cons (.string _) (.cons (Fs h1.isSlice ?_).1 (.cons (Fs h2.isSlice ?_).1 .nil))))
 ·rw [D4 d (by omega) hk (by omega)];show some (placeOf (oSl _ _).val)=_;rw [hs];rfl
 ·rw [D4 d (by omega) hk (by omega)];show some (placeOf (oSl _ _).val)=_;rw [hs];rfl
theorem XZ(h:d.Ok W):∀ x,x<5760→yCx d x≠[]→∃ cs' e fr,W.heap[(placeOf (sy d x).val).1]? =some (.cells cs' e fr)∧(placeOf (sy d x).val).2≤cs'.size∧∀ i v,(yCx d x)[i]? =some v→∃ w,cs'[(placeOf (sy d x).val).2+i]? =some w∧Az (mA Tp (ply d)) v w:=by
 intro x hx;unfold yCx sy;have hk:x/40%12<12:=by omega
 have ht:x/480<12:=by omega
 revert hk ht
 generalize x/480=t;generalize x/40%12=k;generalize x%40=j;intro hk ht hne
 match t,ht,hne with
 |0,_,hne=>
  obtain ⟨La,hs⟩:=h.r;exact GQ (n:=6) (l':=kRs d) (fun _=>rfl) hs (fun i p' hp=>by
   obtain ⟨y,h1,e1,h3⟩:=EA hp;subst e1;exact ⟨_,h1,.cons (.int _ _) (.cons (.string _) (.cons (.string _) (.cons (.int _ _) (.cons (.int _ _) (.cons (.int _ _) (.cons (.int _ _) .nil))))))⟩) hne
 |1,_,hne=>
  obtain ⟨La,hs⟩:=h.q;exact GQ (n:=2) (l':=kQ d) (fun _=>rfl) hs (fun i p' hp=>by
   obtain ⟨y,h1,rfl,h3⟩:=EA hp;exact ⟨y,h1,Xy h h3 h1⟩) hne
 |2,_,hne=>
  obtain ⟨La,hs⟩:=h.b;exact GQ (n:=4) (l':=kBr d) (fun _=>rfl) hs (fun i p' hp=>by
   obtain ⟨y,h1,rfl,h3⟩:=EA hp;exact ⟨y,h1,XA h h3 h1⟩) hne
 |3,_,hne=>
  obtain ⟨La,hs⟩:=h.h;exact GQ (n:=3) (l':=kH d) (fun _=>rfl) hs (fun i p' hp=>by
   obtain ⟨y,h1,e1,h3⟩:=EA hp;subst e1;exact ⟨_,h1,.cons (.int _ _) (.cons (.string _) (.cons (.string _) (.cons (.bool _) .nil)))⟩) hne
 |4,_,hne=>
  have hne:flat fM (kM d k)≠[]:=hne;cases hs:d.qs[k]? with
  |none=>exact absurd (by unfold kM;rw [h.m0 k hs];split<;>rfl) hne
  |some s=>
   obtain ⟨⟨La,hq⟩,_⟩:=h.m k s hs;have e:syT d 4 k j=s.ms:=by show oSl _ _=_;rw [hs];rfl
   rw [e];exact GQ (n:=10) (l':=kM d k) (fun _=>rfl) hq (fun i' p' hp=>by
    unfold kM at hp;rw [if_pos hk] at hp;obtain ⟨y,h1,rfl,h3⟩:=EA hp;exact ⟨y,h1,Y2 (Xz h hk h3 h1) rfl⟩) hne
 |5,_,hne=>exact absurd rfl hne
 |6,_,hne=>exact absurd rfl hne
 |7,_,hne=>
  have hne:flat fU (kU d k)≠[]:=hne;cases hs:d.bs[k]? with
  |none=>exact absurd (by unfold kU;rw [h.u0 k hs];split<;>rfl) hne
  |some s=>
   obtain ⟨⟨La,hq⟩,_⟩:=h.u k s hs;have e:syT d 7 k j=s.ps:=by show oSl _ _=_;rw [hs];rfl
   rw [e];exact GQ (n:=11) (l':=kU d k) (fun _=>rfl) hq (fun i' p' hp=>by
    unfold kU at hp;rw [if_pos hk] at hp;obtain ⟨y,h1,rfl,h3⟩:=EA hp;exact ⟨y,h1,.cons (.string _) (Y2 (Xv h hk (by omega) h1) rfl)⟩) hne
 |8,_,hne=>
  have hne:flat fF (kFs d k)≠[]:=hne;cases hs:d.bs[k]? with
  |none=>exact absurd (by unfold kFs;rw [h.f0 k hs];split<;>rfl) hne
  |some s=>
   obtain ⟨⟨La,hq⟩,_⟩:=h.f k s hs;have e:syT d 8 k j=s.ts:=by show oSl _ _=_;rw [hs];rfl
   rw [e];exact GQ (n:=1) (l':=kFs d k) (fun _=>rfl) hq (fun i' p' hp=>by
    unfold kFs at hp;rw [if_pos hk] at hp;obtain ⟨y,h1,e1,h3⟩:=EA hp;subst e1;exact ⟨_,h1,.cons (.string _) (.cons (.int _ _) .nil)⟩) hne
 |9,_,hne=>exact absurd rfl hne
 |10,_,hne=>exact absurd rfl hne
 |11,_,hne=>
  obtain ⟨La,hs⟩:=h.a;exact GQ (n:=4) (l':=kAs d) (fun _=>rfl) hs (fun i p' hp=>by
   obtain ⟨y,h1,e1,h3⟩:=EA hp;subst e1;exact ⟨_,h1,.cons (.int _ _) (.cons (.int _ _) (.cons (.string _) (.cons (.string _) (.cons (.bool _) .nil))))⟩) hne
end
structure MI (W0:World) (m0:Inj Tp) (A:AW) (s:SV) (t:TV) (qs:List QV) (ms:Nat→List MV) (bs:List BV) (us:Nat→List UV) (fs:Nat→List FV) (hs:List HV) (rs:List TR) (asl:List AV):Prop where
 sr:SRx (szV W0 m0) W0 m0 A s qs ms bs us fs
 rh:∃ F,RdT 3 fH A s.hs.val s.hs.len hs F
 hl:hs.length=min s.hs.len 40
 rt:∃ F,RdT 6 fR A t.r.val t.r.len rs F
 tl:rs.length=min t.r.len 20
 ra:∃ F,RdT 4 fA A t.a.val t.a.len asl F
 al:asl.length=min t.a.len 20
 nq:∀ q∈qs,Bm q.name<9223372036854775808
 nu:∀ k,∀ u∈us k,Bm u.queue<9223372036854775808
 nf:∀ k,∀ u∈fs k,Bm u.queue<9223372036854775808
theorem Ux{W:World}{d:SE}(h:d.Ok W)(hW:Go.Abs.Holds W EO):∃ L:List Arg,L.length=5760∧TJ Tp W L∧Ay (mR Tp L) [.agg ⟨fS (ySt d.s)⟩,.agg ⟨fTb (yT d.t)⟩] [.agg ⟨fS d.s⟩,.agg ⟨fTb d.t⟩]∧
  (Tp.globals.size+L.length+1≤Ao→MI W (mR Tp L) (wR Tp.globals.size EO L) (ySt d.s) (yT d.t) (kQ d) (kM d) (kBr d) (kU d) (kFs d) (kH d) (kRs d) (kAs d)):=by
 obtain ⟨L,hL,hm,hA,hrow⟩:=Sz (P:=Tp) (W:=W) 5760 (fun x=>placeOf (sy d x).val) (yCx d) (XZ h);have hm:L.map (·.1)=ply d:=hm;have hmR:mR Tp L=mA Tp (ply d):=by unfold mR;rw [hm]
 have hat:∀ {t k:Nat},t<12→k<12→yC d t k≠[]→∃ p e,L[cy t k 0]? =some (p,some (yC d t k,e)):=by
  intro t k ht hk hne;have e:=Adk d (t:=t) hk (show 0<40 by omega);rw [← e] at hne ⊢;exact hrow _ (Abh ht hk (by omega)) hne
 obtain ⟨Lq,hq⟩:=h.q;obtain ⟨Lb,hb⟩:=h.b;obtain ⟨Lh,hh⟩:=h.h;obtain ⟨Lr,hr⟩:=h.r;obtain ⟨La,ha⟩:=h.a;have nq:(kQ d).length=min d.qs.length 12:=CG _ _ _;have nb:(kBr d).length=min d.bs.length 12:=CG _ _ _;have nh:(kH d).length=min d.hs.length 40:=CG _ _ _;have nr:(kRs d).length=min d.rs.length 20:=CG _ _ _;have na:(kAs d).length=min d.asl.length 20:=CG _ _ _;have cq:d.s.qs.len=d.qs.length:=(IV hq 0).1;have cb:d.s.bs.len=d.bs.length:=(IV hb 0).1;have ch:d.s.hs.len=d.hs.length:=(IV hh 0).1;have cr:d.t.r.len=d.rs.length:=(IV hr 0).1;have ca:d.t.a.len=d.asl.length:=(IV ha 0).1;have lq_get:∀ {k:Nat} {q:QV},(kQ d)[k]? =some q→∃ y,d.qs[k]? =some y∧q=yQ k y∧k<12:=fun hk=>EA hk;have lb_get:∀ {k:Nat} {q:BV},(kBr d)[k]? =some q→∃ y,d.bs[k]? =some y∧q=yB k y∧k<12:=fun hk=>EA hk;refine ⟨L,hL,hA,?_,fun hk=>⟨⟨?_,?_,fun k q hk2=>?_,fun k q hk2=>?_,fun k y hy=>?_,?_,?_,fun k q hk2=>?_,fun k q hk2=>?_,fun k y hy=>?_,fun k q hk2=>?_,fun k q hk2=>?_⟩,?_,?_,?_,?_,?_,?_,fun q hq=>?_,fun k u hu=>?_,fun k u hu=>?_⟩⟩
 ·rw [hmR];exact .cons (.agg (Xx h)) (.cons (.agg (Xw h)) .nil)
 ·exact Mr (n:=2) (fun _=>rfl) hk hq (by omega) (Ei (by omega) nq) fun hne=>hat (t:=1) (k:=0) (by omega) (by omega) hne
 ·rw [nq,← cq];rfl
 ·obtain ⟨y,h1,rfl,hk12⟩:=lq_get hk2;obtain ⟨⟨Lm,hm2⟩,_⟩:=h.m k y h1;have e:kM d k=HJ 40 (yM k) (d.ms k):=if_pos hk12;have n1:(kM d k).length=min (d.ms k).length 40:=by rw [e];exact CG _ _ _
  exact Mr (n:=10) (fun _=>rfl) hk hm2 (by omega) (Ei (by omega) n1) fun hne=>hat (t:=4) (by omega) hk12 hne
 ·obtain ⟨y,h1,rfl,hk12⟩:=lq_get hk2;obtain ⟨⟨Lm,hm2⟩,_⟩:=h.m k y h1;have e:kM d k=HJ 40 (yM k) (d.ms k):=if_pos hk12;have n1:(kM d k).length=min (d.ms k).length 40:=by rw [e];exact CG _ _ _
  have n2:y.ms.len=(d.ms k).length:=(IV hm2 0).1;rw [n1,← n2];rfl
 ·unfold kM at hy;split at hy
  ·rename_i hik;obtain ⟨j,z,h1,rfl,hj⟩:=KT hy;rw [hmR];exact Abc hW (Xz h hik hj h1) (Xt h k z (List.mem_of_getElem? h1))
  ·cases hy
 ·exact Mr (n:=4) (fun _=>rfl) hk hb (by omega) (Ei (by omega) nb) fun hne=>hat (t:=2) (k:=0) (by omega) (by omega) hne
 ·rw [nb,← cb];rfl
 ·obtain ⟨y,h1,rfl,hk12⟩:=lb_get hk2;obtain ⟨⟨Lm,hm2⟩,_⟩:=h.u k y h1;have e:kU d k=HJ 20 (yU k) (d.us k):=if_pos hk12;have n1:(kU d k).length=min (d.us k).length 20:=by rw [e];exact CG _ _ _
  exact Mr (n:=11) (fun _=>rfl) hk hm2 (by omega) (Ei (by omega) n1) fun hne=>hat (t:=7) (by omega) hk12 hne
 ·obtain ⟨y,h1,rfl,hk12⟩:=lb_get hk2;obtain ⟨⟨Lm,hm2⟩,_⟩:=h.u k y h1;have e:kU d k=HJ 20 (yU k) (d.us k):=if_pos hk12;have n1:(kU d k).length=min (d.us k).length 20:=by rw [e];exact CG _ _ _
  have n2:y.ps.len=(d.us k).length:=(IV hm2 0).1;rw [n1,← n2];rfl
 ·unfold kU at hy;split at hy
  ·rename_i hik;obtain ⟨j,z,h1,rfl,hj⟩:=KT hy;rw [hmR];exact Abc hW (Xv h hik (by omega) h1) (TK h k z (List.mem_of_getElem? h1)).2
  ·cases hy
 ·obtain ⟨y,h1,rfl,hk12⟩:=lb_get hk2;obtain ⟨⟨Lm,hm2⟩,_⟩:=h.f k y h1;have e:kFs d k=HJ 20 (fun _ x=>x) (d.fs k):=if_pos hk12;have n1:(kFs d k).length=min (d.fs k).length 20:=by rw [e];exact CG _ _ _
  exact Mr (n:=1) (fun _=>rfl) hk hm2 (by omega) (Ei (by omega) n1) fun hne=>hat (t:=8) (by omega) hk12 hne
 ·obtain ⟨y,h1,rfl,hk12⟩:=lb_get hk2;obtain ⟨⟨Lm,hm2⟩,_⟩:=h.f k y h1;have e:kFs d k=HJ 20 (fun _ x=>x) (d.fs k):=if_pos hk12;have n1:(kFs d k).length=min (d.fs k).length 20:=by rw [e];exact CG _ _ _
  have n2:y.ts.len=(d.fs k).length:=(IV hm2 0).1;rw [n1,← n2];rfl
 ·exact Mr (n:=3) (fun _=>rfl) hk hh (by omega) (Ei (by omega) nh) fun hne=>hat (t:=3) (k:=0) (by omega) (by omega) hne
 ·rw [nh,← ch];rfl
 ·exact Mr (n:=6) (fun _=>rfl) hk hr (by omega) (Ei (by omega) nr) fun hne=>hat (t:=0) (k:=0) (by omega) (by omega) hne
 ·rw [nr,← cr];rfl
 ·exact Mr (n:=4) (fun _=>rfl) hk ha (by omega) (Ei (by omega) na) fun hne=>hat (t:=11) (k:=0) (by omega) (by omega) hne
 ·rw [na,← ca];rfl
 ·obtain ⟨k,y,h1,rfl,_⟩:=KT hq;exact h.nq y (List.mem_of_getElem? h1)
 ·unfold kU at hu;split at hu
  ·obtain ⟨j,z,h1,rfl,hj⟩:=KT hu;exact (TK h k z (List.mem_of_getElem? h1)).1
  ·cases hu
 ·unfold kFs at hu;split at hu
  ·obtain ⟨j,z,h1,e1,hj⟩:=KT hu;subst e1;exact Abp h k _ (List.mem_of_getElem? h1)
  ·cases hu
theorem GA{β:Type}{n:Nat}{f:β→List Value}{A:AW}{p:SL}{l:List β}{F:List Nat}(h:RdT n f A p.val p.len l F)(hl:l.length=p.len):RdE n f A p.val l F:=by
 obtain ⟨o,c,h1,_,h3⟩:=h;rw [h1];rw [← hl];exact h3
theorem mem_mapIdx{α β:Type}{f:Nat→α→β}{l:List α}{b:β}(h:b∈l.mapIdx f):∃ (i:Nat) (a:α),l[i]? =some a∧b=f i a:=by
 obtain ⟨i,hi⟩:=List.mem_iff_getElem?.1 h;rw [List.getElem?_mapIdx] at hi;cases hq:l[i]? with
 |none=>rw [hq] at hi;cases hi
 |some a=>rw [hq] at hi;cases hi;exact ⟨i,a,hq,rfl⟩
theorem Oc{α β:Type}{f:Nat→α→β}{g:β→α}(l:List α)(h:∀ i a,g (f i a)=a):(l.mapIdx f).map g=l:=by
 refine List.ext_getElem? fun i=>?_;rw [List.getElem?_map,List.getElem?_mapIdx];cases l[i]? with
 |none=>rfl
 |some a=>simp [h]
section
variable {W0:World} {m0:Inj Tp} {A:AW} {s:SV} {t:TV} {qs:List QV} {ms:Nat→List MV} {bs:List BV} {us:Nat→List UV} {fs:Nat→List FV} {hs:List HV} {rs:List TR} {asl:List AV}
def Se(qs:List QV)(ms:Nat→List MV):List QD:=qs.mapIdx fun k q=>⟨q,ms k⟩
def Th(bs:List BV)(us:Nat→List UV)(fs:Nat→List FV):List BD:=bs.mapIdx fun k b=>⟨b,us k,fs k⟩
theorem MI.st(h:MI W0 m0 A s t qs ms bs us fs hs rs asl)(hq:s.qs.len≤12)(hb:s.bs.len≤12)(hh:s.hs.len≤40)(hm:∀ (k:Nat) q,qs[k]? =some q→q.ms.len≤40∧∀ m∈ms k,szV W0 m0 m.app)(hu:∀ (k:Nat) b,bs[k]? =some b→b.ps.len≤20∧b.ts.len≤20∧∀ u∈us k,szV W0 m0 u.m.app):
  ST A s (Se qs ms) (Th bs us fs) hs∧SZ (Se qs ms) (Th bs us fs) hs∧TZ (Se qs ms) (Th bs us fs)∧(∀ q∈Se qs ms,∀ m∈q.ms,PK W0 m0 (RP W0 m0) m)∧∀ b∈Th bs us fs,∀ u∈b.us,PK W0 m0 (RP W0 m0) u.m:=by
 have r:=h.sr;have ql:=r.ql;have bl:=r.bl;have hl:=h.hl;have eq:(Se qs ms).map (·.q)=qs:=Oc qs fun _ _=>rfl;have eb:(Th bs us fs).map (·.b)=bs:=Oc bs fun _ _=>rfl;refine ⟨⟨?_,fun q hqm=>?_,?_,fun b hbm=>?_,fun b hbm=>?_,?_⟩,⟨?_,fun q hqm=>?_,?_,fun b hbm=>?_,fun b hbm=>?_,by omega⟩,⟨fun q hqm=>?_,fun b hbm u hum=>?_,fun b hbm u hum=>?_⟩,fun q hqm m hmm=>?_,fun b hbm u hum=>?_⟩
 ·obtain ⟨F,hF⟩:=r.q;rw [eq];exact ⟨F,GA hF (by omega)⟩
 ·obtain ⟨k,q,hk,rfl⟩:=mem_mapIdx hqm;obtain ⟨F,hF⟩:=r.m k q hk;have h1:=r.ml k q hk;have h2:=(hm k q hk).1;exact ⟨F,GA hF (show (ms k).length=q.ms.len by omega)⟩
 ·obtain ⟨F,hF⟩:=r.b;rw [eb];exact ⟨F,GA hF (by omega)⟩
 ·obtain ⟨k,b,hk,rfl⟩:=mem_mapIdx hbm;obtain ⟨F,hF⟩:=r.u k b hk;have h1:=r.ul k b hk;have h2:=(hu k b hk).1;exact ⟨F,GA hF (show (us k).length=b.ps.len by omega)⟩
 ·obtain ⟨k,b,hk,rfl⟩:=mem_mapIdx hbm;obtain ⟨F,hF⟩:=r.f k b hk;have h1:=r.fl k b hk;have h2:=(hu k b hk).2.1;exact ⟨F,GA hF (show (fs k).length=b.ts.len by omega)⟩
 ·obtain ⟨F,hF⟩:=h.rh;exact ⟨F,GA hF (by omega)⟩
 ·unfold Se;rw [List.length_mapIdx];omega
 ·obtain ⟨k,q,hk,rfl⟩:=mem_mapIdx hqm;have h1:=r.ml k q hk;show (ms k).length≤40;omega
 ·unfold Th;rw [List.length_mapIdx];omega
 ·obtain ⟨k,b,hk,rfl⟩:=mem_mapIdx hbm;have h1:=r.ul k b hk;show (us k).length≤20;omega
 ·obtain ⟨k,b,hk,rfl⟩:=mem_mapIdx hbm;have h1:=r.fl k b hk;show (fs k).length≤20;omega
 ·obtain ⟨k,q,hk,rfl⟩:=mem_mapIdx hqm
  have:=h.nq q (List.mem_of_getElem? hk)
  show q.name.size<_;rw [show ∀ x:ByteArray,x.size=Bm x from fun _=>rfl];exact this
 ·obtain ⟨k,b,hk,rfl⟩:=mem_mapIdx hbm
  have:=h.nu k u hum
  show u.queue.size<_;rw [show ∀ x:ByteArray,x.size=Bm x from fun _=>rfl];exact this
 ·obtain ⟨k,b,hk,rfl⟩:=mem_mapIdx hbm
  have:=h.nf k u hum
  show u.queue.size<_;rw [show ∀ x:ByteArray,x.size=Bm x from fun _=>rfl];exact this
 ·obtain ⟨k,q,hk,rfl⟩:=mem_mapIdx hqm;exact Aa2 ((hm k q hk).2 m hmm)
 ·obtain ⟨k,b,hk,rfl⟩:=mem_mapIdx hbm;exact Aa2 ((hu k b hk).2.2 u hum)
theorem MI.tt(h:MI W0 m0 A s t qs ms bs us fs hs rs asl)(hr:t.r.len≤20)(ha:t.a.len≤20):TT A t rs asl∧rs.length≤20∧asl.length≤20:=by
 have tl:=h.tl;have al:=h.al;obtain ⟨F,hF⟩:=h.rt;obtain ⟨G,hG⟩:=h.ra;exact ⟨⟨⟨F,GA hF (by omega)⟩,⟨G,GA hG (by omega)⟩⟩,by omega,by omega⟩
end
end Go.Proofs.YtdpdajpiadohjaaGreatDoor
namespace Go.Proofs.YtdpdajpiadohjaaGreatDoor
open Go Go.Abs
section
variable {W0:World} {m0:Inj Tp} {A:AW} {s:SV} {t:TV} {qs:List QV} {ms:Nat→List MV} {bs:List BV} {us:Nat→List UV} {fs:Nat→List FV} {hs:List HV} {rs:List TR} {asl:List AV}
theorem MI.keeps{A':AW}(h:MI W0 m0 A s t qs ms bs us fs hs rs asl)(k:Bs A A' []):MI W0 m0 A' s t qs ms bs us fs hs rs asl where
 sr:=h.sr.keeps k
 rh:=by obtain ⟨F,h⟩:=h.rh;exact ⟨F,h.keeps k (by simp)⟩
 hl:=h.hl
 rt:=by obtain ⟨F,h⟩:=h.rt;exact ⟨F,h.keeps k (by simp)⟩
 tl:=h.tl
 ra:=by obtain ⟨F,h⟩:=h.ra;exact ⟨F,h.keeps k (by simp)⟩
 al:=h.al
 nq:=h.nq
 nu:=h.nu
 nf:=h.nf
theorem wc4(hhd:KC.Holds Tp W0 m0 ⟨7,[],[.bool true]⟩)(h:MI W0 m0 A s t qs ms bs us fs hs rs asl)(hf:AH A)(hA:A.next+800000<Ao):Wc Tp Ak W0 m0 4 [.agg ⟨fS s⟩,.agg ⟨fTb t⟩] A fun v _=>v=.bool true:=by
 refine w4 _ _ _ (Au (S:=fun _ _ _=>False) fun _ _ _ h=>h) ?_;rw [e4];refine Am (cs:=fS s) hf (by omega) rfl fun A1 m1=>?_;have g1:=Grow.made m1 hf;have n1:=m1.next;refine Am (cs:=fTb t) m1.Ap (by omega) rfl fun A2 m2=>?_;have g2:=Grow.made m2 m1.Ap;have g02:=g1.trans g2;have n2:=m2.next;have r1:=m1.AS.keeps g2.keeps (by simp);have r2:=m2.AS;simp only [(BK r1).2.2.2.2,Ab];refine AdD (h.keeps g02.keeps).sr m2.Ap (by omega) fun r A3 hr g3=>?_;have g03:=g02.trans g3;have n3:=g3.next;simp only [Bo,Ab];refine Aj.2 ⟨fun _=>Nu hhd _ rfl,fun hrt=>?_⟩;obtain ⟨h1,h2,h3,h4,h5⟩:=hr (by simpa using hrt);have r1:=r1.keeps g3.keeps (by simp);have r2:=r2.keeps g3.keeps (by simp);have c0:A3.cell? ⟨A1.next,0,none⟩=some (.slice t.r.o t.r.len t.r.cap):=(DK r2).1;have c1:A3.cell? ⟨A1.next,1,none⟩=some (.slice t.a.o t.a.len t.a.cap):=(DK r2).2.1;simp only [DU,K8,G7,Sx,Nat.zero_add,c0,c1,Aes,Aer,Bc,Ab,Ah];refine ⟨fun _=>Nu hhd _ rfl,fun h6=>⟨fun _=>Nu hhd _ rfl,fun h7=>?_⟩⟩;have hm:=h.keeps g03.keeps;obtain ⟨hst,hsz,htz,hpm,hpu⟩:=hm.st h1 h2 h3 h4 h5;obtain ⟨htt,hrl,hal⟩:=hm.tt (by omega) (by omega);simp only [(BK r1).2.2.2.2,(DK r2).2.2,Ab];refine Agz (R:=RP W0 m0) hst hsz hpm hpu htt hrl hal g3.Ap (by omega) fun A4 g4=>?_;have n4:=g4.next;simp only [(BK (r1.keeps g4.keeps (by simp))).2.2.2.2,(DK (r2.keeps g4.keeps (by simp))).2.2,Ab,BA];refine Agy (R:=RP W0 m0) (hst.keeps g4.keeps) hsz htz (Aec W0 m0) hpm hpu (htt.keeps g4.keeps) hrl hal g4.Ap (by omega) fun A5 g5=>?_;simp only [Wa,Ab];refine Aj.2 ⟨fun _=>Nu hhd _ rfl,fun hne=>?_⟩
 have:dP (Uz (RP W0 m0) s.next (Se qs ms) (Th bs us fs) hs rs asl)=dP (Uy (RP W0 m0) s.next (Se qs ms) (Th bs us fs) hs rs asl):=by
  rw [Bool.eq_iff_iff,Bu,Bu];exact Uw.symm
 rw [this] at hne;simp at hne
end
end Go.Proofs.YtdpdajpiadohjaaGreatDoor
