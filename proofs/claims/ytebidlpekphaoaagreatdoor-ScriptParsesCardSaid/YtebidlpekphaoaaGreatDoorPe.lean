/-
  This text prints what the functions reached ask of their memory, and shows what they answer. Conditions: none for the last theorem, those that each theorem states for the others.
-/
import Derived.Test.YtebidlpekphaoaaGreatDoorPd
set_option maxRecDepth 100000
namespace Go.Proofs.YtebidlpekphaoaaGreatDoor
open Go.Abs
theorem CL {ws r:List ByteArray} {w:ByteArray} {bad b:Bool} (h:AP ws bad w r b) (hb:b=false):bad=false:=by
 rcases h with ⟨_,rfl⟩ | ⟨_,_,_,rfl⟩
 ·exact hb
 ·cases hb
theorem Lf {a b:Bool} (h:(a || b)=false):a=false∧b=false:=by cases a <;> cases b <;> simp_all
theorem Run.bad {α:Type} {R:Word→α→Bool→Prop}:∀ {l:List α} {ws:List ByteArray} {bad:Bool} {ws':List ByteArray} {bad':Bool},Run R ws bad l ws' bad'→bad'=false→bad=false
 | [],ws,bad,ws',bad',h,hb=>by rw [h.2];exact hb
 | x::l,ws,bad,ws',bad',⟨w,r,b,_,h2,_,_⟩,_=>h2
def zC (c:Ax):Ax:={ c with what:=0,ses:=0 }
theorem IY {α:Type} (p q:Prop) [Decidable p] [Decidable q] (z c:α):(if p then z else if q then z else c)=(if q then z else if p then z else c):=by
 by_cases hp:p <;> by_cases hq:q <;> simp [hp,hq]
theorem KR (c:Ax) (h:UInt8):Dh c h=⟨c.what,c.ses,if h=81 then .empty else c.queue,if h=84 then .empty else c.tag,if h=88 then DY else c.x,if h=78 then 0 else c.n,if h=101∨h=109∨h=100∨h=115∨h=102 then false else c.a,if h=115∨h=102 then false else c.b,if h=82 then [] else c.refs,if h=66 then .empty else c.body⟩:=by
 by_cases z1:h=81
 ·subst z1;rfl
 by_cases z2:h=84
 ·subst z2;rfl
 by_cases z3:h=66
 ·subst z3;rfl
 by_cases z4:h=78
 ·subst z4;rfl
 by_cases z5:h=88
 ·subst z5;rfl
 by_cases z6:h=101
 ·subst z6;rfl
 by_cases z7:h=109
 ·subst z7;rfl
 by_cases z8:h=100
 ·subst z8;rfl
 by_cases z9:h=115
 ·subst z9;rfl
 by_cases z10:h=102
 ·subst z10;rfl
 by_cases z11:h=82
 ·subst z11;rfl
 unfold Dh
 simp only [z1,z2,z3,z4,z5,z6,z7,z8,z9,z10,z11,if_false,or_self]
theorem Ut (c:Ax) (x y:UInt8):Dh (Dh c x) y=Dh (Dh c y) x:=by
 rw [KR (Dh c x),KR c x,KR (Dh c y),KR c y]
 simp only [IY (y=81),IY (y=84),IY (y=88),IY (y=78),IY (y=101∨_),IY (y=115∨y=102),IY (y=82),IY (y=66)]
theorem Lt (x:UInt8):∀ (hs:List UInt8) (c:Ax),hs.foldl Dh (Dh c x)=Dh (hs.foldl Dh c) x
 | [],c=>rfl
 | y::hs,c=>by
  show hs.foldl Dh (Dh (Dh c x) y)=Dh (hs.foldl Dh (Dh c y)) x
  rw [Ut,Lt x hs]
theorem Sv (x:UInt8):Dh Bc x=Bc:=by
 rw [KR]
 simp only [Bc,ite_self]
theorem LZ:∀ (hs:List UInt8),hs.foldl Dh Bc=Bc
 | []=>rfl
 | y::hs=>by
  show hs.foldl Dh (Dh Bc y)=Bc
  rw [Sv,LZ hs]
structure ChC (h:UInt8) (v v':Ax):Prop where
 what:v'.what=v.what
 ses:v'.ses=v.ses
 clr:Dh (zC v') h=Dh (zC v) h
theorem BR.ch {h:UInt8} {ws r:List ByteArray} {bad b:Bool} {v v':Ax} (ht:BR h ws bad v v' r b):ChC h v v'∧(b=false→bad=false∧(h=88→okX v'.x=true)∧(h≠88→v'.x=v.x)):=by
 by_cases z1:h=81
 ·subst z1
  replace ht:=iCQ ht
  obtain ⟨w,b1,u,e,h1,h2,rfl,rfl⟩:=ht
  exact ⟨⟨rfl,rfl,rfl⟩,fun hb=>⟨CL h1 (Lf hb).1,fun h=>absurd h (by decide),fun _=>rfl⟩⟩
 by_cases z2:h=84
 ·subst z2
  replace ht:=iCT ht
  obtain ⟨w,b1,u,e,h1,h2,rfl,rfl⟩:=ht
  exact ⟨⟨rfl,rfl,rfl⟩,fun hb=>⟨CL h1 (Lf hb).1,fun h=>absurd h (by decide),fun _=>rfl⟩⟩
 by_cases z3:h=66
 ·subst z3
  replace ht:=iCB ht
  obtain ⟨w,b1,u,e,h1,h2,rfl,rfl⟩:=ht
  exact ⟨⟨rfl,rfl,rfl⟩,fun hb=>⟨CL h1 (Lf hb).1,fun h=>absurd h (by decide),fun _=>rfl⟩⟩
 by_cases z4:h=78
 ·subst z4
  replace ht:=iCN ht
  obtain ⟨w,b1,u,e,h1,h2,rfl,rfl⟩:=ht
  exact ⟨⟨rfl,rfl,rfl⟩,fun hb=>⟨CL h1 (Lf hb).1,fun h=>absurd h (by decide),fun _=>rfl⟩⟩
 by_cases z5:h=88
 ·subst z5
  replace ht:=iCX ht
  obtain ⟨w,b1,u,e,h1,h2,rfl,rfl⟩:=ht
  exact ⟨⟨rfl,rfl,rfl⟩,fun hb=>⟨CL h1 (Lf hb).1,fun _=>h2.2.1 (Lf hb).2,fun h=>absurd rfl h⟩⟩
 by_cases z6:h=101
 ·subst z6
  replace ht:=iCE ht
  obtain ⟨w,b1,h1,_,rfl,rfl⟩:=ht
  exact ⟨⟨rfl,rfl,rfl⟩,fun hb=>⟨CL h1 hb,fun h=>absurd h (by decide),fun _=>rfl⟩⟩
 by_cases z7:h=109
 ·subst z7
  replace ht:=iCM ht
  obtain ⟨w,b1,h1,_,rfl,rfl⟩:=ht
  exact ⟨⟨rfl,rfl,rfl⟩,fun hb=>⟨CL h1 hb,fun h=>absurd h (by decide),fun _=>rfl⟩⟩
 by_cases z8:h=100
 ·subst z8
  replace ht:=iCD ht
  obtain ⟨w,b1,h1,_,rfl,rfl⟩:=ht
  exact ⟨⟨rfl,rfl,rfl⟩,fun hb=>⟨CL h1 hb,fun h=>absurd h (by decide),fun _=>rfl⟩⟩
 by_cases z9:h=115
 ·subst z9
  replace ht:=iCS ht
  obtain ⟨w,b1,h1,_,rfl,rfl⟩:=ht
  exact ⟨⟨rfl,rfl,rfl⟩,fun hb=>⟨CL h1 hb,fun h=>absurd h (by decide),fun _=>rfl⟩⟩
 by_cases z10:h=102
 ·subst z10
  replace ht:=iCF ht
  obtain ⟨w,b1,h1,_,rfl,rfl⟩:=ht
  exact ⟨⟨rfl,rfl,rfl⟩,fun hb=>⟨CL h1 hb,fun h=>absurd h (by decide),fun _=>rfl⟩⟩
 by_cases z11:h=82
 ·subst z11
  replace ht:=iCR ht
  obtain ⟨l,h1,h2,rfl⟩:=ht
  exact ⟨⟨rfl,rfl,rfl⟩,fun hb=>⟨h1.bad hb,fun h=>absurd h (by decide),fun _=>rfl⟩⟩
 ·rw [BR,Ff z1,Ff z2,Ff z3,Ff z4,Ff z5,Ff z6,Ff z7,Ff z8,Ff z9,Ff z10,Ff z11] at ht
  exact ht.elim
theorem Bp.ch:∀ {hs:List UInt8} {ws r:List ByteArray} {bad b:Bool} {v v':Ax},Bp hs ws bad v v' r b→v'.what=v.what∧v'.ses=v.ses∧hs.foldl Dh (zC v')=hs.foldl Dh (zC v)∧(b=false→bad=false∧((88:UInt8)∈hs∨okX v.x=true→okX v'.x=true))
 | [],ws,r,bad,b,v,v',⟨h1,h2,h3⟩=>by
  subst h1
  exact ⟨rfl,rfl,rfl,fun hb=>⟨by rw [← h3];exact hb,fun h=>by rcases h with h | h;cases h;exact h⟩⟩
 | x::hs,ws,r,bad,b,v,v',⟨r1,b1,c1,h1,h2⟩=>by
  obtain ⟨c,h3⟩:=BR.ch h1
  obtain ⟨k1,k2,k3,k4⟩:=Bp.ch h2
  refine ⟨k1.trans c.what,k2.trans c.ses,?_,fun hb=>?_⟩
  ·show hs.foldl Dh (Dh (zC v') x)=hs.foldl Dh (Dh (zC v) x)
   rw [Lt,k3,← Lt,c.clr]
  ·obtain ⟨k5,k6⟩:=k4 hb
   obtain ⟨h4,h5,h6⟩:=h3 k5
   refine ⟨h4,fun h=>k6 ?_⟩
   by_cases hx:x=88
   ·exact .inr (h5 hx)
   ·rcases h with h | h
    ·rcases List.mem_cons.1 h with h | h
     ·exact absurd h.symm hx
     ·exact .inl h
    ·exact .inr (by rw [h6 hx];exact h)
theorem Q2 {c:Ax}:∀ {hs:List UInt8} {ws:List Word} {l:Ax},((88:UInt8)∈hs→okX c.x=true)→∃ ws',goC c hs ws l=some (ws',hs.foldl Dh l)
 | [],ws,l,_=>⟨ws,rfl⟩
 | x::hs,ws,l,h=>by
  have:∃ w,Dk c x=some w:=by
   by_cases hx:x=88
   ·subst hx
    exact ⟨[Cs c.x],by show (if okX c.x=true then _ else _)=_;rw [if_pos (h (by simp))]⟩
   ·unfold Dk
    simp only [hx,if_false]
    repeat' split
    all_goals exact ⟨_,rfl⟩
  obtain ⟨w,hw⟩:=this
  obtain ⟨ws',h2⟩:=Q2 (c:=c) (hs:=hs) (ws:=ws++w) (l:=Dh l x) fun h3=>h (List.mem_cons_of_mem _ h3)
  refine ⟨ws',?_⟩
  unfold goC
  rw [hw]
  exact h2
theorem V6 {c:Ax} {ws r:List ByteArray} {bad:Bool} (h:Mg ws bad c r false) (hc:c.what≠0):bad=false∧(∃ ws',CB c=some (ws',Bc))∧(partsOf c.what).1≠[]:=by
 obtain ⟨w,r1,b1,n,e,w2,r2,b2,h1,h2,h3,h4⟩:=h
 obtain ⟨k1,k2,k3,k4⟩:=Bp.ch h4
 obtain ⟨k5,k6⟩:=k4 rfl
 have k1:c.what=Fq (bl w2):=k1
 have h21:=Kl (bl w2)
 have hb:=Lf (CL h3 k5)
 refine ⟨CL h1 hb.1,?_,Ps (by omega) (by omega)⟩
 rw [← k1] at k3 k6
 obtain ⟨ws',h5⟩:=Q2 (c:=c) (hs:=(partsOf c.what).2) (ws:=[Lib.decDigits c.ses,(partsOf c.what).1]) (l:=zC c) fun h6=>k6 (.inl h6)
 refine ⟨ws',?_⟩
 have k3:(partsOf c.what).2.foldl Dh (zC c)=(partsOf c.what).2.foldl Dh Bc:=k3
 rw [k3,LZ] at h5
 exact h5
def YV (h:UInt8) (left:EvD):EvD:=
 if h=110 then { left with node:=0 } else if h=116 then { left with to:=0 } else if h=105 then { left with n:=0 } else if h=88 then { left with x:=DY }
 else if h=99 then { left with a:=false } else if h=83 then { left with s:=.empty } else if h=98 then { left with nodes:=[] } else if h=107 then { left with Bd:=[] }
 else if h=67 then { left with call:=Bc } else left
def CQ (c:EvD) (h:UInt8):EvD:=YV h c
def zE (v:EvD):EvD:={ v with kind:=0 }
theorem KQ (c:EvD) (h:UInt8):CQ c h=⟨c.kind,if h=110 then 0 else c.node,if h=116 then 0 else c.to,if h=105 then 0 else c.n,if h=88 then DY else c.x,if h=98 then [] else c.nodes,if h=107 then [] else c.Bd,if h=83 then .empty else c.s,if h=99 then false else c.a,if h=67 then Bc else c.call⟩:=by
 by_cases z1:h=110
 ·subst z1;rfl
 by_cases z2:h=116
 ·subst z2;rfl
 by_cases z3:h=105
 ·subst z3;rfl
 by_cases z4:h=88
 ·subst z4;rfl
 by_cases z5:h=99
 ·subst z5;rfl
 by_cases z6:h=83
 ·subst z6;rfl
 by_cases z7:h=98
 ·subst z7;rfl
 by_cases z8:h=107
 ·subst z8;rfl
 by_cases z9:h=67
 ·subst z9;rfl
 unfold CQ YV
 simp only [z1,z2,z3,z4,z5,z6,z7,z8,z9,if_false]
theorem Ur (c:EvD) (x y:UInt8):CQ (CQ c x) y=CQ (CQ c y) x:=by
 rw [KQ (CQ c x),KQ c x,KQ (CQ c y),KQ c y]
 simp only [IY (y=110),IY (y=116),IY (y=88),IY (y=105),IY (y=98),IY (y=107),IY (y=83),IY (y=99),IY (y=67)]
theorem Ls (x:UInt8):∀ (hs:List UInt8) (c:EvD),hs.foldl CQ (CQ c x)=CQ (hs.foldl CQ c) x
 | [],c=>rfl
 | y::hs,c=>by
  show hs.foldl CQ (CQ (CQ c x) y)=CQ (hs.foldl CQ (CQ c y)) x
  rw [Ur,Ls x hs]
theorem VZ (x:UInt8):CQ BQ x=BQ:=by
 rw [KQ]
 simp only [BQ,ite_self]
theorem OX:∀ (hs:List UInt8),hs.foldl CQ BQ=BQ
 | []=>rfl
 | y::hs=>by
  show hs.foldl CQ (CQ BQ y)=BQ
  rw [VZ,OX hs]
def Whole (c:Ax):Prop:=c.what≠0→(∃ ws',CB c=some (ws',Bc))∧(partsOf c.what).1≠[]
theorem Cb.ch {h:UInt8} {ws r:List ByteArray} {bad b:Bool} {v v':EvD} (ht:Cb h ws bad v v' r b):v'.kind=v.kind∧CQ (zE v') h=CQ (zE v) h∧(b=false→(v'.call.what≠0∨h≠67→bad=false)∧(h=88→okX v'.x=true)∧(h≠88→v'.x=v.x)∧(h=67→Whole v'.call)∧(h≠67→v'.call=v.call)):=by
 by_cases z1:h=110
 ·subst z1
  replace ht:=iEn ht
  obtain ⟨w,b1,u,e,h1,h2,rfl,rfl⟩:=ht
  exact ⟨rfl,rfl,fun hb=>⟨fun _=>CL h1 (Lf hb).1,fun h=>absurd h (by decide),fun _=>rfl,fun h=>absurd h (by decide),fun _=>rfl⟩⟩
 by_cases z2:h=116
 ·subst z2
  replace ht:=iEt ht
  obtain ⟨w,b1,u,e,h1,h2,rfl,rfl⟩:=ht
  exact ⟨rfl,rfl,fun hb=>⟨fun _=>CL h1 (Lf hb).1,fun h=>absurd h (by decide),fun _=>rfl,fun h=>absurd h (by decide),fun _=>rfl⟩⟩
 by_cases z3:h=105
 ·subst z3
  replace ht:=iEi ht
  obtain ⟨w,b1,u,e,h1,h2,rfl,rfl⟩:=ht
  exact ⟨rfl,rfl,fun hb=>⟨fun _=>CL h1 (Lf hb).1,fun h=>absurd h (by decide),fun _=>rfl,fun h=>absurd h (by decide),fun _=>rfl⟩⟩
 by_cases z4:h=88
 ·subst z4
  replace ht:=iEX ht
  obtain ⟨w,b1,u,e,h1,h2,rfl,rfl⟩:=ht
  exact ⟨rfl,rfl,fun hb=>⟨fun _=>CL h1 (Lf hb).1,fun _=>h2.2.1 (Lf hb).2,fun h=>absurd rfl h,fun h=>absurd h (by decide),fun _=>rfl⟩⟩
 by_cases z5:h=99
 ·subst z5
  replace ht:=iEc ht
  obtain ⟨w,b1,h1,_,rfl,rfl⟩:=ht
  exact ⟨rfl,rfl,fun hb=>⟨fun _=>CL h1 hb,fun h=>absurd h (by decide),fun _=>rfl,fun h=>absurd h (by decide),fun _=>rfl⟩⟩
 by_cases z6:h=83
 ·subst z6
  replace ht:=iES ht
  obtain ⟨w,b1,u,e,h1,h2,rfl,rfl⟩:=ht
  exact ⟨rfl,rfl,fun hb=>⟨fun _=>CL h1 (Lf hb).1,fun h=>absurd h (by decide),fun _=>rfl,fun h=>absurd h (by decide),fun _=>rfl⟩⟩
 by_cases z7:h=98
 ·subst z7
  replace ht:=iEb ht
  obtain ⟨l,h1,h2,rfl⟩:=ht
  exact ⟨rfl,rfl,fun hb=>⟨fun _=>h1.bad hb,fun h=>absurd h (by decide),fun _=>rfl,fun h=>absurd h (by decide),fun _=>rfl⟩⟩
 by_cases z8:h=107
 ·subst z8
  replace ht:=iEk ht
  obtain ⟨l,h1,h2,rfl⟩:=ht
  exact ⟨rfl,rfl,fun hb=>⟨fun _=>h1.bad hb,fun h=>absurd h (by decide),fun _=>rfl,fun h=>absurd h (by decide),fun _=>rfl⟩⟩
 by_cases z9:h=67
 ·subst z9
  replace ht:=iEC ht
  obtain ⟨c,h1,_,rfl⟩:=ht
  refine ⟨rfl,rfl,fun hb=>?_⟩
  subst hb
  exact ⟨fun h=>(V6 h1 (h.resolve_right fun h=>h rfl)).1,fun h=>absurd h (by decide),fun _=>rfl,fun _ hc=>(V6 h1 hc).2,fun h=>absurd rfl h⟩
 ·rw [Cb,Ff z1,Ff z2,Ff z3,Ff z4,Ff z5,Ff z6,Ff z7,Ff z8,Ff z9] at ht
  exact ht.elim
theorem Bl.ch:∀ {hs:List UInt8} {ws r:List ByteArray} {bad b:Bool} {v v':EvD},Bl hs ws bad v v' r b→v'.kind=v.kind∧hs.foldl CQ (zE v')=hs.foldl CQ (zE v)∧(Hr hs=true→b=false→(((67:UInt8)∈hs→v'.call.what≠0)→bad=false∧((88:UInt8)∈hs∨okX v.x=true→okX v'.x=true)∧((67:UInt8)∈hs→Whole v'.call))∧(hs=[]→v'=v))
 | [],ws,r,bad,b,v,v',⟨h1,h2,h3⟩=>by
  subst h1
  exact ⟨rfl,rfl,fun _ hb=>⟨fun _=>⟨by rw [← h3];exact hb,fun h=>by rcases h with h | h;cases h;exact h,fun h=>by cases h⟩,fun _=>rfl⟩⟩
 | x::hs,ws,r,bad,b,v,v',⟨r1,b1,c1,h1,h2⟩=>by
  obtain ⟨c,hz,h3⟩:=Cb.ch h1
  obtain ⟨k1,k3,k4⟩:=Bl.ch h2
  refine ⟨k1.trans c,?_,fun hl hb=>⟨fun hw=>?_,fun h=>by cases h⟩⟩
  ·show hs.foldl CQ (CQ (zE v') x)=hs.foldl CQ (CQ (zE v) x)
   rw [Ls,k3,← Ls,hz]
  ·simp only [Hr,Bq,Bool.or_eq_true,Bool.not_eq_true',Bool.or_eq_false_iff,beq_eq_false_iff_ne,ne_eq,List.isEmpty_iff] at hl
   obtain ⟨k5,k7⟩:=k4 hl.2 hb
   obtain ⟨k5,k6,k8⟩:=k5 fun h=>hw (List.mem_cons_of_mem _ h)
   obtain ⟨h4,h5,h6,h7,h8⟩:=h3 k5
   refine ⟨h4 ?_,fun h=>k6 ?_,fun h=>?_⟩
   ·by_cases hx:x=67
    ·have:hs=[]:=by
      rcases hl.1 with h | h
      ·exact absurd hx h.2
      ·exact h
     left
     rw [← k7 this]
     exact hw (by rw [hx];simp)
    ·exact .inr hx
   ·by_cases hx:x=88
    ·exact .inr (h5 hx)
    ·rcases h with h | h
     ·rcases List.mem_cons.1 h with h | h
      ·exact absurd h.symm hx
      ·exact .inl h
     ·exact .inr (by rw [h6 hx];exact h)
   ·by_cases hx:x=67
    ·have:hs=[]:=by
      rcases hl.1 with h | h
      ·exact absurd hx h.2
      ·exact h
     rw [k7 this]
     exact h7 hx
    ·rcases List.mem_cons.1 h with h | h
     ·exact absurd h.symm hx
     ·exact k8 h
theorem Q1 {v:EvD}:∀ {hs:List UInt8} {ws:List Word} {l:EvD},((88:UInt8)∈hs→okX v.x=true)→((67:UInt8)∈hs→(∃ ws',CB v.call=some (ws',Bc))∧(partsOf v.call.what).1≠[])→∃ ws',goE v hs ws l=some (ws',hs.foldl CQ l)
 | [],ws,l,_,_=>⟨ws,rfl⟩
 | x::hs,ws,l,h,hc=>by
  have:∃ w,FC v x=some w:=by
   by_cases hx:x=67
   ·subst hx
    obtain ⟨⟨ws',h1⟩,h2⟩:=hc (by simp)
    refine ⟨ws',?_⟩
    show (match CB v.call with | some (ws,_)=>if (partsOf v.call.what).1=[] then none else some ws | none=>none)=some ws'
    rw [h1]
    show (if _ then _ else _)=_
    rw [Ff h2]
   ·by_cases hy:x=88
    ·subst hy
     exact ⟨[Cs v.x],by show (if okX v.x=true then _ else _)=_;rw [if_pos (h (by simp))]⟩
    ·unfold FC
     simp only [hx,hy,if_false]
     repeat' split
     all_goals exact ⟨_,rfl⟩
  obtain ⟨w,hw⟩:=this
  have hcl:Hi v x l=CQ l x:=by
   by_cases hx:x=67
   ·subst hx
    obtain ⟨⟨ws',h1⟩,h2⟩:=hc (by simp)
    show (match CB v.call with | some (_,c)=>{ l with call:=c } | none=>l)=_
    rw [h1];rfl
   ·unfold Hi CQ YV
    simp only [hx,if_false]
  obtain ⟨ws',h2⟩:=Q1 (v:=v) (hs:=hs) (ws:=ws++w) (l:=CQ l x) (fun h3=>h (List.mem_cons_of_mem _ h3)) (fun h3=>hc (List.mem_cons_of_mem _ h3))
  refine ⟨ws',?_⟩
  unfold goE
  rw [hw]
  show goE v hs (ws++w) (Hi v x l)=_
  rw [hcl]
  exact h2
theorem Xo:∀ i < 18,(67:UInt8)∈(Ak i).2→i=16:=by decide
theorem AcH {v:EvD} {ws r:List ByteArray} (h:EvT ws v r false) (hk:v.kind≠0) (hc:v.kind=16→v.call.what≠0):DL v=some (Bh v):=by
 obtain ⟨w,r1,b1,h1,h4⟩:=h
 obtain ⟨k1,k3,k4⟩:=Bl.ch h4
 have k1:v.kind=Fp (bl w):=k1
 have h17:=Kk (bl w)
 rw [← k1] at k3 k4
 have hC:(67:UInt8)∈(Ak v.kind).2→v.call.what≠0:=fun h=>hc (Xo v.kind (by omega) h)
 obtain ⟨k5,_⟩:=k4 (KK _) rfl
 obtain ⟨k5,k6,k7⟩:=k5 hC
 obtain ⟨ws',h5⟩:=Q1 (v:=v) (hs:=(Ak v.kind).2) (ws:=[(Ak v.kind).1]) (l:=zE v) (fun h6=>k6 (.inl h6)) (fun h6=>k7 h6 (hC h6))
 have k3:(Ak v.kind).2.foldl CQ (zE v)=(Ak v.kind).2.foldl CQ BQ:=k3
 rw [k3,OX] at h5
 have:=Lo h5
 refine C6.2 ⟨rfl,?_,PK (by omega) (by omega)⟩
 have e:ws'=Bh v:=by rw [this];rfl
 rw [← e]
 exact h5
def szR (l:List (ByteArray × Nat)):Nat:=(l.map fun r=>(bl r.1).length+1).sum
def szC (c:Ax):Nat:=(bl c.queue).length+(bl c.tag).length+(bl c.body).length+szR c.refs
def szV (v:EvD):Nat:=(bl v.s).length+v.nodes.length+v.Bd.length+szC v.call
theorem CD {ws r:List ByteArray} {w:ByteArray} {bad b:Bool} (h:AP ws bad w r b):(bl w).length+Ba r≤Ba ws:=(AP.sum h).1
theorem Run.sz {α:Type} {R:Word→α→Bool→Prop} {f:α→Nat} (hR:∀ w x b,R w x b→f x≤w.length):∀ {l:List α} {ws:List ByteArray} {bad:Bool} {ws':List ByteArray} {bad':Bool},Run R ws bad l ws' bad'→(l.map fun x=>f x+1).sum+Ba ws'≤Ba ws
 | [],ws,bad,ws',bad',h=>by rw [h.1];simp
 | x::l,ws,bad,ws',bad',⟨w,r,b,h1,_,h3,h4⟩=>by
  have:=Run.sz hR h4
  have h5:=hR _ _ _ h3
  rw [h1,Mc,List.sum_cons]
  show _≤(bl w).length+1+Ba r
  omega
theorem Vj {α:Type} (l:List α):(l.map fun _=>0+1).sum=l.length:=by
 induction l with
 | nil=>rfl
 | cons a l ih=>rw [Mc,List.sum_cons,Lc,ih];omega
theorem Run.Aaa {α:Type} {R:Word→α→Bool→Prop} {l:List α} {ws:List ByteArray} {bad:Bool} {ws':List ByteArray} {bad':Bool} (h:Run R ws bad l ws' bad'):l.length+Ba ws'≤Ba ws:=by
 have:=Run.sz (f:=fun _=>0) (fun _ _ _ _=>Nat.zero_le _) h
 have e:=Vj l
 omega
theorem BR.sz {h:UInt8} {ws r:List ByteArray} {bad b:Bool} {v v':Ax} (ht:BR h ws bad v v' r b):(v.Wf→v'.Wf)∧szC v'+Ba r≤szC v+Ba ws:=by
 by_cases z1:h=81
 ·subst z1
  replace ht:=iCQ ht
  obtain ⟨w,b1,u,e,h1,h2,rfl,rfl⟩:=ht
  refine ⟨fun h=>⟨h.what,h.ses,h.x,h.n,h.refs⟩,?_⟩
  have:=CD h1
  have:=h2.1
  simp only [szC,Cp]
  omega
 by_cases z2:h=84
 ·subst z2
  replace ht:=iCT ht
  obtain ⟨w,b1,u,e,h1,h2,rfl,rfl⟩:=ht
  refine ⟨fun h=>⟨h.what,h.ses,h.x,h.n,h.refs⟩,?_⟩
  have:=CD h1
  have:=h2.1
  simp only [szC,Cp]
  omega
 by_cases z3:h=66
 ·subst z3
  replace ht:=iCB ht
  obtain ⟨w,b1,u,e,h1,h2,rfl,rfl⟩:=ht
  refine ⟨fun h=>⟨h.what,h.ses,h.x,h.n,h.refs⟩,?_⟩
  have:=CD h1
  have:=h2.1
  simp only [szC,Cp]
  omega
 by_cases z4:h=78
 ·subst z4
  replace ht:=iCN ht
  obtain ⟨w,b1,u,e,h1,h2,rfl,rfl⟩:=ht
  refine ⟨fun h=>⟨h.what,h.ses,h.x,Nat.lt_succ_of_le h2.1,h.refs⟩,?_⟩
  have:=CD h1
  simp only [szC]
  omega
 by_cases z5:h=88
 ·subst z5
  replace ht:=iCX ht
  obtain ⟨w,b1,u,e,h1,h2,rfl,rfl⟩:=ht
  refine ⟨fun h=>⟨h.what,h.ses,h2.1,h.n,h.refs⟩,?_⟩
  have:=CD h1
  simp only [szC]
  omega
 by_cases z6:h=101
 ·subst z6
  replace ht:=iCE ht
  obtain ⟨w,b1,h1,_,rfl,rfl⟩:=ht
  refine ⟨fun h=>⟨h.what,h.ses,h.x,h.n,h.refs⟩,?_⟩
  have:=CD h1
  simp only [szC]
  omega
 by_cases z7:h=109
 ·subst z7
  replace ht:=iCM ht
  obtain ⟨w,b1,h1,_,rfl,rfl⟩:=ht
  refine ⟨fun h=>⟨h.what,h.ses,h.x,h.n,h.refs⟩,?_⟩
  have:=CD h1
  simp only [szC]
  omega
 by_cases z8:h=100
 ·subst z8
  replace ht:=iCD ht
  obtain ⟨w,b1,h1,_,rfl,rfl⟩:=ht
  refine ⟨fun h=>⟨h.what,h.ses,h.x,h.n,h.refs⟩,?_⟩
  have:=CD h1
  simp only [szC]
  omega
 by_cases z9:h=115
 ·subst z9
  replace ht:=iCS ht
  obtain ⟨w,b1,h1,_,rfl,rfl⟩:=ht
  refine ⟨fun h=>⟨h.what,h.ses,h.x,h.n,h.refs⟩,?_⟩
  have:=CD h1
  simp only [szC]
  omega
 by_cases z10:h=102
 ·subst z10
  replace ht:=iCF ht
  obtain ⟨w,b1,h1,_,rfl,rfl⟩:=ht
  refine ⟨fun h=>⟨h.what,h.ses,h.x,h.n,h.refs⟩,?_⟩
  have:=CD h1
  simp only [szC]
  omega
 by_cases z11:h=82
 ·subst z11
  replace ht:=iCR ht
  obtain ⟨l,h1,h2,rfl⟩:=ht
  refine ⟨fun h=>⟨h.what,h.ses,h.x,h.n,h1.mem (P:=fun r=>U64 r.2) fun w x b hR=>hR.1⟩,?_⟩
  have:=h1.sz (f:=fun r=>(bl r.1).length) fun w x b hR=>hR.2.1
  simp only [szC,szR]
  omega
 ·rw [BR,Ff z1,Ff z2,Ff z3,Ff z4,Ff z5,Ff z6,Ff z7,Ff z8,Ff z9,Ff z10,Ff z11] at ht
  exact ht.elim
theorem Bp.sz:∀ {hs:List UInt8} {ws r:List ByteArray} {bad b:Bool} {v v':Ax},Bp hs ws bad v v' r b→(v.Wf→v'.Wf)∧szC v'+Ba r≤szC v+Ba ws
 | [],ws,r,bad,b,v,v',⟨h1,h2,h3⟩=>by
  subst h1;subst h2
  exact ⟨fun h=>h,Nl _⟩
 | x::hs,ws,r,bad,b,v,v',⟨r1,b1,c1,h1,h2⟩=>by
  obtain ⟨a1,a2⟩:=BR.sz h1
  obtain ⟨b1,b2⟩:=Bp.sz h2
  exact ⟨fun h=>b1 (a1 h),by omega⟩
theorem Mg.sz {c:Ax} {ws r:List ByteArray} {bad b:Bool} (h:Mg ws bad c r b):c.Wf∧szC c+Ba r≤Ba ws:=by
 obtain ⟨w,r1,b1,n,e,w2,r2,b2,h1,h2,h3,h4⟩:=h
 obtain ⟨k1,k2⟩:=Bp.sz h4
 have e1:=CD h1
 have e2:=CD h3
 have h21:=Kl (bl w2)
 refine ⟨k1 ⟨by show Fq (bl w2) < 256;omega,Nat.lt_succ_of_le h2.1,show DY.f < _ by decide,by show (0:Nat) < _;omega,fun r hr=>(by cases hr)⟩,?_⟩
 have k2:szC c+Ba r≤0+Ba r2:=k2
 omega
theorem Cb.sz {h:UInt8} {ws r:List ByteArray} {bad b:Bool} {v v':EvD} (ht:Cb h ws bad v v' r b):(v.Wf→v'.Wf)∧szV v'+Ba r≤szV v+Ba ws:=by
 by_cases z1:h=110
 ·subst z1
  replace ht:=iEn ht
  obtain ⟨w,b1,u,e,h1,h2,rfl,rfl⟩:=ht
  refine ⟨fun h=>⟨h.kind,Nat.lt_succ_of_le h2.1,h.to,h.n,h.x,h.nodes,h.Bd,h.call⟩,?_⟩
  have:=CD h1
  simp only [szV]
  omega
 by_cases z2:h=116
 ·subst z2
  replace ht:=iEt ht
  obtain ⟨w,b1,u,e,h1,h2,rfl,rfl⟩:=ht
  refine ⟨fun h=>⟨h.kind,h.node,Nat.lt_succ_of_le h2.1,h.n,h.x,h.nodes,h.Bd,h.call⟩,?_⟩
  have:=CD h1
  simp only [szV]
  omega
 by_cases z3:h=105
 ·subst z3
  replace ht:=iEi ht
  obtain ⟨w,b1,u,e,h1,h2,rfl,rfl⟩:=ht
  refine ⟨fun h=>⟨h.kind,h.node,h.to,h2.1,h.x,h.nodes,h.Bd,h.call⟩,?_⟩
  have:=CD h1
  simp only [szV]
  omega
 by_cases z4:h=88
 ·subst z4
  replace ht:=iEX ht
  obtain ⟨w,b1,u,e,h1,h2,rfl,rfl⟩:=ht
  refine ⟨fun h=>⟨h.kind,h.node,h.to,h.n,h2.1,h.nodes,h.Bd,h.call⟩,?_⟩
  have:=CD h1
  simp only [szV]
  omega
 by_cases z5:h=99
 ·subst z5
  replace ht:=iEc ht
  obtain ⟨w,b1,h1,_,rfl,rfl⟩:=ht
  refine ⟨fun h=>⟨h.kind,h.node,h.to,h.n,h.x,h.nodes,h.Bd,h.call⟩,?_⟩
  have:=CD h1
  simp only [szV]
  omega
 by_cases z6:h=83
 ·subst z6
  replace ht:=iES ht
  obtain ⟨w,b1,u,e,h1,h2,rfl,rfl⟩:=ht
  refine ⟨fun h=>⟨h.kind,h.node,h.to,h.n,h.x,h.nodes,h.Bd,h.call⟩,?_⟩
  have:=CD h1
  have:=h2.1
  simp only [szV,Cp]
  omega
 by_cases z7:h=98
 ·subst z7
  replace ht:=iEb ht
  obtain ⟨l,h1,h2,rfl⟩:=ht
  refine ⟨fun h=>⟨h.kind,h.node,h.to,h.n,h.x,h1.mem (P:=fun k=>k < 256) fun w x b hR=>Nat.lt_succ_of_le hR.1,h.Bd,h.call⟩,?_⟩
  have:=h1.Aaa
  simp only [szV]
  omega
 by_cases z8:h=107
 ·subst z8
  replace ht:=iEk ht
  obtain ⟨l,h1,h2,rfl⟩:=ht
  refine ⟨fun h=>⟨h.kind,h.node,h.to,h.n,h.x,h.nodes,h1.mem (P:=fun k=>Mx k) fun w x b hR=>hR.1,h.call⟩,?_⟩
  have:=h1.Aaa
  simp only [szV]
  omega
 by_cases z9:h=67
 ·subst z9
  replace ht:=iEC ht
  obtain ⟨c,h1,_,rfl⟩:=ht
  obtain ⟨h2,h3⟩:=h1.sz
  refine ⟨fun h=>⟨h.kind,h.node,h.to,h.n,h.x,h.nodes,h.Bd,h2⟩,?_⟩
  simp only [szV]
  omega
 ·rw [Cb,Ff z1,Ff z2,Ff z3,Ff z4,Ff z5,Ff z6,Ff z7,Ff z8,Ff z9] at ht
  exact ht.elim
theorem Bl.sz:∀ {hs:List UInt8} {ws r:List ByteArray} {bad b:Bool} {v v':EvD},Bl hs ws bad v v' r b→(v.Wf→v'.Wf)∧szV v'+Ba r≤szV v+Ba ws
 | [],ws,r,bad,b,v,v',⟨h1,h2,h3⟩=>by
  subst h1;subst h2
  exact ⟨fun h=>h,Nl _⟩
 | x::hs,ws,r,bad,b,v,v',⟨r1,b1,c1,h1,h2⟩=>by
  obtain ⟨a1,a2⟩:=Cb.sz h1
  obtain ⟨b1,b2⟩:=Bl.sz h2
  exact ⟨fun h=>b1 (a1 h),by omega⟩
theorem Lh:Bc.Wf:=⟨by decide,by decide,show DY.f < _ by decide,by decide,fun r hr=>by cases hr⟩
theorem EvT.sz {v:EvD} {ws r:List ByteArray} {b:Bool} (h:EvT ws v r b):v.Wf∧szV v+Ba r≤Ba ws:=by
 obtain ⟨w,r1,b1,h1,h4⟩:=h
 obtain ⟨k1,k2⟩:=Bl.sz h4
 have e1:=CD h1
 have h17:=Kk (bl w)
 have wf0:BQ.Wf:=⟨by decide,by decide,by decide,by decide,show DY.f < _ by decide,fun r hr=>(by cases hr),fun r hr=>(by cases hr),Lh⟩
 refine ⟨k1 ⟨by show Fp (bl w) < 256;omega,wf0.node,wf0.to,wf0.n,wf0.x,wf0.nodes,wf0.Bd,wf0.call⟩,?_⟩
 have k2:szV v+Ba r≤0+Ba r1:=k2
 omega
end Go.Proofs.YtebidlpekphaoaaGreatDoor
namespace Go.Abs
section
variable {P:Program} {ts te:TypeId} {n:Nat} {β:Type} {f:β→List Value}
theorem Th (hlen:∀ x,(f x).length=n+1) {cs:List Value}:∀ (l:List β) (o:Nat),(∀ (i:Nat) p,l[i]? =some p→∃ rest,cs.drop (o+i * (n+1))=f p++rest)→∃ rest,cs.drop o=flat f l++rest
 | [],o,_=>⟨cs.drop o,by simp [flat]⟩
 | p::r,o,h=>by
  obtain ⟨rest0,h0⟩:=h 0 p rfl
  obtain ⟨rest,h1⟩:=Th hlen r (o+(n+1)) fun i q hq=>by
   have:=h (i+1) q (by simpa using hq)
   rwa [Nat.succ_mul,show o+(i * (n+1)+(n+1))=o+(n+1)+i * (n+1) by omega] at this
  refine ⟨rest,?_⟩
  rw [Nat.zero_mul,Nat.add_zero] at h0
  have h2:cs.drop (o+(n+1))=rest0:=by
   rw [← List.drop_drop,h0,← hlen p,List.drop_left]
  rw [h2] at h1
  rw [h0,h1]
  simp [flat]
theorem VH (h:∀ x,(f x).all (fun v=>!isTuple v)=true) (l:List β):(flat f l).all (fun v=>!isTuple v)=true:=by
 rw [List.all_eq_true]
 intro v hv
 obtain ⟨b,_,hb⟩:=List.mem_flatMap.1 hv
 exact List.all_eq_true.1 (h b) v hb
theorem VG (h:∀ x,(f x).all AL=true) (l:List β):(flat f l).all AL=true:=by
 rw [List.all_eq_true]
 intro v hv
 obtain ⟨b,_,hb⟩:=List.mem_flatMap.1 hv
 exact List.all_eq_true.1 (h b) v hb
end
end Go.Abs
namespace Go.Abs
section
variable {P:Program} {ts te:TypeId} {β:Type} {f:β→List Value}
theorem ES.Ach (T:ES P ts te f) {A:AW} {x:Value} {l:List β} {F:List Nat} (h:RdE 0 f A x l F):B9 P A te ts 1 x=some (l.length,flat f l):=by
 unfold B9
 simp only [T.us]
 rcases h with ⟨rfl,_,o,c,rfl⟩ | ⟨r,o,c,cs,e,g,b,ro,rfl,h2,h3,_,h4⟩
 ·cases o with
  | none=>rfl
  | some a=>
   unfold EE
   simp only [Nat.zero_mul]
   rfl
 ·show EE A 1 _=_
  unfold EE
  obtain ⟨rest,hr⟩:=Th (n:=0) T.len l o h4
  have:=Eu (flat f l) rest (VH T.noT l)
  rw [FY T.len] at this
  simp only [CI h2,hr,this]
theorem CZ.Yk {A:AW} {v:Value} {l:List β} {F:List Nat} (h:CZ te 0 f A v l F):∃ o c,v=.slice o l.length c:=by
 rcases h with ⟨rfl,h2,_⟩ | ⟨b',g,rfl,_⟩
 ·exact ⟨_,_,by rw [h2]⟩
 ·exact ⟨_,_,rfl⟩
def Jd (te:TypeId) (f:β→List Value) (A:AW) (v:Value) (l:List β) (F:List Nat):Prop:=
 CZ te 0 f A v l F∨∃ b,v=.slice (some ⟨b,0,none⟩) l.length l.length∧AD A b (flat f l) te∧l≠[]∧l.length < 100000000∧F=[b]
theorem Jd.slice {A:AW} {v:Value} {l:List β} {F:List Nat} (h:Jd te f A v l F):∃ o c,v=.slice o l.length c:=by
 rcases h with h | ⟨b,rfl,_⟩
 ·exact h.Yk
 ·exact ⟨_,_,rfl⟩
theorem Jd.keeps {A A':AW} {v:Value} {l:List β} {F S:List Nat} (h:Jd te f A v l F) (k:Ay A A' S) (hd:∀ x∈F,x∉S):Jd te f A' v l F:=by
 rcases h with h | ⟨b,h1,h2,h3,h4,rfl⟩
 ·exact .inl (h.keeps k hd)
 ·exact .inr ⟨b,h1,h2.keeps k (hd b (by simp)),h3,h4,rfl⟩
theorem Jd.one {A:AW} {v:Value} {l:List β} {F:List Nat} (h:Jd te f A v l F):v.cells.toList=[v]∧AL v=true:=by
 obtain ⟨o,c,rfl⟩:=h.slice
 exact ⟨rfl,rfl⟩
theorem Jd.append (T:ES P ts te f) {A:AW} {v x:Value} {l l2:List β} {F F2:List Nat} {K:Value→AW→Prop} (h:Jd te f A v l F) (hx:RdE 0 f A x l2 F2) (hf:AH A) (hA:A.next < Ap) (hl:l.length < 10000000) (hl2:l2.length < 10000000)
  (hk:∀ v' A' F',Jd te f A' v' (l++l2) F'→Ay A A' F→(∀ x∈F',x∈F∨x=A.next)→A'.next≤A.next+1→AH A'→K v' A'):Al (Bf P A ts ts v x) K:=by
 have hroom:room=68719476736:=rfl
 have hcap:BH=18446744073709551616:=rfl
 obtain ⟨b,hb,hb2⟩:=T.by'
 have hse:BJ P ts=some te:=by unfold BJ;rw [T.us]
 have hsrc:=T.Ach hx
 cases l2 with
 | nil=>
  obtain ⟨o,c,rfl⟩:=h.slice
  have hm:(l.length+0) * b≤(l.length+0) * 256:=Nat.mul_le_mul_left _ hb2
  have e:Bf P A ts ts (.slice o l.length c) x=.ok (.slice o l.length c) A:=by
   have hsrc:B9 P A te ts 1 x=some (0,[]):=hsrc
   unfold Bf
   simp only [hse,T.sz,hb,hsrc]
   rw [AE.2 (show l.length+0 < room by omega),AE.2 (show (l.length+0) * b < room by omega),T.hz]
   rfl
  rw [e]
  refine Bg.2 (hk _ A F ?_ (.refl _ _) (fun x hx=>.inl hx) (by omega) hf)
  rw [List.append_nil]
  exact h
 | cons p r=>
  rw [Lc] at hl2
  have hm:(l.length+(r.length+1)) * b≤(l.length+(r.length+1)) * 256:=Nat.mul_le_mul_left _ hb2
  rcases h with h | ⟨q,rfl,h2,h3,h4,rfl⟩
  ·refine MF (m:=r.length) (size:=0) hse T.sz hb T.hz hsrc (by rw [FY T.len];rfl) (VG T.one _) h hf hA (by omega) (by omega) fun v' A' F' h1 h2 h3 h4 h5=>?_
   refine hk v' A' F' (.inl ?_) h2 h3 (by omega) h5
   show Hj A' te (0+1) v' (l++p::r).length (flat f (l++p::r)) F'
   rw [Lq,Jr]
   exact h1
  ·have hsrc:B9 P A te ts 1 x=some (r.length+1,flat f (p::r)):=hsrc
   have hold:A.Di ⟨q,0,none⟩ (l.length * 1)=some (flat f l):=by
    rw [Nat.mul_one]
    unfold AW.Di
    cases hl3:l.length with
    | zero=>exact absurd (List.eq_nil_of_length_eq_zero hl3) h3
    | succ k=>
     simp only [h2.row,List.drop_zero]
     have:=IL (flat f l) []
     rw [FY T.len,Nat.mul_one,hl3,List.append_nil] at this
     exact this
   have hnew:A.new (.row (flat f l++flat f (p::r)) te A.next 0 false)=some (A.next,A.push (.row (flat f l++flat f (p::r)) te A.next 0 false)):=by
    unfold AW.new
    simp only [AE.2 hA,Ct]
    rfl
   have e:Bf P A ts ts (.slice (some ⟨q,0,none⟩) l.length l.length) x=.ok (.slice (some ⟨A.next,0,none⟩) (l.length+(r.length+1)) (BH+(l.length+(r.length+1)))) (A.push (.row (flat f l++flat f (p::r)) te A.next 0 false)):=by
    unfold Bf
    simp only [hse,T.sz,hb,hsrc]
    rw [AE.2 (show l.length+(r.length+1) < room by omega),AE.2 (show (l.length+(r.length+1)) * b < room by omega),T.hz]
    have hcu:Nat.ble BH l.length=false:=BZ.2 (by omega)
    have hfit':Nat.ble (l.length+(r.length+1)) l.length=false:=BZ.2 (by omega)
    simp only [hcu,Cf,hfit',Bool.not_true,Bool.and_self]
    rw [hold]
    simp only [hnew]
   rw [e]
   have hrow:(A.push (.row (flat f l++flat f (p::r)) te A.next 0 false)).get A.next=some (.row (flat f l++flat f (p::r)) te A.next 0 false):=by rw [AW.CF _ hA,if_pos rfl]
   have hfp:=hf.push (.row (flat f l++flat f (p::r)) te A.next 0 false) hA
   refine Bg.2 (hk _ _ [A.next] (.inl (.inr ⟨A.next,A.next,by rw [Lq,Lc],?_,rfl⟩)) (((AW.Dv _ hA).keeps hf).more (by simp)) (fun x hx=>.inr (by simpa using hx)) (by rw [AW.CH];omega) hfp)
   refine ⟨by rw [Lq,Lc];omega,by rw [hrow,Jr],by rw [FY T.len],Nat.zero_le _,Nat.zero_le _,by rw [AW.CH];omega,fun i hi=>?_⟩
   have:(A.push (.row (flat f l++flat f (p::r)) te A.next 0 false)).members A.next=[A.next]:=hf.alone (Nl _)
   rw [this] at hi
   obtain rfl:i=A.next:=by simpa using hi
   exact ⟨Nat.zero_le _,by rw [AW.CH];omega,_,_,_,_,hrow⟩
end
end Go.Abs
namespace Go.Proofs.YtebidlpekphaoaaGreatDoor
open Go.Abs
def cS (s:ByteArray):List Value:=[.string s]
theorem Hh:ES Tp 56 9 cS:=⟨by kernel_rfl,by kernel_rfl,⟨16,by kernel_rfl,by decide⟩,by kernel_rfl,GS,fun _=>rfl,fun _=>rfl,fun _=>rfl⟩
theorem PE (ws:List ByteArray):flat cS ws=ws.map Value.string:=by
 induction ws with
 | nil=>rfl
 | cons w r ih=>
  show cS w++flat cS r=_
  rw [ih];rfl
theorem PC {ws:List ByteArray} {i:Nat} {s:ByteArray} (h:ws[i]? =some s):(flat cS ws)[i]? =some (.string s):=by
 rw [PE,List.getElem?_map,h];rfl
theorem Cz {A A':AW} {ws:List ByteArray} (m:Made A A' (ws.map Value.string) 9):RdE 0 cS A' (.slice (some ⟨A.next,0,none⟩) ws.length ws.length) ws [A.next]:=by
 refine .inr ⟨A.next,0,_,_,_,A.next,0,false,rfl,m.row,by rw [m.next];omega,rfl,fun i p hi=>?_⟩
 rw [← PE,Nat.zero_add]
 exact GC (n:=1) (fun _=>rfl) ws i p hi
theorem S3 {A A':AW} {ws:List ByteArray} (m:Made A A' (ws.map Value.string) 9) (h:ws≠[]) (hl:ws.length < 100000000):Jd 9 cS A' (.slice (some ⟨A.next,0,none⟩) ws.length ws.length) ws [A.next]:=
 .inr ⟨A.next,rfl,by rw [PE];exact m.BU,h,hl,rfl⟩
theorem Xu {A:AW} {v:Value} {x:ByteArray} {r:List ByteArray} {F:List Nat} (h:Jd 9 cS A v (x::r) F):RdT A v (x::r) F:=by
 rcases h with (⟨_,h2,_⟩ | ⟨b,f,rfl,h2,rfl⟩) | ⟨b,rfl,h2,_,_,rfl⟩
 ·cases h2
 ·exact ⟨b,0,_,_,_,f,0,false,rfl,h2.row,h2.ltf,rfl,fun i s hi=>by rw [Nat.zero_add];exact PC hi⟩
 ·exact ⟨b,0,_,_,_,b,0,false,rfl,h2.row,h2.lt,rfl,fun i s hi=>by rw [Nat.zero_add];exact PC hi⟩
theorem Wz {A:AW} {b m:Nat} {cs:List Value} {g b0:Nat} {ro:Bool} (hr:A.get b=some (.row cs 9 g b0 ro)):Br Tp A 56 (.slice (some ⟨b,0,none⟩) (m+2) (BH+(m+2))) (some (.int .i64 1)) none none=some (.slice (some ⟨b,1,none⟩) (m+1) (BH+(m+1))):=by
 have hrow:JA A (some ⟨b,0,none⟩) 9=true:=by unfold JA;simp only [hr];exact beq_true.2 rfl
 have hm:JG (some ⟨b,0,none⟩) (1 * 1)=some ⟨b,1,none⟩:=rfl
 show Br Tp A 56 _ (some (.int .i64 (.ofNat 1))) none none=_
 unfold Br
 simp only [Wx,sz9,Bt.2 (show BH≤BH+(m+2) by omega),Ct,bounds,Is,EQ,Nat.add_sub_cancel_left,Bt.2 (show 1≤m+2 by omega),Bt.2 (Nl (m+2)),Option.isSome_none,Bool.not_false,Bool.or_true,hrow,Bool.and_self,hm]
 rfl
section
variable {W0:World} {m0:Inj Tp}
theorem AaT {A:AW} {v:Value} {x:ByteArray} {r:List ByteArray} {F:List Nat} {K:Value→AW→Prop} (h:Jd 9 cS A v (x::r) F) (hr:r.length < 10000000) (hsum:D2 (x::r) < 900000000) (hf:AH A) (hA:A.next+10 < Ap)
  (hk:∀ A',Grow A A' 2→K (.string (txt (BP (x::r)))) A'):Wc Tp Aw W0 m0 45 [v,.string ⟨⟨[32]⟩⟩] A K:=by
 cases r with
 | nil=>
  refine Zr (Xu h) ?_
  have e:txt (BP [x])=x:=by
   show txt (bl x++[])=x
   rw [List.append_nil];exact E3 x
  have:=hk A ((Grow.refl hf).more (by omega))
  rwa [e] at this
 | cons y r=>
  refine Zs (n:=r.length) (F:=F) rfl (by simp only [Lc] at hr;omega) hsum (fun {B} k=>Xu (Jd.keeps h k (by simp))) (fun {B} k=>?_) hf hA hk
  rcases h with (⟨_,h2,_⟩ | ⟨b,f,rfl,h2,rfl⟩) | ⟨b,rfl,h2,_,h4,rfl⟩
  ·cases h2
  ·have hrow:=k.get b _ h2.row h2.ltf (by simp)
   refine ⟨_,Wz hrow,fun {C} kc=>⟨b,1,_,_,_,f,0,false,rfl,kc.get b _ h2.row h2.ltf (by simp),Nat.lt_of_lt_of_le h2.ltf kc.next,rfl,fun i s hi=>?_⟩⟩
   rw [Nat.add_comm]
   exact PC (ws:=x::y::r) (by simpa using hi)
  ·simp only [Lc] at h4
   refine ⟨_,Aci (by omega),fun {C} kc=>⟨b,1,_,_,_,b,0,false,rfl,(h2.keeps kc (by simp)).row,Nat.lt_of_lt_of_le h2.lt kc.next,rfl,fun i s hi=>?_⟩⟩
   rw [Nat.add_comm]
   exact PC (ws:=x::y::r) (by simpa using hi)
structure LW (A0 A:AW) (b:Nat) (cs:List Value) (te:TypeId) (p:Nat) (ws:List ByteArray) (N:Nat):Prop where
 ev:Go.Abs.AD A b cs te
 out:∃ v F,Go.Abs.AD A p [v] 56∧Jd 9 cS A v ws F∧p∉F∧b∉F∧∀ x∈F,A0.next≤x
 g:Grow A0 A N
 le:A0.next≤p
 ne:b≠p
theorem LW.f {A0 A:AW} {b:Nat} {cs:List Value} {te:TypeId} {p N:Nat} {ws:List ByteArray} (h:LW A0 A b cs te p ws N):AH A:=h.g.Az
theorem LW.n {A0 A:AW} {b:Nat} {cs:List Value} {te:TypeId} {p N:Nat} {ws:List ByteArray} (h:LW A0 A b cs te p ws N):A.next≤A0.next+N:=h.g.next
theorem LW.grow {A0 A A':AW} {b:Nat} {cs:List Value} {te:TypeId} {p N m:Nat} {ws:List ByteArray} (h:LW A0 A b cs te p ws N) (k:Grow A A' m):LW A0 A' b cs te p ws (N+m):=by
 obtain ⟨v,F,h1,h2,h3,h4,h5⟩:=h.out
 exact ⟨h.ev.keeps k.keeps (by simp),⟨v,F,h1.keeps k.keeps (by simp),h2.keeps k.keeps (by simp),h3,h4,h5⟩,h.g.trans k,h.le,h.ne⟩
theorem LW.more {A0 A:AW} {b:Nat} {cs:List Value} {te:TypeId} {p N m:Nat} {ws:List ByteArray} (h:LW A0 A b cs te p ws N) (hm:N≤m):LW A0 A b cs te p ws m:=⟨h.ev,h.out,h.g.more hm,h.le,h.ne⟩
theorem LW.add {A0 A:AW} {b:Nat} {cs:List Value} {te:TypeId} {p N:Nat} {ws us:List ByteArray} {x:Value} {F2:List Nat} {f:FuncId} {K:Value→AW→Prop} (h:LW A0 A b cs te p ws N) (hf:f=55∨f=84) (hx:RdE 0 cS A x us F2) (hw:ws.length < 10000000) (hu:us.length < 10000000) (hA:A0.next+N+1 < Ap)
  (hk:∀ A',LW A0 A' b cs te p (ws++us) (N+1)→K (.tuple ⟨[]⟩) A'):Wc Tp Aw W0 m0 f [x,pP p 0] A K:=by
 obtain ⟨v,F,h1,h2,h3,h4,h5⟩:=h.out
 have hn:=h.n
 have hone:=h2.one
 have l1:At Tp A 56 (pP p 0)=some v:=by
  rw [LX,AF h1.row]
  obtain ⟨o,c,rfl⟩:=h2.slice
  rfl
 have main:Ab (At Tp A 56 (pP p 0)) fun t0=>Al (Bf Tp A 56 56 t0 x) fun t1 At1=>Bb (AB Tp At1 56 (pP p 0) t1) fun At2=>K (.tuple ⟨[]⟩) At2:=by
  refine Aa l1 (h2.append Hh hx h.f (by omega) hw hu fun v' A1 F' o1 k1 hF n1 f1=>?_)
  have hp:p∉F':=fun hm=>by
   rcases hF p hm with e | e
   ·exact h3 e
   ·have:=h1.lt;omega
  have hb:b∉F':=fun hm=>by
   rcases hF b hm with e | e
   ·exact h4 e
   ·have:=h.ev.lt;omega
  have hone':=o1.one
  refine Go.Abs.AD.store (n:=1) (off:=0) (v:=v') (h1.keeps k1 h3) f1 (by omega) (SR _ _ _) (by rw [hone'.1];rfl) (show 0+1≤1 by decide) (by rw [hone'.1];simp [hone'.2]) fun A2 r2 k2 n2 f2=>?_
  rw [hone'.1] at r2
  have hle:A0.next≤A.next:=h.g.le
  have K1:Ay A A2 (p::F):=(k1.more (T:=p::F) fun y hy=>.inl (List.mem_cons_of_mem _ hy)).trans k2 fun y hy=>.inl (by rw [Ms.1 hy];simp)
  refine hk A2 ⟨h.ev.keeps K1 ?_,⟨v',F',r2,o1.keeps k2 fun y hy hm=>hp (by rw [← Ms.1 hm];exact hy),hp,hb,fun y hy=>?_⟩,h.g.own K1 (fun y hy=>?_) (by omega) f2,h.le,h.ne⟩
  ·intro hm
   rcases List.mem_cons.1 hm with e | e
   ·exact h.ne e
   ·exact h4 e
  ·rcases hF y hy with e | e
   ·exact h5 y e
   ·omega
  ·rcases List.mem_cons.1 hy with e | e
   ·rw [e];exact h.le
   ·exact h5 y e
 rcases hf with rfl | rfl
 ·refine w55 _ _ _ (AA (S:=fun _ _ _=>False) fun _ _ _ h=>h) ?_
  rw [e55];exact main
 ·refine w84 _ _ _ (AA (S:=fun _ _ _=>False) fun _ _ _ h=>h) ?_
  rw [e84];exact main
theorem Abf (A:AW) (p:Nat) (x:Value):Gg Tp Aw A (.func (.func 55) ⟨[]⟩ ⟨[pP p 0]⟩) [x]=.ok (.enter 55 [x,pP p 0]) A:=by kernel_rfl
theorem Abc (A:AW) (p:Nat) (x:Value):Gg Tp Aw A (.func (.func 84) ⟨[]⟩ ⟨[pP p 0]⟩) [x]=.ok (.enter 84 [x,pP p 0]) A:=by kernel_rfl
theorem LW.Ga {A0 A:AW} {b:Nat} {cs:List Value} {te:TypeId} {p N:Nat} {ws us:List ByteArray} {x:Value} {F2:List Nat} {K:Value→AW→Prop} (h:LW A0 A b cs te p ws N) (hx:RdE 0 cS A x us F2) (hw:ws.length < 10000000) (hu:us.length < 10000000) (hA:A0.next+N+1 < Ap)
  (hk:∀ A',LW A0 A' b cs te p (ws++us) (N+1)→K (.tuple ⟨[]⟩) A'):anW Tp Aw W0 m0 (Gg Tp Aw A (.func (.func 55) ⟨[]⟩ ⟨[pP p 0]⟩) [x]) K:=by
 rw [Abf]
 refine .inr (.inl ⟨_,_,_,rfl,?_⟩)
 show Wc Tp Aw W0 m0 55 _ A _
 exact h.add (.inl rfl) hx hw hu hA hk
theorem LW.F9 {A0 A:AW} {b:Nat} {cs:List Value} {te:TypeId} {p N:Nat} {ws us:List ByteArray} {x:Value} {F2:List Nat} {K:Value→AW→Prop} (h:LW A0 A b cs te p ws N) (hx:RdE 0 cS A x us F2) (hw:ws.length < 10000000) (hu:us.length < 10000000) (hA:A0.next+N+1 < Ap)
  (hk:∀ A',LW A0 A' b cs te p (ws++us) (N+1)→K (.tuple ⟨[]⟩) A'):anW Tp Aw W0 m0 (Gg Tp Aw A (.func (.func 84) ⟨[]⟩ ⟨[pP p 0]⟩) [x]) K:=by
 rw [Abc]
 refine .inr (.inl ⟨_,_,_,rfl,?_⟩)
 show Wc Tp Aw W0 m0 84 _ A _
 exact h.add (.inr rfl) hx hw hu hA hk
theorem LW.join {A0 A:AW} {b:Nat} {cs:List Value} {te:TypeId} {p N:Nat} {ws:List ByteArray} {K:Value→AW→Prop} (h:LW A0 A b cs te p ws N) (h0:ws≠[]) (hw:ws.length < 10000000) (hsum:D2 ws < 900000000) (hA:A0.next+N+10 < Ap)
  (hk:∀ A',Grow A0 A' (N+2)→K (.string (txt (BP ws))) A'):Ab (At Tp A 56 (pP p 0)) fun t=>Wc Tp Aw W0 m0 45 [t,.string ⟨⟨[32]⟩⟩] A K:=by
 obtain ⟨v,F,h1,h2,h3,h4,h5⟩:=h.out
 have hn:=h.n
 have l1:At Tp A 56 (pP p 0)=some v:=by
  rw [LX,AF h1.row]
  obtain ⟨o,c,rfl⟩:=h2.slice
  rfl
 refine Aa l1 ?_
 cases ws with
 | nil=>exact absurd rfl h0
 | cons x r=>
  simp only [Lc] at hw
  exact AaT h2 (by omega) hsum h.f (by omega) fun A' g=>hk A' (h.g.trans g)
end
theorem D9 (A:AW) (s:ByteArray):Ar Tp A 56 1 [(0,.string s)]=(match A.newRow [.string s] 9 with | some (a,w')=>.ok (.slice (some a) 1 1) w' | none=>.fail "buildSlice new"):=by kernel_rfl
theorem LD (A:AW) (s t u:ByteArray):Ar Tp A 56 3 [(0,.string s),(1,.string t),(2,.string u)]=(match A.newRow [.string s,.string t,.string u] 9 with | some (a,w')=>.ok (.slice (some a) 3 3) w' | none=>.fail "buildSlice new"):=by kernel_rfl
theorem AcD (s:ByteArray):AR Tp (BA (Tm.fill ⟨1,.nil⟩ 0 [.string s])) (.buildSlice 56 1 #[(0,.tmp 0)])=some (.slice [.string s] 9 1):=by kernel_rfl
theorem AcC (s t:ByteArray):AR Tp (BA (Tm.fill ⟨2,.nil⟩ 0 [.string s,.string t])) (.buildSlice 56 2 #[(0,.tmp 0),(1,.tmp 1)])=some (.slice [.string s,.string t] 9 2):=by kernel_rfl
theorem AcB (s t u:ByteArray):AR Tp (BA (Tm.fill ⟨3,.nil⟩ 0 [.string s,.string t,.string u])) (.buildSlice 56 3 #[(0,.tmp 0),(1,.tmp 1),(2,.tmp 2)])=some (.slice [.string s,.string t,.string u] 9 3):=by kernel_rfl
theorem Aa4 {A:AW} {q:Nat} {s:ByteArray} {p:Prop} (h:A.get q=some (.row [.string s] 9 q 0 false)) (hp:p):Bz (AR Tp (BA (Tm.fill ⟨1,.nil⟩ 0 [.string s])) (.buildSlice 56 1 #[(0,.tmp 0)])) A (.slice (some ⟨q,0,none⟩) 1 1) p:=by
 refine ⟨⟨_,AcD _,?_⟩,hp⟩
 simp only [B8,Eo,h,Em,FU,Bool.and_self,Option.isNone_none,Nat.beq_refl]
theorem Mq {A:AW} {q:Nat} {s t:ByteArray} {p:Prop} (h:A.get q=some (.row [.string s,.string t] 9 q 0 false)) (hp:p):Bz (AR Tp (BA (Tm.fill ⟨2,.nil⟩ 0 [.string s,.string t])) (.buildSlice 56 2 #[(0,.tmp 0),(1,.tmp 1)])) A (.slice (some ⟨q,0,none⟩) 2 2) p:=by
 refine ⟨⟨_,AcC _ _,?_⟩,hp⟩
 simp only [B8,Eo,h,Em,FU,Bool.and_self,Option.isNone_none,Nat.beq_refl]
theorem Ue {A:AW} {q:Nat} {s t u:ByteArray} {p:Prop} (h:A.get q=some (.row [.string s,.string t,.string u] 9 q 0 false)) (hp:p):Bz (AR Tp (BA (Tm.fill ⟨3,.nil⟩ 0 [.string s,.string t,.string u])) (.buildSlice 56 3 #[(0,.tmp 0),(1,.tmp 1),(2,.tmp 2)])) A (.slice (some ⟨q,0,none⟩) 3 3) p:=by
 refine ⟨⟨_,AcB _ _ _,?_⟩,hp⟩
 simp only [B8,Eo,h,Em,FU,Bool.and_self,Option.isNone_none,Nat.beq_refl]
theorem AcE:AR Tp (fun _=>undef) (.alloc 56)=some (.row [.slice none 0 0] 56):=by kernel_rfl
theorem PD {A:AW} {q:Nat} {p:Prop} (h:A.get q=some (.row [.slice none 0 0] 56 q 0 false)) (hp:p):Bz (AR Tp (fun _=>undef) (.alloc 56)) A (pP q 0) p:=by
 refine ⟨⟨_,AcE,?_⟩,hp⟩
 simp only [B8,Eo,h,Em,Bool.true_and,Nat.beq_refl]
 rfl
end Go.Proofs.YtebidlpekphaoaaGreatDoor
namespace Go.Proofs.YtebidlpekphaoaaGreatDoor
open Go.Abs
section
variable {W0:World} {m0:Inj Tp}
theorem PQ (A:AW) (s t u v:ByteArray):Ar Tp A 56 4 [(0,.string s),(1,.string t),(2,.string u),(3,.string v)]=(match A.newRow [.string s,.string t,.string u,.string v] 9 with | some (a,w')=>.ok (.slice (some a) 4 4) w' | none=>.fail "buildSlice new"):=by kernel_rfl
theorem rd4 {A A':AW} {s t u v:ByteArray} (m:Made A A' [.string s,.string t,.string u,.string v] 9):RdT A' (.slice (some ⟨A.next,0,none⟩) 4 4) [s,t,u,v] [A.next]:=
 ⟨A.next,0,4,_,9,A.next,0,false,rfl,m.row,by rw [m.next];omega,rfl,fun i x hi=>by
  match i with
  | 0=>cases hi;rfl
  | 1=>cases hi;rfl
  | 2=>cases hi;rfl
  | 3=>cases hi;rfl
  | i+4=>simp at hi⟩
set_option maxHeartbeats 4000000 in
theorem AbD {q:Nat} {ws:List ByteArray} {bad:Bool} {F:List Nat} {A:AW} {K:Value→AW→Prop} (hp:Pow W0) (h:TK A q ws bad F) (hF:∀ x∈F,x < A.next) (hg:GE A) (hq:8≤q) (hs:D3 ws) (hwl:Ba ws < 50000000) (hf:AH A) (hA:A.next+100 * Ba ws+4000 < Ap)
  (hk:∀ A' c vr G ws' bad',Mg ws bad c ws' bad'→RdE 1 cR A' vr c.refs G→(∀ x∈G,A.next≤x)→TK A' q ws' bad' F→Ay A A' [q]→A'.next+100 * Ba ws'≤A.next+100 * Ba ws+2000→AH A'→K (.agg ⟨c.cells vr⟩) A'):
  Wc Tp Aw W0 m0 72 [pP q 0] A K:=by
 have hqA:q < A.next:=by obtain ⟨⟨v,r,_⟩,_⟩:=h;exact r.lt
 refine w72 _ _ (AA (S:=fun _ _ _=>False) fun _ _ _ h=>h) ?_
 rw [e72]
 refine AI Gc hf (by omega) rfl fun Y1 y1=>?_
 have ny1:=y1.next
 have ky1:=y1.keeps hf
 refine Ty (.inr (.inr rfl)) (h.keeps ky1 (by simp) (by simp)) (hg.keeps ky1 (by simp)) hq hs y1.Az (by omega) fun Y2 w r b n e ht hu tk2 k2 n2 f2=>?_
 have hu:UW 18446744073709551615 (bl w) n e:=hu
 have hw:=AP.sum ht
 have hs1:=(AP.short ht hs).2
 have le2:=k2.next
 refine Aa (AcV _) (AI Gc f2 (by omega) rfl fun Y3 y3=>?_)
 have ny3:=y3.next
 have ky3:=y3.keeps f2
 have K13:Ay A Y3 [q]:=((ky1.more (T:=[q]) (by simp)).trans k2 fun x hx=>.inl hx).trans ky3 (by simp)
 have s0:SW A Y3 q A.next Y2.next (Bc.cells vN) (Bc.cells vN) 38 F r (b || e):=
  ⟨(y1.BU.keeps k2 (by simp;omega)).keeps ky3 (by simp),y3.BU,tk2.keeps ky3 (by simp) (by simp),K13,y3.Az,Nl _,by omega,hqA,hF⟩
 refine s0.set (n:=12) (off:=0) (v:=.agg ⟨({ Bc with ses:=n }:Ax).cells vN⟩) (by omega) (GJ _ _ _) rfl (by decide) rfl fun Y4 z4 k4 n4=>?_
 have s0:SW A Y4 q A.next Y2.next (Bc.cells vN) (({ Bc with ses:=n }:Ax).cells vN) 38 F r (b || e):=z4
 refine Zg s0.f (by omega) fun Y5 vm g5=>?_
 have n5:=g5.next
 have s0:=s0.grow g5.keeps g5.Az
 refine Kj s0.tk s0.f (by omega) fun Y6 w2 r0 b0 ht0 tk6 k6 n6 f6=>?_
 have hw0:=AP.sum ht0
 have hs0:=(AP.short ht0 hs1).2
 have le5:=g5.le
 have vm:=vm.keeps k6 (by simp;omega)
 have s0:=s0.take tk6 k6 f6
 refine Aa (vm.look w2) (Aa (DJ Y2.next 0) ?_)
 have hk21:=Kl (bl w2)
 have hdef:((Dq Il (bl w2)).getD 0)=Fq (bl w2):=rfl
 rw [hdef]
 generalize hkk:Fq (bl w2)=kk at hk21 ⊢
 refine s0.set (n:=1) (off:=0) (v:=.int .u8 (kk:Int)) (by omega) (Gk _ _ _) rfl (show 0+1≤12 by decide) rfl fun Y7 z7 k7 n7=>?_
 have s0:SW A Y7 q A.next Y2.next (Bc.cells vN) (({ Bc with ses:=n,what:=kk }:Ax).cells vN) 38 F r0 b0:=z7
 have l7:At Tp Y7 5 (pP Y2.next 0)=some (.int .u8 (kk:Int)):=by
  rw [Pz,AF s0.r3.row];rfl
 have fin:∀ {B:AW} {c:Ax} {vr:Value} {G:List Nat} {r':List ByteArray} {b':Bool},SW A B q A.next Y2.next (Bc.cells vN) (c.cells vr) 38 F r' b'→RdE 1 cR B vr c.refs G→(∀ x∈G,Y2.next < x)→Bp (partsOf kk).2 r0 b0 { Bc with ses:=n,what:=kk } c r' b'→
   B.next+100 * Ba r'≤A.next+100 * Ba ws+2000→(Ab (At Tp B 38 (pP Y2.next 0)) fun t=>Bb (AB Tp B 38 (pP A.next 0) t) fun B2=>Ab (At Tp B2 38 (pP A.next 0)) fun v=>K v B2):=fun {B c vr G r' b'} s hrd hG htk hn=>by
  have hone:=hrd.one
  refine Aa (BY s.r3 (DX c hone.2) rfl (Iv _ _)) ?_
  refine Go.Abs.AD.store (n:=12) (off:=0) (v:=.agg ⟨c.cells vr⟩) s.r0 s.f (by omega) (GJ _ _ _) rfl (show 0+12≤12 by decide) (CX c hone.1) fun B2 rb kb nb fb=>?_
  have rb:Go.Abs.AD B2 A.next (c.cells vr) 38:=rb
  refine Aa (BY rb (DX c hone.2) rfl (Iv _ _)) ?_
  refine hk B2 c vr G r' b' ⟨w,r,b,n,e,w2,r0,b0,ht,hu,ht0,by rw [hkk];exact htk⟩ (hrd.keeps kb (fun x hx=>by have:=hG x hx;simp;omega)) (fun x hx=>by have:=hG x hx;omega) (s.tk.keeps kb (by simp;omega) (fun x hx=>by have:=hF x hx;simp;omega)) (s.k.trans kb fun x hx=>.inr (by rw [Ms.1 hx];exact Nl _)) (by omega) fb
 refine Aa (DJ Y2.next 0) (Aa l7 ?_)
 generalize hp3:Y2.next=p3 at *
 refine Aa Ai (Af.2 ⟨fun hc=>?_,fun hc3=>?_⟩)
 ·obtain rfl:kk=3:=by omega
  refine Ki s0.tk hs0 s0.f (by omega) fun A1 w1 r1 b1 u1 e1 ht1 hu1 tk1 k1 n1 f1=>?_
  have s1:=s0.take tk1 k1 f1
  have hw1:=AP.sum ht1
  have hs1:=(AP.short ht1 hs0).2
  refine Ty (.inr (.inl rfl)) s1.tk (s1.ge hg hq) hq hs1 s1.f (by omega) fun A2 w2 r2 b2 u2 e2 ht2 hu2 tk2 k2 n2 f2=>?_
  have hu2:UW 4294967295 (bl w2) u2 e2:=hu2
  have hm2:=hu2.1
  refine Co (HR _ _ _) ?_
  rw [wrap_u32 (by omega) (by omega)]
  have s2:=s1.take tk2 k2 f2
  have hw2:=AP.sum ht2
  have hs2:=(AP.short ht2 hs1).2
  refine Aa (Cy p3 0) ?_
  refine s2.set (n:=1) (off:=2) (v:=(.string (txt u1))) (by omega) (GI _ _ _) rfl (show 2+1≤12 by decide) rfl fun C1 z1 kc1 nc1=>?_
  have s2:SW A C1 q A.next p3 _ (Ax.cells { Bc with ses:=n,what:=3,queue:=txt u1 } vN) 38 F r2 _:=z1
  refine Aa (C4 p3 0) ?_
  refine s2.set (n:=1) (off:=7) (v:=(.int .u32 (u2:Int))) (by omega) (Ql _ _ _) rfl (show 7+1≤12 by decide) rfl fun C2 z2 kc2 nc2=>?_
  have s2:SW A C2 q A.next p3 _ (Ax.cells { Bc with ses:=n,what:=3,queue:=txt u1,n:=u2 } vN) 38 F r2 _:=z2
  exact fin s2 (.nil _ _ _) (by simp) (Bp.cons (tCQ ht1 hu1) (Bp.cons (tCN ht2 hu2) (Bp.nil))) (by omega)
 refine Aa Ai (Af.2 ⟨fun hc=>?_,fun hc4=>?_⟩)
 ·obtain rfl:kk=4:=by omega
  refine Ki s0.tk hs0 s0.f (by omega) fun A1 w1 r1 b1 u1 e1 ht1 hu1 tk1 k1 n1 f1=>?_
  have s1:=s0.take tk1 k1 f1
  have hw1:=AP.sum ht1
  have hs1:=(AP.short ht1 hs0).2
  refine UD s1.tk s1.f (by omega) fun A2 w2 r2 b2 ht2 tk2 k2 n2 f2=>?_
  have s2:=s1.take tk2 k2 f2
  have hw2:=AP.sum ht2
  have hs2:=(AP.short ht2 hs1).2
  refine Aa (Cy p3 0) ?_
  refine s2.set (n:=1) (off:=2) (v:=(.string (txt u1))) (by omega) (GI _ _ _) rfl (show 2+1≤12 by decide) rfl fun C1 z1 kc1 nc1=>?_
  have s2:SW A C1 q A.next p3 _ (Ax.cells { Bc with ses:=n,what:=4,queue:=txt u1 } vN) 38 F r2 _:=z1
  refine Aa (BF p3 0) ?_
  refine s2.set (n:=1) (off:=8) (v:=(.bool (bl w2==Dg))) (by omega) (EL _ _ _) rfl (show 8+1≤12 by decide) rfl fun C2 z2 kc2 nc2=>?_
  have s2:SW A C2 q A.next p3 _ (Ax.cells { Bc with ses:=n,what:=4,queue:=txt u1,a:=bl w2==Dg } vN) 38 F r2 _:=z2
  exact fin s2 (.nil _ _ _) (by simp) (Bp.cons (tCQ ht1 hu1) (Bp.cons (tCE ht2) (Bp.nil))) (by omega)
 refine Aa Ai (Af.2 ⟨fun hc=>?_,fun hc5=>?_⟩)
 ·obtain rfl:kk=5:=by omega
  refine Ki s0.tk hs0 s0.f (by omega) fun A1 w1 r1 b1 u1 e1 ht1 hu1 tk1 k1 n1 f1=>?_
  have s1:=s0.take tk1 k1 f1
  have hw1:=AP.sum ht1
  have hs1:=(AP.short ht1 hs0).2
  refine Aa (Cy p3 0) ?_
  refine s1.set (n:=1) (off:=2) (v:=(.string (txt u1))) (by omega) (GI _ _ _) rfl (show 2+1≤12 by decide) rfl fun C1 z1 kc1 nc1=>?_
  have s1:SW A C1 q A.next p3 _ (Ax.cells { Bc with ses:=n,what:=5,queue:=txt u1 } vN) 38 F r1 _:=z1
  exact fin s1 (.nil _ _ _) (by simp) (Bp.cons (tCQ ht1 hu1) (Bp.nil)) (by omega)
 refine Aa Ai (Af.2 ⟨fun hc=>?_,fun hc6=>?_⟩)
 ·obtain rfl:kk=6:=by omega
  refine Ki s0.tk hs0 s0.f (by omega) fun A1 w1 r1 b1 u1 e1 ht1 hu1 tk1 k1 n1 f1=>?_
  have s1:=s0.take tk1 k1 f1
  have hw1:=AP.sum ht1
  have hs1:=(AP.short ht1 hs0).2
  refine Aa (Cy p3 0) ?_
  refine s1.set (n:=1) (off:=2) (v:=(.string (txt u1))) (by omega) (GI _ _ _) rfl (show 2+1≤12 by decide) rfl fun C1 z1 kc1 nc1=>?_
  have s1:SW A C1 q A.next p3 _ (Ax.cells { Bc with ses:=n,what:=6,queue:=txt u1 } vN) 38 F r1 _:=z1
  exact fin s1 (.nil _ _ _) (by simp) (Bp.cons (tCQ ht1 hu1) (Bp.nil)) (by omega)
 refine Aa Ai (Af.2 ⟨fun hc=>?_,fun hc7=>?_⟩)
 ·obtain rfl:kk=7:=by omega
  refine Ki s0.tk hs0 s0.f (by omega) fun A1 w1 r1 b1 u1 e1 ht1 hu1 tk1 k1 n1 f1=>?_
  have s1:=s0.take tk1 k1 f1
  have hw1:=AP.sum ht1
  have hs1:=(AP.short ht1 hs0).2
  refine Ki s1.tk hs1 s1.f (by omega) fun A2 w2 r2 b2 u2 e2 ht2 hu2 tk2 k2 n2 f2=>?_
  have s2:=s1.take tk2 k2 f2
  have hw2:=AP.sum ht2
  have hs2:=(AP.short ht2 hs1).2
  refine Ki s2.tk hs2 s2.f (by omega) fun A3 w3 r3 b3 u3 e3 ht3 hu3 tk3 k3 n3 f3=>?_
  have s3:=s2.take tk3 k3 f3
  have hw3:=AP.sum ht3
  have hs3:=(AP.short ht3 hs2).2
  refine Aa (Cy p3 0) ?_
  refine s3.set (n:=1) (off:=2) (v:=(.string (txt u1))) (by omega) (GI _ _ _) rfl (show 2+1≤12 by decide) rfl fun C1 z1 kc1 nc1=>?_
  have s3:SW A C1 q A.next p3 _ (Ax.cells { Bc with ses:=n,what:=7,queue:=txt u1 } vN) 38 F r3 _:=z1
  refine Aa (CG p3 0) ?_
  refine s3.set (n:=1) (off:=3) (v:=(.string (txt u2))) (by omega) (GI _ _ _) rfl (show 3+1≤12 by decide) rfl fun C2 z2 kc2 nc2=>?_
  have s3:SW A C2 q A.next p3 _ (Ax.cells { Bc with ses:=n,what:=7,queue:=txt u1,tag:=txt u2 } vN) 38 F r3 _:=z2
  refine Aa (Ei p3 0) ?_
  refine s3.set (n:=1) (off:=11) (v:=(.string (txt u3))) (by omega) (GI _ _ _) rfl (show 11+1≤12 by decide) rfl fun C3 z3 kc3 nc3=>?_
  have s3:SW A C3 q A.next p3 _ (Ax.cells { Bc with ses:=n,what:=7,queue:=txt u1,tag:=txt u2,body:=txt u3 } vN) 38 F r3 _:=z3
  exact fin s3 (.nil _ _ _) (by simp) (Bp.cons (tCQ ht1 hu1) (Bp.cons (tCT ht2 hu2) (Bp.cons (tCB ht3 hu3) (Bp.nil)))) (by omega)
 refine Aa Ai (Af.2 ⟨fun hc=>?_,fun hc8=>?_⟩)
 ·obtain rfl:kk=8:=by omega
  refine Ki s0.tk hs0 s0.f (by omega) fun A1 w1 r1 b1 u1 e1 ht1 hu1 tk1 k1 n1 f1=>?_
  have s1:=s0.take tk1 k1 f1
  have hw1:=AP.sum ht1
  have hs1:=(AP.short ht1 hs0).2
  refine Ki s1.tk hs1 s1.f (by omega) fun A2 w2 r2 b2 u2 e2 ht2 hu2 tk2 k2 n2 f2=>?_
  have s2:=s1.take tk2 k2 f2
  have hw2:=AP.sum ht2
  have hs2:=(AP.short ht2 hs1).2
  refine Aa (Cy p3 0) ?_
  refine s2.set (n:=1) (off:=2) (v:=(.string (txt u1))) (by omega) (GI _ _ _) rfl (show 2+1≤12 by decide) rfl fun C1 z1 kc1 nc1=>?_
  have s2:SW A C1 q A.next p3 _ (Ax.cells { Bc with ses:=n,what:=8,queue:=txt u1 } vN) 38 F r2 _:=z1
  refine Aa (CG p3 0) ?_
  refine s2.set (n:=1) (off:=3) (v:=(.string (txt u2))) (by omega) (GI _ _ _) rfl (show 3+1≤12 by decide) rfl fun C2 z2 kc2 nc2=>?_
  have s2:SW A C2 q A.next p3 _ (Ax.cells { Bc with ses:=n,what:=8,queue:=txt u1,tag:=txt u2 } vN) 38 F r2 _:=z2
  exact fin s2 (.nil _ _ _) (by simp) (Bp.cons (tCQ ht1 hu1) (Bp.cons (tCT ht2 hu2) (Bp.nil))) (by omega)
 refine Aa Ai (Af.2 ⟨fun hc=>?_,fun hc9=>?_⟩)
 ·obtain rfl:kk=9:=by omega
  refine Ki s0.tk hs0 s0.f (by omega) fun A1 w1 r1 b1 u1 e1 ht1 hu1 tk1 k1 n1 f1=>?_
  have s1:=s0.take tk1 k1 f1
  have hw1:=AP.sum ht1
  have hs1:=(AP.short ht1 hs0).2
  refine Aa (CG p3 0) ?_
  refine s1.set (n:=1) (off:=3) (v:=(.string (txt u1))) (by omega) (GI _ _ _) rfl (show 3+1≤12 by decide) rfl fun C1 z1 kc1 nc1=>?_
  have s1:SW A C1 q A.next p3 _ (Ax.cells { Bc with ses:=n,what:=9,tag:=txt u1 } vN) 38 F r1 _:=z1
  exact fin s1 (.nil _ _ _) (by simp) (Bp.cons (tCT ht1 hu1) (Bp.nil)) (by omega)
 refine Aa Ai (Af.2 ⟨fun hc=>?_,fun hc11=>?_⟩)
 ·obtain rfl:kk=11:=by omega
  refine Ki s0.tk hs0 s0.f (by omega) fun A1 w1 r1 b1 u1 e1 ht1 hu1 tk1 k1 n1 f1=>?_
  have s1:=s0.take tk1 k1 f1
  have hw1:=AP.sum ht1
  have hs1:=(AP.short ht1 hs0).2
  refine Aa (CG p3 0) ?_
  refine s1.set (n:=1) (off:=3) (v:=(.string (txt u1))) (by omega) (GI _ _ _) rfl (show 3+1≤12 by decide) rfl fun C1 z1 kc1 nc1=>?_
  have s1:SW A C1 q A.next p3 _ (Ax.cells { Bc with ses:=n,what:=11,tag:=txt u1 } vN) 38 F r1 _:=z1
  exact fin s1 (.nil _ _ _) (by simp) (Bp.cons (tCT ht1 hu1) (Bp.nil)) (by omega)
 refine Aa Ai (Af.2 ⟨fun hc=>?_,fun hc10=>?_⟩)
 ·obtain rfl:kk=10:=by omega
  refine Ki s0.tk hs0 s0.f (by omega) fun A1 w1 r1 b1 u1 e1 ht1 hu1 tk1 k1 n1 f1=>?_
  have s1:=s0.take tk1 k1 f1
  have hw1:=AP.sum ht1
  have hs1:=(AP.short ht1 hs0).2
  refine Ty (.inr (.inl rfl)) s1.tk (s1.ge hg hq) hq hs1 s1.f (by omega) fun A2 w2 r2 b2 u2 e2 ht2 hu2 tk2 k2 n2 f2=>?_
  have hu2:UW 4294967295 (bl w2) u2 e2:=hu2
  have hm2:=hu2.1
  refine Co (HR _ _ _) ?_
  rw [wrap_u32 (by omega) (by omega)]
  have s2:=s1.take tk2 k2 f2
  have hw2:=AP.sum ht2
  have hs2:=(AP.short ht2 hs1).2
  refine Aa (CG p3 0) ?_
  refine s2.set (n:=1) (off:=3) (v:=(.string (txt u1))) (by omega) (GI _ _ _) rfl (show 3+1≤12 by decide) rfl fun C1 z1 kc1 nc1=>?_
  have s2:SW A C1 q A.next p3 _ (Ax.cells { Bc with ses:=n,what:=10,tag:=txt u1 } vN) 38 F r2 _:=z1
  refine Aa (C4 p3 0) ?_
  refine s2.set (n:=1) (off:=7) (v:=(.int .u32 (u2:Int))) (by omega) (Ql _ _ _) rfl (show 7+1≤12 by decide) rfl fun C2 z2 kc2 nc2=>?_
  have s2:SW A C2 q A.next p3 _ (Ax.cells { Bc with ses:=n,what:=10,tag:=txt u1,n:=u2 } vN) 38 F r2 _:=z2
  exact fin s2 (.nil _ _ _) (by simp) (Bp.cons (tCT ht1 hu1) (Bp.cons (tCN ht2 hu2) (Bp.nil))) (by omega)
 refine Aa Ai (Af.2 ⟨fun hc=>?_,fun hc14=>?_⟩)
 ·obtain rfl:kk=14:=by omega
  refine UD s0.tk s0.f (by omega) fun A1 w1 r1 b1 ht1 tk1 k1 n1 f1=>?_
  have s1:=s0.take tk1 k1 f1
  have hw1:=AP.sum ht1
  have hs1:=(AP.short ht1 hs0).2
  refine Aa (BF p3 0) ?_
  refine s1.set (n:=1) (off:=8) (v:=(.bool (bl w1==Et))) (by omega) (EL _ _ _) rfl (show 8+1≤12 by decide) rfl fun C1 z1 kc1 nc1=>?_
  have s1:SW A C1 q A.next p3 _ (Ax.cells { Bc with ses:=n,what:=14,a:=bl w1==Et } vN) 38 F r1 _:=z1
  refine XU s1.tk s1.fam (s1.ge hg hq) hq hs1 (by omega) s1.f (by omega) fun A2 v2 l2 G2 r2 b2 hr2 hst2 ho2 hG2 tk2 k2 n2 f2=>?_
  have s2:=s1.take tk2 k2 f2
  have le2:=k2.next
  have hvc2:v2.cells.toList=[v2]:=by obtain ⟨o,c,e⟩:=(ho2.rd (fun _=>rfl)).slice;rw [e];rfl
  refine Aa (C0 p3 0) ?_
  refine s2.set (n:=1) (off:=10) (v:=v2) (by omega) (Qk _ _ _) (by rw [hvc2];rfl) (show 10+1≤12 by decide) (by rw [hvc2];simp [ho2.one.1]) fun C2 z2 kc2 nc2=>?_
  rw [hvc2] at z2
  have s2:SW A C2 q A.next p3 _ (Ax.cells { Bc with ses:=n,what:=14,a:=bl w1==Et,refs:=l2 } v2) 38 F r2 _:=z2
  exact fin s2 ((ho2.keeps kc2 (fun x hx=>by have:=hG2 x hx;simp;omega)).rd (fun _=>rfl)) (fun x hx=>by have:=hG2 x hx;omega) (Bp.cons (tCM ht1) (Bp.cons (tCR hr2 hst2) (Bp.nil))) (by omega)
 refine Aa Ai (Af.2 ⟨fun hc=>?_,fun hc13=>?_⟩)
 ·obtain rfl:kk=13:=by omega
  refine XU s0.tk s0.fam (s0.ge hg hq) hq hs0 (by omega) s0.f (by omega) fun A1 v1 l1 G1 r1 b1 hr1 hst1 ho1 hG1 tk1 k1 n1 f1=>?_
  have s1:=s0.take tk1 k1 f1
  have le1:=k1.next
  have hvc1:v1.cells.toList=[v1]:=by obtain ⟨o,c,e⟩:=(ho1.rd (fun _=>rfl)).slice;rw [e];rfl
  refine Aa (C0 p3 0) ?_
  refine s1.set (n:=1) (off:=10) (v:=v1) (by omega) (Qk _ _ _) (by rw [hvc1];rfl) (show 10+1≤12 by decide) (by rw [hvc1];simp [ho1.one.1]) fun C1 z1 kc1 nc1=>?_
  rw [hvc1] at z1
  have s1:SW A C1 q A.next p3 _ (Ax.cells { Bc with ses:=n,what:=13,refs:=l1 } v1) 38 F r1 _:=z1
  exact fin s1 ((ho1.keeps kc1 (fun x hx=>by have:=hG1 x hx;simp;omega)).rd (fun _=>rfl)) (fun x hx=>by have:=hG1 x hx;omega) (Bp.cons (tCR hr1 hst1) (Bp.nil)) (by omega)
 refine Aa Ai (Af.2 ⟨fun hc=>?_,fun hc15=>?_⟩)
 ·obtain rfl:kk=15:=by omega
  refine XU s0.tk s0.fam (s0.ge hg hq) hq hs0 (by omega) s0.f (by omega) fun A1 v1 l1 G1 r1 b1 hr1 hst1 ho1 hG1 tk1 k1 n1 f1=>?_
  have s1:=s0.take tk1 k1 f1
  have le1:=k1.next
  have hvc1:v1.cells.toList=[v1]:=by obtain ⟨o,c,e⟩:=(ho1.rd (fun _=>rfl)).slice;rw [e];rfl
  refine Aa (C0 p3 0) ?_
  refine s1.set (n:=1) (off:=10) (v:=v1) (by omega) (Qk _ _ _) (by rw [hvc1];rfl) (show 10+1≤12 by decide) (by rw [hvc1];simp [ho1.one.1]) fun C1 z1 kc1 nc1=>?_
  rw [hvc1] at z1
  have s1:SW A C1 q A.next p3 _ (Ax.cells { Bc with ses:=n,what:=15,refs:=l1 } v1) 38 F r1 _:=z1
  exact fin s1 ((ho1.keeps kc1 (fun x hx=>by have:=hG1 x hx;simp;omega)).rd (fun _=>rfl)) (fun x hx=>by have:=hG1 x hx;omega) (Bp.cons (tCR hr1 hst1) (Bp.nil)) (by omega)
 refine Aa Ai (Af.2 ⟨fun hc=>?_,fun hc16=>?_⟩)
 ·obtain rfl:kk=16:=by omega
  refine UD s0.tk s0.f (by omega) fun A1 w1 r1 b1 ht1 tk1 k1 n1 f1=>?_
  have s1:=s0.take tk1 k1 f1
  have hw1:=AP.sum ht1
  have hs1:=(AP.short ht1 hs0).2
  refine Aa (BF p3 0) ?_
  refine s1.set (n:=1) (off:=8) (v:=(.bool (bl w1==IJ))) (by omega) (EL _ _ _) rfl (show 8+1≤12 by decide) rfl fun C1 z1 kc1 nc1=>?_
  have s1:SW A C1 q A.next p3 _ (Ax.cells { Bc with ses:=n,what:=16,a:=bl w1==IJ } vN) 38 F r1 _:=z1
  exact fin s1 (.nil _ _ _) (by simp) (Bp.cons (tCD ht1) (Bp.nil)) (by omega)
 refine Aa Ai (Af.2 ⟨fun hc=>?_,fun hc19=>?_⟩)
 ·obtain rfl:kk=19:=by omega
  refine TB hp s0.tk s0.fam (s0.ge hg hq) hq hs0 s0.f (by omega) fun A1 w1 r1 b1 u1 e1 ht1 hu1 tk1 k1 n1 f1=>?_
  have s1:=s0.take tk1 k1 f1
  have hw1:=AP.sum ht1
  have hs1:=(AP.short ht1 hs0).2
  refine Aa (DD p3 0) ?_
  refine s1.set (n:=3) (off:=4) (v:=(.agg ⟨u1.cells⟩)) (by omega) (FR _ _ _) rfl (show 4+3≤12 by decide) rfl fun C1 z1 kc1 nc1=>?_
  have s1:SW A C1 q A.next p3 _ (Ax.cells { Bc with ses:=n,what:=19,x:=u1 } vN) 38 F r1 _:=z1
  refine Bs (PQ _ (txt MJ) (txt E2) (txt C9) (txt Dl)) rfl s1.f (by omega) fun B2 m2=>?_
  have nb2:=m2.next
  have kb2:=m2.keeps s1.f
  have sb2:=s1.grow kb2 m2.Az
  refine Zd (ys:=E4) sb2.tk (rd4 m2) rfl (by have:=s1.nq;have:=s1.k.next;simp;omega) sb2.f (by omega) fun A2 w2 r2 b2 ht2 tk2 k2 n2 f2=>?_
  refine Aa Cw (Aa Cv ?_)
  have hw2:=AP.sum ht2
  have hs2:=(AP.short ht2 hs1).2
  have s2:=sb2.take tk2 k2 f2
  refine Aa (BF p3 0) ?_
  refine s2.set (n:=1) (off:=8) (v:=(.bool (Hs E4 w2))) (by omega) (EL _ _ _) rfl (show 8+1≤12 by decide) rfl fun C2 z2 kc2 nc2=>?_
  have s2:SW A C2 q A.next p3 _ (Ax.cells { Bc with ses:=n,what:=19,x:=u1,a:=Hs E4 w2 } vN) 38 F r2 _:=z2
  refine Aa (Db p3 0) ?_
  refine s2.set (n:=1) (off:=9) (v:=(.bool (Iw E4 w2))) (by omega) (EL _ _ _) rfl (show 9+1≤12 by decide) rfl fun C3 z3 kc3 nc3=>?_
  have s2:SW A C3 q A.next p3 _ (Ax.cells { Bc with ses:=n,what:=19,x:=u1,a:=Hs E4 w2,b:=Iw E4 w2 } vN) 38 F r2 _:=z3
  exact fin s2 (.nil _ _ _) (by simp) (Bp.cons (tCX ht1 hu1) (Bp.cons (tCS ht2) (Bp.nil))) (by omega)
 refine Aa Ai (Af.2 ⟨fun hc=>?_,fun hc20=>?_⟩)
 ·obtain rfl:kk=20:=by omega
  refine TB hp s0.tk s0.fam (s0.ge hg hq) hq hs0 s0.f (by omega) fun A1 w1 r1 b1 u1 e1 ht1 hu1 tk1 k1 n1 f1=>?_
  have s1:=s0.take tk1 k1 f1
  have hw1:=AP.sum ht1
  have hs1:=(AP.short ht1 hs0).2
  refine Aa (DD p3 0) ?_
  refine s1.set (n:=3) (off:=4) (v:=(.agg ⟨u1.cells⟩)) (by omega) (FR _ _ _) rfl (show 4+3≤12 by decide) rfl fun C1 z1 kc1 nc1=>?_
  have s1:SW A C1 q A.next p3 _ (Ax.cells { Bc with ses:=n,what:=20,x:=u1 } vN) 38 F r1 _:=z1
  refine Bs (PQ _ (txt IK) (txt FP) (txt CV) (txt Dl)) rfl s1.f (by omega) fun B2 m2=>?_
  have nb2:=m2.next
  have kb2:=m2.keeps s1.f
  have sb2:=s1.grow kb2 m2.Az
  refine Zd (ys:=KO) sb2.tk (rd4 m2) rfl (by have:=s1.nq;have:=s1.k.next;simp;omega) sb2.f (by omega) fun A2 w2 r2 b2 ht2 tk2 k2 n2 f2=>?_
  refine Aa Cw (Aa Cv ?_)
  have hw2:=AP.sum ht2
  have hs2:=(AP.short ht2 hs1).2
  have s2:=sb2.take tk2 k2 f2
  refine Aa (BF p3 0) ?_
  refine s2.set (n:=1) (off:=8) (v:=(.bool (Hs KO w2))) (by omega) (EL _ _ _) rfl (show 8+1≤12 by decide) rfl fun C2 z2 kc2 nc2=>?_
  have s2:SW A C2 q A.next p3 _ (Ax.cells { Bc with ses:=n,what:=20,x:=u1,a:=Hs KO w2 } vN) 38 F r2 _:=z2
  refine Aa (Db p3 0) ?_
  refine s2.set (n:=1) (off:=9) (v:=(.bool (Iw KO w2))) (by omega) (EL _ _ _) rfl (show 9+1≤12 by decide) rfl fun C3 z3 kc3 nc3=>?_
  have s2:SW A C3 q A.next p3 _ (Ax.cells { Bc with ses:=n,what:=20,x:=u1,a:=Hs KO w2,b:=Iw KO w2 } vN) 38 F r2 _:=z3
  exact fin s2 (.nil _ _ _) (by simp) (Bp.cons (tCX ht1 hu1) (Bp.cons (tCF ht2) (Bp.nil))) (by omega)
 refine Aa Ai (Af.2 ⟨fun hc=>?_,fun hc21=>?_⟩)
 ·obtain rfl:kk=21:=by omega
  refine TB hp s0.tk s0.fam (s0.ge hg hq) hq hs0 s0.f (by omega) fun A1 w1 r1 b1 u1 e1 ht1 hu1 tk1 k1 n1 f1=>?_
  have s1:=s0.take tk1 k1 f1
  have hw1:=AP.sum ht1
  have hs1:=(AP.short ht1 hs0).2
  refine Ty (.inr (.inl rfl)) s1.tk (s1.ge hg hq) hq hs1 s1.f (by omega) fun A2 w2 r2 b2 u2 e2 ht2 hu2 tk2 k2 n2 f2=>?_
  have hu2:UW 4294967295 (bl w2) u2 e2:=hu2
  have hm2:=hu2.1
  refine Co (HR _ _ _) ?_
  rw [wrap_u32 (by omega) (by omega)]
  have s2:=s1.take tk2 k2 f2
  have hw2:=AP.sum ht2
  have hs2:=(AP.short ht2 hs1).2
  refine Aa (DD p3 0) ?_
  refine s2.set (n:=3) (off:=4) (v:=(.agg ⟨u1.cells⟩)) (by omega) (FR _ _ _) rfl (show 4+3≤12 by decide) rfl fun C1 z1 kc1 nc1=>?_
  have s2:SW A C1 q A.next p3 _ (Ax.cells { Bc with ses:=n,what:=21,x:=u1 } vN) 38 F r2 _:=z1
  refine Aa (C4 p3 0) ?_
  refine s2.set (n:=1) (off:=7) (v:=(.int .u32 (u2:Int))) (by omega) (Ql _ _ _) rfl (show 7+1≤12 by decide) rfl fun C2 z2 kc2 nc2=>?_
  have s2:SW A C2 q A.next p3 _ (Ax.cells { Bc with ses:=n,what:=21,x:=u1,n:=u2 } vN) 38 F r2 _:=z2
  exact fin s2 (.nil _ _ _) (by simp) (Bp.cons (tCX ht1 hu1) (Bp.cons (tCN ht2 hu2) (Bp.nil))) (by omega)
 have hc:kk=0∨kk=1∨kk=2∨kk=12∨kk=17∨kk=18:=by omega
 refine fin s0 (.nil _ _ _) (by simp) ?_ (by omega)
 rcases hc with rfl | rfl | rfl | rfl | rfl | rfl <;> exact Bp.nil
end
structure RdV (A:AW) (v:EvD) (vn vk vr:Value) (G:List Nat):Prop where
 n:∃ F,RdE 0 cB A vn v.nodes F∧∀ x∈F,x∈G
 k:∃ F,RdE 0 cI A vk v.Bd F∧∀ x∈F,x∈G
 r:∃ F,RdE 1 cR A vr v.call.refs F∧∀ x∈F,x∈G
theorem RdV.keeps {A A':AW} {v:EvD} {vn vk vr:Value} {G S:List Nat} (h:RdV A v vn vk vr G) (k:Ay A A' S) (hd:∀ x∈G,x∉S):RdV A' v vn vk vr G:=by
 obtain ⟨⟨F1,h1,s1⟩,⟨F2,h2,s2⟩,⟨F3,h3,s3⟩⟩:=h
 exact ⟨⟨F1,h1.keeps k fun x hx=>hd x (s1 x hx),s1⟩,⟨F2,h2.keeps k fun x hx=>hd x (s2 x hx),s2⟩,⟨F3,h3.keeps k fun x hx=>hd x (s3 x hx),s3⟩⟩
theorem RdV.one {A:AW} {v:EvD} {vn vk vr:Value} {G:List Nat} (h:RdV A v vn vk vr G):(AL vn=true∧isTuple vn=false)∧(AL vk=true∧isTuple vk=false)∧AL vr=true∧isTuple vr=false:=by
 obtain ⟨⟨F1,h1,s1⟩,⟨F2,h2,s2⟩,⟨F3,h3,s3⟩⟩:=h
 exact ⟨h1.one,h2.one,h3.one⟩
theorem RdV.none (A:AW) {v:EvD} (h1:v.nodes=[]) (h2:v.Bd=[]) (h3:v.call.refs=[]):RdV A v vN vN vN []:=by
 refine ⟨⟨[],?_,by simp⟩,⟨[],?_,by simp⟩,⟨[],?_,by simp⟩⟩
 ·rw [h1];exact .nil _ _ _
 ·rw [h2];exact .nil _ _ _
 ·rw [h3];exact .nil _ _ _
theorem Qn {cs new:List Value} (h:cs.length=new.length):IA cs 0 new=new:=by
 have:=HI [] cs new [] h
 simpa using this
theorem SW.all {A0 A:AW} {q p0 p3 n:Nat} {z cs new:List Value} {ty:TypeId} {F:List Nat} {ws:List ByteArray} {bad:Bool} {r:Option AW} {K:AW→Prop} (h:SW A0 A q p0 p3 z cs ty F ws bad) (hA:A.next≤Ap) (hr:r=(bif Nat.beq new.length n then A.setCells ⟨p3,0,none⟩ new else none))
  (hv:new.length=n) (hl:cs.length=n) (ho:new.all AL=true) (hk:∀ A',SW A0 A' q p0 p3 z new ty F ws bad→Ay A A' [p3]→A'.next=A.next→K A'):Bb r K:=
 h.set (n:=n) (off:=0) (v:=.agg ⟨new⟩) hA hr hv (by omega) ho fun A' z k n=>by
  have z:SW A0 A' q p0 p3 _ (IA cs 0 new) ty F ws bad:=z
  rw [Qn (by omega)] at z
  exact hk A' z k n
theorem storeAll {A:AW} {b n:Nat} {cs new:List Value} {e:TypeId} {r:Option AW} {K:AW→Prop} (h:Go.Abs.AD A b cs e) (hf:AH A) (hb:A.next≤Ap)
  (hr:r=(bif Nat.beq new.length n then A.setCells ⟨b,0,none⟩ new else none)) (hv:new.length=n) (hl:cs.length=n) (ho:new.all AL=true)
  (hk:∀ A',Go.Abs.AD A' b new e→Ay A A' [b]→A'.next=A.next→AH A'→K A'):Bb r K:=
 Go.Abs.AD.store (n:=n) (off:=0) (v:=.agg ⟨new⟩) h hf hb hr hv (by omega) ho fun A' r k n f=>by
  have r:Go.Abs.AD A' b (IA cs 0 new) e:=r
  rw [Qn (by omega)] at r
  exact hk A' r k n f
section
variable {W0:World} {m0:Inj Tp}
set_option maxHeartbeats 4000000 in
theorem AbQ {q:Nat} {ws:List ByteArray} {F:List Nat} {A:AW} {K:Value→AW→Prop} (hp:Pow W0) (h:TK A q ws false F) (hF:∀ x∈F,x < A.next) (hg:GE A) (hq:8≤q) (hs:D3 ws) (hwl:Ba ws < 50000000) (hf:AH A) (hA:A.next+100 * Ba ws+10000 < Ap)
  (hk:∀ A' v vn vk vr G ws' bad',EvT ws v ws' bad'→RdV A' v vn vk vr G→(∀ x∈G,A.next≤x)→TK A' q ws' bad' F→Ay A A' [q]→A'.next≤A.next+100 * Ba ws+5000→AH A'→K (.agg ⟨v.cells vn vk vr⟩) A'):
  Wc Tp Aw W0 m0 38 [pP q 0] A K:=by
 have hqA:q < A.next:=by obtain ⟨⟨v,r,_⟩,_⟩:=h;exact r.lt
 refine w38 _ _ (AA (S:=fun _ _ _=>False) fun _ _ _ h=>h) ?_
 rw [e38]
 refine AI EK hf (by omega) rfl fun Y1 y1=>?_
 have ny1:=y1.next
 have ky1:=y1.keeps hf
 refine Zl y1.Az (by omega) fun Y2 vm g2=>?_
 have n2:=g2.next
 have le2:=g2.le
 refine Kj ((h.keeps ky1 (by simp) (by simp)).keeps g2.keeps (by simp) (by simp)) g2.Az (by omega) fun Y3 w r0 b0 ht0 tk3 k3 n3 f3=>?_
 have hw0:=AP.sum ht0
 have hs0:=(AP.short ht0 hs).2
 have vm:=vm.keeps k3 (by simp;omega)
 refine Aa (vm.look w) (Aa (AcU _) (AI EK f3 (by omega) rfl fun Y4 y4=>?_))
 have ny4:=y4.next
 have ky4:=y4.keeps f3
 have K14:Ay A Y4 [q]:=(((ky1.trans g2.keeps (by simp)).more (T:=[q]) (by simp)).trans k3 fun x hx=>.inl hx).trans ky4 (by simp)
 have s0:SW A Y4 q A.next Y3.next (BQ.cells vN vN vN) (BQ.cells vN vN vN) 40 F r0 b0:=
  ⟨((y1.BU.keeps g2.keeps (by simp)).keeps k3 (by simp;omega)).keeps ky4 (by simp),y4.BU,tk3.keeps ky4 (by simp) (by simp),K14,y4.Az,Nl _,by omega,hqA,hF⟩
 have hk17:=Kk (bl w)
 have hdef:((Dq H0 (bl w)).getD 0)=Fp (bl w):=rfl
 rw [hdef]
 generalize hkk:Fp (bl w)=kk at hk17 ⊢
 refine s0.all (n:=23) (new:=({ BQ with kind:=kk }:EvD).cells vN vN vN) (by omega) (HG _ _ _) rfl rfl rfl fun Y7 s0 k7 n7=>?_
 have l7:At Tp Y7 5 (pP Y3.next 0)=some (.int .u8 (kk:Int)):=by
  rw [Pz,AF s0.r3.row];rfl
 have fin:∀ {B:AW} {v:EvD} {vn vk vr:Value} {G:List Nat} {r':List ByteArray} {b':Bool},SW A B q A.next Y3.next (BQ.cells vN vN vN) (v.cells vn vk vr) 40 F r' b'→RdV B v vn vk vr G→(∀ x∈G,Y3.next < x)→Bl (Ak kk).2 r0 b0 { BQ with kind:=kk } v r' b'→
   B.next≤A.next+100 * Ba ws+5000→(Ab (At Tp B 40 (pP Y3.next 0)) fun t=>Bb (AB Tp B 40 (pP A.next 0) t) fun B2=>Ab (At Tp B2 40 (pP A.next 0)) fun v=>K v B2):=fun {B v vn vk vr G r' b'} s hrd hG htk hn=>by
  obtain ⟨o1,o2,o3⟩:=hrd.one
  refine Aa (BY s.r3 (D7 v o1.2 o2.2 o3.2) rfl (Gi _ _)) ?_
  refine storeAll (n:=23) (new:=v.cells vn vk vr) s.r0 s.f (by omega) (HG _ _ _) rfl rfl (Ep v o1.1 o2.1 o3.1) fun B2 rb kb nb fb=>?_
  refine Aa (BY rb (D7 v o1.2 o2.2 o3.2) rfl (Gi _ _)) ?_
  refine hk B2 v vn vk vr G r' b' ⟨w,r0,b0,ht0,by rw [hkk];exact htk⟩ (hrd.keeps kb (fun x hx=>by have:=hG x hx;simp;omega)) (fun x hx=>by have:=hG x hx;omega) (s.tk.keeps kb (by simp;omega) (fun x hx=>by have:=hF x hx;simp;omega)) (s.k.trans kb fun x hx=>.inr (by rw [Ms.1 hx];exact Nl _)) (by omega) fb
 refine Aa (DQ Y3.next 0) (Aa l7 ?_)
 generalize hp3:Y3.next=p3 at *
 refine Aa Ai (Af.2 ⟨fun hc=>?_,fun hc1=>?_⟩)
 ·obtain rfl:kk=1:=by omega
  have lt1:=s0.r3.lt
  refine AbF s0.tk s0.fam (s0.ge hg hq) hq hs0 (by omega) s0.f (by omega) fun A1 v1 l1 G1 r1 b1 hr1 hst1 ho1 hG1 tk1 k1 n1 f1=>?_
  have s1:=s0.take tk1 k1 f1
  have le1:=k1.next
  have hvc1:v1.cells.toList=[v1]:=by obtain ⟨o,c,e⟩:=(ho1.rd (fun _=>rfl)).slice;rw [e];rfl
  refine Aa (DB p3 0) ?_
  refine s1.set (n:=1) (off:=7) (v:=v1) (by omega) (MS _ _ _) (by rw [hvc1];rfl) (show 7+1≤23 by decide) (by rw [hvc1];simp [ho1.one.1]) fun C1 z1 kc1 nc1=>?_
  rw [hvc1] at z1
  have s1:SW A C1 q A.next p3 _ (EvD.cells { BQ with kind:=1,nodes:=l1 } v1 vN vN) 40 F r1 _:=z1
  exact fin s1 ⟨⟨_,((ho1.keeps kc1 (fun x hx=>by have:=hG1 x hx;simp;omega)).rd (fun _=>rfl)),fun _ h=>h⟩,⟨[],.nil _ _ _,by simp⟩,⟨[],.nil _ _ _,by simp⟩⟩ (fun x hx=>by have:=hG1 x hx;omega) (Bl.cons (tEb hr1 hst1) (Bl.nil)) (by omega)
 refine Aa Ai (Af.2 ⟨fun hc=>?_,fun hc2=>?_⟩)
 ·obtain rfl:kk=2:=by omega
  refine TB hp s0.tk s0.fam (s0.ge hg hq) hq hs0 s0.f (by omega) fun A1 w1 r1 b1 u1 e1 ht1 hu1 tk1 k1 n1 f1=>?_
  have s1:=s0.take tk1 k1 f1
  have hw1:=AP.sum ht1
  have hs1:=(AP.short ht1 hs0).2
  refine UD s1.tk s1.f (by omega) fun A2 w2 r2 b2 ht2 tk2 k2 n2 f2=>?_
  have s2:=s1.take tk2 k2 f2
  have hw2:=AP.sum ht2
  have hs2:=(AP.short ht2 hs1).2
  refine Aa (DC p3 0) ?_
  refine s2.set (n:=3) (off:=4) (v:=(.agg ⟨u1.cells⟩)) (by omega) (FR _ _ _) rfl (show 4+3≤23 by decide) rfl fun C1 z1 kc1 nc1=>?_
  have s2:SW A C1 q A.next p3 _ (EvD.cells { BQ with kind:=2,x:=u1 } vN vN vN) 40 F r2 _:=z1
  refine Aa (Dz p3 0) ?_
  refine s2.set (n:=1) (off:=10) (v:=(.bool (bl w2==Da))) (by omega) (EL _ _ _) rfl (show 10+1≤23 by decide) rfl fun C2 z2 kc2 nc2=>?_
  have s2:SW A C2 q A.next p3 _ (EvD.cells { BQ with kind:=2,x:=u1,a:=bl w2==Da } vN vN vN) 40 F r2 _:=z2
  exact fin s2 (.none _ rfl rfl rfl) (by simp) (Bl.cons (tEX ht1 hu1) (Bl.cons (tEc ht2) (Bl.nil))) (by omega)
 refine Aa Ai (Af.2 ⟨fun hc=>?_,fun hc10=>?_⟩)
 ·obtain rfl:kk=10:=by omega
  refine Js s0.tk (s0.ge hg hq) hq hs0 s0.f (by omega) fun A1 w1 r1 b1 u1 e1 ht1 hu1 tk1 k1 n1 f1=>?_
  have s1:=s0.take tk1 k1 f1
  have hw1:=AP.sum ht1
  have hs1:=(AP.short ht1 hs0).2
  refine TB hp s1.tk s1.fam (s1.ge hg hq) hq hs1 s1.f (by omega) fun A2 w2 r2 b2 u2 e2 ht2 hu2 tk2 k2 n2 f2=>?_
  have s2:=s1.take tk2 k2 f2
  have hw2:=AP.sum ht2
  have hs2:=(AP.short ht2 hs1).2
  refine UD s2.tk s2.f (by omega) fun A3 w3 r3 b3 ht3 tk3 k3 n3 f3=>?_
  have s3:=s2.take tk3 k3 f3
  have hw3:=AP.sum ht3
  have hs3:=(AP.short ht3 hs2).2
  refine Aa (BE p3 0) ?_
  refine s3.set (n:=1) (off:=1) (v:=(.int .u8 (u1:Int))) (by omega) (Gk _ _ _) rfl (show 1+1≤23 by decide) rfl fun C1 z1 kc1 nc1=>?_
  have s3:SW A C1 q A.next p3 _ (EvD.cells { BQ with kind:=10,node:=u1 } vN vN vN) 40 F r3 _:=z1
  refine Aa (DC p3 0) ?_
  refine s3.set (n:=3) (off:=4) (v:=(.agg ⟨u2.cells⟩)) (by omega) (FR _ _ _) rfl (show 4+3≤23 by decide) rfl fun C2 z2 kc2 nc2=>?_
  have s3:SW A C2 q A.next p3 _ (EvD.cells { BQ with kind:=10,node:=u1,x:=u2 } vN vN vN) 40 F r3 _:=z2
  refine Aa (Dz p3 0) ?_
  refine s3.set (n:=1) (off:=10) (v:=(.bool (bl w3==Da))) (by omega) (EL _ _ _) rfl (show 10+1≤23 by decide) rfl fun C3 z3 kc3 nc3=>?_
  have s3:SW A C3 q A.next p3 _ (EvD.cells { BQ with kind:=10,node:=u1,x:=u2,a:=bl w3==Da } vN vN vN) 40 F r3 _:=z3
  exact fin s3 (.none _ rfl rfl rfl) (by simp) (Bl.cons (tEn ht1 hu1) (Bl.cons (tEX ht2 hu2) (Bl.cons (tEc ht3) (Bl.nil)))) (by omega)
 refine Aa Ai (Af.2 ⟨fun hc=>?_,fun hc3=>?_⟩)
 ·obtain rfl:kk=3:=by omega
  refine Js s0.tk (s0.ge hg hq) hq hs0 s0.f (by omega) fun A1 w1 r1 b1 u1 e1 ht1 hu1 tk1 k1 n1 f1=>?_
  have s1:=s0.take tk1 k1 f1
  have hw1:=AP.sum ht1
  have hs1:=(AP.short ht1 hs0).2
  refine Js s1.tk (s1.ge hg hq) hq hs1 s1.f (by omega) fun A2 w2 r2 b2 u2 e2 ht2 hu2 tk2 k2 n2 f2=>?_
  have s2:=s1.take tk2 k2 f2
  have hw2:=AP.sum ht2
  have hs2:=(AP.short ht2 hs1).2
  refine P6 s2.tk (s2.ge hg hq) hq hs2 s2.f (by omega) fun A3 w3 r3 b3 u3 e3 ht3 hu3 tk3 k3 n3 f3=>?_
  have s3:=s2.take tk3 k3 f3
  have hw3:=AP.sum ht3
  have hs3:=(AP.short ht3 hs2).2
  refine Aa (BE p3 0) ?_
  refine s3.set (n:=1) (off:=1) (v:=(.int .u8 (u1:Int))) (by omega) (Gk _ _ _) rfl (show 1+1≤23 by decide) rfl fun C1 z1 kc1 nc1=>?_
  have s3:SW A C1 q A.next p3 _ (EvD.cells { BQ with kind:=3,node:=u1 } vN vN vN) 40 F r3 _:=z1
  refine Aa (CU p3 0) ?_
  refine s3.set (n:=1) (off:=2) (v:=(.int .u8 (u2:Int))) (by omega) (Gk _ _ _) rfl (show 2+1≤23 by decide) rfl fun C2 z2 kc2 nc2=>?_
  have s3:SW A C2 q A.next p3 _ (EvD.cells { BQ with kind:=3,node:=u1,to:=u2 } vN vN vN) 40 F r3 _:=z2
  refine Aa (BG p3 0) ?_
  refine s3.set (n:=1) (off:=3) (v:=(.int .i64 u3)) (by omega) (Mj _ _ _) rfl (show 3+1≤23 by decide) rfl fun C3 z3 kc3 nc3=>?_
  have s3:SW A C3 q A.next p3 _ (EvD.cells { BQ with kind:=3,node:=u1,to:=u2,n:=u3 } vN vN vN) 40 F r3 _:=z3
  exact fin s3 (.none _ rfl rfl rfl) (by simp) (Bl.cons (tEn ht1 hu1) (Bl.cons (tEt ht2 hu2) (Bl.cons (tEi ht3 hu3) (Bl.nil)))) (by omega)
 refine Aa Ai (Af.2 ⟨fun hc=>?_,fun hc4=>?_⟩)
 ·obtain rfl:kk=4:=by omega
  refine Js s0.tk (s0.ge hg hq) hq hs0 s0.f (by omega) fun A1 w1 r1 b1 u1 e1 ht1 hu1 tk1 k1 n1 f1=>?_
  have s1:=s0.take tk1 k1 f1
  have hw1:=AP.sum ht1
  have hs1:=(AP.short ht1 hs0).2
  refine Js s1.tk (s1.ge hg hq) hq hs1 s1.f (by omega) fun A2 w2 r2 b2 u2 e2 ht2 hu2 tk2 k2 n2 f2=>?_
  have s2:=s1.take tk2 k2 f2
  have hw2:=AP.sum ht2
  have hs2:=(AP.short ht2 hs1).2
  refine P6 s2.tk (s2.ge hg hq) hq hs2 s2.f (by omega) fun A3 w3 r3 b3 u3 e3 ht3 hu3 tk3 k3 n3 f3=>?_
  have s3:=s2.take tk3 k3 f3
  have hw3:=AP.sum ht3
  have hs3:=(AP.short ht3 hs2).2
  refine Aa (BE p3 0) ?_
  refine s3.set (n:=1) (off:=1) (v:=(.int .u8 (u1:Int))) (by omega) (Gk _ _ _) rfl (show 1+1≤23 by decide) rfl fun C1 z1 kc1 nc1=>?_
  have s3:SW A C1 q A.next p3 _ (EvD.cells { BQ with kind:=4,node:=u1 } vN vN vN) 40 F r3 _:=z1
  refine Aa (CU p3 0) ?_
  refine s3.set (n:=1) (off:=2) (v:=(.int .u8 (u2:Int))) (by omega) (Gk _ _ _) rfl (show 2+1≤23 by decide) rfl fun C2 z2 kc2 nc2=>?_
  have s3:SW A C2 q A.next p3 _ (EvD.cells { BQ with kind:=4,node:=u1,to:=u2 } vN vN vN) 40 F r3 _:=z2
  refine Aa (BG p3 0) ?_
  refine s3.set (n:=1) (off:=3) (v:=(.int .i64 u3)) (by omega) (Mj _ _ _) rfl (show 3+1≤23 by decide) rfl fun C3 z3 kc3 nc3=>?_
  have s3:SW A C3 q A.next p3 _ (EvD.cells { BQ with kind:=4,node:=u1,to:=u2,n:=u3 } vN vN vN) 40 F r3 _:=z3
  exact fin s3 (.none _ rfl rfl rfl) (by simp) (Bl.cons (tEn ht1 hu1) (Bl.cons (tEt ht2 hu2) (Bl.cons (tEi ht3 hu3) (Bl.nil)))) (by omega)
 refine Aa Ai (Af.2 ⟨fun hc=>?_,fun hc5=>?_⟩)
 ·obtain rfl:kk=5:=by omega
  refine Js s0.tk (s0.ge hg hq) hq hs0 s0.f (by omega) fun A1 w1 r1 b1 u1 e1 ht1 hu1 tk1 k1 n1 f1=>?_
  have s1:=s0.take tk1 k1 f1
  have hw1:=AP.sum ht1
  have hs1:=(AP.short ht1 hs0).2
  refine Js s1.tk (s1.ge hg hq) hq hs1 s1.f (by omega) fun A2 w2 r2 b2 u2 e2 ht2 hu2 tk2 k2 n2 f2=>?_
  have s2:=s1.take tk2 k2 f2
  have hw2:=AP.sum ht2
  have hs2:=(AP.short ht2 hs1).2
  refine P6 s2.tk (s2.ge hg hq) hq hs2 s2.f (by omega) fun A3 w3 r3 b3 u3 e3 ht3 hu3 tk3 k3 n3 f3=>?_
  have s3:=s2.take tk3 k3 f3
  have hw3:=AP.sum ht3
  have hs3:=(AP.short ht3 hs2).2
  refine Aa (BE p3 0) ?_
  refine s3.set (n:=1) (off:=1) (v:=(.int .u8 (u1:Int))) (by omega) (Gk _ _ _) rfl (show 1+1≤23 by decide) rfl fun C1 z1 kc1 nc1=>?_
  have s3:SW A C1 q A.next p3 _ (EvD.cells { BQ with kind:=5,node:=u1 } vN vN vN) 40 F r3 _:=z1
  refine Aa (CU p3 0) ?_
  refine s3.set (n:=1) (off:=2) (v:=(.int .u8 (u2:Int))) (by omega) (Gk _ _ _) rfl (show 2+1≤23 by decide) rfl fun C2 z2 kc2 nc2=>?_
  have s3:SW A C2 q A.next p3 _ (EvD.cells { BQ with kind:=5,node:=u1,to:=u2 } vN vN vN) 40 F r3 _:=z2
  refine Aa (BG p3 0) ?_
  refine s3.set (n:=1) (off:=3) (v:=(.int .i64 u3)) (by omega) (Mj _ _ _) rfl (show 3+1≤23 by decide) rfl fun C3 z3 kc3 nc3=>?_
  have s3:SW A C3 q A.next p3 _ (EvD.cells { BQ with kind:=5,node:=u1,to:=u2,n:=u3 } vN vN vN) 40 F r3 _:=z3
  exact fin s3 (.none _ rfl rfl rfl) (by simp) (Bl.cons (tEn ht1 hu1) (Bl.cons (tEt ht2 hu2) (Bl.cons (tEi ht3 hu3) (Bl.nil)))) (by omega)
 refine Aa Ai (Af.2 ⟨fun hc=>?_,fun hc7=>?_⟩)
 ·obtain rfl:kk=7:=by omega
  refine Js s0.tk (s0.ge hg hq) hq hs0 s0.f (by omega) fun A1 w1 r1 b1 u1 e1 ht1 hu1 tk1 k1 n1 f1=>?_
  have s1:=s0.take tk1 k1 f1
  have hw1:=AP.sum ht1
  have hs1:=(AP.short ht1 hs0).2
  refine Aa (BE p3 0) ?_
  refine s1.set (n:=1) (off:=1) (v:=(.int .u8 (u1:Int))) (by omega) (Gk _ _ _) rfl (show 1+1≤23 by decide) rfl fun C1 z1 kc1 nc1=>?_
  have s1:SW A C1 q A.next p3 _ (EvD.cells { BQ with kind:=7,node:=u1 } vN vN vN) 40 F r1 _:=z1
  exact fin s1 (.none _ rfl rfl rfl) (by simp) (Bl.cons (tEn ht1 hu1) (Bl.nil)) (by omega)
 refine Aa Ai (Af.2 ⟨fun hc=>?_,fun hc12=>?_⟩)
 ·obtain rfl:kk=12:=by omega
  refine Js s0.tk (s0.ge hg hq) hq hs0 s0.f (by omega) fun A1 w1 r1 b1 u1 e1 ht1 hu1 tk1 k1 n1 f1=>?_
  have s1:=s0.take tk1 k1 f1
  have hw1:=AP.sum ht1
  have hs1:=(AP.short ht1 hs0).2
  refine Aa (BE p3 0) ?_
  refine s1.set (n:=1) (off:=1) (v:=(.int .u8 (u1:Int))) (by omega) (Gk _ _ _) rfl (show 1+1≤23 by decide) rfl fun C1 z1 kc1 nc1=>?_
  have s1:SW A C1 q A.next p3 _ (EvD.cells { BQ with kind:=12,node:=u1 } vN vN vN) 40 F r1 _:=z1
  exact fin s1 (.none _ rfl rfl rfl) (by simp) (Bl.cons (tEn ht1 hu1) (Bl.nil)) (by omega)
 refine Aa Ai (Af.2 ⟨fun hc=>?_,fun hc8=>?_⟩)
 ·obtain rfl:kk=8:=by omega
  refine Js s0.tk (s0.ge hg hq) hq hs0 s0.f (by omega) fun A1 w1 r1 b1 u1 e1 ht1 hu1 tk1 k1 n1 f1=>?_
  have s1:=s0.take tk1 k1 f1
  have hw1:=AP.sum ht1
  have hs1:=(AP.short ht1 hs0).2
  refine Aa (BE p3 0) ?_
  refine s1.set (n:=1) (off:=1) (v:=(.int .u8 (u1:Int))) (by omega) (Gk _ _ _) rfl (show 1+1≤23 by decide) rfl fun C1 z1 kc1 nc1=>?_
  have s1:SW A C1 q A.next p3 _ (EvD.cells { BQ with kind:=8,node:=u1 } vN vN vN) 40 F r1 _:=z1
  have lt2:=s1.r3.lt
  refine AbE s1.tk s1.fam (s1.ge hg hq) hq hs1 (by omega) s1.f (by omega) fun A2 v2 l2 G2 r2 b2 hr2 hst2 ho2 hG2 tk2 k2 n2 f2=>?_
  have s2:=s1.take tk2 k2 f2
  have le2:=k2.next
  have hvc2:v2.cells.toList=[v2]:=by obtain ⟨o,c,e⟩:=(ho2.rd (fun _=>rfl)).slice;rw [e];rfl
  refine Aa (DA p3 0) ?_
  refine s2.set (n:=1) (off:=8) (v:=v2) (by omega) (UU _ _ _) (by rw [hvc2];rfl) (show 8+1≤23 by decide) (by rw [hvc2];simp [ho2.one.1]) fun C2 z2 kc2 nc2=>?_
  rw [hvc2] at z2
  have s2:SW A C2 q A.next p3 _ (EvD.cells { BQ with kind:=8,node:=u1,Bd:=l2 } vN v2 vN) 40 F r2 _:=z2
  exact fin s2 ⟨⟨[],.nil _ _ _,by simp⟩,⟨_,((ho2.keeps kc2 (fun x hx=>by have:=hG2 x hx;simp;omega)).rd (fun _=>rfl)),fun _ h=>h⟩,⟨[],.nil _ _ _,by simp⟩⟩ (fun x hx=>by have:=hG2 x hx;omega) (Bl.cons (tEn ht1 hu1) (Bl.cons (tEk hr2 hst2) (Bl.nil))) (by omega)
 refine Aa Ai (Af.2 ⟨fun hc=>?_,fun hc9=>?_⟩)
 ·obtain rfl:kk=9:=by omega
  refine Js s0.tk (s0.ge hg hq) hq hs0 s0.f (by omega) fun A1 w1 r1 b1 u1 e1 ht1 hu1 tk1 k1 n1 f1=>?_
  have s1:=s0.take tk1 k1 f1
  have hw1:=AP.sum ht1
  have hs1:=(AP.short ht1 hs0).2
  refine P6 s1.tk (s1.ge hg hq) hq hs1 s1.f (by omega) fun A2 w2 r2 b2 u2 e2 ht2 hu2 tk2 k2 n2 f2=>?_
  have s2:=s1.take tk2 k2 f2
  have hw2:=AP.sum ht2
  have hs2:=(AP.short ht2 hs1).2
  refine Aa (BE p3 0) ?_
  refine s2.set (n:=1) (off:=1) (v:=(.int .u8 (u1:Int))) (by omega) (Gk _ _ _) rfl (show 1+1≤23 by decide) rfl fun C1 z1 kc1 nc1=>?_
  have s2:SW A C1 q A.next p3 _ (EvD.cells { BQ with kind:=9,node:=u1 } vN vN vN) 40 F r2 _:=z1
  refine Aa (BG p3 0) ?_
  refine s2.set (n:=1) (off:=3) (v:=(.int .i64 u2)) (by omega) (Mj _ _ _) rfl (show 3+1≤23 by decide) rfl fun C2 z2 kc2 nc2=>?_
  have s2:SW A C2 q A.next p3 _ (EvD.cells { BQ with kind:=9,node:=u1,n:=u2 } vN vN vN) 40 F r2 _:=z2
  exact fin s2 (.none _ rfl rfl rfl) (by simp) (Bl.cons (tEn ht1 hu1) (Bl.cons (tEi ht2 hu2) (Bl.nil))) (by omega)
 refine Aa Ai (Af.2 ⟨fun hc=>?_,fun hc14=>?_⟩)
 ·obtain rfl:kk=14:=by omega
  refine Js s0.tk (s0.ge hg hq) hq hs0 s0.f (by omega) fun A1 w1 r1 b1 u1 e1 ht1 hu1 tk1 k1 n1 f1=>?_
  have s1:=s0.take tk1 k1 f1
  have hw1:=AP.sum ht1
  have hs1:=(AP.short ht1 hs0).2
  refine P6 s1.tk (s1.ge hg hq) hq hs1 s1.f (by omega) fun A2 w2 r2 b2 u2 e2 ht2 hu2 tk2 k2 n2 f2=>?_
  have s2:=s1.take tk2 k2 f2
  have hw2:=AP.sum ht2
  have hs2:=(AP.short ht2 hs1).2
  refine Aa (BE p3 0) ?_
  refine s2.set (n:=1) (off:=1) (v:=(.int .u8 (u1:Int))) (by omega) (Gk _ _ _) rfl (show 1+1≤23 by decide) rfl fun C1 z1 kc1 nc1=>?_
  have s2:SW A C1 q A.next p3 _ (EvD.cells { BQ with kind:=14,node:=u1 } vN vN vN) 40 F r2 _:=z1
  refine Aa (BG p3 0) ?_
  refine s2.set (n:=1) (off:=3) (v:=(.int .i64 u2)) (by omega) (Mj _ _ _) rfl (show 3+1≤23 by decide) rfl fun C2 z2 kc2 nc2=>?_
  have s2:SW A C2 q A.next p3 _ (EvD.cells { BQ with kind:=14,node:=u1,n:=u2 } vN vN vN) 40 F r2 _:=z2
  exact fin s2 (.none _ rfl rfl rfl) (by simp) (Bl.cons (tEn ht1 hu1) (Bl.cons (tEi ht2 hu2) (Bl.nil))) (by omega)
 refine Aa Ai (Af.2 ⟨fun hc=>?_,fun hc15=>?_⟩)
 ·obtain rfl:kk=15:=by omega
  refine Js s0.tk (s0.ge hg hq) hq hs0 s0.f (by omega) fun A1 w1 r1 b1 u1 e1 ht1 hu1 tk1 k1 n1 f1=>?_
  have s1:=s0.take tk1 k1 f1
  have hw1:=AP.sum ht1
  have hs1:=(AP.short ht1 hs0).2
  refine P6 s1.tk (s1.ge hg hq) hq hs1 s1.f (by omega) fun A2 w2 r2 b2 u2 e2 ht2 hu2 tk2 k2 n2 f2=>?_
  have s2:=s1.take tk2 k2 f2
  have hw2:=AP.sum ht2
  have hs2:=(AP.short ht2 hs1).2
  refine Aa (BE p3 0) ?_
  refine s2.set (n:=1) (off:=1) (v:=(.int .u8 (u1:Int))) (by omega) (Gk _ _ _) rfl (show 1+1≤23 by decide) rfl fun C1 z1 kc1 nc1=>?_
  have s2:SW A C1 q A.next p3 _ (EvD.cells { BQ with kind:=15,node:=u1 } vN vN vN) 40 F r2 _:=z1
  refine Aa (BG p3 0) ?_
  refine s2.set (n:=1) (off:=3) (v:=(.int .i64 u2)) (by omega) (Mj _ _ _) rfl (show 3+1≤23 by decide) rfl fun C2 z2 kc2 nc2=>?_
  have s2:SW A C2 q A.next p3 _ (EvD.cells { BQ with kind:=15,node:=u1,n:=u2 } vN vN vN) 40 F r2 _:=z2
  exact fin s2 (.none _ rfl rfl rfl) (by simp) (Bl.cons (tEn ht1 hu1) (Bl.cons (tEi ht2 hu2) (Bl.nil))) (by omega)
 refine Aa Ai (Af.2 ⟨fun hc=>?_,fun hc11=>?_⟩)
 ·obtain rfl:kk=11:=by omega
  refine TB hp s0.tk s0.fam (s0.ge hg hq) hq hs0 s0.f (by omega) fun A1 w1 r1 b1 u1 e1 ht1 hu1 tk1 k1 n1 f1=>?_
  have s1:=s0.take tk1 k1 f1
  have hw1:=AP.sum ht1
  have hs1:=(AP.short ht1 hs0).2
  refine Aa (DC p3 0) ?_
  refine s1.set (n:=3) (off:=4) (v:=(.agg ⟨u1.cells⟩)) (by omega) (FR _ _ _) rfl (show 4+3≤23 by decide) rfl fun C1 z1 kc1 nc1=>?_
  have s1:SW A C1 q A.next p3 _ (EvD.cells { BQ with kind:=11,x:=u1 } vN vN vN) 40 F r1 _:=z1
  exact fin s1 (.none _ rfl rfl rfl) (by simp) (Bl.cons (tEX ht1 hu1) (Bl.nil)) (by omega)
 refine Aa Ai (Af.2 ⟨fun hc=>?_,fun hc13=>?_⟩)
 ·obtain rfl:kk=13:=by omega
  refine Js s0.tk (s0.ge hg hq) hq hs0 s0.f (by omega) fun A1 w1 r1 b1 u1 e1 ht1 hu1 tk1 k1 n1 f1=>?_
  have s1:=s0.take tk1 k1 f1
  have hw1:=AP.sum ht1
  have hs1:=(AP.short ht1 hs0).2
  refine P6 s1.tk (s1.ge hg hq) hq hs1 s1.f (by omega) fun A2 w2 r2 b2 u2 e2 ht2 hu2 tk2 k2 n2 f2=>?_
  have s2:=s1.take tk2 k2 f2
  have hw2:=AP.sum ht2
  have hs2:=(AP.short ht2 hs1).2
  refine Ki s2.tk hs2 s2.f (by omega) fun A3 w3 r3 b3 u3 e3 ht3 hu3 tk3 k3 n3 f3=>?_
  have s3:=s2.take tk3 k3 f3
  have hw3:=AP.sum ht3
  have hs3:=(AP.short ht3 hs2).2
  refine Aa (BE p3 0) ?_
  refine s3.set (n:=1) (off:=1) (v:=(.int .u8 (u1:Int))) (by omega) (Gk _ _ _) rfl (show 1+1≤23 by decide) rfl fun C1 z1 kc1 nc1=>?_
  have s3:SW A C1 q A.next p3 _ (EvD.cells { BQ with kind:=13,node:=u1 } vN vN vN) 40 F r3 _:=z1
  refine Aa (BG p3 0) ?_
  refine s3.set (n:=1) (off:=3) (v:=(.int .i64 u2)) (by omega) (Mj _ _ _) rfl (show 3+1≤23 by decide) rfl fun C2 z2 kc2 nc2=>?_
  have s3:SW A C2 q A.next p3 _ (EvD.cells { BQ with kind:=13,node:=u1,n:=u2 } vN vN vN) 40 F r3 _:=z2
  refine Aa (Eh p3 0) ?_
  refine s3.set (n:=1) (off:=9) (v:=(.string (txt u3))) (by omega) (GI _ _ _) rfl (show 9+1≤23 by decide) rfl fun C3 z3 kc3 nc3=>?_
  have s3:SW A C3 q A.next p3 _ (EvD.cells { BQ with kind:=13,node:=u1,n:=u2,s:=txt u3 } vN vN vN) 40 F r3 _:=z3
  exact fin s3 (.none _ rfl rfl rfl) (by simp) (Bl.cons (tEn ht1 hu1) (Bl.cons (tEi ht2 hu2) (Bl.cons (tES ht3 hu3) (Bl.nil)))) (by omega)
 refine Aa Ai (Af.2 ⟨fun hc=>?_,fun hc16=>?_⟩)
 ·obtain rfl:kk=16:=by omega
  refine Js s0.tk (s0.ge hg hq) hq hs0 s0.f (by omega) fun A1 w1 r1 b1 u1 e1 ht1 hu1 tk1 k1 n1 f1=>?_
  have s1:=s0.take tk1 k1 f1
  have hw1:=AP.sum ht1
  have hs1:=(AP.short ht1 hs0).2
  have lt2:=s1.r3.lt
  refine AbD hp s1.tk s1.fam (s1.ge hg hq) hq hs1 (by omega) s1.f (by omega) fun A2 c2 v2 G2 r2 b2 hc2 ho2 hG2 tk2 k2 n2 f2=>?_
  have s2:=s1.take tk2 k2 f2
  have le2:=k2.next
  refine Aa (BE p3 0) ?_
  refine s2.set (n:=1) (off:=1) (v:=(.int .u8 (u1:Int))) (by omega) (Gk _ _ _) rfl (show 1+1≤23 by decide) rfl fun C1 z1 kc1 nc1=>?_
  have s2:SW A C1 q A.next p3 _ (EvD.cells { BQ with kind:=16,node:=u1 } vN vN vN) 40 F r2 _:=z1
  refine Aa (Dj p3 0) ?_
  refine s2.set (n:=12) (off:=11) (v:=(.agg ⟨c2.cells v2⟩)) (by omega) (GJ _ _ _) rfl (show 11+12≤23 by decide) (CX _ ho2.one.1) fun C2 z2 kc2 nc2=>?_
  have s2:SW A C2 q A.next p3 _ (EvD.cells { BQ with kind:=16,node:=u1,call:=c2 } vN vN v2) 40 F r2 _:=z2
  exact fin s2 ⟨⟨[],.nil _ _ _,by simp⟩,⟨[],.nil _ _ _,by simp⟩,⟨_,((ho2.keeps kc1 (fun x hx=>by have:=hG2 x hx;simp;omega)).keeps kc2 (fun x hx=>by have:=hG2 x hx;simp;omega)),fun _ h=>h⟩⟩ (fun x hx=>by have:=hG2 x hx;omega) (Bl.cons (tEn ht1 hu1) (Bl.cons (tEC hc2 trivial) (Bl.nil))) (by omega)
 have hc:kk=0∨kk=6∨kk=17:=by omega
 refine fin s0 (.none _ rfl rfl rfl) (by simp) ?_ (by omega)
 rcases hc with rfl | rfl | rfl <;> exact Bl.nil
end
def BI (ws:List Word):Nat:=(ws.map List.length).sum
theorem AT (a b:List Word):BI (a++b)=BI a+BI b:=by simp [BI]
theorem AY (a:Word) (b:List Word):BI (a::b)=a.length+BI b:=by simp [BI]
theorem MP (ws:List Word):D2 (ws.map txt)=BI ws:=by
 unfold D2 BI
 rw [List.map_map]
 rfl
theorem I8 {n:Nat} (h:n < 18446744073709551616):(Lib.decDigits n).length≤20:=F7 h
theorem Qe {p:Nm} (h:HV p):(bl (tx p)).length≤300:=by
 show (if okX p=true then Cs p else []).length≤300
 split
 ·rename_i hk
  have hk:1≤(bl p.g).length∧(bl p.g).length≤64∧(bl p.b).length≤64:=of_decide_eq_true hk
  have h1:=F7 (n:=p.f) (by have:p.f < 4294967296:=h;omega)
  have h2:∀ l:List UInt8,(BN l).length=2 * l.length:=fun l=>by
   induction l with
   | nil=>rfl
   | cons b l ih=>rw [show BN (b::l)=[CM (b.toNat / 16),CM (b.toNat % 16)]++BN l from rfl,Lq,ih];simp;omega
  simp only [Cs,Lq,h2,Lc,Ln]
  omega
 ·simp
theorem Ji (c:Ax):Ca c 88=[bl (tx c.x)]:=by
 show (if okX c.x=true then some [Cs c.x] else none).getD [[]]=[if okX c.x=true then Cs c.x else []]
 split <;> rfl
theorem Jh (c:EvD):B5 c 88=[bl (tx c.x)]:=by
 show (if okX c.x=true then some [Cs c.x] else none).getD [[]]=[if okX c.x=true then Cs c.x else []]
 split <;> rfl
theorem Qt:∀ (l:List (ByteArray × Nat)),(∀ r∈l,U64 r.2)→BI (l.map Dn)+l.length≤3 * szR l+22 * l.length
 | [],_=>by simp [BI,szR]
 | r::l,h=>by
  have h1:=Qt l fun r hr=>h r (List.mem_cons_of_mem _ hr)
  have h2:=I8 (h r (by simp))
  have h3:=Fy (bl r.1)
  have e:szR (r::l)=(bl r.1).length+1+szR l:=by simp [szR]
  rw [Mc,AY,e,Lc]
  simp only [Dn,Lq,Lc,Ln]
  omega
theorem LS (n:Nat):(partsOf n).2=[]∨(partsOf n).2=[81,78]∨(partsOf n).2=[81,101]∨(partsOf n).2=[81]∨(partsOf n).2=[81,84,66]∨(partsOf n).2=[81,84]∨(partsOf n).2=[84]∨(partsOf n).2=[84,78]∨(partsOf n).2=[82]∨(partsOf n).2=[109,82]∨(partsOf n).2=[100]∨(partsOf n).2=[88,115]∨(partsOf n).2=[88,102]∨(partsOf n).2=[88,78]:=by
 rcases Nat.lt_or_ge 21 n with h | h
 ·rw [CA h];exact .inl rfl
 ·have:∀ n < 22,(partsOf n).2=[]∨(partsOf n).2=[81,78]∨(partsOf n).2=[81,101]∨(partsOf n).2=[81]∨(partsOf n).2=[81,84,66]∨(partsOf n).2=[81,84]∨(partsOf n).2=[84]∨(partsOf n).2=[84,78]∨(partsOf n).2=[82]∨(partsOf n).2=[109,82]∨(partsOf n).2=[100]∨(partsOf n).2=[88,115]∨(partsOf n).2=[88,102]∨(partsOf n).2=[88,78]:=by decide
  exact this n (by omega)
theorem L3 (n:Nat):(Ak n).2=[]∨(Ak n).2=[98]∨(Ak n).2=[88,99]∨(Ak n).2=[110,116,105]∨(Ak n).2=[110]∨(Ak n).2=[110,107]∨(Ak n).2=[110,105]∨(Ak n).2=[110,88,99]∨(Ak n).2=[88]∨(Ak n).2=[110,105,83]∨(Ak n).2=[110,67]:=by
 rcases Nat.lt_or_ge 17 n with h | h
 ·rw [Cr h];exact .inl rfl
 ·have:∀ n < 18,(Ak n).2=[]∨(Ak n).2=[98]∨(Ak n).2=[88,99]∨(Ak n).2=[110,116,105]∨(Ak n).2=[110]∨(Ak n).2=[110,107]∨(Ak n).2=[110,105]∨(Ak n).2=[110,88,99]∨(Ak n).2=[88]∨(Ak n).2=[110,105,83]∨(Ak n).2=[110,67]:=by decide
  exact this n (by omega)
theorem Ot (n:Nat):(partsOf n).1.length≤12:=by
 rcases Nat.lt_or_ge 21 n with h | h
 ·rw [CA h];decide
 ·have:∀ n < 22,(partsOf n).1.length≤12:=by decide
  exact this n (by omega)
theorem Oq (n:Nat):(Ak n).1.length≤12:=by
 rcases Nat.lt_or_ge 17 n with h | h
 ·rw [Cr h];decide
 ·have:∀ n < 18,(Ak n).1.length≤12:=by decide
  exact this n (by omega)
theorem OL {c:Ax} (h:c.Wf):BI (Bv c)+(Bv c).length≤3 * szC c+22 * c.refs.length+500:=by
 have h1:=I8 h.ses
 have h2:=Ot c.what
 have hn:=I8 (n:=c.n) (by have:=h.n;omega)
 have hx:=Qe h.x
 have hq:=Fy (bl c.queue)
 have ht:=Fy (bl c.tag)
 have hb:=Fy (bl c.body)
 have hr:=Qt c.refs h.refs
 have e81:Ca c 81=[AV (bl c.queue)]:=rfl
 have e84:Ca c 84=[AV (bl c.tag)]:=rfl
 have e66:Ca c 66=[AV (bl c.body)]:=rfl
 have e78:Ca c 78=[Lib.decDigits c.n]:=rfl
 have e88:=Ji c
 have e82:Ca c 82=c.refs.map Dn:=rfl
 have YQ:Ca c 101=[Cd c.a Dg Qa]:=rfl
 have YO:Ca c 109=[Cd c.a Et LJ]:=rfl
 have YR:Ca c 100=[Cd c.a IJ II]:=rfl
 have YN:Ca c 115=[EW c.a c.b MJ E2 C9 Dl]:=rfl
 have YP:Ca c 102=[EW c.a c.b IK FP CV Dl]:=rfl
 have f1:(Cd c.a Dg Qa).length≤7:=by cases c.a <;> decide
 have f2:(Cd c.a Et LJ).length≤7:=by cases c.a <;> decide
 have f3:(Cd c.a IJ II).length≤7:=by cases c.a <;> decide
 have f4:(EW c.a c.b MJ E2 C9 Dl).length≤7:=by cases c.a <;> cases c.b <;> decide
 have f5:(EW c.a c.b IK FP CV Dl).length≤7:=by cases c.a <;> cases c.b <;> decide
 have e0:BI []=0:=rfl
 unfold szC
 rcases LS c.what with e | e | e | e | e | e | e | e | e | e | e | e | e | e <;>
 ·unfold Bv
  rw [e]
  simp only [List.flatMap_cons,List.flatMap_nil,List.append_nil,AY,AT,Lc,Lq,Ln,List.length_map,e81,e84,e66,e78,e88,e82,YQ,YO,YR,YN,YP,e0]
  omega
theorem OM (c:Ax):(Bv c).length≤c.refs.length+5:=by
 have e88:=Ji c
 have e82:Ca c 82=c.refs.map Dn:=rfl
 have e1:∀ h:UInt8,h≠82→h≠88→(Ca c h).length≤1:=fun h h1 h2=>by
  unfold Ca Dk
  simp only [h1,h2,if_false]
  repeat' split
  all_goals simp
 have q1:=e1 81 (by decide) (by decide)
 have q2:=e1 84 (by decide) (by decide)
 have q3:=e1 66 (by decide) (by decide)
 have q4:=e1 78 (by decide) (by decide)
 have q5:=e1 101 (by decide) (by decide)
 have q6:=e1 109 (by decide) (by decide)
 have q7:=e1 100 (by decide) (by decide)
 have q8:=e1 115 (by decide) (by decide)
 have q9:=e1 102 (by decide) (by decide)
 rcases LS c.what with e | e | e | e | e | e | e | e | e | e | e | e | e | e <;>
 ·unfold Bv
  rw [e]
  simp only [List.flatMap_cons,List.flatMap_nil,List.append_nil,Lc,Lq,Ln,List.length_map,e88,e82]
  omega
theorem OF:∀ (l:List Nat),(∀ k∈l,k < 256)→BI (l.map Lib.decDigits)≤20 * l.length
 | [],_=>by simp [BI]
 | r::l,h=>by
  have h1:=OF l fun r hr=>h r (List.mem_cons_of_mem _ hr)
  have h2:=I8 (n:=r) (by have:=h r (by simp);omega)
  rw [Mc,AY,Lc]
  omega
theorem QW:∀ (l:List Int),(∀ k∈l,-9223372036854775808≤k∧k≤9223372036854775807)→BI (l.map Lib.itoa)≤21 * l.length
 | [],_=>by simp [BI]
 | r::l,h=>by
  have h1:=QW l fun r hr=>h r (List.mem_cons_of_mem _ hr)
  have h2:=h r (by simp)
  have h3:=Tb h2.1 h2.2
  rw [Mc,AY,Lc]
  omega
theorem Ll {v:EvD} (h:v.Wf):BI (Bh v)+(Bh v).length≤3 * szV v+22 * (v.call.refs.length+v.nodes.length+v.Bd.length)+1000:=by
 have h2:=Oq v.kind
 have hn:=I8 (n:=v.node) (by have:=h.node;omega)
 have ht:=I8 (n:=v.to) (by have:=h.to;omega)
 have hi:=Tb h.n.1 h.n.2
 have hx:=Qe h.x
 have hs:=Fy (bl v.s)
 have hb:=OF v.nodes h.nodes
 have hk:=QW v.Bd h.Bd
 have hc:=OL h.call
 have VT:B5 v 110=[Lib.decDigits v.node]:=rfl
 have e116:B5 v 116=[Lib.decDigits v.to]:=rfl
 have VU:B5 v 105=[Lib.itoa v.n]:=rfl
 have e88:=Jh v
 have e99:B5 v 99=[Cd v.a Da MK]:=rfl
 have e83:B5 v 83=[AV (bl v.s)]:=rfl
 have e98:B5 v 98=v.nodes.map Lib.decDigits:=rfl
 have e107:B5 v 107=v.Bd.map Lib.itoa:=rfl
 have e67:B5 v 67=Bv v.call:=rfl
 have f1:(Cd v.a Da MK).length≤7:=by cases v.a <;> decide
 have e0:BI []=0:=rfl
 unfold szV
 rcases L3 v.kind with e | e | e | e | e | e | e | e | e | e | e <;>
 ·unfold Bh
  rw [e]
  simp only [List.flatMap_cons,List.flatMap_nil,List.append_nil,AY,AT,Lc,Lq,Ln,List.length_map,VT,e116,VU,e88,e99,e83,e98,e107,e67,e0]
  omega
theorem T0 (v:EvD):(Bh v).length≤v.call.refs.length+v.nodes.length+v.Bd.length+9:=by
 have hc:=OM v.call
 have VT:B5 v 110=[Lib.decDigits v.node]:=rfl
 have e116:B5 v 116=[Lib.decDigits v.to]:=rfl
 have VU:B5 v 105=[Lib.itoa v.n]:=rfl
 have e88:=Jh v
 have e99:B5 v 99=[Cd v.a Da MK]:=rfl
 have e83:B5 v 83=[AV (bl v.s)]:=rfl
 have e98:B5 v 98=v.nodes.map Lib.decDigits:=rfl
 have e107:B5 v 107=v.Bd.map Lib.itoa:=rfl
 have e67:B5 v 67=Bv v.call:=rfl
 rcases L3 v.kind with e | e | e | e | e | e | e | e | e | e | e <;>
 ·unfold Bh
  rw [e]
  simp only [List.flatMap_cons,List.flatMap_nil,List.append_nil,Lc,Lq,Ln,List.length_map,VT,e116,VU,e88,e99,e83,e98,e107,e67]
  omega
theorem Hu (l:List (ByteArray × Nat)):l.length≤szR l:=by
 induction l with
 | nil=>simp
 | cons r l ih=>rw [show szR (r::l)=(bl r.1).length+1+szR l by simp [szR],Lc];omega
theorem Qf (l:List (ByteArray × Nat)) (i:Nat):szR (l.take i)≤szR l:=by
 have:szR l=szR (l.take i)+szR (l.drop i):=by
  conv=>lhs;rw [← List.take_append_drop i l]
  unfold szR
  rw [List.map_append,List.sum_append]
 omega
theorem UT {l:List (ByteArray × Nat)} {i:Nat} {r:ByteArray × Nat} (h:l[i]? =some r):szR (l.take (i+1))=szR (l.take i)+((bl r.1).length+1):=by
 rw [Bm h];simp [szR]
theorem SQ {l:List (ByteArray × Nat)} {r:ByteArray × Nat} (h:r∈l):(bl r.1).length+1≤szR l:=by
 induction l with
 | nil=>cases h
 | cons x l ih=>
  have e:szR (x::l)=(bl x.1).length+1+szR l:=by simp [szR]
  rcases List.mem_cons.1 h with rfl | h
  ·omega
  ·have:=ih h;omega
theorem O2 {n:Nat} (h:n < 4294967296) (A:AW):Au Tp A 30 35 (.int .u32 (n:Int))=.ok (.int .u64 (n:Int)) A:=by
 rw [NM,wrap_u64 (by omega) (by omega)]
section
variable {W0:World} {m0:Inj Tp}
theorem XX {u:Nat} {A:AW} {K:Value→AW→Prop} (hp:Pow W0) (hu:u < 4294967296) (hk:K (.string ⟨⟨Lib.decDigits u⟩⟩) A):Wc Tp Aw W0 m0 85 [.int .u32 (u:Int)] A K:=by
 refine w85 _ _ (AA (S:=fun _ _ _=>False) fun _ _ _ h=>h) ?_
 rw [e85]
 simp only [kW,Be,Ad,Aq]
 refine ⟨fun h=>absurd h (by omega),fun _=>?_⟩
 rw [O2 hu]
 exact Bg.2 (TA hp (by omega) hk)
theorem LI {b:Bool} {x y:Word} {A:AW} {K:Value→AW→Prop} (hk:K (.string (txt (Cd b x y))) A):Wc Tp Aw W0 m0 49 [.bool b,.string ⟨⟨x⟩⟩,.string ⟨⟨y⟩⟩] A K:=by
 refine AbN ?_
 cases b <;> exact hk
theorem W6 {A:AW} {b:Nat} {w0 w1 w2 w3:ByteArray} (h:Go.Abs.AD A b [.string w0,.string w1,.string w2,.string w3] 9) {i:Nat} {s:ByteArray} (hi:[w0,w1,w2,w3][i]? =some s):∃ a,Am Tp 56 (.slice (some ⟨b,0,none⟩) 4 4) (.int .i64 (i:Int))=some (.pointer (some a))∧At Tp A 9 (.pointer (some a))=some (.string s):=by
 refine ES.at Hh (l:=[w0,w1,w2,w3]) (F:=[b]) (p:=s) (.inr ⟨b,0,4,_,9,b,0,false,rfl,h.row,h.lt,rfl,fun i p hi=>?_⟩) hi rfl
 rw [Nat.zero_add]
 exact GC (f:=cS) (n:=1) (fun _=>rfl) [w0,w1,w2,w3] i p hi
theorem Zf {a b:Bool} {q:Nat} {w0 w1 w2 w3:Word} {A:AW} {K:Value→AW→Prop} (h:Go.Abs.AD A q [.string (txt w0),.string (txt w1),.string (txt w2),.string (txt w3)] 9) (hk:K (.string (txt (EW a b w0 w1 w2 w3))) A):
  Wc Tp Aw W0 m0 87 [.bool a,.bool b,.slice (some ⟨q,0,none⟩) 4 4] A K:=by
 refine w87 _ _ _ _ (AA (S:=fun _ _ _=>False) fun _ _ _ h=>h) ?_
 rw [e87]
 obtain ⟨a3,i3,l3⟩:=W6 h (i:=3) rfl
 obtain ⟨a2,i2,l2⟩:=W6 h (i:=2) rfl
 obtain ⟨a1,i1,l1⟩:=W6 h (i:=1) rfl
 obtain ⟨a0,i0,l0⟩:=W6 h (i:=0) rfl
 refine Aa i3 (Aa l3 (Aa i2 (Aa l2 (Aa i1 (Aa l1 (Aa i0 (Aa l0 (LI ?_))))))))
 refine ck l0 (ck i0 (Ao.2 (ck l1 (ck i1 (Ao.2 (Ao.2 (Ao.2 (LI (Ao.2 (LI ?_))))))))))
 cases a <;> cases b <;> exact hk
theorem U4 (l:List (ByteArray × Nat)) {i:Nat} {r:ByteArray × Nat} (h:l[i]? =some r):(l.take (i+1)).map (fun r=>txt (Dn r))=(l.take i).map (fun r=>txt (Dn r))++[txt (Dn r)]:=by
 rw [Bm h,List.map_append];rfl
theorem XV {v:Value} {l:List (ByteArray × Nat)} {F:List Nat} {A:AW} {K:Value→AW→Prop} (hp:Pow W0) (h:RdE 1 cR A v l F) (hl:l.length < 10000000) (hu:∀ r∈l,U64 r.2) (hs:szR l < 10000000) (hf:AH A) (hA:A.next+30 * szR l+200 < Ap)
  (hk:∀ A' w G,CZ 9 0 cS A' w (l.map fun r=>txt (Dn r)) G→(∀ x∈G,A.next≤x)→Grow A A' (30 * szR l)→K w A'):Wc Tp Aw W0 m0 86 [v] A K:=by
 let I:Nat→Nat→List Value→AW→Prop:=fun g id vals A'=>id=0∧∃ (i:Nat) (w:Value) (G:List Nat),vals=[w,v,.int .i64 (l.length:Int),.int .i64 (i:Int)]∧i≤l.length∧CZ 9 0 cS A' w ((l.take i).map fun r=>txt (Dn r)) G∧(∀ x∈G,A.next≤x)∧Grow A A' (30 * szR (l.take i))∧g=l.length - i
 refine w86 _ _ (c86 (I:=I) ?_) ?_
 ·rintro g id vals A' d ⟨rfl,i,w,G,rfl,hi,ho,hG,gr,rfl⟩ hd
  rw [Aag]
  simp only [L86,Mc,Mn,Li,and_true] at hd
  obtain ⟨d3,d6,d7,d8⟩:=hd
  simp only [d3,d6,d7,d8]
  refine Aa Be (Aq.2 ⟨fun hlt=>?_,fun hge=>?_⟩)
  ·have hlt:i < l.length:=by omega
   have hp0:=Ge hlt
   generalize hr:l[i]=r at hp0
   have hm:r∈l:=by rw [← hr];exact List.getElem_mem hlt
   have hu:=hu r hm
   have hsz:=SQ hm
   have hst:=Qf l i
   have hsn:=UT hp0
   have hst1:=Qf l (i+1)
   have ng:=gr.next
   have h':=h.keeps gr.keeps (by simp)
   obtain ⟨b,o,a1,_,a2⟩:=h'.at I3 hp0
   refine Aa a1 (Aa a2 (AI Pa gr.Az (by omega) rfl fun A1 m1=>?_))
   have n1:=m1.next
   refine Go.Abs.AD.store (n:=2) (off:=0) (v:=.agg ⟨cR r⟩) m1.BU m1.Az (by omega) (Qj _ _ _) rfl (Nl 2) rfl fun A2 r2 k2 n2 f2=>?_
   have r2:Go.Abs.AD A2 A'.next (cR r) 54:=r2
   have g2:Grow A' A2 1:=(((Grow.made m1 gr.Az).own k2 (fun x hx=>by rw [Ms.1 hx];exact Nl _) (m:=0) (by omega) f2)).more (by omega)
   have l9:∀ {B:AW},Go.Abs.AD B A'.next (cR r) 54→At Tp B 9 (pP A'.next 0)=some (.string r.1):=fun {B} q=>by rw [GS,AF q.row];rfl
   have l35:∀ {B:AW},Go.Abs.AD B A'.next (cR r) 54→At Tp B 35 (pP A'.next 1)=some (.int .u64 (r.2:Int)):=fun {B} q=>by rw [Vx,AF q.row];rfl
   have f0:Ac Tp 54 (pP A'.next 0) 0=some (pP A'.next 0):=Tk _ 0
   have f1:Ac Tp 54 (pP A'.next 0) 1=some (pP A'.next 1):=PG _ 0
   refine Aa f0 (Aa (l9 r2) (Aa f1 (Aa (l35 r2) ?_)))
   refine wc8 (s:=r.1) (by show (bl r.1).length < _;omega) f2 (by show _+100+10 * (bl r.1).length < _;omega) fun A3 g3=>?_
   have g3:Grow A2 A3 (20+10 * (bl r.1).length):=g3
   have n3:=g3.next
   have r3:=r2.keeps g3.keeps (by simp)
   have hql:=Fy (bl r.1)
   have hdl:=I8 hu
   obtain ⟨S1,e1,a1⟩:=Abk (x:=txt (AV (bl r.1))) (y:=txt [58]) (by rw [Cp,Cp];simp only [Lc,Ln];omega)
   obtain ⟨S2,e2,a2⟩:=Abk (x:=S1) (y:=txt (Lib.decDigits r.2)) (by rw [e1,Cp,Cp,Cp];simp only [Lq,Lc,Ln];omega)
   have hS:S2=txt (Dn r):=by
    rw [← E3 S2,e2,e1];rfl
   subst hS
   refine ck (l35 r3) (ck f1 (Ao.2 (Aa (a1 _ _) (Zq hp hu (ck (a1 _ _) (Ao.2 (Aa (a2 _ _) ?_)))))))
   refine Bs (D9 _ _) rfl g3.Az (by omega) fun A4 m4=>?_
   have n4:=m4.next
   have r4:=r3.keeps (m4.keeps g3.Az) (by simp)
   refine Aa4 m4.row (ck (a2 _ _) (ck (l35 r4) (ck f1 (ck (a1 _ _) (ck (l9 r4) (ck f0 (Ao.2 ?_)))))))
   have K14:Ay A' A4 []:=(g2.keeps.trans g3.keeps (by simp)).trans (m4.keeps g3.Az) (by simp)
   refine ES.append Hh (p:=txt (Dn r)) (ho.keeps K14 (by simp)) m4.BU m4.Az (by omega) (by rw [List.length_map,List.length_take];omega) fun v' A5 G' o5 k5 hG5 n5 f5=>?_
   have e2:IntKind.i64.wrap ((i:Int)+1)=((i+1:Nat):Int):=wrap_i64 (by omega) (by omega)
   simp only [Av,Ad,e2]
   have hle:A.next≤A'.next:=gr.le
   have hle2:=K14.next
   refine Ah.2 ⟨l.length - (i+1),by omega,rfl,i+1,v',G',rfl,by omega,?_,fun x hx=>?_,?_,rfl⟩
   ·rw [U4 l hp0];exact o5
   ·rcases hG5 x hx with e | e
    ·exact hG x e
    ·omega
   ·refine ⟨(gr.keeps.trans K14 (by simp)).trans k5 fun x hx=>.inr (hG x hx),f5,by omega⟩
  ·have:i=l.length:=by omega
   subst this
   rw [List.take_length] at ho gr
   exact hk A' w G ho hG gr
 ·rw [e86]
  exact Aa (h.len I3) (Ah.2 ⟨l.length,rfl,0,_,[],rfl,by omega,.nil _,by simp,⟨.refl _ _,hf,by omega⟩,rfl⟩)
end
theorem NO {c:Ax} {vr:Value} {A:AW} {b:Nat} {e:TypeId} (h:Go.Abs.AD A b (c.cells vr) e):At Tp A 5 (pP b 0)=some (.int .u8 (c.what:Int)):=by
 rw [Pz,AF h.row];rfl
theorem Rh {c:Ax} {vr:Value} {A:AW} {b:Nat} {e:TypeId} (h:Go.Abs.AD A b (c.cells vr) e):At Tp A 35 (pP b 1)=some (.int .u64 (c.ses:Int)):=by
 rw [Vx,AF h.row];rfl
theorem Jz {c:Ax} {vr:Value} {A:AW} {b:Nat} {e:TypeId} (h:Go.Abs.AD A b (c.cells vr) e):At Tp A 9 (pP b 2)=some (.string c.queue):=by
 rw [GS,AF h.row];rfl
theorem Jy {c:Ax} {vr:Value} {A:AW} {b:Nat} {e:TypeId} (h:Go.Abs.AD A b (c.cells vr) e):At Tp A 9 (pP b 3)=some (.string c.tag):=by
 rw [GS,AF h.row];rfl
theorem Mv {c:Ax} {vr:Value} {A:AW} {b:Nat} {e:TypeId} (h:Go.Abs.AD A b (c.cells vr) e):At Tp A 32 (pP b 4)=some (.agg ⟨c.x.cells⟩):=by
 rw [Vy,CI h.row];rfl
theorem Kf {c:Ax} {vr:Value} {A:AW} {b:Nat} {e:TypeId} (h:Go.Abs.AD A b (c.cells vr) e):At Tp A 30 (pP b 7)=some (.int .u32 (c.n:Int)):=by
 rw [Vz,AF h.row];rfl
theorem HD {c:Ax} {vr:Value} {A:AW} {b:Nat} {e:TypeId} (h:Go.Abs.AD A b (c.cells vr) e):At Tp A 4 (pP b 8)=some (.bool c.a):=by
 rw [WH,AF h.row];rfl
theorem LB {c:Ax} {vr:Value} {A:AW} {b:Nat} {e:TypeId} (h:Go.Abs.AD A b (c.cells vr) e):At Tp A 4 (pP b 9)=some (.bool c.b):=by
 rw [WH,AF h.row];rfl
theorem Ja {c:Ax} {vr:Value} {A:AW} {b:Nat} {e:TypeId} (h:Go.Abs.AD A b (c.cells vr) e) (hv:isTuple vr=false):At Tp A 36 (pP b 10)=some (vr):=by
 rw [XB,AF h.row]
 exact Ci rfl hv
theorem JU {c:Ax} {vr:Value} {A:AW} {b:Nat} {e:TypeId} (h:Go.Abs.AD A b (c.cells vr) e):At Tp A 9 (pP b 11)=some (.string c.body):=by
 rw [GS,AF h.row];rfl
theorem Mi {v:EvD} {vn vk vr:Value} {A:AW} {b:Nat} {e:TypeId} (h:Go.Abs.AD A b (v.cells vn vk vr) e):At Tp A 5 (pP b 0)=some (.int .u8 (v.kind:Int)):=by
 rw [Pz,AF h.row];rfl
theorem FQ {v:EvD} {vn vk vr:Value} {A:AW} {b:Nat} {e:TypeId} (h:Go.Abs.AD A b (v.cells vn vk vr) e):At Tp A 5 (pP b 1)=some (.int .u8 (v.node:Int)):=by
 rw [Pz,AF h.row];rfl
theorem Ju {v:EvD} {vn vk vr:Value} {A:AW} {b:Nat} {e:TypeId} (h:Go.Abs.AD A b (v.cells vn vk vr) e):At Tp A 5 (pP b 2)=some (.int .u8 (v.to:Int)):=by
 rw [Pz,AF h.row];rfl
theorem EZ {v:EvD} {vn vk vr:Value} {A:AW} {b:Nat} {e:TypeId} (h:Go.Abs.AD A b (v.cells vn vk vr) e):At Tp A 3 (pP b 3)=some (.int .i64 v.n):=by
 rw [YE,AF h.row];rfl
theorem Mh {v:EvD} {vn vk vr:Value} {A:AW} {b:Nat} {e:TypeId} (h:Go.Abs.AD A b (v.cells vn vk vr) e):At Tp A 32 (pP b 4)=some (.agg ⟨v.x.cells⟩):=by
 rw [Vy,CI h.row];rfl
theorem Ko {v:EvD} {vn vk vr:Value} {A:AW} {b:Nat} {e:TypeId} (h:Go.Abs.AD A b (v.cells vn vk vr) e) (hv:isTuple vn=false):At Tp A 33 (pP b 7)=some (vn):=by
 rw [KJ,AF h.row]
 exact Ci rfl hv
theorem Km {v:EvD} {vn vk vr:Value} {A:AW} {b:Nat} {e:TypeId} (h:Go.Abs.AD A b (v.cells vn vk vr) e) (hv:isTuple vk=false):At Tp A 34 (pP b 8)=some (vk):=by
 rw [Aac,AF h.row]
 exact Ci rfl hv
theorem NV {v:EvD} {vn vk vr:Value} {A:AW} {b:Nat} {e:TypeId} (h:Go.Abs.AD A b (v.cells vn vk vr) e):At Tp A 9 (pP b 9)=some (.string v.s):=by
 rw [GS,AF h.row];rfl
theorem HE {v:EvD} {vn vk vr:Value} {A:AW} {b:Nat} {e:TypeId} (h:Go.Abs.AD A b (v.cells vn vk vr) e):At Tp A 4 (pP b 10)=some (.bool v.a):=by
 rw [WH,AF h.row];rfl
theorem Kp {v:EvD} {vn vk vr:Value} {A:AW} {b:Nat} {e:TypeId} (h:Go.Abs.AD A b (v.cells vn vk vr) e) (hv:isTuple vr=false):At Tp A 38 (pP b 11)=some (.agg ⟨v.call.cells vr⟩):=by
 rw [Iv,CI h.row]
 have:=CS (v.call.cells vr) [] (DX v.call hv)
 rw [List.append_nil] at this
 show (match Ck (v.call.cells vr) 12 with | some l=>some (Value.agg ⟨l⟩) | none=>none)=_
 rw [show Ck (v.call.cells vr) 12=some (v.call.cells vr) from this]
theorem On (c:Ax):Ca c 82=c.refs.map Dn:=rfl
theorem ZL (v:EvD):B5 v 67=Bv v.call:=rfl
theorem UC:D4 Tp 56=some (.slice none 0 0):=by kernel_rfl
theorem AcA (s t u v:ByteArray):AR Tp (BA (Tm.fill ⟨4,.nil⟩ 0 [.string s,.string t,.string u,.string v])) (.buildSlice 56 4 #[(0,.tmp 0),(1,.tmp 1),(2,.tmp 2),(3,.tmp 3)])=some (.slice [.string s,.string t,.string u,.string v] 9 4):=by kernel_rfl
theorem Ud {A:AW} {q:Nat} {s t u v:ByteArray} {p:Prop} (h:A.get q=some (.row [.string s,.string t,.string u,.string v] 9 q 0 false)) (hp:p):Bz (AR Tp (BA (Tm.fill ⟨4,.nil⟩ 0 [.string s,.string t,.string u,.string v])) (.buildSlice 56 4 #[(0,.tmp 0),(1,.tmp 1),(2,.tmp 2),(3,.tmp 3)])) A (.slice (some ⟨q,0,none⟩) 4 4) p:=by
 refine ⟨⟨_,AcA _ _ _ _,?_⟩,hp⟩
 simp only [B8,Eo,h,Em,FU,Bool.and_self,Option.isNone_none,Nat.beq_refl]
theorem Yt {A:AW} {v:Value} {l:List ByteArray} {F:List Nat} (h:Jd 9 cS A v l F):RdE 0 cS A v l F:=by
 rcases h with h | ⟨b,rfl,h2,_,_,rfl⟩
 ·exact CZ.rd (fun _=>rfl) h
 ·exact .inr ⟨b,0,_,_,_,b,0,false,rfl,h2.row,h2.lt,rfl,fun i p hi=>by rw [Nat.zero_add];exact GC (n:=1) (fun _=>rfl) l i p hi⟩
section
variable {W0:World} {m0:Inj Tp}
set_option maxHeartbeats 4000000 in
theorem AbK {c:Ax} {vr:Value} {F:List Nat} {A:AW} {K:Value→AW→Prop} (hp:Pow W0) (hw:c.Wf) (hrd:RdE 1 cR A vr c.refs F) (hz:szC c < 8000000) (hf:AH A) (hA:A.next+100 * szC c+8000 < Ap)
  (hk:∀ A' w G,Jd 9 cS A' w ((Bv c).map txt) G→(∀ x∈G,A.next≤x)→Grow A A' (100 * szC c+5000)→K w A'):Wc Tp Aw W0 m0 56 [.agg ⟨c.cells vr⟩] A K:=by
 have hvr:=hrd.one.2
 have hrl:=Hu c.refs
 have hsz:szC c=(bl c.queue).length+(bl c.tag).length+(bl c.body).length+szR c.refs:=rfl
 refine w56 _ _ (AA (S:=fun _ _ _=>False) fun _ _ _ h=>h) ?_
 rw [e56]
 refine BX (cs:=c.cells vr) hf (by omega) (CX c hrd.one.1) fun A1 m1=>?_
 have n1:=m1.next
 refine AI UC m1.Az (by omega) rfl fun A2 m2=>PD m2.row ?_
 have n2:=m2.next
 have ev2:Go.Abs.AD A2 A.next (c.cells vr) 38:=m1.BU.keeps (m2.keeps m1.Az) (by simp)
 refine Aa (FM _ 0) (Aa (Rh ev2) (Aa (DJ _ 0) (Aa (NO ev2) (Zq hp hw.ses (PD m2.row (ck (NO ev2) (ck (DJ _ 0) ?_)))))))
 refine Zg m2.Az (by omega) fun A3 vm g3=>?_
 have n3:=g3.next
 have p3:Go.Abs.AD A3 A1.next [.slice none 0 0] 56:=m2.BU.keeps g3.keeps (by simp)
 have ev3:=ev2.keeps g3.keeps (by simp)
 refine PD p3.row (ck (NO ev3) (ck (DJ _ 0) (Zn vm g3.Az (by omega) fun A4 g4=>?_)))
 have n4:=g4.next
 have p4:=p3.keeps g4.keeps (by simp)
 have ev4:=ev3.keeps g4.keeps (by simp)
 refine PD p4.row (Bs (FJ _ _ _) rfl g4.Az (by omega) fun A5 m5=>?_)
 have n5:=m5.next
 have k5:=m5.keeps g4.Az
 have p5:=p4.keeps k5 (by simp)
 have ev5:=ev4.keeps k5 (by simp)
 have le3:=g3.le
 have le4:=g4.le
 refine PD p5.row (Mq m5.row (ck (NO ev5) (ck (DJ _ 0) (ck (Rh ev5) (ck (FM _ 0) ?_)))))
 refine Go.Abs.AD.store (n:=1) (off:=0) (v:=.slice (some ⟨A4.next,0,none⟩) 2 2) p5 m5.Az (by omega) (SR _ _ _) rfl (show 0+1≤1 by decide) rfl fun A6 p6 k6 n6 f6=>?_
 have s6:LW A A6 A.next (c.cells vr) 38 A1.next [txt (Lib.decDigits c.ses),txt (partsOf c.what).1] 10:=by
  refine ⟨ev5.keeps k6 (by simp;omega),⟨_,[A4.next],p6,(S3 (ws:=[txt (Lib.decDigits c.ses),txt (partsOf c.what).1]) m5 (by simp) (by simp)).keeps k6 (by simp;omega),by simp;omega,by simp;omega,by simp;omega⟩,⟨?_,f6,by omega⟩,by omega,by omega⟩
  refine Ay.trans ?_ k6 fun x hx=>.inr (by rw [Ms.1 hx];omega)
  exact ((((m1.keeps hf).trans (m2.keeps m1.Az) (by simp)).trans g3.keeps (by simp)).trans g4.keeps (by simp)).trans k5 (by simp)
 have fin:∀ {B:AW} {ws:List ByteArray} {N:Nat},LW A B A.next (c.cells vr) 38 A1.next ws N→ws=(Bv c).map txt→N≤100 * szC c+5000→Ab (At Tp B 56 (pP A1.next 0)) fun t=>K t B:=fun {B ws N} s e hN=>by
  obtain ⟨v,G,h1,h2,h3,h4,h5⟩:=s.out
  have l1:At Tp B 56 (pP A1.next 0)=some v:=by
   rw [LX,AF h1.row]
   obtain ⟨o,c,rfl⟩:=h2.slice
   rfl
  refine Aa l1 (hk B v G ?_ h5 (s.g.more hN))
  rw [← e];exact h2
 refine Aa (DJ _ 0) (Aa (NO s6.ev) ?_)
 refine Aa Ai (Af.2 ⟨fun hc=>?_,fun hc3=>?_⟩)
 ·have hc:c.what=3:=by omega
  refine Aa (v:=pP A.next 2) (Cy A.next 0) (Aa (v:=.string c.queue) (Jz s6.ev) (Aa (v:=pP A.next 7) (C4 A.next 0) (Aa (v:=.int .u32 (c.n:Int)) (Kf s6.ev) ?_)))
  refine wc8 (s:=c.queue) (by show (bl c.queue).length < _;omega) s6.f (by have:=s6.n;show _+100+10 * (bl c.queue).length < _;omega) fun A7 g7=>?_
  have g7:Grow A6 A7 (20+10 * (bl c.queue).length):=g7
  have s7:=s6.grow g7
  refine ck (Kf s7.ev) (ck (C4 A.next 0) (Ao.2 ?_))
  refine XX hp hw.n ?_
  refine Ao.2 ?_
  refine Bs (FJ _ _ _) rfl s7.f (by have:=s7.n;omega) fun A8 m8=>?_
  have s8:=s7.grow (Grow.made m8 s7.f)
  refine Mq m8.row (ck (Kf s8.ev) (ck (C4 A.next 0) (ck (Jz s8.ev) (ck (Cy A.next 0) (Ao.2 ?_)))))
  refine s8.F9 (us:=[(txt (AV (bl c.queue))),(txt (Lib.decDigits c.n))]) (Cz (ws:=[(txt (AV (bl c.queue))),(txt (Lib.decDigits c.n))]) m8) (by simp) (by simp) (by have:=s8.n;omega) fun A9 s9=>?_
  exact fin s9 (by rw [Bv,hc];rfl) (by have:=s9.n;omega)
 refine Aa Ai (Af.2 ⟨fun hc=>?_,fun hc4=>?_⟩)
 ·have hc:c.what=4:=by omega
  refine Aa (v:=pP A.next 2) (Cy A.next 0) (Aa (v:=.string c.queue) (Jz s6.ev) (Aa (v:=pP A.next 8) (BF A.next 0) (Aa (v:=.bool c.a) (HD s6.ev) ?_)))
  refine wc8 (s:=c.queue) (by show (bl c.queue).length < _;omega) s6.f (by have:=s6.n;show _+100+10 * (bl c.queue).length < _;omega) fun A7 g7=>?_
  have g7:Grow A6 A7 (20+10 * (bl c.queue).length):=g7
  have s7:=s6.grow g7
  refine ck (HD s7.ev) (ck (BF A.next 0) (Ao.2 ?_))
  refine LI ?_
  refine Ao.2 ?_
  refine Bs (FJ _ _ _) rfl s7.f (by have:=s7.n;omega) fun A8 m8=>?_
  have s8:=s7.grow (Grow.made m8 s7.f)
  refine Mq m8.row (ck (HD s8.ev) (ck (BF A.next 0) (ck (Jz s8.ev) (ck (Cy A.next 0) (Ao.2 ?_)))))
  refine s8.F9 (us:=[(txt (AV (bl c.queue))),(txt (Cd c.a [101,109,112,116,121] [97,110,121]))]) (Cz (ws:=[(txt (AV (bl c.queue))),(txt (Cd c.a [101,109,112,116,121] [97,110,121]))]) m8) (by simp) (by simp) (by have:=s8.n;omega) fun A9 s9=>?_
  exact fin s9 (by rw [Bv,hc];rfl) (by have:=s9.n;omega)
 refine Aa Ai (Af.2 ⟨fun hc=>?_,fun hc5=>?_⟩)
 ·have hc:c.what=5:=by omega
  refine Aa (v:=pP A.next 2) (Cy A.next 0) (Aa (v:=.string c.queue) (Jz s6.ev) ?_)
  refine wc8 (s:=c.queue) (by show (bl c.queue).length < _;omega) s6.f (by have:=s6.n;show _+100+10 * (bl c.queue).length < _;omega) fun A7 g7=>?_
  have g7:Grow A6 A7 (20+10 * (bl c.queue).length):=g7
  have s7:=s6.grow g7
  refine Bs (D9 _ _) rfl s7.f (by have:=s7.n;omega) fun A8 m8=>?_
  have s8:=s7.grow (Grow.made m8 s7.f)
  refine s8.F9 (us:=[(txt (AV (bl c.queue)))]) (Cz (ws:=[(txt (AV (bl c.queue)))]) m8) (by simp) (by simp) (by have:=s8.n;omega) fun A9 s9=>?_
  exact fin s9 (by rw [Bv,hc];rfl) (by have:=s9.n;omega)
 refine Aa Ai (Af.2 ⟨fun hc=>?_,fun hc6=>?_⟩)
 ·have hc:c.what=6:=by omega
  refine Aa (v:=pP A.next 2) (Cy A.next 0) (Aa (v:=.string c.queue) (Jz s6.ev) ?_)
  refine wc8 (s:=c.queue) (by show (bl c.queue).length < _;omega) s6.f (by have:=s6.n;show _+100+10 * (bl c.queue).length < _;omega) fun A7 g7=>?_
  have g7:Grow A6 A7 (20+10 * (bl c.queue).length):=g7
  have s7:=s6.grow g7
  refine Bs (D9 _ _) rfl s7.f (by have:=s7.n;omega) fun A8 m8=>?_
  have s8:=s7.grow (Grow.made m8 s7.f)
  refine s8.F9 (us:=[(txt (AV (bl c.queue)))]) (Cz (ws:=[(txt (AV (bl c.queue)))]) m8) (by simp) (by simp) (by have:=s8.n;omega) fun A9 s9=>?_
  exact fin s9 (by rw [Bv,hc];rfl) (by have:=s9.n;omega)
 refine Aa Ai (Af.2 ⟨fun hc=>?_,fun hc7=>?_⟩)
 ·have hc:c.what=7:=by omega
  refine Aa (v:=pP A.next 2) (Cy A.next 0) (Aa (v:=.string c.queue) (Jz s6.ev) (Aa (v:=pP A.next 3) (CG A.next 0) (Aa (v:=.string c.tag) (Jy s6.ev) (Aa (v:=pP A.next 11) (Ei A.next 0) (Aa (v:=.string c.body) (JU s6.ev) ?_)))))
  refine wc8 (s:=c.queue) (by show (bl c.queue).length < _;omega) s6.f (by have:=s6.n;show _+100+10 * (bl c.queue).length < _;omega) fun A7 g7=>?_
  have g7:Grow A6 A7 (20+10 * (bl c.queue).length):=g7
  have s7:=s6.grow g7
  refine ck (JU s7.ev) (ck (Ei A.next 0) (ck (Jy s7.ev) (ck (CG A.next 0) (Ao.2 ?_))))
  refine wc8 (s:=c.tag) (by show (bl c.tag).length < _;omega) s7.f (by have:=s7.n;show _+100+10 * (bl c.tag).length < _;omega) fun A8 g8=>?_
  have g8:Grow A7 A8 (20+10 * (bl c.tag).length):=g8
  have s8:=s7.grow g8
  refine ck (JU s8.ev) (ck (Ei A.next 0) (Ao.2 ?_))
  refine wc8 (s:=c.body) (by show (bl c.body).length < _;omega) s8.f (by have:=s8.n;show _+100+10 * (bl c.body).length < _;omega) fun A9 g9=>?_
  have g9:Grow A8 A9 (20+10 * (bl c.body).length):=g9
  have s9:=s8.grow g9
  refine Ao.2 ?_
  refine Bs (LD _ _ _ _) rfl s9.f (by have:=s9.n;omega) fun A10 m10=>?_
  have s10:=s9.grow (Grow.made m10 s9.f)
  refine Ue m10.row (ck (JU s10.ev) (ck (Ei A.next 0) (ck (Jy s10.ev) (ck (CG A.next 0) (ck (Jz s10.ev) (ck (Cy A.next 0) (Ao.2 ?_)))))))
  refine s10.F9 (us:=[(txt (AV (bl c.queue))),(txt (AV (bl c.tag))),(txt (AV (bl c.body)))]) (Cz (ws:=[(txt (AV (bl c.queue))),(txt (AV (bl c.tag))),(txt (AV (bl c.body)))]) m10) (by simp) (by simp) (by have:=s10.n;omega) fun A11 s11=>?_
  exact fin s11 (by rw [Bv,hc];rfl) (by have:=s11.n;omega)
 refine Aa Ai (Af.2 ⟨fun hc=>?_,fun hc8=>?_⟩)
 ·have hc:c.what=8:=by omega
  refine Aa (v:=pP A.next 2) (Cy A.next 0) (Aa (v:=.string c.queue) (Jz s6.ev) (Aa (v:=pP A.next 3) (CG A.next 0) (Aa (v:=.string c.tag) (Jy s6.ev) ?_)))
  refine wc8 (s:=c.queue) (by show (bl c.queue).length < _;omega) s6.f (by have:=s6.n;show _+100+10 * (bl c.queue).length < _;omega) fun A7 g7=>?_
  have g7:Grow A6 A7 (20+10 * (bl c.queue).length):=g7
  have s7:=s6.grow g7
  refine ck (Jy s7.ev) (ck (CG A.next 0) (Ao.2 ?_))
  refine wc8 (s:=c.tag) (by show (bl c.tag).length < _;omega) s7.f (by have:=s7.n;show _+100+10 * (bl c.tag).length < _;omega) fun A8 g8=>?_
  have g8:Grow A7 A8 (20+10 * (bl c.tag).length):=g8
  have s8:=s7.grow g8
  refine Ao.2 ?_
  refine Bs (FJ _ _ _) rfl s8.f (by have:=s8.n;omega) fun A9 m9=>?_
  have s9:=s8.grow (Grow.made m9 s8.f)
  refine Mq m9.row (ck (Jy s9.ev) (ck (CG A.next 0) (ck (Jz s9.ev) (ck (Cy A.next 0) (Ao.2 ?_)))))
  refine s9.F9 (us:=[(txt (AV (bl c.queue))),(txt (AV (bl c.tag)))]) (Cz (ws:=[(txt (AV (bl c.queue))),(txt (AV (bl c.tag)))]) m9) (by simp) (by simp) (by have:=s9.n;omega) fun A10 s10=>?_
  exact fin s10 (by rw [Bv,hc];rfl) (by have:=s10.n;omega)
 refine Aa Ai (Af.2 ⟨fun hc=>?_,fun hc9=>?_⟩)
 ·have hc:c.what=9:=by omega
  refine Aa (v:=pP A.next 3) (CG A.next 0) (Aa (v:=.string c.tag) (Jy s6.ev) ?_)
  refine wc8 (s:=c.tag) (by show (bl c.tag).length < _;omega) s6.f (by have:=s6.n;show _+100+10 * (bl c.tag).length < _;omega) fun A7 g7=>?_
  have g7:Grow A6 A7 (20+10 * (bl c.tag).length):=g7
  have s7:=s6.grow g7
  refine Bs (D9 _ _) rfl s7.f (by have:=s7.n;omega) fun A8 m8=>?_
  have s8:=s7.grow (Grow.made m8 s7.f)
  refine s8.F9 (us:=[(txt (AV (bl c.tag)))]) (Cz (ws:=[(txt (AV (bl c.tag)))]) m8) (by simp) (by simp) (by have:=s8.n;omega) fun A9 s9=>?_
  exact fin s9 (by rw [Bv,hc];rfl) (by have:=s9.n;omega)
 refine Aa Ai (Af.2 ⟨fun hc=>?_,fun hc11=>?_⟩)
 ·have hc:c.what=11:=by omega
  refine Aa (v:=pP A.next 3) (CG A.next 0) (Aa (v:=.string c.tag) (Jy s6.ev) ?_)
  refine wc8 (s:=c.tag) (by show (bl c.tag).length < _;omega) s6.f (by have:=s6.n;show _+100+10 * (bl c.tag).length < _;omega) fun A7 g7=>?_
  have g7:Grow A6 A7 (20+10 * (bl c.tag).length):=g7
  have s7:=s6.grow g7
  refine Bs (D9 _ _) rfl s7.f (by have:=s7.n;omega) fun A8 m8=>?_
  have s8:=s7.grow (Grow.made m8 s7.f)
  refine s8.F9 (us:=[(txt (AV (bl c.tag)))]) (Cz (ws:=[(txt (AV (bl c.tag)))]) m8) (by simp) (by simp) (by have:=s8.n;omega) fun A9 s9=>?_
  exact fin s9 (by rw [Bv,hc];rfl) (by have:=s9.n;omega)
 refine Aa Ai (Af.2 ⟨fun hc=>?_,fun hc10=>?_⟩)
 ·have hc:c.what=10:=by omega
  refine Aa (v:=pP A.next 3) (CG A.next 0) (Aa (v:=.string c.tag) (Jy s6.ev) (Aa (v:=pP A.next 7) (C4 A.next 0) (Aa (v:=.int .u32 (c.n:Int)) (Kf s6.ev) ?_)))
  refine wc8 (s:=c.tag) (by show (bl c.tag).length < _;omega) s6.f (by have:=s6.n;show _+100+10 * (bl c.tag).length < _;omega) fun A7 g7=>?_
  have g7:Grow A6 A7 (20+10 * (bl c.tag).length):=g7
  have s7:=s6.grow g7
  refine ck (Kf s7.ev) (ck (C4 A.next 0) (Ao.2 ?_))
  refine XX hp hw.n ?_
  refine Ao.2 ?_
  refine Bs (FJ _ _ _) rfl s7.f (by have:=s7.n;omega) fun A8 m8=>?_
  have s8:=s7.grow (Grow.made m8 s7.f)
  refine Mq m8.row (ck (Kf s8.ev) (ck (C4 A.next 0) (ck (Jy s8.ev) (ck (CG A.next 0) (Ao.2 ?_)))))
  refine s8.F9 (us:=[(txt (AV (bl c.tag))),(txt (Lib.decDigits c.n))]) (Cz (ws:=[(txt (AV (bl c.tag))),(txt (Lib.decDigits c.n))]) m8) (by simp) (by simp) (by have:=s8.n;omega) fun A9 s9=>?_
  exact fin s9 (by rw [Bv,hc];rfl) (by have:=s9.n;omega)
 refine Aa Ai (Af.2 ⟨fun hc=>?_,fun hc14=>?_⟩)
 ·have hc:c.what=14:=by omega
  refine Aa (v:=pP A.next 8) (BF A.next 0) (Aa (v:=.bool c.a) (HD s6.ev) ?_)
  refine LI ?_
  refine Bs (D9 _ _) rfl s6.f (by have:=s6.n;omega) fun A7 m7=>?_
  have s7:=s6.grow (Grow.made m7 s6.f)
  refine s7.F9 (us:=[(txt (Cd c.a [109,97,114,107] [107,101,101,112]))]) (Cz (ws:=[(txt (Cd c.a [109,97,114,107] [107,101,101,112]))]) m7) (by simp) (by simp) (by have:=s7.n;omega) fun A8 s8=>?_
  refine Aa (v:=pP A.next 10) (C0 A.next 0) (Aa (v:=vr) (Ja s8.ev hvr) ?_)
  have hr8:=hrd.keeps s8.g.keeps (by simp)
  refine XV hp hr8 (by omega) hw.refs (by omega) s8.f (by have:=s8.n;omega) fun A9 w9 G9 o9 hG9 g9=>?_
  have s9:=s8.grow g9
  refine s9.F9 (us:=c.refs.map fun r=>txt (Dn r)) (CZ.rd (fun _=>rfl) o9) (by simp) (by rw [List.length_map];omega) (by have:=s9.n;omega) fun A10 s10=>?_
  exact fin s10 (by rw [Bv,hc];show _=List.map txt (_::_::(Ca c 109++(Ca c 82++[])));rw [On];simp only [Mc,List.map_append,List.append_nil,List.map_map,List.cons_append,List.nil_append];rfl) (by have:=s10.n;omega)
 refine Aa Ai (Af.2 ⟨fun hc=>?_,fun hc13=>?_⟩)
 ·have hc:c.what=13:=by omega
  refine Aa (v:=pP A.next 10) (C0 A.next 0) (Aa (v:=vr) (Ja s6.ev hvr) ?_)
  have hr6:=hrd.keeps s6.g.keeps (by simp)
  refine XV hp hr6 (by omega) hw.refs (by omega) s6.f (by have:=s6.n;omega) fun A7 w7 G7 o7 hG7 g7=>?_
  have s7:=s6.grow g7
  refine s7.F9 (us:=c.refs.map fun r=>txt (Dn r)) (CZ.rd (fun _=>rfl) o7) (by simp) (by rw [List.length_map];omega) (by have:=s7.n;omega) fun A8 s8=>?_
  exact fin s8 (by rw [Bv,hc];show _=List.map txt (_::_::(Ca c 82++[]));rw [On];simp only [Mc,List.append_nil,List.map_map,List.cons_append,List.nil_append];rfl) (by have:=s8.n;omega)
 refine Aa Ai (Af.2 ⟨fun hc=>?_,fun hc15=>?_⟩)
 ·have hc:c.what=15:=by omega
  refine Aa (v:=pP A.next 10) (C0 A.next 0) (Aa (v:=vr) (Ja s6.ev hvr) ?_)
  have hr6:=hrd.keeps s6.g.keeps (by simp)
  refine XV hp hr6 (by omega) hw.refs (by omega) s6.f (by have:=s6.n;omega) fun A7 w7 G7 o7 hG7 g7=>?_
  have s7:=s6.grow g7
  refine s7.F9 (us:=c.refs.map fun r=>txt (Dn r)) (CZ.rd (fun _=>rfl) o7) (by simp) (by rw [List.length_map];omega) (by have:=s7.n;omega) fun A8 s8=>?_
  exact fin s8 (by rw [Bv,hc];show _=List.map txt (_::_::(Ca c 82++[]));rw [On];simp only [Mc,List.append_nil,List.map_map,List.cons_append,List.nil_append];rfl) (by have:=s8.n;omega)
 refine Aa Ai (Af.2 ⟨fun hc=>?_,fun hc16=>?_⟩)
 ·have hc:c.what=16:=by omega
  refine Aa (v:=pP A.next 8) (BF A.next 0) (Aa (v:=.bool c.a) (HD s6.ev) ?_)
  refine LI ?_
  refine Bs (D9 _ _) rfl s6.f (by have:=s6.n;omega) fun A7 m7=>?_
  have s7:=s6.grow (Grow.made m7 s6.f)
  refine s7.F9 (us:=[(txt (Cd c.a [100,116,120] [108,111,99,97,108]))]) (Cz (ws:=[(txt (Cd c.a [100,116,120] [108,111,99,97,108]))]) m7) (by simp) (by simp) (by have:=s7.n;omega) fun A8 s8=>?_
  exact fin s8 (by rw [Bv,hc];rfl) (by have:=s8.n;omega)
 refine Aa Ai (Af.2 ⟨fun hc=>?_,fun hc19=>?_⟩)
 ·have hc:c.what=19:=by omega
  refine Bs (PQ _ _ _ _ _) rfl s6.f (by have:=s6.n;omega) fun A7 m7=>?_
  have s7:=s6.grow (Grow.made m7 s6.f)
  have q7:=m7.BU
  refine Ud q7.row (Aa (v:=pP A.next 4) (DD A.next 0) (Aa (v:=.agg ⟨c.x.cells⟩) (Mv s7.ev) (Aa (v:=pP A.next 8) (BF A.next 0) (Aa (v:=.bool c.a) (HD s7.ev) (Aa (v:=pP A.next 9) (Db A.next 0) (Aa (v:=.bool c.b) (LB s7.ev) ?_))))))
  refine TC hp hw.x s7.f (by have:=s7.n;omega) fun A8 g8=>?_
  have s8:=s7.grow g8
  have q8:=q7.keeps g8.keeps (by simp)
  refine Ud q8.row (ck (LB s8.ev) (ck (Db A.next 0) (ck (HD s8.ev) (ck (BF A.next 0) (Ao.2 ?_)))))
  refine Zf q8 ?_
  refine Ao.2 ?_
  refine Bs (FJ _ _ _) rfl s8.f (by have:=s8.n;omega) fun A9 m9=>?_
  have s9:=s8.grow (Grow.made m9 s8.f)
  have q9:=q8.keeps (m9.keeps s8.f) (by simp)
  refine Mq m9.row (Ud q9.row (ck (LB s9.ev) (ck (Db A.next 0) (ck (HD s9.ev) (ck (BF A.next 0) (ck (Mv s9.ev) (ck (DD A.next 0) (Ao.2 ?_))))))))
  refine s9.F9 (us:=[(tx c.x),(txt (EW c.a c.b MJ E2 C9 Dl))]) (Cz (ws:=[(tx c.x),(txt (EW c.a c.b MJ E2 C9 Dl))]) m9) (by simp) (by simp) (by have:=s9.n;omega) fun A10 s10=>?_
  exact fin s10 (by rw [Bv,hc];show _=List.map txt (_::_::(Ca c 88++(Ca c 115++[])));rw [Ji];rfl) (by have:=s10.n;omega)
 refine Aa Ai (Af.2 ⟨fun hc=>?_,fun hc20=>?_⟩)
 ·have hc:c.what=20:=by omega
  refine Bs (PQ _ _ _ _ _) rfl s6.f (by have:=s6.n;omega) fun A7 m7=>?_
  have s7:=s6.grow (Grow.made m7 s6.f)
  have q7:=m7.BU
  refine Ud q7.row (Aa (v:=pP A.next 4) (DD A.next 0) (Aa (v:=.agg ⟨c.x.cells⟩) (Mv s7.ev) (Aa (v:=pP A.next 8) (BF A.next 0) (Aa (v:=.bool c.a) (HD s7.ev) (Aa (v:=pP A.next 9) (Db A.next 0) (Aa (v:=.bool c.b) (LB s7.ev) ?_))))))
  refine TC hp hw.x s7.f (by have:=s7.n;omega) fun A8 g8=>?_
  have s8:=s7.grow g8
  have q8:=q7.keeps g8.keeps (by simp)
  refine Ud q8.row (ck (LB s8.ev) (ck (Db A.next 0) (ck (HD s8.ev) (ck (BF A.next 0) (Ao.2 ?_)))))
  refine Zf q8 ?_
  refine Ao.2 ?_
  refine Bs (FJ _ _ _) rfl s8.f (by have:=s8.n;omega) fun A9 m9=>?_
  have s9:=s8.grow (Grow.made m9 s8.f)
  have q9:=q8.keeps (m9.keeps s8.f) (by simp)
  refine Mq m9.row (Ud q9.row (ck (LB s9.ev) (ck (Db A.next 0) (ck (HD s9.ev) (ck (BF A.next 0) (ck (Mv s9.ev) (ck (DD A.next 0) (Ao.2 ?_))))))))
  refine s9.F9 (us:=[(tx c.x),(txt (EW c.a c.b IK FP CV Dl))]) (Cz (ws:=[(tx c.x),(txt (EW c.a c.b IK FP CV Dl))]) m9) (by simp) (by simp) (by have:=s9.n;omega) fun A10 s10=>?_
  exact fin s10 (by rw [Bv,hc];show _=List.map txt (_::_::(Ca c 88++(Ca c 102++[])));rw [Ji];rfl) (by have:=s10.n;omega)
 refine Aa Ai (Af.2 ⟨fun hc=>?_,fun hc21=>?_⟩)
 ·have hc:c.what=21:=by omega
  refine Aa (v:=pP A.next 4) (DD A.next 0) (Aa (v:=.agg ⟨c.x.cells⟩) (Mv s6.ev) (Aa (v:=pP A.next 7) (C4 A.next 0) (Aa (v:=.int .u32 (c.n:Int)) (Kf s6.ev) ?_)))
  refine TC hp hw.x s6.f (by have:=s6.n;omega) fun A7 g7=>?_
  have s7:=s6.grow g7
  refine ck (Kf s7.ev) (ck (C4 A.next 0) (Ao.2 ?_))
  refine XX hp hw.n ?_
  refine Ao.2 ?_
  refine Bs (FJ _ _ _) rfl s7.f (by have:=s7.n;omega) fun A8 m8=>?_
  have s8:=s7.grow (Grow.made m8 s7.f)
  refine Mq m8.row (ck (Kf s8.ev) (ck (C4 A.next 0) (ck (Mv s8.ev) (ck (DD A.next 0) (Ao.2 ?_)))))
  refine s8.F9 (us:=[(tx c.x),(txt (Lib.decDigits c.n))]) (Cz (ws:=[(tx c.x),(txt (Lib.decDigits c.n))]) m8) (by simp) (by simp) (by have:=s8.n;omega) fun A9 s9=>?_
  exact fin s9 (by rw [Bv,hc];show _=List.map txt (_::_::(Ca c 88++(Ca c 78++[])));rw [Ji];rfl) (by have:=s9.n;omega)
 refine fin s6 ?_ (by omega)
 have hC:(partsOf c.what).2=[]:=by
  have h:c.what=0∨c.what=1∨c.what=2∨c.what=12∨c.what=17∨c.what=18∨21 < c.what:=by omega
  rcases h with h | h | h | h | h | h | h
  all_goals first | (rw [h];rfl) | rw [CA h]
 rw [Bv,hC]
 rfl
theorem TU (l:List Nat) {i:Nat} {r:Nat} (h:l[i]? =some r):(l.take (i+1)).map (fun r=>txt (Lib.decDigits r))=(l.take i).map (fun r=>txt (Lib.decDigits r))++[txt (Lib.decDigits r)]:=by
 rw [Bm h,List.map_append];rfl
theorem VC (l:List Int) {i:Nat} {r:Int} (h:l[i]? =some r):(l.take (i+1)).map (fun r=>txt (Lib.itoa r))=(l.take i).map (fun r=>txt (Lib.itoa r))++[txt (Lib.itoa r)]:=by
 rw [Bm h,List.map_append];rfl
set_option maxHeartbeats 4000000 in
theorem Zz {v:EvD} {vn vk vr:Value} {G:List Nat} {A:AW} {K:Value→AW→Prop} (hp:Pow W0) (hw:v.Wf) (hrd:RdV A v vn vk vr G) (hz:szV v < 8000000) (hf:AH A) (hA:A.next+200 * szV v+20000 < Ap)
  (hk:∀ A',Grow A A' (200 * szV v+15000)→K (.string (txt (BP ((Bh v).map txt)))) A'):Wc Tp Aw W0 m0 28 [.agg ⟨v.cells vn vk vr⟩] A K:=by
 obtain ⟨⟨on,hvn⟩,⟨ok,hvk⟩,or,hvr⟩:=hrd.one
 obtain ⟨⟨F1,hrn,_⟩,⟨F2,hrk,_⟩,F3,hrd,_⟩:=hrd
 have hrl:=Hu v.call.refs
 have hsz:szV v=(bl v.s).length+v.nodes.length+v.Bd.length+szC v.call:=rfl
 have hsum:=Ll hw
 have hlen:=T0 v
 have hlenC:=OM v.call
 have hszc:szC v.call=(bl v.call.queue).length+(bl v.call.tag).length+(bl v.call.body).length+szR v.call.refs:=rfl
 have fin:∀ {B:AW} {ws:List ByteArray} {N:Nat},LW A B A.next (v.cells vn vk vr) 40 (A.next+1) ws N→ws=(Bh v).map txt→N≤200 * szV v+14000→Ab (At Tp B 56 (pP (A.next+1) 0)) fun t=>Wc Tp Aw W0 m0 45 [t,.string ⟨⟨[32]⟩⟩] B K:=fun {B ws N} s e hN=>by
  subst e
  refine s.join (by unfold Bh;simp) (by rw [List.length_map];omega) (by rw [MP];omega) (by omega) fun A' g=>hk A' (g.more (by omega))
 let I:Nat→Nat→List Value→AW→Prop:=fun g id vals A'=>
  (id=1∧v.kind=1∧∃ i:Nat,vals=[pP (A.next+1) 0,.func (.func 55) ⟨[]⟩ ⟨[pP (A.next+1) 0]⟩,vn,.int .i64 (v.nodes.length:Int),.int .i64 (i:Int)]∧i≤v.nodes.length∧LW A A' A.next (v.cells vn vk vr) 40 (A.next+1) ([txt (Ak v.kind).1]++(v.nodes.take i).map fun r=>txt (Lib.decDigits r)) (20+2 * i)∧g=v.nodes.length - i)∨
  (id=3∧v.kind=8∧∃ i:Nat,vals=[pP (A.next+1) 0,.func (.func 55) ⟨[]⟩ ⟨[pP (A.next+1) 0]⟩,vk,.int .i64 (v.Bd.length:Int),.int .i64 (i:Int)]∧i≤v.Bd.length∧LW A A' A.next (v.cells vn vk vr) 40 (A.next+1) ([txt (Ak v.kind).1]++[txt (Lib.decDigits v.node)]++(v.Bd.take i).map fun r=>txt (Lib.itoa r)) (20+2 * i)∧g=v.Bd.length - i)
 refine w28 _ _ (c28 (I:=I) ?_) ?_
 ·rintro g id vals A' d (⟨rfl,hc,i,rfl,hi,s,rfl⟩ | ⟨rfl,hc,i,rfl,hi,s,rfl⟩) hd
  ·rw [AaD]
   simp only [L28,Mc,Mn,Li,and_true] at hd
   obtain ⟨d3,d4,d20,d21,d22⟩:=hd
   simp only [d3,d4,d20,d21,d22]
   have hn:=s.n
   refine Aa Be (Aq.2 ⟨fun hlt=>?_,fun hge=>?_⟩)
   ·have hlt:i < v.nodes.length:=by omega
    have hp0:=Ge hlt
    have hm:=hw.nodes _ (List.getElem_mem hlt)
    generalize v.nodes[i]=r at hp0 hm
    obtain ⟨a,a1,a2⟩:=ES.at I6 (hrn.keeps s.g.keeps (by simp)) hp0 rfl
    refine Aa a1 (Aa a2 (Jt hp hm (Bs (D9 _ _) rfl s.f (by omega) fun A1 m1=>?_)))
    have s1:=s.grow (Grow.made m1 s.f)
    refine s1.Ga (us:=[txt (Lib.decDigits r)]) (Cz (ws:=[txt (Lib.decDigits r)]) m1) (by simp only [Lq,Lc,Ln,List.length_map,List.length_take];omega) (by simp) (by omega) fun A2 s2=>?_
    have e2:IntKind.i64.wrap ((i:Int)+1)=((i+1:Nat):Int):=wrap_i64 (by omega) (by omega)
    simp only [Av,Ad,e2]
    refine Ah.2 ⟨v.nodes.length - (i+1),by omega,.inl ⟨rfl,hc,i+1,rfl,by omega,?_,rfl⟩⟩
    rw [TU _ hp0,← List.append_assoc]
    exact s2.more (by omega)
   ·have:i=v.nodes.length:=by omega
    subst this
    rw [List.take_length] at s
    exact fin s (by rw [Bh,hc];show _=List.map txt (_::(v.nodes.map Lib.decDigits++[]));simp only [Mc,List.append_nil,List.map_map,List.cons_append,List.nil_append];rfl) (by omega)
  ·rw [AaC]
   simp only [L28,Mc,Mn,Li,and_true] at hd
   obtain ⟨d3,d4,d20,d21,d22⟩:=hd
   simp only [d3,d4,d20,d21,d22]
   have hn:=s.n
   refine Aa Be (Aq.2 ⟨fun hlt=>?_,fun hge=>?_⟩)
   ·have hlt:i < v.Bd.length:=by omega
    have hp0:=Ge hlt
    have hm:=hw.Bd _ (List.getElem_mem hlt)
    generalize v.Bd[i]=r at hp0 hm
    obtain ⟨a,a1,a2⟩:=ES.at I5 (hrk.keeps s.g.keeps (by simp)) hp0 rfl
    refine Aa a1 (Aa a2 (P7 hp hm.1 hm.2 (Bs (D9 _ _) rfl s.f (by omega) fun A1 m1=>?_)))
    have s1:=s.grow (Grow.made m1 s.f)
    refine s1.Ga (us:=[txt (Lib.itoa r)]) (Cz (ws:=[txt (Lib.itoa r)]) m1) (by simp only [Lq,Lc,Ln,List.length_map,List.length_take];omega) (by simp) (by omega) fun A2 s2=>?_
    have e2:IntKind.i64.wrap ((i:Int)+1)=((i+1:Nat):Int):=wrap_i64 (by omega) (by omega)
    simp only [Av,Ad,e2]
    refine Ah.2 ⟨v.Bd.length - (i+1),by omega,.inr ⟨rfl,hc,i+1,rfl,by omega,?_,rfl⟩⟩
    rw [VC _ hp0,← List.append_assoc]
    exact s2.more (by omega)
   ·have:i=v.Bd.length:=by omega
    subst this
    rw [List.take_length] at s
    exact fin s (by rw [Bh,hc];show _=List.map txt (_::(B5 v 110++(v.Bd.map Lib.itoa++[])));simp only [Mc,List.map_append,List.append_nil,List.map_map,List.cons_append,List.nil_append];rfl) (by omega)
 rw [e28]
 refine BX (cs:=v.cells vn vk vr) hf (by omega) (Ep v on ok or) fun A1 m1=>?_
 have n1:=m1.next
 refine AI UC m1.Az (by omega) rfl fun A2 m2=>?_
 rw [n1]
 have r2:Go.Abs.AD A2 (A.next+1) [.slice none 0 0] 56:=by rw [← n1];exact m2.BU
 refine PD r2.row ?_
 have n2:=m2.next
 have ev2:Go.Abs.AD A2 A.next (v.cells vn vk vr) 40:=m1.BU.keeps (m2.keeps m1.Az) (by simp)
 refine Aa (DQ _ 0) (Aa (Mi ev2) ?_)
 refine Zl m2.Az (by omega) fun A3 vm g3=>?_
 have n3:=g3.next
 have p3:=r2.keeps g3.keeps (by simp)
 have ev3:=ev2.keeps g3.keeps (by simp)
 refine PD p3.row (ck (Mi ev3) (ck (DQ _ 0) (Zm vm g3.Az (by omega) fun A4 g4=>?_)))
 have n4:=g4.next
 have p4:=p3.keeps g4.keeps (by simp)
 have ev4:=ev3.keeps g4.keeps (by simp)
 refine PD p4.row (Bs (D9 _ _) rfl g4.Az (by omega) fun A5 m5=>?_)
 have n5:=m5.next
 have k5:=m5.keeps g4.Az
 have p5:=p4.keeps k5 (by simp)
 have ev5:=ev4.keeps k5 (by simp)
 have le3:=g3.le
 have le4:=g4.le
 refine PD p5.row (Aa4 m5.row (ck (Mi ev5) (ck (DQ _ 0) ?_)))
 refine Go.Abs.AD.store (n:=1) (off:=0) (v:=.slice (some ⟨A4.next,0,none⟩) 1 1) p5 m5.Az (by omega) (SR _ _ _) rfl (show 0+1≤1 by decide) rfl fun A6 p6 k6 n6 f6=>?_
 have s6:LW A A6 A.next (v.cells vn vk vr) 40 (A.next+1) [txt (Ak v.kind).1] 10:=by
  refine ⟨ev5.keeps k6 (by simp),⟨_,[A4.next],p6,(S3 (ws:=[txt (Ak v.kind).1]) m5 (by simp) (by simp)).keeps k6 (by simp;omega),by simp;omega,by simp;omega,by simp;omega⟩,⟨?_,f6,by omega⟩,by omega,by omega⟩
  refine Ay.trans ?_ k6 fun x hx=>.inr (by rw [Ms.1 hx];omega)
  exact ((((m1.keeps hf).trans (m2.keeps m1.Az) (by simp)).trans g3.keeps (by simp)).trans g4.keeps (by simp)).trans k5 (by simp)
 refine Aa (DQ _ 0) (Aa (Mi s6.ev) ?_)
 refine Aa Ai (Af.2 ⟨fun hc=>?_,fun hc1=>?_⟩)
 ·have hc:v.kind=1:=by omega
  refine Aa (v:=pP A.next 7) (DB A.next 0) (Aa (v:=vn) (Ko s6.ev hvn) ?_)
  exact Aa (I6.Gr (hrn.keeps s6.g.keeps (by simp))) (Ah.2 ⟨v.nodes.length,.inl ⟨rfl,hc,0,rfl,Nat.zero_le _,s6.more (by omega),rfl⟩⟩)
 refine Aa Ai (Af.2 ⟨fun hc=>?_,fun hc2=>?_⟩)
 ·have hc:v.kind=2:=by omega
  refine Aa (v:=pP A.next 4) (DC A.next 0) (Aa (v:=.agg ⟨v.x.cells⟩) (Mh s6.ev) (Aa (v:=pP A.next 10) (Dz A.next 0) (Aa (v:=.bool v.a) (HE s6.ev) ?_)))
  refine TC hp hw.x s6.f (by have:=s6.n;omega) fun A7 g7=>?_
  have s7:=s6.grow g7
  refine ck (HE s7.ev) (ck (Dz A.next 0) (Ao.2 ?_))
  refine LI ?_
  refine Ao.2 ?_
  refine Bs (FJ _ _ _) rfl s7.f (by have:=s7.n;omega) fun A8 m8=>?_
  have s8:=s7.grow (Grow.made m8 s7.f)
  refine Mq m8.row (ck (HE s8.ev) (ck (Dz A.next 0) (ck (Mh s8.ev) (ck (DC A.next 0) (Ao.2 ?_)))))
  refine s8.Ga (us:=[(tx v.x),(txt (Cd v.a [99,111,109,109,105,116] [98,97,99,107]))]) (Cz (ws:=[(tx v.x),(txt (Cd v.a [99,111,109,109,105,116] [98,97,99,107]))]) m8) (by simp) (by simp) (by have:=s8.n;omega) fun A9 s9=>?_
  exact fin s9 (by rw [Bh,hc];show _=List.map txt (_::(B5 v 88++(B5 v 99++[])));rw [Jh];rfl) (by have:=s9.n;omega)
 refine Aa Ai (Af.2 ⟨fun hc=>?_,fun hc10=>?_⟩)
 ·have hc:v.kind=10:=by omega
  refine Aa (v:=pP A.next 1) (BE A.next 0) (Aa (v:=.int .u8 (v.node:Int)) (FQ s6.ev) (Aa (v:=pP A.next 4) (DC A.next 0) (Aa (v:=.agg ⟨v.x.cells⟩) (Mh s6.ev) (Aa (v:=pP A.next 10) (Dz A.next 0) (Aa (v:=.bool v.a) (HE s6.ev) ?_)))))
  refine Jt hp hw.node ?_
  refine ck (HE s6.ev) (ck (Dz A.next 0) (ck (Mh s6.ev) (ck (DC A.next 0) (Ao.2 ?_))))
  refine TC hp hw.x s6.f (by have:=s6.n;omega) fun A7 g7=>?_
  have s7:=s6.grow g7
  refine ck (HE s7.ev) (ck (Dz A.next 0) (Ao.2 ?_))
  refine LI ?_
  refine Ao.2 ?_
  refine Bs (LD _ _ _ _) rfl s7.f (by have:=s7.n;omega) fun A8 m8=>?_
  have s8:=s7.grow (Grow.made m8 s7.f)
  refine Ue m8.row (ck (HE s8.ev) (ck (Dz A.next 0) (ck (Mh s8.ev) (ck (DC A.next 0) (ck (FQ s8.ev) (ck (BE A.next 0) (Ao.2 ?_)))))))
  refine s8.Ga (us:=[(txt (Lib.decDigits v.node)),(tx v.x),(txt (Cd v.a [99,111,109,109,105,116] [98,97,99,107]))]) (Cz (ws:=[(txt (Lib.decDigits v.node)),(tx v.x),(txt (Cd v.a [99,111,109,109,105,116] [98,97,99,107]))]) m8) (by simp) (by simp) (by have:=s8.n;omega) fun A9 s9=>?_
  exact fin s9 (by rw [Bh,hc];show _=List.map txt (_::(B5 v 110++(B5 v 88++(B5 v 99++[]))));rw [Jh];rfl) (by have:=s9.n;omega)
 refine Aa Ai (Af.2 ⟨fun hc=>?_,fun hc3=>?_⟩)
 ·have hc:v.kind=3:=by omega
  refine Aa (v:=pP A.next 1) (BE A.next 0) (Aa (v:=.int .u8 (v.node:Int)) (FQ s6.ev) (Aa (v:=pP A.next 2) (CU A.next 0) (Aa (v:=.int .u8 (v.to:Int)) (Ju s6.ev) (Aa (v:=pP A.next 3) (BG A.next 0) (Aa (v:=.int .i64 v.n) (EZ s6.ev) ?_)))))
  refine Jt hp hw.node ?_
  refine ck (EZ s6.ev) (ck (BG A.next 0) (ck (Ju s6.ev) (ck (CU A.next 0) (Ao.2 ?_))))
  refine Jt hp hw.to ?_
  refine ck (EZ s6.ev) (ck (BG A.next 0) (Ao.2 ?_))
  refine P7 hp hw.n.1 hw.n.2 ?_
  refine Ao.2 ?_
  refine Bs (LD _ _ _ _) rfl s6.f (by have:=s6.n;omega) fun A7 m7=>?_
  have s7:=s6.grow (Grow.made m7 s6.f)
  refine Ue m7.row (ck (EZ s7.ev) (ck (BG A.next 0) (ck (Ju s7.ev) (ck (CU A.next 0) (ck (FQ s7.ev) (ck (BE A.next 0) (Ao.2 ?_)))))))
  refine s7.Ga (us:=[(txt (Lib.decDigits v.node)),(txt (Lib.decDigits v.to)),(txt (Lib.itoa v.n))]) (Cz (ws:=[(txt (Lib.decDigits v.node)),(txt (Lib.decDigits v.to)),(txt (Lib.itoa v.n))]) m7) (by simp) (by simp) (by have:=s7.n;omega) fun A8 s8=>?_
  exact fin s8 (by rw [Bh,hc];rfl) (by have:=s8.n;omega)
 refine Aa Ai (Af.2 ⟨fun hc=>?_,fun hc4=>?_⟩)
 ·have hc:v.kind=4:=by omega
  refine Aa (v:=pP A.next 1) (BE A.next 0) (Aa (v:=.int .u8 (v.node:Int)) (FQ s6.ev) (Aa (v:=pP A.next 2) (CU A.next 0) (Aa (v:=.int .u8 (v.to:Int)) (Ju s6.ev) (Aa (v:=pP A.next 3) (BG A.next 0) (Aa (v:=.int .i64 v.n) (EZ s6.ev) ?_)))))
  refine Jt hp hw.node ?_
  refine ck (EZ s6.ev) (ck (BG A.next 0) (ck (Ju s6.ev) (ck (CU A.next 0) (Ao.2 ?_))))
  refine Jt hp hw.to ?_
  refine ck (EZ s6.ev) (ck (BG A.next 0) (Ao.2 ?_))
  refine P7 hp hw.n.1 hw.n.2 ?_
  refine Ao.2 ?_
  refine Bs (LD _ _ _ _) rfl s6.f (by have:=s6.n;omega) fun A7 m7=>?_
  have s7:=s6.grow (Grow.made m7 s6.f)
  refine Ue m7.row (ck (EZ s7.ev) (ck (BG A.next 0) (ck (Ju s7.ev) (ck (CU A.next 0) (ck (FQ s7.ev) (ck (BE A.next 0) (Ao.2 ?_)))))))
  refine s7.Ga (us:=[(txt (Lib.decDigits v.node)),(txt (Lib.decDigits v.to)),(txt (Lib.itoa v.n))]) (Cz (ws:=[(txt (Lib.decDigits v.node)),(txt (Lib.decDigits v.to)),(txt (Lib.itoa v.n))]) m7) (by simp) (by simp) (by have:=s7.n;omega) fun A8 s8=>?_
  exact fin s8 (by rw [Bh,hc];rfl) (by have:=s8.n;omega)
 refine Aa Ai (Af.2 ⟨fun hc=>?_,fun hc5=>?_⟩)
 ·have hc:v.kind=5:=by omega
  refine Aa (v:=pP A.next 1) (BE A.next 0) (Aa (v:=.int .u8 (v.node:Int)) (FQ s6.ev) (Aa (v:=pP A.next 2) (CU A.next 0) (Aa (v:=.int .u8 (v.to:Int)) (Ju s6.ev) (Aa (v:=pP A.next 3) (BG A.next 0) (Aa (v:=.int .i64 v.n) (EZ s6.ev) ?_)))))
  refine Jt hp hw.node ?_
  refine ck (EZ s6.ev) (ck (BG A.next 0) (ck (Ju s6.ev) (ck (CU A.next 0) (Ao.2 ?_))))
  refine Jt hp hw.to ?_
  refine ck (EZ s6.ev) (ck (BG A.next 0) (Ao.2 ?_))
  refine P7 hp hw.n.1 hw.n.2 ?_
  refine Ao.2 ?_
  refine Bs (LD _ _ _ _) rfl s6.f (by have:=s6.n;omega) fun A7 m7=>?_
  have s7:=s6.grow (Grow.made m7 s6.f)
  refine Ue m7.row (ck (EZ s7.ev) (ck (BG A.next 0) (ck (Ju s7.ev) (ck (CU A.next 0) (ck (FQ s7.ev) (ck (BE A.next 0) (Ao.2 ?_)))))))
  refine s7.Ga (us:=[(txt (Lib.decDigits v.node)),(txt (Lib.decDigits v.to)),(txt (Lib.itoa v.n))]) (Cz (ws:=[(txt (Lib.decDigits v.node)),(txt (Lib.decDigits v.to)),(txt (Lib.itoa v.n))]) m7) (by simp) (by simp) (by have:=s7.n;omega) fun A8 s8=>?_
  exact fin s8 (by rw [Bh,hc];rfl) (by have:=s8.n;omega)
 refine Aa Ai (Af.2 ⟨fun hc=>?_,fun hc7=>?_⟩)
 ·have hc:v.kind=7:=by omega
  refine Aa (v:=pP A.next 1) (BE A.next 0) (Aa (v:=.int .u8 (v.node:Int)) (FQ s6.ev) ?_)
  refine Jt hp hw.node ?_
  refine Bs (D9 _ _) rfl s6.f (by have:=s6.n;omega) fun A7 m7=>?_
  have s7:=s6.grow (Grow.made m7 s6.f)
  refine s7.Ga (us:=[(txt (Lib.decDigits v.node))]) (Cz (ws:=[(txt (Lib.decDigits v.node))]) m7) (by simp) (by simp) (by have:=s7.n;omega) fun A8 s8=>?_
  exact fin s8 (by rw [Bh,hc];rfl) (by have:=s8.n;omega)
 refine Aa Ai (Af.2 ⟨fun hc=>?_,fun hc12=>?_⟩)
 ·have hc:v.kind=12:=by omega
  refine Aa (v:=pP A.next 1) (BE A.next 0) (Aa (v:=.int .u8 (v.node:Int)) (FQ s6.ev) ?_)
  refine Jt hp hw.node ?_
  refine Bs (D9 _ _) rfl s6.f (by have:=s6.n;omega) fun A7 m7=>?_
  have s7:=s6.grow (Grow.made m7 s6.f)
  refine s7.Ga (us:=[(txt (Lib.decDigits v.node))]) (Cz (ws:=[(txt (Lib.decDigits v.node))]) m7) (by simp) (by simp) (by have:=s7.n;omega) fun A8 s8=>?_
  exact fin s8 (by rw [Bh,hc];rfl) (by have:=s8.n;omega)
 refine Aa Ai (Af.2 ⟨fun hc=>?_,fun hc8=>?_⟩)
 ·have hc:v.kind=8:=by omega
  refine Aa (v:=pP A.next 1) (BE A.next 0) (Aa (v:=.int .u8 (v.node:Int)) (FQ s6.ev) ?_)
  refine Jt hp hw.node ?_
  refine Bs (D9 _ _) rfl s6.f (by have:=s6.n;omega) fun A7 m7=>?_
  have s7:=s6.grow (Grow.made m7 s6.f)
  refine s7.Ga (us:=[(txt (Lib.decDigits v.node))]) (Cz (ws:=[(txt (Lib.decDigits v.node))]) m7) (by simp) (by simp) (by have:=s7.n;omega) fun A8 s8=>?_
  refine Aa (v:=pP A.next 8) (DA A.next 0) (Aa (v:=vk) (Km s8.ev hvk) ?_)
  exact Aa (I5.Gr (hrk.keeps s8.g.keeps (by simp))) (Ah.2 ⟨v.Bd.length,.inr ⟨rfl,hc,0,rfl,Nat.zero_le _,s8.more (by omega),rfl⟩⟩)
 refine Aa Ai (Af.2 ⟨fun hc=>?_,fun hc9=>?_⟩)
 ·have hc:v.kind=9:=by omega
  refine Aa (v:=pP A.next 1) (BE A.next 0) (Aa (v:=.int .u8 (v.node:Int)) (FQ s6.ev) (Aa (v:=pP A.next 3) (BG A.next 0) (Aa (v:=.int .i64 v.n) (EZ s6.ev) ?_)))
  refine Jt hp hw.node ?_
  refine ck (EZ s6.ev) (ck (BG A.next 0) (Ao.2 ?_))
  refine P7 hp hw.n.1 hw.n.2 ?_
  refine Ao.2 ?_
  refine Bs (FJ _ _ _) rfl s6.f (by have:=s6.n;omega) fun A7 m7=>?_
  have s7:=s6.grow (Grow.made m7 s6.f)
  refine Mq m7.row (ck (EZ s7.ev) (ck (BG A.next 0) (ck (FQ s7.ev) (ck (BE A.next 0) (Ao.2 ?_)))))
  refine s7.Ga (us:=[(txt (Lib.decDigits v.node)),(txt (Lib.itoa v.n))]) (Cz (ws:=[(txt (Lib.decDigits v.node)),(txt (Lib.itoa v.n))]) m7) (by simp) (by simp) (by have:=s7.n;omega) fun A8 s8=>?_
  exact fin s8 (by rw [Bh,hc];rfl) (by have:=s8.n;omega)
 refine Aa Ai (Af.2 ⟨fun hc=>?_,fun hc14=>?_⟩)
 ·have hc:v.kind=14:=by omega
  refine Aa (v:=pP A.next 1) (BE A.next 0) (Aa (v:=.int .u8 (v.node:Int)) (FQ s6.ev) (Aa (v:=pP A.next 3) (BG A.next 0) (Aa (v:=.int .i64 v.n) (EZ s6.ev) ?_)))
  refine Jt hp hw.node ?_
  refine ck (EZ s6.ev) (ck (BG A.next 0) (Ao.2 ?_))
  refine P7 hp hw.n.1 hw.n.2 ?_
  refine Ao.2 ?_
  refine Bs (FJ _ _ _) rfl s6.f (by have:=s6.n;omega) fun A7 m7=>?_
  have s7:=s6.grow (Grow.made m7 s6.f)
  refine Mq m7.row (ck (EZ s7.ev) (ck (BG A.next 0) (ck (FQ s7.ev) (ck (BE A.next 0) (Ao.2 ?_)))))
  refine s7.Ga (us:=[(txt (Lib.decDigits v.node)),(txt (Lib.itoa v.n))]) (Cz (ws:=[(txt (Lib.decDigits v.node)),(txt (Lib.itoa v.n))]) m7) (by simp) (by simp) (by have:=s7.n;omega) fun A8 s8=>?_
  exact fin s8 (by rw [Bh,hc];rfl) (by have:=s8.n;omega)
 refine Aa Ai (Af.2 ⟨fun hc=>?_,fun hc15=>?_⟩)
 ·have hc:v.kind=15:=by omega
  refine Aa (v:=pP A.next 1) (BE A.next 0) (Aa (v:=.int .u8 (v.node:Int)) (FQ s6.ev) (Aa (v:=pP A.next 3) (BG A.next 0) (Aa (v:=.int .i64 v.n) (EZ s6.ev) ?_)))
  refine Jt hp hw.node ?_
  refine ck (EZ s6.ev) (ck (BG A.next 0) (Ao.2 ?_))
  refine P7 hp hw.n.1 hw.n.2 ?_
  refine Ao.2 ?_
  refine Bs (FJ _ _ _) rfl s6.f (by have:=s6.n;omega) fun A7 m7=>?_
  have s7:=s6.grow (Grow.made m7 s6.f)
  refine Mq m7.row (ck (EZ s7.ev) (ck (BG A.next 0) (ck (FQ s7.ev) (ck (BE A.next 0) (Ao.2 ?_)))))
  refine s7.Ga (us:=[(txt (Lib.decDigits v.node)),(txt (Lib.itoa v.n))]) (Cz (ws:=[(txt (Lib.decDigits v.node)),(txt (Lib.itoa v.n))]) m7) (by simp) (by simp) (by have:=s7.n;omega) fun A8 s8=>?_
  exact fin s8 (by rw [Bh,hc];rfl) (by have:=s8.n;omega)
 refine Aa Ai (Af.2 ⟨fun hc=>?_,fun hc11=>?_⟩)
 ·have hc:v.kind=11:=by omega
  refine Aa (v:=pP A.next 4) (DC A.next 0) (Aa (v:=.agg ⟨v.x.cells⟩) (Mh s6.ev) ?_)
  refine TC hp hw.x s6.f (by have:=s6.n;omega) fun A7 g7=>?_
  have s7:=s6.grow g7
  refine Bs (D9 _ _) rfl s7.f (by have:=s7.n;omega) fun A8 m8=>?_
  have s8:=s7.grow (Grow.made m8 s7.f)
  refine s8.Ga (us:=[(tx v.x)]) (Cz (ws:=[(tx v.x)]) m8) (by simp) (by simp) (by have:=s8.n;omega) fun A9 s9=>?_
  exact fin s9 (by rw [Bh,hc];show _=List.map txt (_::(B5 v 88++[]));rw [Jh];rfl) (by have:=s9.n;omega)
 refine Aa Ai (Af.2 ⟨fun hc=>?_,fun hc13=>?_⟩)
 ·have hc:v.kind=13:=by omega
  refine Aa (v:=pP A.next 1) (BE A.next 0) (Aa (v:=.int .u8 (v.node:Int)) (FQ s6.ev) (Aa (v:=pP A.next 3) (BG A.next 0) (Aa (v:=.int .i64 v.n) (EZ s6.ev) (Aa (v:=pP A.next 9) (Eh A.next 0) (Aa (v:=.string v.s) (NV s6.ev) ?_)))))
  refine Jt hp hw.node ?_
  refine ck (NV s6.ev) (ck (Eh A.next 0) (ck (EZ s6.ev) (ck (BG A.next 0) (Ao.2 ?_))))
  refine P7 hp hw.n.1 hw.n.2 ?_
  refine ck (NV s6.ev) (ck (Eh A.next 0) (Ao.2 ?_))
  refine wc8 (s:=v.s) (by show (bl v.s).length < _;omega) s6.f (by have:=s6.n;show _+100+10 * (bl v.s).length < _;omega) fun A7 g7=>?_
  have g7:Grow A6 A7 (20+10 * (bl v.s).length):=g7
  have s7:=s6.grow g7
  refine Ao.2 ?_
  refine Bs (LD _ _ _ _) rfl s7.f (by have:=s7.n;omega) fun A8 m8=>?_
  have s8:=s7.grow (Grow.made m8 s7.f)
  refine Ue m8.row (ck (NV s8.ev) (ck (Eh A.next 0) (ck (EZ s8.ev) (ck (BG A.next 0) (ck (FQ s8.ev) (ck (BE A.next 0) (Ao.2 ?_)))))))
  refine s8.Ga (us:=[(txt (Lib.decDigits v.node)),(txt (Lib.itoa v.n)),(txt (AV (bl v.s)))]) (Cz (ws:=[(txt (Lib.decDigits v.node)),(txt (Lib.itoa v.n)),(txt (AV (bl v.s)))]) m8) (by simp) (by simp) (by have:=s8.n;omega) fun A9 s9=>?_
  exact fin s9 (by rw [Bh,hc];rfl) (by have:=s9.n;omega)
 refine Aa Ai (Af.2 ⟨fun hc=>?_,fun hc16=>?_⟩)
 ·have hc:v.kind=16:=by omega
  refine Aa (v:=pP A.next 1) (BE A.next 0) (Aa (v:=.int .u8 (v.node:Int)) (FQ s6.ev) ?_)
  refine Jt hp hw.node ?_
  refine Bs (D9 _ _) rfl s6.f (by have:=s6.n;omega) fun A7 m7=>?_
  have s7:=s6.grow (Grow.made m7 s6.f)
  refine s7.Ga (us:=[(txt (Lib.decDigits v.node))]) (Cz (ws:=[(txt (Lib.decDigits v.node))]) m7) (by simp) (by simp) (by have:=s7.n;omega) fun A8 s8=>?_
  refine Aa (v:=pP A.next 11) (Dj A.next 0) (Aa (v:=.agg ⟨v.call.cells vr⟩) (Kp s8.ev hvr) ?_)
  have hr8:=hrd.keeps s8.g.keeps (by simp)
  refine AbK hp hw.call hr8 (by unfold szC;omega) s8.f (by have:=s8.n;unfold szC;omega) fun A9 w9 G9 o9 hG9 g9=>?_
  have s9:=s8.grow g9
  refine s9.Ga (us:=(Bv v.call).map txt) (Yt o9) (by simp) (by rw [List.length_map];omega) (by have:=s9.n;omega) fun A10 s10=>?_
  exact fin s10 (by rw [Bh,hc];show _=List.map txt (_::(B5 v 110++(B5 v 67++[])));rw [ZL];simp only [Mc,List.map_append,List.append_nil,List.map_map,List.cons_append,List.nil_append];rfl) (by have:=s10.n;omega)
 refine fin s6 ?_ (by omega)
 have hC:(Ak v.kind).2=[]:=by
  have h:v.kind=0∨v.kind=6∨v.kind=17∨17 < v.kind:=by omega
  rcases h with h | h | h | h
  all_goals first | (rw [h];rfl) | rw [Cr h]
 rw [Bh,hC]
 rfl
end
theorem Ia (n:Nat):(32:UInt8)∉Lib.decDigits n:=S6 (by decide) n
theorem S7 (n:Int):(32:UInt8)∉Lib.itoa n:=by
 rcases Int.lt_or_le n 0 with h | h
 ·obtain ⟨u,rfl⟩:∃ u:Nat,n= -(u:Int):=⟨(-n).toNat,by omega⟩
  rw [Lib.itoa_neg _ (by omega)]
  intro hm
  rcases List.mem_cons.1 hm with e | e
  ·exact absurd e (by decide)
  ·exact Ia _ e
 ·obtain ⟨u,rfl⟩:∃ u:Nat,n=(u:Int):=⟨n.toNat,by omega⟩
  rw [Lib.itoa_nonneg]
  exact Ia _
theorem IX (l:Word):(32:UInt8)∉AV l:=OD (by decide) (by decide) (by decide) l
theorem Yz (r:ByteArray × Nat):(32:UInt8)∉Dn r:=by
 unfold Dn
 simp only [List.mem_append,Ms,not_or]
 exact ⟨⟨IX _,by decide⟩,Ia _⟩
theorem Xw (p:Nm):(32:UInt8)∉bl (tx p):=by
 show (32:UInt8)∉(if okX p=true then Cs p else [])
 split
 ·unfold Cs
  simp only [List.mem_append,Ms,not_or]
  exact ⟨⟨⟨⟨Ia _,by decide⟩,KF (by decide) _⟩,by decide⟩,KF (by decide) _⟩
 ·simp
theorem Vr (n:Nat):(32:UInt8)∉(partsOf n).1:=by
 rcases Nat.lt_or_ge 21 n with h | h
 ·rw [CA h];simp
 ·have:∀ n < 22,(32:UInt8)∉(partsOf n).1:=by decide
  exact this n (by omega)
theorem Vq (n:Nat):(32:UInt8)∉(Ak n).1:=by
 rcases Nat.lt_or_ge 17 n with h | h
 ·rw [Cr h];simp
 ·have:∀ n < 18,(32:UInt8)∉(Ak n).1:=by decide
  exact this n (by omega)
theorem Vt (c:Ax):∀ w∈Bv c,(32:UInt8)∉w:=by
 intro w hw
 unfold Bv at hw
 rcases List.mem_cons.1 hw with rfl | hw
 ·exact Ia _
 rcases List.mem_cons.1 hw with rfl | hw
 ·exact Vr _
 obtain ⟨h,_,hw⟩:=List.mem_flatMap.1 hw
 by_cases h88:h=88
 ·subst h88
  rw [Ji,Ms] at hw
  rw [hw];exact Xw _
 by_cases h82:h=82
 ·subst h82
  rw [On] at hw
  obtain ⟨r,_,rfl⟩:=List.mem_map.1 hw
  exact Yz r
 unfold Ca Dk at hw
 simp only [h88,h82,if_false] at hw
 repeat' split at hw
 all_goals (simp only [Option.getD_some,Ms] at hw;subst hw)
 ·exact IX _
 ·exact IX _
 ·exact IX _
 ·exact Ia _
 ·cases c.a <;> decide
 ·cases c.a <;> decide
 ·cases c.a <;> decide
 ·cases c.a <;> cases c.b <;> decide
 ·cases c.a <;> cases c.b <;> decide
 ·simp
theorem Vs (v:EvD):∀ w∈Bh v,(32:UInt8)∉w:=by
 intro w hw
 unfold Bh at hw
 rcases List.mem_cons.1 hw with rfl | hw
 ·exact Vq _
 obtain ⟨h,_,hw⟩:=List.mem_flatMap.1 hw
 by_cases h88:h=88
 ·subst h88
  rw [Jh,Ms] at hw
  rw [hw];exact Xw _
 by_cases h67:h=67
 ·subst h67
  exact Vt _ w hw
 by_cases h98:h=98
 ·subst h98
  have hw:w∈v.nodes.map Lib.decDigits:=hw
  obtain ⟨r,_,rfl⟩:=List.mem_map.1 hw
  exact Ia r
 by_cases h107:h=107
 ·subst h107
  have hw:w∈v.Bd.map Lib.itoa:=hw
  obtain ⟨r,_,rfl⟩:=List.mem_map.1 hw
  exact S7 r
 unfold B5 FC at hw
 simp only [h88,h67,h98,h107,if_false] at hw
 repeat' split at hw
 all_goals (simp only [Option.getD_some,Ms] at hw;subst hw)
 ·exact Ia _
 ·exact Ia _
 ·exact S7 _
 ·cases v.a <;> decide
 ·exact IX _
 ·simp
theorem RD {x:Word} {r:List Word} (h:∀ w∈x::r,(32:UInt8)∉w):AS 32 (BP ((x::r).map txt))=x::r:=by
 induction r generalizing x with
 | nil=>
  show AS 32 (x++[])=_
  rw [List.append_nil,FT (h x (by simp))]
 | cons y r ih=>
  have e:BP ((x::y::r).map txt)=x++[32]++BP ((y::r).map txt):=by
   show x++(32::y++Dm (r.map txt))=x++[32]++(y++Dm (r.map txt))
   simp
  rw [e,Fv (h x (by simp)),ih fun w hw=>h w (List.mem_cons_of_mem _ hw)]
theorem IN (v:EvD):AS 32 (BP ((Bh v).map txt))=Bh v:=by
 have h:=Vs v
 unfold Bh at *
 exact RD h
theorem Acw:quiet Tp (underlying 54)=some (.struct (Tp.fieldsOf 54)):=by kernel_rfl
noncomputable def F54 (i:Nat):Field:=(Tp.fieldsOf 54).toList.getD i default
theorem Acy:(Tp.fieldsOf 54).toList=[F54 0,F54 1]:=by kernel_rfl
theorem Va (f:Int) (g:ByteArray):quiet Tp (part (F54 0).type ⟨[.string g,.int .u64 f]⟩ (F54 0).offset)=some (.string g):=by kernel_rfl
theorem U9 (f:Int) (g:ByteArray):quiet Tp (part (F54 1).type ⟨[.string g,.int .u64 f]⟩ (F54 1).offset)=some (.int .u64 f):=by kernel_rfl
theorem Ye:(F54 0).type=9:=by kernel_rfl
theorem Yd:(F54 1).type=35:=by kernel_rfl
theorem Acf:quiet Tp (underlying 35)=some (.int .u64):=by kernel_rfl
def Ow (f f':Int) (g g':ByteArray):Bool:=g.data.toList==g'.data.toList&&f==f'
theorem WB (n:Nat) (f f':Int) (g g':ByteArray):quiet Tp (Op.equalIn (n+1+1) 54 (.agg ⟨[.string g,.int .u64 f]⟩) (.agg ⟨[.string g',.int .u64 f']⟩))=some (Ow f f' g g'):=by
 rw [Kw (n+1) 54 _ _ Acw (by kernel_rfl),Acy]
 rw [E5 (by kernel_rfl) (Va f g) (Va f' g') (by rw [Ye];exact Jo ut9)]
 rw [E5 (by kernel_rfl) (U9 f g) (U9 f' g') (by rw [Yd];exact Kx n 35 _ _ _ _ Acf)]
 unfold Ow
 cases g.data.toList==g'.data.toList <;> cases f==f' <;> rfl
theorem Jn {p q:ByteArray × Nat}:Ow (p.2:Int) (q.2:Int) p.1 q.1=true↔p=q:=by
 obtain ⟨a,b⟩:=p
 obtain ⟨c,d⟩:=q
 unfold Ow
 simp only [Bq,beq_iff_eq,Pj]
 exact ⟨fun ⟨h1,h2⟩=>⟨ED h1,by omega⟩,fun ⟨h1,h2⟩=>by subst h1;subst h2;exact ⟨rfl,rfl⟩⟩
def kR (p:ByteArray × Nat):Value:=.agg ⟨cR p⟩
theorem eqR (p q:ByteArray × Nat):eqA Tp 54 (kR p) (kR q)=some (Ow (p.2:Int) (q.2:Int) p.1 q.1):=by
 unfold eqA
 have hc:(AG 4 (kR p)&&AG 4 (kR q))=true:=rfl
 rw [hc,Ct]
 exact WB 9998 _ _ _ _
theorem Z6 (p q:ByteArray × Nat) (xo yo:Operand):Ag Tp .neq 54 xo yo (.agg ⟨cR p⟩) (.agg ⟨cR q⟩)=some (.bool !(Ow (p.2:Int) (q.2:Int) p.1 q.1)):=by
 have hg:D0 Tp 54 xo yo (kR p) (kR q)=true:=by
  show (!Tp.eqGuardType Tp.depth 54)=true
  kernel_rfl
 show (bif D0 Tp 54 xo yo (kR p) (kR q) then (match eqA Tp 54 (kR p) (kR q) with | some b=>some (Value.bool !b) | none=>none) else none)=_
 rw [hg,Ct,eqR]
theorem VR (p q:Nm) (xo yo:Operand):Ag Tp .eql 32 xo yo (.agg ⟨p.cells⟩) (.agg ⟨q.cells⟩)=some (.bool (MU (p.f:Int) (q.f:Int) p.g q.g p.b q.b)):=by
 have hg:D0 Tp 32 xo yo (kX p) (kX q)=true:=by
  show (!Tp.eqGuardType Tp.depth 32)=true
  kernel_rfl
 show (bif D0 Tp 32 xo yo (kX p) (kX q) then (match eqA Tp 32 (kX p) (kX q) with | some b=>some (Value.bool b) | none=>none) else none)=_
 rw [hg,Ct,eqX]
theorem Dr {p q:Nm}:MU (p.f:Int) (q.f:Int) p.g q.g p.b q.b=true↔p=q:=by
 obtain ⟨a,b,c⟩:=p
 obtain ⟨d,e,f⟩:=q
 unfold MU
 simp only [Bq,beq_iff_eq,Nm.mk.injEq]
 exact ⟨fun ⟨h1,h2,h3⟩=>⟨by omega,ED h2,ED h3⟩,fun ⟨h1,h2,h3⟩=>by subst h1;subst h2;subst h3;exact ⟨rfl,rfl,rfl⟩⟩
theorem Jj {α:Type} {l m:List α} {i:Nat} {x y:α} (hx:l[i]? =some x) (hy:m[i]? =some y) (h:l.take i=m.take i) (he:x=y):l.take (i+1)=m.take (i+1):=by
 rw [Bm hx,Bm hy,h,he]
section
variable {W0:World} {m0:Inj Tp}
theorem AbJ {u v:Value} {l m:List Nat} {F G:List Nat} {A:AW} {K:Value→AW→Prop} (hu:RdE 0 cB A u l F) (hv:RdE 0 cB A v m G) (hl:l.length < 1000000000) (hm:m.length < 1000000000) (hk:∀ b:Bool,(b=true↔l=m)→K (.bool b) A):Wc Tp Aw W0 m0 57 [u,v] A K:=by
 let I:Nat→Nat→List Value→AW→Prop:=fun g id vals A'=>id=0∧∃ i:Nat,vals=[u,v,.int .i64 (l.length:Int),.int .i64 (i:Int)]∧i≤l.length∧l.length=m.length∧A'=A∧l.take i=m.take i∧g=l.length - i
 refine w57 _ _ _ (c57 (I:=I) ?_) ?_
 ·rintro g id vals A' d ⟨rfl,i,rfl,hi,hlm,rfl,he,rfl⟩ hd
  rw [Aao]
  simp only [L57,Mc,Mn,Li,and_true] at hd
  obtain ⟨d0,d1,d12,d13⟩:=hd
  simp only [d0,d1,d12,d13]
  refine Aa Be (Aq.2 ⟨fun hlt=>?_,fun hge=>?_⟩)
  ·have hlt:i < l.length:=by omega
   have hp:=Ge hlt
   have hq:=Ge (l:=m) (i:=i) (by omega)
   have e2:IntKind.i64.wrap ((i:Int)+1)=((i+1:Nat):Int):=wrap_i64 (by omega) (by omega)
   obtain ⟨a,a1,a2⟩:=ES.at I6 hu hp rfl
   obtain ⟨b,b1,b2⟩:=ES.at I6 hv hq rfl
   refine Aa a1 (Aa a2 (Aa b1 (Aa b2 (Aa BV (Bw.2 ⟨fun hn=>?_,fun hn=>?_⟩)))))
   ·exact hk false ⟨fun h=>(by cases h),fun h=>absurd (by subst h;rfl) hn⟩
   ·simp only [Av,Ad,e2]
    exact Ah.2 ⟨l.length - (i+1),by omega,rfl,i+1,rfl,by omega,hlm,rfl,Jj hp hq he (by omega),rfl⟩
  ·have:i=l.length:=by omega
   subst this
   refine hk true ⟨fun _=>?_,fun _=>rfl⟩
   rwa [List.take_length,hlm,List.take_length] at he
 ·rw [e57]
  refine Aa (I6.Gr hu) (Aa (I6.Gr hv) (Aa BV (Bw.2 ⟨fun hn=>?_,fun hn=>?_⟩)))
  ·exact hk false ⟨fun h=>(by cases h),fun h=>absurd (by rw [h]) hn⟩
  ·exact Aa (I6.Gr hu) (Ah.2 ⟨l.length,rfl,0,rfl,by omega,by omega,rfl,rfl,rfl⟩)
theorem AbI {u v:Value} {l m:List Int} {F G:List Nat} {A:AW} {K:Value→AW→Prop} (hu:RdE 0 cI A u l F) (hv:RdE 0 cI A v m G) (hl:l.length < 1000000000) (hm:m.length < 1000000000) (hk:∀ b:Bool,(b=true↔l=m)→K (.bool b) A):Wc Tp Aw W0 m0 58 [u,v] A K:=by
 let I:Nat→Nat→List Value→AW→Prop:=fun g id vals A'=>id=0∧∃ i:Nat,vals=[u,v,.int .i64 (l.length:Int),.int .i64 (i:Int)]∧i≤l.length∧l.length=m.length∧A'=A∧l.take i=m.take i∧g=l.length - i
 refine w58 _ _ _ (c58 (I:=I) ?_) ?_
 ·rintro g id vals A' d ⟨rfl,i,rfl,hi,hlm,rfl,he,rfl⟩ hd
  rw [Aan]
  simp only [L58,Mc,Mn,Li,and_true] at hd
  obtain ⟨d0,d1,d12,d13⟩:=hd
  simp only [d0,d1,d12,d13]
  refine Aa Be (Aq.2 ⟨fun hlt=>?_,fun hge=>?_⟩)
  ·have hlt:i < l.length:=by omega
   have hp:=Ge hlt
   have hq:=Ge (l:=m) (i:=i) (by omega)
   have e2:IntKind.i64.wrap ((i:Int)+1)=((i+1:Nat):Int):=wrap_i64 (by omega) (by omega)
   obtain ⟨a,a1,a2⟩:=ES.at I5 hu hp rfl
   obtain ⟨b,b1,b2⟩:=ES.at I5 hv hq rfl
   refine Aa a1 (Aa a2 (Aa b1 (Aa b2 (Aa BV (Bw.2 ⟨fun hn=>?_,fun hn=>?_⟩)))))
   ·exact hk false ⟨fun h=>(by cases h),fun h=>absurd (by subst h;rfl) hn⟩
   ·simp only [Av,Ad,e2]
    exact Ah.2 ⟨l.length - (i+1),by omega,rfl,i+1,rfl,by omega,hlm,rfl,Jj hp hq he (by omega),rfl⟩
  ·have:i=l.length:=by omega
   subst this
   refine hk true ⟨fun _=>?_,fun _=>rfl⟩
   rwa [List.take_length,hlm,List.take_length] at he
 ·rw [e58]
  refine Aa (I5.Gr hu) (Aa (I5.Gr hv) (Aa BV (Bw.2 ⟨fun hn=>?_,fun hn=>?_⟩)))
  ·exact hk false ⟨fun h=>(by cases h),fun h=>absurd (by rw [h]) hn⟩
  ·exact Aa (I5.Gr hu) (Ah.2 ⟨l.length,rfl,0,rfl,by omega,by omega,rfl,rfl,rfl⟩)
theorem AbH {u v:Value} {l m:List (ByteArray × Nat)} {F G:List Nat} {A:AW} {K:Value→AW→Prop} (hu:RdE 1 cR A u l F) (hv:RdE 1 cR A v m G) (hl:l.length < 1000000000) (hm:m.length < 1000000000) (hk:∀ b:Bool,(b=true↔l=m)→K (.bool b) A):Wc Tp Aw W0 m0 59 [u,v] A K:=by
 let I:Nat→Nat→List Value→AW→Prop:=fun g id vals A'=>id=0∧∃ i:Nat,vals=[u,v,.int .i64 (l.length:Int),.int .i64 (i:Int)]∧i≤l.length∧l.length=m.length∧A'=A∧l.take i=m.take i∧g=l.length - i
 refine w59 _ _ _ (c59 (I:=I) ?_) ?_
 ·rintro g id vals A' d ⟨rfl,i,rfl,hi,hlm,rfl,he,rfl⟩ hd
  rw [Aam]
  simp only [L59,Mc,Mn,Li,and_true] at hd
  obtain ⟨d0,d1,d12,d13⟩:=hd
  simp only [d0,d1,d12,d13]
  refine Aa Be (Aq.2 ⟨fun hlt=>?_,fun hge=>?_⟩)
  ·have hlt:i < l.length:=by omega
   have hp:=Ge hlt
   have hq:=Ge (l:=m) (i:=i) (by omega)
   have e2:IntKind.i64.wrap ((i:Int)+1)=((i+1:Nat):Int):=wrap_i64 (by omega) (by omega)
   obtain ⟨a,o,a1,_,a2⟩:=hu.at I3 hp
   obtain ⟨b,o',b1,_,b2⟩:=hv.at I3 hq
   refine Aa a1 (Aa a2 (Aa b1 (Aa b2 (Aa (Z6 _ _ _ _) (Aj.2 ⟨fun hn=>?_,fun hn=>?_⟩)))))
   ·exact hk false ⟨fun h=>(by cases h),fun h=>by subst h;rw [Jn.2 rfl] at hn;cases hn⟩
   ·simp only [Av,Ad,e2]
    exact Ah.2 ⟨l.length - (i+1),by omega,rfl,i+1,rfl,by omega,hlm,rfl,Jj hp hq he (Jn.1 (by simpa using hn)),rfl⟩
  ·have:i=l.length:=by omega
   subst this
   refine hk true ⟨fun _=>?_,fun _=>rfl⟩
   rwa [List.take_length,hlm,List.take_length] at he
 ·rw [e59]
  refine Aa (hu.len I3) (Aa (hv.len I3) (Aa BV (Bw.2 ⟨fun hn=>?_,fun hn=>?_⟩)))
  ·exact hk false ⟨fun h=>(by cases h),fun h=>absurd (by rw [h]) hn⟩
  ·exact Aa (hu.len I3) (Ah.2 ⟨l.length,rfl,0,rfl,by omega,by omega,rfl,rfl,rfl⟩)
theorem eqB (a b:Bool) (xo yo:Operand):Ag Tp .eql 4 xo yo (.bool a) (.bool b)=some (.bool (a==b)):=by
 cases a <;> cases b <;> kernel_rfl
theorem AcF:AR Tp (fun _=>undef) (.alloc 38)=some (.row (Bc.cells vN) 38):=by kernel_rfl
theorem OW {A:AW} {q:Nat} {p:Prop} (h:A.get q=some (.row (Bc.cells vN) 38 q 0 false)) (hp:p):Bz (AR Tp (fun _=>undef) (.alloc 38)) A (pP q 0) p:=by
 refine ⟨⟨_,AcF,?_⟩,hp⟩
 simp only [B8,Eo,h,Em,Bool.true_and,Nat.beq_refl]
 kernel_rfl
set_option maxHeartbeats 4000000 in
theorem AbU {v w:EvD} {vn vk vr wn wk wr:Value} {G H:List Nat} {A:AW} {K:Value→AW→Prop} (hv:RdV A v vn vk vr G) (hw:RdV A w wn wk wr H) (hf:AH A) (hA:A.next+10 < Ap) (hl:szV v < 900000000) (hm:szV w < 900000000)
  (hk:∀ A' (b:Bool),(b=true↔v=w)→Grow A A' 10→K (.bool b) A'):Wc Tp Aw W0 m0 29 [.agg ⟨v.cells vn vk vr⟩,.agg ⟨w.cells wn wk wr⟩] A K:=by
 obtain ⟨⟨vn1,vn2⟩,⟨vk1,vk2⟩,vr1,vr2⟩:=hv.one
 obtain ⟨⟨wn1,wn2⟩,⟨wk1,wk2⟩,wr1,wr2⟩:=hw.one
 have hl1:=Hu v.call.refs
 have hl2:szV v=(bl v.s).length+v.nodes.length+v.Bd.length+((bl v.call.queue).length+(bl v.call.tag).length+(bl v.call.body).length+szR v.call.refs):=rfl
 have hm1:=Hu w.call.refs
 have hm2:szV w=(bl w.s).length+w.nodes.length+w.Bd.length+((bl w.call.queue).length+(bl w.call.tag).length+(bl w.call.body).length+szR w.call.refs):=rfl
 refine w29 _ _ _ (AA (S:=fun _ _ _=>False) fun _ _ _ h=>h) ?_
 rw [e29]
 refine BX (cs:=v.cells vn vk vr) hf (by omega) (Ep v vn1 vk1 vr1) fun A1 m1=>?_
 have n1:=m1.next
 refine BX (cs:=w.cells wn wk wr) m1.Az (by omega) (Ep w wn1 wk1 wr1) fun A2 m2=>?_
 have n2:=m2.next
 refine AI Gc m2.Az (by omega) rfl fun A3 m3=>OW m3.row ?_
 have n3:=m3.next
 refine AI Gc m3.Az (by omega) rfl fun A4 m4=>OW m4.row ?_
 have n4:=m4.next
 have k2:=m2.keeps m1.Az
 have k3:=m3.keeps m2.Az
 have k4:=m4.keeps m3.Az
 have c4:=m3.BU.keeps k4 (by simp)
 have e4:=((m1.BU.keeps k2 (by simp)).keeps k3 (by simp)).keeps k4 (by simp)
 have f4:=(m2.BU.keeps k3 (by simp)).keeps k4 (by simp)
 refine OW c4.row (Aa (Dj _ 0) (Aa (Kp e4 vr2) (Aa (Dj _ 0) (Aa (Kp f4 wr2) ?_))))
 refine storeAll (n:=12) (new:=v.call.cells vr) c4 m4.Az (by omega) (GJ _ _ _) rfl rfl (CX _ vr1) fun A5 c5 k5 n5 f5=>?_
 have q5:=f4.keeps k5 (by simp;omega)
 refine ck (Kp q5 wr2) (ck (Dj _ 0) ?_)
 refine storeAll (n:=12) (new:=w.call.cells wr) (m4.BU.keeps k5 (by simp;omega)) f5 (by omega) (GJ _ _ _) rfl rfl (CX _ wr1) fun A6 d6 k6 n6 f6=>?_
 have c6:=c5.keeps k6 (by simp;omega)
 have e6:=(e4.keeps k5 (by simp;omega)).keeps k6 (by simp;omega)
 have q6:=q5.keeps k6 (by simp;omega)
 have g6:Grow A A6 10:=by
  refine ⟨?_,f6,by omega⟩
  have a:=(((m1.keeps hf).trans k2 (by simp)).trans k3 (by simp)).trans k4 (by simp)
  exact (a.trans k5 fun x hx=>.inr (by rw [Ms.1 hx];omega)).trans k6 fun x hx=>.inr (by rw [Ms.1 hx];omega)
 have no:∀ {P:Prop},(v=w→P)→¬ P→K (.bool false) A6:=fun h1 h2=>hk A6 false ⟨fun h=>(by cases h),fun h=>absurd (h1 h) h2⟩ g6
 have hv6:=hv.keeps g6.keeps (by simp)
 have hw6:=hw.keeps g6.keeps (by simp)
 refine Aa (DQ _ 0) (Aa (Mi e6) (Aa (DQ _ 0) (Aa (Mi q6) (Aa Ai (Af.2 ⟨fun he_kind=>?_,fun h=>no (P:=v.kind=w.kind) (fun e=>by rw [e]) fun e=>h (by rw [e])⟩)))))
 have he_kind:v.kind=w.kind:=by omega
 refine Aa (BE _ 0) (Aa (FQ e6) (Aa (BE _ 0) (Aa (FQ q6) (Aa Ai (Af.2 ⟨fun he_node=>?_,fun h=>no (P:=v.node=w.node) (fun e=>by rw [e]) fun e=>h (by rw [e])⟩)))))
 have he_node:v.node=w.node:=by omega
 refine Aa (CU _ 0) (Aa (Ju e6) (Aa (CU _ 0) (Aa (Ju q6) (Aa Ai (Af.2 ⟨fun he_to=>?_,fun h=>no (P:=v.to=w.to) (fun e=>by rw [e]) fun e=>h (by rw [e])⟩)))))
 have he_to:v.to=w.to:=by omega
 refine Aa (BG _ 0) (Aa (EZ e6) (Aa (BG _ 0) (Aa (EZ q6) (Aa Ai (Af.2 ⟨fun he_n=>?_,fun h=>no (P:=v.n=w.n) (fun e=>by rw [e]) fun e=>h (by rw [e])⟩)))))
 refine Aa (DC _ 0) (Aa (Mh e6) (Aa (DC _ 0) (Aa (Mh q6) (Aa (VR _ _ _ _) (Aj.2 ⟨fun he_x=>?_,fun h=>no (P:=v.x=w.x) (fun e=>by rw [e]) fun e=>by rw [e,Dr.2 rfl] at h;cases h⟩)))))
 have he_x:v.x=w.x:=Dr.1 he_x
 obtain ⟨Fv57,hv57,_⟩:=hv6.n
 obtain ⟨Fw57,hw57,_⟩:=hw6.n
 refine Aa (DB _ 0) (Aa (Ko e6 vn2) (Aa (DB _ 0) (Aa (Ko q6 wn2) (AbJ hv57 hw57 (by omega) (by omega) fun b hb=>Aj.2 ⟨fun he_nodes=>?_,fun h=>no (P:=v.nodes=w.nodes) (fun e=>by rw [e]) fun e=>by rw [hb.2 e] at h;cases h⟩))))
 replace he_nodes:=hb.1 he_nodes
 obtain ⟨Fv58,hv58,_⟩:=hv6.k
 obtain ⟨Fw58,hw58,_⟩:=hw6.k
 refine Aa (DA _ 0) (Aa (Km e6 vk2) (Aa (DA _ 0) (Aa (Km q6 wk2) (AbI hv58 hw58 (by omega) (by omega) fun b hb=>Aj.2 ⟨fun he_keep=>?_,fun h=>no (P:=v.Bd=w.Bd) (fun e=>by rw [e]) fun e=>by rw [hb.2 e] at h;cases h⟩))))
 replace he_keep:=hb.1 he_keep
 refine Aa (Eh _ 0) (Aa (NV e6) (Aa (Eh _ 0) (Aa (NV q6) (Aa AX (Aj.2 ⟨fun he_s=>?_,fun h=>no (P:=v.s=w.s) (fun e=>by rw [e]) fun e=>by rw [e] at h;simp at h⟩)))))
 have he_s:v.s=w.s:=ED (eq_of_beq he_s)
 refine Aa (Dz _ 0) (Aa (HE e6) (Aa (Dz _ 0) (Aa (HE q6) (Aa (eqB _ _ _ _) (Aj.2 ⟨fun he_a=>?_,fun h=>no (P:=v.a=w.a) (fun e=>by rw [e]) fun e=>by rw [e] at h;simp at h⟩)))))
 have he_a:v.a=w.a:=eq_of_beq he_a
 refine Aa (DJ _ 0) (Aa (NO c6) (Aa (DJ _ 0) (Aa (NO d6) (Aa Ai (Af.2 ⟨fun hc_what=>?_,fun h=>no (P:=v.call.what=w.call.what) (fun e=>by rw [e]) fun e=>h (by rw [e])⟩)))))
 have hc_what:v.call.what=w.call.what:=by omega
 refine Aa (FM _ 0) (Aa (Rh c6) (Aa (FM _ 0) (Aa (Rh d6) (Aa Ai (Af.2 ⟨fun hc_ses=>?_,fun h=>no (P:=v.call.ses=w.call.ses) (fun e=>by rw [e]) fun e=>h (by rw [e])⟩)))))
 have hc_ses:v.call.ses=w.call.ses:=by omega
 refine Aa (Cy _ 0) (Aa (Jz c6) (Aa (Cy _ 0) (Aa (Jz d6) (Aa AX (Aj.2 ⟨fun hc_queue=>?_,fun h=>no (P:=v.call.queue=w.call.queue) (fun e=>by rw [e]) fun e=>by rw [e] at h;simp at h⟩)))))
 have hc_queue:v.call.queue=w.call.queue:=ED (eq_of_beq hc_queue)
 refine Aa (CG _ 0) (Aa (Jy c6) (Aa (CG _ 0) (Aa (Jy d6) (Aa AX (Aj.2 ⟨fun hc_tag=>?_,fun h=>no (P:=v.call.tag=w.call.tag) (fun e=>by rw [e]) fun e=>by rw [e] at h;simp at h⟩)))))
 have hc_tag:v.call.tag=w.call.tag:=ED (eq_of_beq hc_tag)
 refine Aa (DD _ 0) (Aa (Mv c6) (Aa (DD _ 0) (Aa (Mv d6) (Aa (VR _ _ _ _) (Aj.2 ⟨fun hc_x=>?_,fun h=>no (P:=v.call.x=w.call.x) (fun e=>by rw [e]) fun e=>by rw [e,Dr.2 rfl] at h;cases h⟩)))))
 have hc_x:v.call.x=w.call.x:=Dr.1 hc_x
 refine Aa (C4 _ 0) (Aa (Kf c6) (Aa (C4 _ 0) (Aa (Kf d6) (Aa Ai (Af.2 ⟨fun hc_n=>?_,fun h=>no (P:=v.call.n=w.call.n) (fun e=>by rw [e]) fun e=>h (by rw [e])⟩)))))
 have hc_n:v.call.n=w.call.n:=by omega
 refine Aa (BF _ 0) (Aa (HD c6) (Aa (BF _ 0) (Aa (HD d6) (Aa (eqB _ _ _ _) (Aj.2 ⟨fun hc_a=>?_,fun h=>no (P:=v.call.a=w.call.a) (fun e=>by rw [e]) fun e=>by rw [e] at h;simp at h⟩)))))
 have hc_a:v.call.a=w.call.a:=eq_of_beq hc_a
 refine Aa (Db _ 0) (Aa (LB c6) (Aa (Db _ 0) (Aa (LB d6) (Aa (eqB _ _ _ _) (Aj.2 ⟨fun hc_b=>?_,fun h=>no (P:=v.call.b=w.call.b) (fun e=>by rw [e]) fun e=>by rw [e] at h;simp at h⟩)))))
 have hc_b:v.call.b=w.call.b:=eq_of_beq hc_b
 obtain ⟨Fv59,hv59,_⟩:=hv6.r
 obtain ⟨Fw59,hw59,_⟩:=hw6.r
 refine Aa (C0 _ 0) (Aa (Ja c6 vr2) (Aa (C0 _ 0) (Aa (Ja d6 wr2) (AbH hv59 hw59 (by omega) (by omega) fun b hb=>Aj.2 ⟨fun hc_refs=>?_,fun h=>no (P:=v.call.refs=w.call.refs) (fun e=>by rw [e]) fun e=>by rw [hb.2 e] at h;cases h⟩))))
 replace hc_refs:=hb.1 hc_refs
 refine Aa (Ei _ 0) (Aa (JU c6) (Aa (Ei _ 0) (Aa (JU d6) ?_)))
 refine Aa AX (hk A6 _ ⟨fun h=>?_,fun h=>by rw [h];exact beq_self_eq_true _⟩ g6)
 have hc_body:v.call.body=w.call.body:=ED (eq_of_beq h)
 have hcall:v.call=w.call:=by
  generalize v.call=c at *
  generalize w.call=d at *
  cases c;cases d
  simp only at hc_what hc_ses hc_queue hc_tag hc_x hc_n hc_a hc_b hc_refs hc_body
  simp only [hc_what,hc_ses,hc_queue,hc_tag,hc_x,hc_n,hc_a,hc_b,hc_refs,hc_body]
 clear hv6 hw6 hv hw no hk hc_what hc_ses hc_queue hc_tag hc_x hc_n hc_a hc_b hc_refs hc_body h
 cases v;cases w
 simp only at he_kind he_node he_to he_n he_x he_nodes he_keep he_s he_a hcall
 simp only [he_kind,he_node,he_to,he_n,he_x,he_nodes,he_keep,he_s,he_a,hcall]
end
def Er (v:EvD) (l:Word):Prop:=v.Wf∧DL v=some (Bh v)∧BP ((Bh v).map txt)=l
theorem Wr {v:EvD} {ws:List Word} (h:DL v=some ws) (hk:v.kind=16) (hw:v.call.what=0):False:=by
 have h2:=(C6.1 h).2.1
 have hl:FC v 67=none:=by
  show (match CB v.call with | some (ws,_)=>if (partsOf v.call.what).1=[] then none else some ws | none=>none)=none
  rw [hw]
  cases CB v.call <;> rfl
 have h3:goE v [110,67] [(Ak v.kind).1] { v with kind:=0 }=some (ws,BQ):=by
  have e:(Ak v.kind).2=[110,67]:=by rw [hk];rfl
  rw [← e];exact h2
 have h4:goE v [110,67] [(Ak v.kind).1] { v with kind:=0 }=none:=by
  show goE v [67] _ _=none
  unfold goE
  rw [hl]
 rw [h4] at h3
 cases h3
theorem SK:Bo Tp 40 []=some (.agg ⟨BQ.cells vN vN vN⟩):=by kernel_rfl
theorem OG (a:Addr):Ce (.pointer (some a))=some (.pointer (some a)):=rfl
theorem RdV.tight {A:AW} {v:EvD} {vn vk vr:Value} {G:List Nat} (h:RdV A v vn vk vr G):∃ H,RdV A v vn vk vr H∧(∀ x∈H,x∈G)∧∀ x∈H,x < A.next:=by
 obtain ⟨⟨F1,q1,s1⟩,⟨F2,q2,s2⟩,⟨F3,q3,s3⟩⟩:=h
 refine ⟨F1++F2++F3,⟨⟨F1,q1,fun x hx=>by simp [hx]⟩,⟨F2,q2,fun x hx=>by simp [hx]⟩,⟨F3,q3,fun x hx=>by simp [hx]⟩⟩,fun x hx=>?_,fun x hx=>?_⟩
 ·simp only [List.mem_append] at hx
  rcases hx with (hx | hx) | hx
  ·exact s1 x hx
  ·exact s2 x hx
  ·exact s3 x hx
 ·simp only [List.mem_append] at hx
  rcases hx with (hx | hx) | hx
  ·exact q1.fam x hx
  ·exact q2.fam x hx
  ·exact q3.fam x hx
section
variable {W0:World} {m0:Inj Tp}
theorem SY {A A':AW} {b N:Nat} {v:EvD} {vn vk vr e:Value} {z:List Value} {K:Value→AW→Prop} (g:Grow A A' N) (r:Go.Abs.AD A' b z 40) (hz:z.length=23) (hb:A.next≤b) (hA:A'.next≤Ap) (h1:(v.cells vn vk vr).all AL=true) (h2:(v.cells vn vk vr).all (fun v=>!isTuple v)=true)
  (hk:∀ B,Grow A B N→Ay A' B [b]→K (.tuple ⟨[.agg ⟨v.cells vn vk vr⟩,e]⟩) B):Bb (AB Tp A' 40 (pP b 0) (.agg ⟨v.cells vn vk vr⟩)) fun B=>Ab (At Tp B 40 (pP b 0)) fun t=>K (.tuple ⟨[t,e]⟩) B:=by
 refine storeAll (n:=23) (new:=v.cells vn vk vr) r g.Az hA (HG _ _ _) rfl hz h1 fun B r2 k2 n2 f2=>?_
 refine Aa (BY r2 h2 rfl (Gi _ _)) (hk B ((g.own k2 (fun x hx=>by rw [Ms.1 hx];exact hb) (m:=0) (by omega) f2).more (by omega)) k2)
theorem UF {s:ByteArray} {A:AW} {K:Value→AW→Prop} (hp:Pow W0) (hg:GE A) (hl:(bl s).length < 5000000) (hf:AH A) (hA:A.next+500 * (bl s).length+100000 < Ap)
  (h0:(∀ v,¬ Er v (bl s))→∀ A',Grow A A' (400 * (bl s).length+50000)→K (.tuple ⟨[.agg ⟨BQ.cells vN vN vN⟩,.int .i64 310]⟩) A')
  (h1:∀ v vn vk vr G A',Er v (bl s)→(∀ u,Er u (bl s)→u=v)→szV v≤(bl s).length+1→RdV A' v vn vk vr G→(∀ x∈G,A.next≤x)→Grow A A' (400 * (bl s).length+50000)→K (.tuple ⟨[.agg ⟨v.cells vn vk vr⟩,.int .i64 0]⟩) A'):
  Wc Tp Aw W0 m0 15 [.string s] A K:=by
 have h8:=hg.lt
 refine w15 _ _ (AA (S:=fun _ _ _=>False) fun _ _ _ h=>h) ?_
 rw [e15]
 refine AI EK hf (by omega) rfl fun A1 m1=>?_
 have n1:=m1.next
 refine Zv (c:=32) (by omega) m1.Az (by omega) fun A2 v hv g2=>?_
 have n2:=g2.next
 have le2:A1.next < A2.next:=by
  obtain ⟨_,_,_,_,g,_,_,_,_,_,_,h5,h6,_⟩:=hv
  cases h6;exact h5
 have b96:Bo Tp 96 [(0,v)]=some (.agg ⟨[v,.bool false]⟩):=by
  obtain ⟨r,o,c,cs,g,b,ro,rfl,_⟩:=hv
  kernel_rfl
 have hone:=hv.one
 refine Aa b96 (BX (cs:=[v,.bool false]) g2.Az (by omega) (by simp [hone.1,M9]) fun A3 m3=>?_)
 have n3:=m3.next
 have k3:=m3.keeps g2.Az
 have hl1:=KI 32 (bl s)
 have tk:TK A3 A2.next (E8 32 (bl s)) false [A1.next]:=⟨⟨v,m3.BU,hv.keeps k3 (by simp)⟩,by simp;omega⟩
 have K13:Ay A A3 []:=((m1.keeps hf).trans g2.keeps (by simp)).trans k3 (by simp)
 have z3:Go.Abs.AD A3 A.next (BQ.cells vN vN vN) 40:=(m1.BU.keeps g2.keeps (by simp)).keeps k3 (by simp)
 have hS:D3 (E8 32 (bl s)):=fun w hw=>by
  have:∀ ws:List ByteArray,w∈ws→(bl w).length≤Ba ws:=by
   intro ws
   induction ws with
   | nil=>intro h;cases h
   | cons x ws ih=>
    intro h
    show _≤(bl x).length+1+Ba ws
    rcases List.mem_cons.1 h with rfl | h
    ·omega
    ·have:=ih h;omega
  have:=this _ hw
  omega
 refine AbQ hp tk (by simp;omega) (hg.keeps K13 (by simp)) (by omega) hS (by omega) m3.Az (by omega) fun A4 x vn vk vr G ws' bad' hT hR hG tk4 k4 n4 f4=>?_
 have le4:=k4.next
 obtain ⟨hw,hsz⟩:=hT.sz
 obtain ⟨H,hR,hHG,hH⟩:=hR.tight
 have ho:=hR.one
 have z4:Go.Abs.AD A4 A.next (BQ.cells vN vN vN) 40:=z3.keeps k4 (by simp;omega)
 refine AI EK f4 (by omega) rfl fun A5 m5=>?_
 have n5:=m5.next
 have k5:=m5.keeps f4
 refine storeAll (n:=23) (new:=x.cells vn vk vr) m5.BU m5.Az (by omega) (HG _ _ _) rfl rfl (Ep x ho.1.1 ho.2.1.1 ho.2.2.1) fun A6 r6 k6 n6 f6=>?_
 have z6:Go.Abs.AD A6 A.next (BQ.cells vN vN vN) 40:=(z4.keeps k5 (by simp)).keeps k6 (by simp;omega)
 have tk6:TK A6 A2.next ws' bad' [A1.next]:=(tk4.keeps k5 (by simp) (by simp)).keeps k6 (by simp;omega) (by simp;omega)
 have R6:RdV A6 x vn vk vr H:=(hR.keeps k5 (by simp)).keeps k6 fun y hy=>by have:=hH y hy;simp;omega
 have g6:Grow A A6 (400 * (bl s).length+50000):=by
  refine ⟨((K13.trans k4 fun y hy=>.inr (by rw [Ms.1 hy];omega)).trans k5 (by simp)).trans k6 fun y hy=>.inr (by rw [Ms.1 hy];omega),f6,by omega⟩
 have bad:∀ {B:AW},Grow A B (400 * (bl s).length+50000)→Go.Abs.AD B A.next (BQ.cells vN vN vN) 40→B.next≤Ap→(∀ v,¬ Er v (bl s))→(Ab (Bo Tp 40 []) fun t=>Bb (AB Tp B 40 (pP A.next 0) t) fun C=>Ab (At Tp C 40 (pP A.next 0)) fun t=>K (.tuple ⟨[t,.int .i64 310]⟩) C):=fun {B} g r hB hno=>by
  refine Aa SK (SY (A:=A) g r rfl (Nl _) hB rfl rfl fun C gC _=>h0 hno C gC)
 have R1:∀ v0,Er v0 (bl s)→x=v0∧ws'=[]∧bad'=false:=fun v0 ⟨hw0,hp0,hj⟩=>by
  have e:E8 32 (bl s)=(Bh v0).map txt:=by
   unfold E8
   rw [← hj,IN]
  rw [e] at hT
  exact AcI hw0 hp0 hT
 have f1:Ac Tp 96 (pP A2.next 0) 1=some (pP A2.next 1):=Fg A2.next 0
 have hx2:=ho.2.2.2
 have common:(x.kind=16→x.call.what≠0)→x.kind≠0→bad'=false→ws'=[]→(Ab (At Tp A6 40 (pP A4.next 0)) fun t37=>Wc Tp Aw W0 m0 28 [t37] A6 fun t38 At38=>Ab (Ag Tp .neq 9 (.tmp 42) (.tmp 43) t38 (.string s)) fun t39=>Ae t39 (Ab (Bo Tp 40 []) fun t40=>Bb (AB Tp At38 40 (pP A.next 0) t40) fun At41=>Ab (At Tp At41 40 (pP A.next 0)) fun t42=>K (.tuple ⟨[t42,(.int .i64 310)]⟩) At41) (Ab (At Tp At38 40 (pP A4.next 0)) fun t43=>Bb (AB Tp At38 40 (pP A.next 0) t43) fun At44=>Ab (At Tp At44 40 (pP A.next 0)) fun t45=>K (.tuple ⟨[t45,(.int .i64 0)]⟩) At44)):=fun hc16 hk0 hb hws=>by
  subst hb;subst hws
  have hpr:=AcH hT hk0 hc16
  refine Aa (BY r6 (D7 x ho.1.2 ho.2.1.2 ho.2.2.2) rfl (Gi _ _)) ?_
  refine Zz hp hw R6 (by omega) f6 (by omega) fun B gB=>?_
  have nB:=gB.next
  have G6:Grow A B (400 * (bl s).length+50000):=⟨g6.keeps.trans gB.keeps (by simp),gB.Az,by omega⟩
  have zB:=z6.keeps gB.keeps (by simp)
  refine Aa CP (Aj.2 ⟨fun h=>?_,fun h=>?_⟩)
  ·refine bad G6 zB (by omega) fun v0 hv0=>?_
   obtain ⟨rfl,_,_⟩:=R1 v0 hv0
   have e:BP ((Bh x).map txt)=bl s:=hv0.2.2
   have h:(!(BP ((Bh x).map txt)==bl s))=true:=h
   rw [e] at h
   simp at h
  ·have e:BP ((Bh x).map txt)=bl s:=by
    have h:(!(BP ((Bh x).map txt)==bl s))=false:=h
    simpa using h
   refine Aa (BY (r6.keeps gB.keeps (by simp)) (D7 x ho.1.2 ho.2.1.2 ho.2.2.2) rfl (Gi _ _)) ?_
   refine SY (A:=A) G6 zB rfl (Nl _) (by omega) (Ep x ho.1.1 ho.2.1.1 ho.2.2.1) (D7 x ho.1.2 ho.2.1.2 ho.2.2.2) fun C gC kC=>?_
   exact h1 x vn vk vr H C ⟨hw,hpr,e⟩ (fun u hu=>(R1 u hu).1.symm) (by omega) ((R6.keeps gB.keeps (by simp)).keeps kC fun y hy=>by have:=hG y (hHG y hy);simp;omega) (fun y hy=>by have:=hG y (hHG y hy);omega) gC
 refine Aa (OG _) (Aa f1 (Aa tk6.bad (Aj.2 ⟨fun hb=>?_,fun hb=>?_⟩)))
 ·refine bad g6 z6 (by omega) fun v0 hv0=>?_
  have:=(R1 v0 hv0).2.2
  rw [hb] at this;cases this
 obtain ⟨⟨vw,rw6,hw6⟩,hout⟩:=tk6
 have l0:At Tp A6 56 (pP A2.next 0)=some vw:=by
  rw [LX,AF rw6.row]
  exact Ci rfl hw6.one.2
 refine Aa (OG _) (Aa (Ht _ 0) (Aa l0 (Aa hw6.len (Aa DK (Aq.2 ⟨fun hp=>?_,fun hp=>?_⟩)))))
 ·refine bad g6 z6 (by omega) fun v0 hv0=>?_
  have:=(R1 v0 hv0).2.1
  rw [this] at hp;simp at hp
 have hws:ws'=[]:=List.eq_nil_of_length_eq_zero (by omega)
 refine Aa (DQ _ 0) (Aa (Mi r6) (Aa Ai (Af.2 ⟨fun hk=>?_,fun hk=>?_⟩)))
 ·refine bad g6 z6 (by omega) fun v0 hv0=>?_
  obtain ⟨rfl,_,_⟩:=R1 v0 hv0
  have:=Ke (C6.1 hv0.2.1).2.2
  omega
 refine Aa (DQ _ 0) (Aa (Mi r6) (Aa Ai (Af.2 ⟨fun h16=>?_,fun h16=>?_⟩)))
 ·refine Aa (Dj _ 0) (Aa (DJ _ 11) (Aa (v:=.int .u8 (x.call.what:Int)) (by rw [Pz,AF r6.row];rfl) (Aa Ai (Af.2 ⟨fun hq=>?_,fun hq=>?_⟩))))
  ·refine bad g6 z6 (by omega) fun v0 hv0=>?_
   obtain ⟨rfl,_,_⟩:=R1 v0 hv0
   exact Wr hv0.2.1 (by omega) (by omega)
  ·exact common (fun _=>by omega) (by omega) hb hws
 ·exact common (fun h=>absurd h (by omega)) (by omega) hb hws
theorem ZF {v:EvD} {vn vk vr:Value} {G:List Nat} {A:AW} {K:Value→AW→Prop} (hp:Pow W0) (hg:GE A) (hw:v.Wf) (hrd:RdV A v vn vk vr G) (hz:3 * szV v+22 * (v.call.refs.length+v.nodes.length+v.Bd.length)+1000 < 4000000) (hf:AH A) (hA:A.next+5000000000 < Ap)
  (h0:DL v=none→∀ A',Grow A A' 4000000000→K (.tuple ⟨[.string ⟨⟨[]⟩⟩,.int .i64 310]⟩) A')
  (h1:DL v=some (Bh v)→∀ A',Grow A A' 4000000000→K (.tuple ⟨[.string (txt (BP ((Bh v).map txt))),.int .i64 0]⟩) A'):
  Wc Tp Aw W0 m0 13 [.agg ⟨v.cells vn vk vr⟩] A K:=by
 have ho:=hrd.one
 have hsum:=Ll hw
 refine w13 _ _ (AA (S:=fun _ _ _=>False) fun _ _ _ h=>h) ?_
 rw [e13]
 refine BX (cs:=v.cells vn vk vr) hf (by omega) (Ep v ho.1.1 ho.2.1.1 ho.2.2.1) fun A1 m1=>?_
 have n1:=m1.next
 have k1:=m1.keeps hf
 refine Aa (BY m1.BU (D7 v ho.1.2 ho.2.1.2 ho.2.2.2) rfl (Gi _ _)) ?_
 refine Zz hp hw (hrd.keeps k1 (by simp)) (by omega) m1.Az (by omega) fun A2 g2=>?_
 have n2:=g2.next
 have G2:Grow A A2 1700000000:=⟨k1.trans g2.keeps (by simp),g2.Az,by omega⟩
 have hjl:(BP ((Bh v).map txt)).length≤BI (Bh v)+(Bh v).length:=by
  unfold Bh
  show (_++Dm (List.map txt _)).length≤_
  rw [Lq,Jk,MP,AY,List.length_map,Cp,Lc]
  omega
 have hbl:(bl (txt (BP ((Bh v).map txt)))).length≤4000000:=by rw [Cp];omega
 have tail:∀ {B:AW} {x:EvD} {wn wk wr:Value} {H:List Nat},Grow A B 3800000000→Grow A2 B 3000000000→RdV B x wn wk wr H→szV x < 900000000→Er x (BP ((Bh v).map txt))→(∀ u,Er u (BP ((Bh v).map txt))→u=x)→(Al (BM Tp B 40) fun t6 At6=>Bb (AB Tp At6 40 t6 (.agg ⟨x.cells wn wk wr⟩)) fun At7=>Ab (Ag Tp .neq 24 (.tmp 14) (.const (.int .i64 0)) (.int .i64 0) (.int .i64 0)) fun t8=>Ae t8 (K (.tuple ⟨[(.string ⟨⟨[]⟩⟩),(.int .i64 310)]⟩) At7) (Ab (At Tp At7 40 t6) fun t9=>Ab (At Tp At7 40 (pP A.next 0)) fun t10=>Wc Tp Aw W0 m0 29 [t9,t10] At7 fun t11 At11=>Ab (unA Tp .not t11) fun t12=>Ae t12 (K (.tuple ⟨[(.string ⟨⟨[]⟩⟩),(.int .i64 310)]⟩) At11) (K (.tuple ⟨[.string (txt (BP ((Bh v).map txt))),(.int .i64 0)]⟩) At11))):=fun {B x wn wk wr H} gB gB2 hR hsx hL hu=>by
  have nB:=gB.next
  obtain ⟨H',hR,_,hH⟩:=hR.tight
  have hx:=hR.one
  refine AI EK gB.Az (by omega) rfl fun A5 m5=>?_
  have n5:=m5.next
  have k5:=m5.keeps gB.Az
  refine storeAll (n:=23) (new:=x.cells wn wk wr) m5.BU m5.Az (by omega) (HG _ _ _) rfl rfl (Ep x hx.1.1 hx.2.1.1 hx.2.2.1) fun A6 r6 k6 n6 f6=>?_
  have K6:Ay B A6 []:=k5.trans k6 fun y hy=>.inr (by rw [Ms.1 hy];omega)
  have leB:=gB.le
  have G6:Grow A A6 3800000001:=⟨gB.keeps.trans K6 (by simp),f6,by omega⟩
  have hr0:Go.Abs.AD A6 A.next (v.cells vn vk vr) 40:=((m1.BU.keeps g2.keeps (by simp)).keeps gB2.keeps (by simp)).keeps K6 (by simp)
  refine Aa BV (Bw.2 ⟨fun h=>absurd rfl h,fun _=>?_⟩)
  refine Aa (BY r6 (D7 x hx.1.2 hx.2.1.2 hx.2.2.2) rfl (Gi _ _)) (Aa (BY hr0 (D7 v ho.1.2 ho.2.1.2 ho.2.2.2) rfl (Gi _ _)) ?_)
  refine AbU (hR.keeps K6 (by simp)) (hrd.keeps G6.keeps (by simp)) f6 (by omega) hsx (by omega) fun A7 b hb g7=>?_
  have G7:Grow A A7 4000000000:=(G6.trans g7).more (by omega)
  refine Aa D6 (Aj.2 ⟨fun h=>?_,fun h=>?_⟩)
  ·refine h0 ?_ A7 G7
   cases hpr:DL v with
   | none=>rfl
   | some ws=>
    exfalso
    have e:=(C6.1 hpr).1
    subst e
    have this:x=v:=(hu v ⟨hw,hpr,rfl⟩).symm
    have:=hb.2 this
    rw [this] at h;simp at h
  ·have hbt:b=true:=by simpa using h
   have e:=hb.1 hbt
   subst e
   exact h1 hL.2.1 A7 G7
 refine UF hp (hg.keeps G2.keeps (by simp)) (by omega) g2.Az (by omega) (fun hno A3 g3=>?_) (fun x wn wk wr H A3 hL hu hsx hR hH g3=>?_)
 ·have n3:=g3.next
  have G3:Grow A A3 3800000000:=(G2.trans g3).more (by omega)
  refine Aa rfl (Aa rfl (AI EK g3.Az (by omega) rfl fun A5 m5=>?_))
  have n5:=m5.next
  have k5:=m5.keeps g3.Az
  refine storeAll (n:=23) (new:=BQ.cells vN vN vN) m5.BU m5.Az (by omega) (HG _ _ _) rfl rfl rfl fun A6 r6 k6 n6 f6=>?_
  have K6:Ay A3 A6 []:=k5.trans k6 fun y hy=>.inr (by rw [Ms.1 hy];omega)
  refine Aa BV (Bw.2 ⟨fun _=>?_,fun h=>absurd h (by decide)⟩)
  refine h0 ?_ A6 ⟨G3.keeps.trans K6 (by simp),f6,by omega⟩
  cases hpr:DL v with
  | none=>rfl
  | some ws=>
   exfalso
   have e:=(C6.1 hpr).1
   subst e
   exact hno v ⟨hw,hpr,rfl⟩
 ·have n3:=g3.next
  refine Aa rfl (Aa rfl ?_)
  exact tail ((G2.trans g3).more (by omega)) (g3.more (by omega)) hR (by omega) hL hu
end
theorem OR {ws:List Word} (w:Word) (h:ws≠[]):BP ((ws++[w]).map txt)=BP (ws.map txt)++[32]++w:=by
 cases ws with
 | nil=>exact absurd rfl h
 | cons x r=>
  show x++Dm ((r++[w]).map txt)=x++Dm (r.map txt)++[32]++w
  rw [List.map_append,KY]
  have:Dm ([w].map txt)=[32]++w:=by simp [Dm,Cp]
  rw [this];simp
theorem Cg (ws:List Word):(BP (ws.map txt)).length≤BI ws+ws.length:=by
 cases ws with
 | nil=>simp [BP]
 | cons x r=>
  show (x++Dm (r.map txt)).length≤_
  rw [Lq,Jk,MP,AY,List.length_map,Lc]
  omega
theorem DG {j:Word} (h:j.length < 1000000000) (xo yo:Operand):Ag Tp .add 9 xo yo (.string (txt j)) (.string ⟨⟨[32]⟩⟩)=some (.string (txt (j++[32]))):=by
 have h1:(bl (txt j)).length+(bl (txt [32])).length < 1099511627776:=by rw [Cp,Cp];simp;omega
 have:=ID (xo:=xo) (yo:=yo) h1
 exact this
theorem Fm {ws:List Word} {w:Word} (h0:ws≠[]) (h:BI ws+ws.length < 1000000000) (hw:w.length < 1000000000) (xo yo:Operand):Ag Tp .add 9 xo yo (.string (txt (BP (ws.map txt)++[32]))) (.string (txt w))=some (.string (txt (BP ((ws++[w]).map txt)))):=by
 have h2:=Cg ws
 have h1:(bl (txt (BP (ws.map txt)++[32]))).length+(bl (txt w)).length < 1099511627776:=by rw [Cp,Cp,Lq];simp;omega
 have:=ID (xo:=xo) (yo:=yo) h1
 rw [OR w h0]
 exact this
theorem Cq {h:UInt8} {k:Nat} (hk:k < 256) (e:(h.toNat:Int)=(k:Int)):h=UInt8.ofNat k:=by
 have:h.toNat=k:=by omega
 rw [← this]
 simp
theorem ZO {h:UInt8} {k:Nat} (hk:k < 256) (e:(h.toNat:Int)≠(k:Int)):h≠UInt8.ofNat k:=fun h2=>e (by
 rw [h2,UInt8.toNat_ofNat'];omega)
section
variable {W0:World} {m0:Inj Tp}
theorem Zy {n:Nat} {A:AW} {K:Value→AW→Prop} (hk:K (.tuple ⟨[.string (txt (Ak n).1),.string (txt (Ak n).2)]⟩) A):Wc Tp Aw W0 m0 30 [.int .u8 (n:Int)] A K:=by
 refine w30 _ _ (AA (S:=fun _ _ _=>False) fun _ _ _ h=>h) ?_
 rw [e30]
 refine Aa Ai (Af.2 ⟨fun hc=>(by obtain rfl:n=1:=(by omega);exact hk),fun hc1=>?_⟩)
 refine Aa Ai (Af.2 ⟨fun hc=>(by obtain rfl:n=2:=(by omega);exact hk),fun hc2=>?_⟩)
 refine Aa Ai (Af.2 ⟨fun hc=>(by obtain rfl:n=3:=(by omega);exact hk),fun hc3=>?_⟩)
 refine Aa Ai (Af.2 ⟨fun hc=>(by obtain rfl:n=4:=(by omega);exact hk),fun hc4=>?_⟩)
 refine Aa Ai (Af.2 ⟨fun hc=>(by obtain rfl:n=5:=(by omega);exact hk),fun hc5=>?_⟩)
 refine Aa Ai (Af.2 ⟨fun hc=>(by obtain rfl:n=6:=(by omega);exact hk),fun hc6=>?_⟩)
 refine Aa Ai (Af.2 ⟨fun hc=>(by obtain rfl:n=7:=(by omega);exact hk),fun hc7=>?_⟩)
 refine Aa Ai (Af.2 ⟨fun hc=>(by obtain rfl:n=8:=(by omega);exact hk),fun hc8=>?_⟩)
 refine Aa Ai (Af.2 ⟨fun hc=>(by obtain rfl:n=9:=(by omega);exact hk),fun hc9=>?_⟩)
 refine Aa Ai (Af.2 ⟨fun hc=>(by obtain rfl:n=10:=(by omega);exact hk),fun hc10=>?_⟩)
 refine Aa Ai (Af.2 ⟨fun hc=>(by obtain rfl:n=11:=(by omega);exact hk),fun hc11=>?_⟩)
 refine Aa Ai (Af.2 ⟨fun hc=>(by obtain rfl:n=12:=(by omega);exact hk),fun hc12=>?_⟩)
 refine Aa Ai (Af.2 ⟨fun hc=>(by obtain rfl:n=13:=(by omega);exact hk),fun hc13=>?_⟩)
 refine Aa Ai (Af.2 ⟨fun hc=>(by obtain rfl:n=14:=(by omega);exact hk),fun hc14=>?_⟩)
 refine Aa Ai (Af.2 ⟨fun hc=>(by obtain rfl:n=15:=(by omega);exact hk),fun hc15=>?_⟩)
 refine Aa Ai (Af.2 ⟨fun hc=>(by obtain rfl:n=16:=(by omega);exact hk),fun hc16=>?_⟩)
 refine Aa Ai (Af.2 ⟨fun hc=>(by obtain rfl:n=17:=(by omega);exact hk),fun hc17=>?_⟩)
 have h:n=0∨17 < n:=by omega
 rcases h with rfl | h
 ·exact hk
 ·rw [Cr h] at hk;exact hk
theorem Zj {n:Nat} {A:AW} {K:Value→AW→Prop} (hk:K (.tuple ⟨[.string (txt (partsOf n).1),.string (txt (partsOf n).2)]⟩) A):Wc Tp Aw W0 m0 61 [.int .u8 (n:Int)] A K:=by
 refine w61 _ _ (AA (S:=fun _ _ _=>False) fun _ _ _ h=>h) ?_
 rw [e61]
 refine Aa Ai (Af.2 ⟨fun hc=>(by obtain rfl:n=1:=(by omega);exact hk),fun hc1=>?_⟩)
 refine Aa Ai (Af.2 ⟨fun hc=>(by obtain rfl:n=2:=(by omega);exact hk),fun hc2=>?_⟩)
 refine Aa Ai (Af.2 ⟨fun hc=>(by obtain rfl:n=3:=(by omega);exact hk),fun hc3=>?_⟩)
 refine Aa Ai (Af.2 ⟨fun hc=>(by obtain rfl:n=4:=(by omega);exact hk),fun hc4=>?_⟩)
 refine Aa Ai (Af.2 ⟨fun hc=>(by obtain rfl:n=5:=(by omega);exact hk),fun hc5=>?_⟩)
 refine Aa Ai (Af.2 ⟨fun hc=>(by obtain rfl:n=6:=(by omega);exact hk),fun hc6=>?_⟩)
 refine Aa Ai (Af.2 ⟨fun hc=>(by obtain rfl:n=7:=(by omega);exact hk),fun hc7=>?_⟩)
 refine Aa Ai (Af.2 ⟨fun hc=>(by obtain rfl:n=8:=(by omega);exact hk),fun hc8=>?_⟩)
 refine Aa Ai (Af.2 ⟨fun hc=>(by obtain rfl:n=9:=(by omega);exact hk),fun hc9=>?_⟩)
 refine Aa Ai (Af.2 ⟨fun hc=>(by obtain rfl:n=10:=(by omega);exact hk),fun hc10=>?_⟩)
 refine Aa Ai (Af.2 ⟨fun hc=>(by obtain rfl:n=11:=(by omega);exact hk),fun hc11=>?_⟩)
 refine Aa Ai (Af.2 ⟨fun hc=>(by obtain rfl:n=12:=(by omega);exact hk),fun hc12=>?_⟩)
 refine Aa Ai (Af.2 ⟨fun hc=>(by obtain rfl:n=13:=(by omega);exact hk),fun hc13=>?_⟩)
 refine Aa Ai (Af.2 ⟨fun hc=>(by obtain rfl:n=14:=(by omega);exact hk),fun hc14=>?_⟩)
 refine Aa Ai (Af.2 ⟨fun hc=>(by obtain rfl:n=15:=(by omega);exact hk),fun hc15=>?_⟩)
 refine Aa Ai (Af.2 ⟨fun hc=>(by obtain rfl:n=16:=(by omega);exact hk),fun hc16=>?_⟩)
 refine Aa Ai (Af.2 ⟨fun hc=>(by obtain rfl:n=17:=(by omega);exact hk),fun hc17=>?_⟩)
 refine Aa Ai (Af.2 ⟨fun hc=>(by obtain rfl:n=18:=(by omega);exact hk),fun hc18=>?_⟩)
 refine Aa Ai (Af.2 ⟨fun hc=>(by obtain rfl:n=19:=(by omega);exact hk),fun hc19=>?_⟩)
 refine Aa Ai (Af.2 ⟨fun hc=>(by obtain rfl:n=20:=(by omega);exact hk),fun hc20=>?_⟩)
 refine Aa Ai (Af.2 ⟨fun hc=>(by obtain rfl:n=21:=(by omega);exact hk),fun hc21=>?_⟩)
 have h:n=0∨21 < n:=by omega
 rcases h with rfl | h
 ·exact hk
 ·rw [CA h] at hk;exact hk
theorem WM (b:Nat):Am Tp 118 (pP b 0) (.int .i64 0)=some (pP b 0):=by kernel_rfl
theorem WL (b:Nat):Am Tp 118 (pP b 0) (.int .i64 1)=some (pP b 1):=by kernel_rfl
theorem WK (b:Nat):Am Tp 118 (pP b 0) (.int .i64 2)=some (pP b 2):=by kernel_rfl
theorem WJ (b:Nat):Am Tp 118 (pP b 0) (.int .i64 3)=some (pP b 3):=by kernel_rfl
theorem XN (s t u v:ByteArray):Bo Tp 118 [(0,.string s),(1,.string t),(2,.string u),(3,.string v)]=some (.agg ⟨[.string s,.string t,.string u,.string v]⟩):=by kernel_rfl
theorem Zi {a b:Bool} {w0 w1 w2 w3:Word} {A:AW} {K:Value→AW→Prop} (hf:AH A) (hA:A.next < Ap) (hk:∀ A',Grow A A' 1→K (.string (txt (EW a b w0 w1 w2 w3))) A'):
  Wc Tp Aw W0 m0 62 [.bool a,.bool b,.agg ⟨[.string (txt w0),.string (txt w1),.string (txt w2),.string (txt w3)]⟩] A K:=by
 refine w62 _ _ _ _ (AA (S:=fun _ _ _=>False) fun _ _ _ h=>h) ?_
 rw [e62]
 refine BX (cs:=[.string (txt w0),.string (txt w1),.string (txt w2),.string (txt w3)]) hf (by omega) rfl fun A1 m1=>?_
 have g:=Grow.made m1 hf
 have l:∀ {i:Nat} {s:ByteArray},[Value.string (txt w0),.string (txt w1),.string (txt w2),.string (txt w3)][i]? =some (.string s)→At Tp A1 9 (pP A.next i)=some (.string s):=fun {i s} h=>by
  rw [GS,AF m1.BU.row]
  exact Ci h rfl
 have e1:IntKind.i64.wrap (0+1)=1:=by decide
 have e2:IntKind.i64.wrap (1+2)=3:=by decide
 have e3:IntKind.i64.wrap (0+2)=2:=by decide
 refine Aj.2 ⟨fun h1=>?_,fun h1=>?_⟩
 ·refine Aa Av ?_
  rw [e1]
  refine Aj.2 ⟨fun h2=>?_,fun h2=>?_⟩
  ·refine Aa Av ?_
   rw [e2]
   refine Aa (WJ _) (Aa (l (i:=3) rfl) ?_)
   subst h1;subst h2;exact hk A1 g
  ·refine Aa (WL _) (Aa (l (i:=1) rfl) ?_)
   subst h1;subst h2;exact hk A1 g
 ·refine Aj.2 ⟨fun h2=>?_,fun h2=>?_⟩
  ·refine Aa Av ?_
   rw [e3]
   refine Aa (WK _) (Aa (l (i:=2) rfl) ?_)
   subst h1;subst h2;exact hk A1 g
  ·refine Aa (WM _) (Aa (l (i:=0) rfl) ?_)
   subst h1;subst h2;exact hk A1 g
theorem PS {s:ByteArray} (h:(bl s==bl ⟨⟨[]⟩⟩)=true):s=.empty:=ED (eq_of_beq h)
theorem SP {b:Bool} {x y:Word} {A:AW} {K:Value→AW→Prop} (hk:K (.string (txt (Cd b x y))) A):Wc Tp Aw W0 m0 34 [.bool b,.string ⟨⟨x⟩⟩,.string ⟨⟨y⟩⟩] A K:=by
 refine AbT ?_
 cases b <;> exact hk
theorem AbR {c:Ax} {vr:Value} {F:List Nat} {A:AW} {K:Value→AW→Prop} (hrd:RdE 1 cR A vr c.refs F) (hf:AH A) (hA:A.next < Ap) (hk:∀ A' (b:Bool),(b=true↔c=Bc)→Grow A A' 1→K (.bool b) A'):Wc Tp Aw W0 m0 36 [.agg ⟨c.cells vr⟩] A K:=by
 have hvr:=hrd.one.2
 refine w36 _ _ (AA (S:=fun _ _ _=>False) fun _ _ _ h=>h) ?_
 rw [e36]
 refine BX (cs:=c.cells vr) hf (by omega) (CX c hrd.one.1) fun A1 m1=>?_
 have g:=Grow.made m1 hf
 have r:=m1.BU
 have no:∀ {P:Prop},(c=Bc→P)→¬ P→K (.bool false) A1:=fun h1 h2=>hk A1 false ⟨fun h=>(by cases h),fun h=>absurd (h1 h) h2⟩ g
 refine Aa (DJ _ 0) (Aa (NO r) (Aa Ai (Af.2 ⟨fun h_what=>?_,fun h=>no (P:=c.what=0) (fun e=>by rw [e];rfl) fun e=>h (by rw [e];rfl)⟩)))
 have h_what:c.what=0:=by omega
 refine Aa (FM _ 0) (Aa (Rh r) (Aa Ai (Af.2 ⟨fun h_ses=>?_,fun h=>no (P:=c.ses=0) (fun e=>by rw [e];rfl) fun e=>h (by rw [e];rfl)⟩)))
 have h_ses:c.ses=0:=by omega
 refine Aa (Cy _ 0) (Aa (Jz r) (Aa AX (Aj.2 ⟨fun h_queue=>?_,fun h=>no (P:=c.queue=.empty) (fun e=>by rw [e];rfl) fun e=>by rw [e] at h;cases h⟩)))
 have h_queue:c.queue=.empty:=PS h_queue
 refine Aa (CG _ 0) (Aa (Jy r) (Aa AX (Aj.2 ⟨fun h_tag=>?_,fun h=>no (P:=c.tag=.empty) (fun e=>by rw [e];rfl) fun e=>by rw [e] at h;cases h⟩)))
 have h_tag:c.tag=.empty:=PS h_tag
 refine Aa (DD _ 0) (Aa (Mv r) (Aa P1 (Aa (VR _ _ _ _) (Aj.2 ⟨fun h_x=>?_,fun h=>no (P:=c.x=DY) (fun e=>by rw [e];rfl) fun e=>by rw [e,Dr.2 rfl] at h;cases h⟩))))
 have h_x:c.x=DY:=Dr.1 h_x
 refine Aa (C4 _ 0) (Aa (Kf r) (Aa Ai (Af.2 ⟨fun h_n=>?_,fun h=>no (P:=c.n=0) (fun e=>by rw [e];rfl) fun e=>h (by rw [e];rfl)⟩)))
 have h_n:c.n=0:=by omega
 refine Aa (BF _ 0) (Aa (HD r) (Aa D6 (Aj.2 ⟨fun h_a=>?_,fun h=>no (P:=c.a=false) (fun e=>by rw [e];rfl) fun e=>by rw [e] at h;cases h⟩)))
 have h_a:c.a=false:=by simpa using h_a
 refine Aa (Db _ 0) (Aa (LB r) (Aa D6 (Aj.2 ⟨fun h_b=>?_,fun h=>no (P:=c.b=false) (fun e=>by rw [e];rfl) fun e=>by rw [e] at h;cases h⟩)))
 have h_b:c.b=false:=by simpa using h_b
 refine Aa (C0 _ 0) (Aa (Ja r hvr) (Aa (hrd.len I3) (Aa Ai (Af.2 ⟨fun h_refs=>?_,fun h=>no (P:=c.refs=[]) (fun e=>by rw [e];rfl) fun e=>h (by rw [e];rfl)⟩))))
 have h_refs:c.refs=[]:=List.eq_nil_of_length_eq_zero (by omega)
 refine Aa (Ei _ 0) (Aa (JU r) (Aa AX ?_))
 refine hk A1 _ ⟨fun h=>?_,fun h=>by rw [h];rfl⟩ g
 have h_body:c.body=.empty:=PS h
 clear no hk h hrd m1 r g hvr
 cases c
 simp only at h_what h_ses h_queue h_tag h_x h_n h_a h_b h_refs h_body
 simp only [h_what,h_ses,h_queue,h_tag,h_x,h_n,h_a,h_b,h_refs,h_body]
 rfl
end
theorem Gy (l:List Word) (j:Nat):BI (l.take j)+(l.take j).length≤BI l+l.length:=by
 conv=>rhs;rw [← List.take_append_drop j l,AT,Lq]
 omega
theorem We {x y:Word} (h:x.length+y.length < 1099511627776) (xo yo:Operand):Ag Tp .add 9 xo yo (.string (txt x)) (.string (txt y))=some (.string (txt (x++y))):=by
 have:=ID (a:=txt x) (b:=txt y) (xo:=xo) (yo:=yo) h
 exact this
theorem Yo {A:AW} {v:Value} {l:List (ByteArray × Nat)} {F:List Nat} (h:RdE 1 cR A v l F) {i:Nat} {p:ByteArray × Nat} (hi:l[i]? =some p):∃ r o,Am Tp 36 v (.int .i64 (i:Int))=some (pP r o)∧
  ∀ {B:AW},Ay A B []→At Tp B 9 (pP r o)=some (.string p.1)∧At Tp B 35 (pP r (o+1))=some (.int .u64 (p.2:Int)):=by
 have hlt:=(Gs.1 hi).1
 rcases h with ⟨rfl,_⟩ | ⟨r,o,c,cs,e,g,b,ro,rfl,h2,h3,h4,h5⟩
 ·simp at hi
 ·obtain ⟨rest,hr⟩:=h5 i p hi
  refine ⟨r,o+i * 2,Td I3 hlt,fun {B} k=>?_⟩
  have h2:=k.get r _ h2 h3 (by simp)
  have q0:cs[o+i * 2]? =some (.string p.1):=by
   have:=congrArg (fun l:List Value=>l[0]?) hr
   simpa [cR] using this
  have q1:cs[o+i * 2+1]? =some (.int .u64 (p.2:Int)):=by
   have:=congrArg (fun l:List Value=>l[1]?) hr
   simpa [cR] using this
  exact ⟨by rw [GS,AF h2];exact Ci q0 rfl,by rw [Vx,AF h2];exact Ci q1 rfl⟩
def JK (c:Ax):List Word:=[Lib.decDigits c.ses,(partsOf c.what).1]
structure JC (A0 A:AW) (c:Ax) (vr:Value) (b q z:Nat) (i:Nat) (ws:List Word) (left:Ax) (lr:Value):Prop where
 r:Go.Abs.AD A b (c.cells vr) 38
 l:Go.Abs.AD A q (left.cells lr) 38
 zr:∃ zc,Go.Abs.AD A z zc 38∧zc.length=12
 rd:(lr=vr∧left.refs=c.refs)∨(lr=vN∧left.refs=[])
 hw:ws=JK c++((partsOf c.what).2.take i).flatMap (Ca c)
 go:goC c (partsOf c.what).2 (JK c) (zC c)=goC c ((partsOf c.what).2.drop i) ws left
 k:Ay A0 A []
 f:AH A
 hq:A0.next≤q
 hz:A0.next≤z
 n1:b≠q
 n2:b≠z
 n3:q≠z
theorem JC.grow {A0 A A':AW} {c:Ax} {vr lr:Value} {b q z i:Nat} {ws:List Word} {left:Ax} {m:Nat} (j:JC A0 A c vr b q z i ws left lr) (g:Grow A A' m):JC A0 A' c vr b q z i ws left lr:=by
 obtain ⟨zc,h1,h2⟩:=j.zr
 exact ⟨j.r.keeps g.keeps (by simp),j.l.keeps g.keeps (by simp),⟨zc,h1.keeps g.keeps (by simp),h2⟩,j.rd,j.hw,j.go,j.k.trans g.keeps (by simp),g.Az,j.hq,j.hz,j.n1,j.n2,j.n3⟩
theorem JC.step {A0 A A':AW} {c:Ax} {vr lr lr':Value} {b q z i:Nat} {ws w:List Word} {left:Ax} {h:UInt8} (j:JC A0 A c vr b q z i ws left lr) (hi:(partsOf c.what).2[i]? =some h) (hl:Dk c h=some w) (l2:Go.Abs.AD A' q ((Dh left h).cells lr') 38) (k2:Ay A A' [q]) (f2:AH A')
  (hr:(lr'=lr∧(Dh left h).refs=left.refs)∨(lr'=vN∧(Dh left h).refs=[])):JC A0 A' c vr b q z (i+1) (ws++w) (Dh left h) lr':=by
 obtain ⟨zc,h1,h2⟩:=j.zr
 refine ⟨j.r.keeps k2 (by simp [j.n1]),l2,⟨zc,h1.keeps k2 (by simp [j.n3.symm]),h2⟩,?_,?_,?_,j.k.trans k2 fun x hx=>.inr (by rw [Ms.1 hx];exact j.hq),f2,j.hq,j.hz,j.n1,j.n2,j.n3⟩
 ·rcases hr with ⟨rfl,e⟩ | ⟨rfl,e⟩
  ·rw [e];exact j.rd
  ·exact .inr ⟨rfl,e⟩
 ·rw [Bm hi,List.flatMap_append,← List.append_assoc,← j.hw]
  simp [Ca,hl]
 ·rw [j.go]
  have e:(partsOf c.what).2.drop i=h::(partsOf c.what).2.drop (i+1):=by
   obtain ⟨hlt,e⟩:=Gs.1 hi
   rw [List.drop_eq_getElem_cons hlt,e]
  rw [e]
  show (match Dk c h with | none=>none | some w=>goC c _ (ws++w) (Dh left h))=_
  rw [hl]
theorem JC.bad {A0 A:AW} {c:Ax} {vr lr:Value} {b q z i:Nat} {ws:List Word} {left:Ax} {h:UInt8} (j:JC A0 A c vr b q z i ws left lr) (hi:(partsOf c.what).2[i]? =some h) (hl:Dk c h=none):CB c=none:=by
 show goC c (partsOf c.what).2 (JK c) (zC c)=none
 rw [j.go]
 have e:(partsOf c.what).2.drop i=h::(partsOf c.what).2.drop (i+1):=by
  obtain ⟨hlt,e⟩:=Gs.1 hi
  rw [List.drop_eq_getElem_cons hlt,e]
 rw [e]
 show (match Dk c h with | none=>none | some w=>goC c _ (ws++w) (Dh left h))=_
 rw [hl]
theorem JC.sum {A0 A:AW} {c:Ax} {vr lr:Value} {b q z i:Nat} {ws:List Word} {left:Ax} (j:JC A0 A c vr b q z i ws left lr):BI ws+ws.length≤BI (Bv c)+(Bv c).length:=by
 have e:Bv c=ws++((partsOf c.what).2.drop i).flatMap (Ca c):=by
  rw [j.hw]
  show JK c++(partsOf c.what).2.flatMap (Ca c)=_
  conv=>lhs;rw [← List.take_append_drop i (partsOf c.what).2,List.flatMap_append,← List.append_assoc]
 rw [e,AT,Lq]
 omega
theorem JC.one {A0 A:AW} {c:Ax} {vr lr:Value} {b q z i:Nat} {ws:List Word} {left:Ax} (j:JC A0 A c vr b q z i ws left lr) (h:AL vr=true∧isTuple vr=false):AL lr=true∧isTuple lr=false:=by
 rcases j.rd with ⟨rfl,_⟩ | ⟨rfl,_⟩
 ·exact h
 ·exact ⟨rfl,rfl⟩
theorem JC.ne {A0 A:AW} {c:Ax} {vr lr:Value} {b q z i:Nat} {ws:List Word} {left:Ax} (j:JC A0 A c vr b q z i ws left lr):ws≠[]:=by
 rw [j.hw];simp [JK]
theorem JC.done {A0 A:AW} {c:Ax} {vr lr:Value} {b q z i:Nat} {ws:List Word} {left:Ax} (j:JC A0 A c vr b q z i ws left lr) (hi:(partsOf c.what).2.length≤i):CB c=some (Bv c,left)∧ws=Bv c:=by
 have e:ws=Bv c:=by
  rw [j.hw,List.take_of_length_le hi];rfl
 have h:=j.go
 rw [List.drop_eq_nil_of_le hi] at h
 refine ⟨?_,e⟩
 rw [← e]
 exact h
theorem OH (n:Nat):∀ h∈(partsOf n).2,h=81∨h=84∨h=66∨h=78∨h=88∨h=101∨h=109∨h=100∨h=115∨h=102∨h=82:=by
 rcases Nat.lt_or_ge 21 n with h | h
 ·rw [CA h];simp
 ·have:∀ n < 22,∀ h∈(partsOf n).2,h=81∨h=84∨h=66∨h=78∨h=88∨h=101∨h=109∨h=100∨h=115∨h=102∨h=82:=by decide
  exact this n (by omega)
theorem OA (n:Nat):(partsOf n).2.length≤3:=by
 rcases Nat.lt_or_ge 21 n with h | h
 ·rw [CA h];decide
 ·have:∀ n < 22,(partsOf n).2.length≤3:=by decide
  exact this n (by omega)
theorem Z9 {n i:Nat} (h:i < (partsOf n).2.length):∃ b,(partsOf n).2[i]? =some b∧b∈(partsOf n).2:=⟨_,Ge h,List.getElem_mem h⟩
theorem Xp (A:AW) (a:Addr) (v:Value):AB Tp A 35 (.pointer (some a)) v=(bif Nat.beq v.cells.toList.length 1 then A.setCells a v.cells.toList else none):=by kernel_rfl
section
variable {W0:World} {m0:Inj Tp}
set_option maxHeartbeats 4000000 in
theorem AbS {c:Ax} {vr:Value} {F:List Nat} {A:AW} {K:Value→AW→Prop} (hw:c.Wf) (hrd:RdE 1 cR A vr c.refs F) (hsz:szC c < 90000000) (hsum:BI (Bv c)+(Bv c).length < 300000000) (hf:AH A) (hA:A.next+60 * (BI (Bv c)+(Bv c).length)+100000000 < Ap)
  (h0:CB c=none→∀ A' (left:Ax) (lr:Value),AL lr=true→isTuple lr=false→Grow A A' (60 * (BI (Bv c)+(Bv c).length)+10000)→K (.tuple ⟨[.string ⟨⟨[]⟩⟩,.agg ⟨left.cells lr⟩,.bool false]⟩) A')
  (h1:∀ left,CB c=some (Bv c,left)→∀ A' (lr:Value),((lr=vr∧left.refs=c.refs)∨(lr=vN∧left.refs=[]))→Grow A A' (60 * (BI (Bv c)+(Bv c).length)+10000)→K (.tuple ⟨[.string (txt (BP ((Bv c).map txt))),.agg ⟨left.cells lr⟩,.bool (!((partsOf c.what).1==[]))]⟩) A'):
  Wc Tp Aw W0 m0 35 [.agg ⟨c.cells vr⟩] A K:=by
 have hmx:Ap=1099511627776:=rfl
 have hvr:=hrd.one
 have hrl:=Hu c.refs
 have hszc:szC c=(bl c.queue).length+(bl c.tag).length+(bl c.body).length+szR c.refs:=rfl
 have hql:=FD (bl c.queue)
 have htl:=FD (bl c.tag)
 have hbl:=FD (bl c.body)
 have hpl:=OA c.what
 let M:=BI (Bv c)+(Bv c).length
 let I:Nat→Nat→List Value→AW→Prop:=fun g id vals A'=>
  (id=0∧∃ (q i:Nat) (ws:List Word) (left:Ax) (lr:Value),vals=[pP A.next 0,pP (A.next+1) 0,.string (txt (partsOf c.what).1),.string (txt (partsOf c.what).2),.string (txt (BP (ws.map txt))),pP q 0,.int .i64 (i:Int)]∧JC A A' c vr A.next q (A.next+1) i ws left lr∧i≤(partsOf c.what).2.length∧A'.next≤A.next+100+1000 * i+60 * (BI ws+ws.length)∧g=((partsOf c.what).2.length - i) * 100000000)∨
  (id=3∧∃ (q i k:Nat) (ws:List Word) (left:Ax) (lr:Value),vals=[pP A.next 0,pP (A.next+1) 0,.string (txt (partsOf c.what).1),.string (txt (partsOf c.what).2),.string (txt (BP ((ws++(c.refs.take k).map Dn).map txt))),pP q 0,.int .i64 (i:Int),.int .i64 (k:Int)]∧JC A A' c vr A.next q (A.next+1) i ws left lr∧(partsOf c.what).2[i]? =some 82∧k≤c.refs.length∧A'.next≤A.next+100+1000 * i+60 * (BI (ws++(c.refs.take k).map Dn)+(ws++(c.refs.take k).map Dn).length)∧g=((partsOf c.what).2.length - i) * 100000000 - 1 - k)
 refine w35 _ _ (c35 (I:=I) ?_) ?_
 ·rintro g id vals A' d (⟨rfl,q,i,ws,left,lr,rfl,j,hi,hn,rfl⟩ | ⟨rfl,q,i,k,ws,left,lr,rfl,j,hp0,hk,hn,rfl⟩) hd
  ·rw [AaA]
   simp only [L35,Mc,Mn,Li,and_true] at hd
   obtain ⟨d1,d3,d5,d6,d7,d8,d9⟩:=hd
   simp only [d1,d3,d5,d6,d7,d8,d9]
   have hne:=j.ne
   have hs0:=j.sum
   refine Aa (Ef _ _) (Aa Be (Aq.2 ⟨fun hlt=>?_,fun hge=>?_⟩))
   ·have hlt:i < (partsOf c.what).2.length:=by have:(i:Int) < ((partsOf c.what).2.length:Int):=hlt;omega
    obtain ⟨h,hp0,hmem⟩:=Z9 hlt
    have e2:IntKind.i64.wrap ((i:Int)+1)=((i+1:Nat):Int):=wrap_i64 (by omega) (by omega)
    have nxt:∀ {A2:AW} {w:List Word} {left':Ax} {lr':Value},JC A A2 c vr A.next q (A.next+1) (i+1) (ws++w) left' lr'→A2.next≤A.next+100+1000 * (i+1)+60 * (BI (ws++w)+(ws++w).length)→∃ g2,g2 < ((partsOf c.what).2.length - i) * 100000000∧I g2 0 [pP A.next 0,pP (A.next+1) 0,.string (txt (partsOf c.what).1),.string (txt (partsOf c.what).2),.string (txt (BP ((ws++w).map txt))),pP q 0,.int .i64 ((i+1:Nat):Int)] A2:=fun {A2 w left' lr'} j2 hn2=>
     ⟨((partsOf c.what).2.length - (i+1)) * 100000000,by omega,.inl ⟨rfl,q,i+1,ws++w,left',lr',rfl,j2,by omega,hn2,rfl⟩⟩
    refine Aa (ix9 (s:=txt (partsOf c.what).2) hp0) ?_
    refine Aa Ai (Af.2 ⟨fun hc=>?_,fun hc81=>?_⟩)
    ·obtain rfl:h=81:=Cq (k:=81) (by decide) hc
     refine Aa (Cy _ 0) (Aa (Jz j.r) (Rz (s:=c.queue) (by show (bl c.queue).length < _;omega) j.f (by show _+(bl c.queue).length < _;omega) fun A1 g1=>?_))
     have g1:Grow A' A1 (bl c.queue).length:=g1
     have n1:=g1.next
     refine Aa (Cy _ 0) (Go.Abs.AD.store (n:=1) (off:=2) (v:=.string ⟨⟨[]⟩⟩) (j.l.keeps g1.keeps (by simp)) g1.Az (by omega) (GI _ _ _) rfl (show 2+1≤12 by decide) rfl fun A2 l2 k2 n2 f2=>?_)
     have j2:=(j.grow g1).step (h:=81) (lr':=lr) hp0 rfl l2 k2 f2 (.inl ⟨rfl,rfl⟩)
     have hs2:=j2.sum
     simp only [AT,AY,Lq,Lc,Ln,show BI []=0 from rfl] at hs2
     refine Aa (DG (by have:=Cg ws;omega) _ _) (Aa (Fm (w:=AV (bl c.queue)) hne (by omega) (by omega) _ _) ?_)
     simp only [Av,Ad,e2]
     exact Ah.2 (nxt j2 (by simp only [AT,AY,Lq,Lc,Ln,show BI []=0 from rfl];omega))
    refine Aa Ai (Af.2 ⟨fun hc=>?_,fun hc84=>?_⟩)
    ·obtain rfl:h=84:=Cq (k:=84) (by decide) hc
     refine Aa (CG _ 0) (Aa (Jy j.r) (Rz (s:=c.tag) (by show (bl c.tag).length < _;omega) j.f (by show _+(bl c.tag).length < _;omega) fun A1 g1=>?_))
     have g1:Grow A' A1 (bl c.tag).length:=g1
     have n1:=g1.next
     refine Aa (CG _ 0) (Go.Abs.AD.store (n:=1) (off:=3) (v:=.string ⟨⟨[]⟩⟩) (j.l.keeps g1.keeps (by simp)) g1.Az (by omega) (GI _ _ _) rfl (show 3+1≤12 by decide) rfl fun A2 l2 k2 n2 f2=>?_)
     have j2:=(j.grow g1).step (h:=84) (lr':=lr) hp0 rfl l2 k2 f2 (.inl ⟨rfl,rfl⟩)
     have hs2:=j2.sum
     simp only [AT,AY,Lq,Lc,Ln,show BI []=0 from rfl] at hs2
     refine Aa (DG (by have:=Cg ws;omega) _ _) (Aa (Fm (w:=AV (bl c.tag)) hne (by omega) (by omega) _ _) ?_)
     simp only [Av,Ad,e2]
     exact Ah.2 (nxt j2 (by simp only [AT,AY,Lq,Lc,Ln,show BI []=0 from rfl];omega))
    refine Aa Ai (Af.2 ⟨fun hc=>?_,fun hc66=>?_⟩)
    ·obtain rfl:h=66:=Cq (k:=66) (by decide) hc
     refine Aa (Ei _ 0) (Aa (JU j.r) (Rz (s:=c.body) (by show (bl c.body).length < _;omega) j.f (by show _+(bl c.body).length < _;omega) fun A1 g1=>?_))
     have g1:Grow A' A1 (bl c.body).length:=g1
     have n1:=g1.next
     refine Aa (Ei _ 0) (Go.Abs.AD.store (n:=1) (off:=11) (v:=.string ⟨⟨[]⟩⟩) (j.l.keeps g1.keeps (by simp)) g1.Az (by omega) (GI _ _ _) rfl (show 11+1≤12 by decide) rfl fun A2 l2 k2 n2 f2=>?_)
     have j2:=(j.grow g1).step (h:=66) (lr':=lr) hp0 rfl l2 k2 f2 (.inl ⟨rfl,rfl⟩)
     have hs2:=j2.sum
     simp only [AT,AY,Lq,Lc,Ln,show BI []=0 from rfl] at hs2
     refine Aa (DG (by have:=Cg ws;omega) _ _) (Aa (Fm (w:=AV (bl c.body)) hne (by omega) (by omega) _ _) ?_)
     simp only [Av,Ad,e2]
     exact Ah.2 (nxt j2 (by simp only [AT,AY,Lq,Lc,Ln,show BI []=0 from rfl];omega))
    refine Aa Ai (Af.2 ⟨fun hc=>?_,fun hc78=>?_⟩)
    ·obtain rfl:h=78:=Cq (k:=78) (by decide) hc
     refine Aa (C4 _ 0) (Aa (Kf j.r) (Co (O2 hw.n _) (Pd (by have:=hw.n;omega) j.f (by omega) fun A1 g1=>?_)))
     have n1:=g1.next
     refine Aa (C4 _ 0) (Go.Abs.AD.store (n:=1) (off:=7) (v:=.int .u32 0) (j.l.keeps g1.keeps (by simp)) g1.Az (by omega) (Ql _ _ _) rfl (show 7+1≤12 by decide) rfl fun A2 l2 k2 n2 f2=>?_)
     have j2:=(j.grow g1).step (h:=78) (lr':=lr) hp0 rfl l2 k2 f2 (.inl ⟨rfl,rfl⟩)
     have hs2:=j2.sum
     simp only [AT,AY,Lq,Lc,Ln,show BI []=0 from rfl] at hs2
     refine Aa (DG (by have:=Cg ws;omega) _ _) (Aa (Fm hne (by omega) (by omega) _ _) ?_)
     simp only [Av,Ad,e2]
     exact Ah.2 (nxt j2 (by simp only [AT,AY,Lq,Lc,Ln,show BI []=0 from rfl];omega))
    refine Aa Ai (Af.2 ⟨fun hc=>?_,fun hc88=>?_⟩)
    ·obtain rfl:h=88:=Cq (k:=88) (by decide) hc
     refine Aa (DD _ 0) (Aa (Mv j.r) (Zw hw.x j.f (by omega) fun A1 g1=>?_))
     have n1:=g1.next
     refine Aa Cw (Aa Cv (Aa D6 (Aj.2 ⟨fun hx=>?_,fun hx=>?_⟩)))
     ·have hx:okX c.x=false:=by simpa using hx
      have hno:=j.bad hp0 (show (if okX c.x=true then some [Cs c.x] else none)=none by rw [Ff (by rw [hx];decide)])
      have j1:=j.grow g1
      obtain ⟨zc,z1,z2⟩:=j1.zr
      have ho:=j1.one hvr
      refine Aa (BY j1.l (DX _ ho.2) rfl (Iv _ _)) (ck (BY j1.l (DX _ ho.2) rfl (Iv _ _)) ?_)
      refine storeAll (n:=12) (new:=left.cells lr) z1 g1.Az (by omega) (GJ _ _ _) rfl z2 (CX _ ho.1) fun A2 l2 k2 n2 f2=>?_
      refine Aa (BY l2 (DX _ ho.2) rfl (Iv _ _)) ?_
      exact h0 hno A2 left lr ho.1 ho.2 ⟨j1.k.trans k2 fun x hx=>.inr (by rw [Ms.1 hx];omega),f2,by omega⟩
     have hx:okX c.x=true:=by simpa using hx
     have hwx:Dk c 88=some [bl (tx c.x)]:=by
      show (if okX c.x=true then some [Cs c.x] else none)=some [if okX c.x=true then Cs c.x else []]
      rw [if_pos hx,if_pos hx]
     refine Aa P1 (Aa (DD _ 0) (Go.Abs.AD.store (n:=3) (off:=4) (v:=.agg ⟨DY.cells⟩) (j.l.keeps g1.keeps (by simp)) g1.Az (by omega) (FR _ _ _) rfl (show 4+3≤12 by decide) rfl fun A2 l2 k2 n2 f2=>?_))
     have j2:=(j.grow g1).step (h:=88) (lr':=lr) hp0 hwx l2 k2 f2 (.inl ⟨rfl,rfl⟩)
     have etx:tx c.x=txt (bl (tx c.x)):=(E3 _).symm
     rw [etx]
     have hs2:=j2.sum
     simp only [AT,AY,Lq,Lc,Ln,show BI []=0 from rfl] at hs2
     refine Aa (DG (by have:=Cg ws;omega) _ _) (Aa (Fm hne (by omega) (by omega) _ _) ?_)
     simp only [Av,Ad,e2]
     exact Ah.2 (nxt j2 (by simp only [AT,AY,Lq,Lc,Ln,show BI []=0 from rfl];omega))
    refine Aa Ai (Af.2 ⟨fun hc=>?_,fun hc101=>?_⟩)
    ·obtain rfl:h=101:=Cq (k:=101) (by decide) hc
     refine Aa (BF _ 0) (Aa (HD j.r) (SP ?_))
     refine Aa (BF _ 0) (Go.Abs.AD.store (n:=1) (off:=8) (v:=.bool false) j.l j.f (by omega) (EL _ _ _) rfl (show 8+1≤12 by decide) rfl fun A2 l2 k2 n2 f2=>?_)
     have j2:=j.step (h:=101) (lr':=lr) hp0 rfl l2 k2 f2 (.inl ⟨rfl,rfl⟩)
     have hs2:=j2.sum
     simp only [AT,AY,Lq,Lc,Ln,show BI []=0 from rfl] at hs2
     refine Aa (DG (by have:=Cg ws;omega) _ _) (Aa (Fm (w:=Cd c.a Dg Qa) hne (by omega) (by omega) _ _) ?_)
     simp only [Av,Ad,e2]
     exact Ah.2 (nxt j2 (by simp only [AT,AY,Lq,Lc,Ln,show BI []=0 from rfl];omega))
    refine Aa Ai (Af.2 ⟨fun hc=>?_,fun hc109=>?_⟩)
    ·obtain rfl:h=109:=Cq (k:=109) (by decide) hc
     refine Aa (BF _ 0) (Aa (HD j.r) (SP ?_))
     refine Aa (BF _ 0) (Go.Abs.AD.store (n:=1) (off:=8) (v:=.bool false) j.l j.f (by omega) (EL _ _ _) rfl (show 8+1≤12 by decide) rfl fun A2 l2 k2 n2 f2=>?_)
     have j2:=j.step (h:=109) (lr':=lr) hp0 rfl l2 k2 f2 (.inl ⟨rfl,rfl⟩)
     have hs2:=j2.sum
     simp only [AT,AY,Lq,Lc,Ln,show BI []=0 from rfl] at hs2
     refine Aa (DG (by have:=Cg ws;omega) _ _) (Aa (Fm (w:=Cd c.a Et LJ) hne (by omega) (by omega) _ _) ?_)
     simp only [Av,Ad,e2]
     exact Ah.2 (nxt j2 (by simp only [AT,AY,Lq,Lc,Ln,show BI []=0 from rfl];omega))
    refine Aa Ai (Af.2 ⟨fun hc=>?_,fun hc100=>?_⟩)
    ·obtain rfl:h=100:=Cq (k:=100) (by decide) hc
     refine Aa (BF _ 0) (Aa (HD j.r) (SP ?_))
     refine Aa (BF _ 0) (Go.Abs.AD.store (n:=1) (off:=8) (v:=.bool false) j.l j.f (by omega) (EL _ _ _) rfl (show 8+1≤12 by decide) rfl fun A2 l2 k2 n2 f2=>?_)
     have j2:=j.step (h:=100) (lr':=lr) hp0 rfl l2 k2 f2 (.inl ⟨rfl,rfl⟩)
     have hs2:=j2.sum
     simp only [AT,AY,Lq,Lc,Ln,show BI []=0 from rfl] at hs2
     refine Aa (DG (by have:=Cg ws;omega) _ _) (Aa (Fm (w:=Cd c.a IJ II) hne (by omega) (by omega) _ _) ?_)
     simp only [Av,Ad,e2]
     exact Ah.2 (nxt j2 (by simp only [AT,AY,Lq,Lc,Ln,show BI []=0 from rfl];omega))
    refine Aa Ai (Af.2 ⟨fun hc=>?_,fun hc115=>?_⟩)
    ·obtain rfl:h=115:=Cq (k:=115) (by decide) hc
     refine Aa (BF _ 0) (Aa (HD j.r) (Aa (Db _ 0) (Aa (LB j.r) (Aa (XN _ _ _ _) (Zi (w0:=MJ) (w1:=E2) (w2:=C9) (w3:=Dl) j.f (by omega) fun A1 g1=>?_)))))
     have n1:=g1.next
     refine Aa (BF _ 0) (Go.Abs.AD.store (n:=1) (off:=8) (v:=.bool false) (j.l.keeps g1.keeps (by simp)) g1.Az (by omega) (EL _ _ _) rfl (show 8+1≤12 by decide) rfl fun A3 l3 k3 n3 f3=>?_)
     refine Aa (Db _ 0) (Go.Abs.AD.store (n:=1) (off:=9) (v:=.bool false) l3 f3 (by omega) (EL _ _ _) rfl (show 9+1≤12 by decide) rfl fun A2 l2 k2 n2 f2=>?_)
     have j2:=(j.grow g1).step (h:=115) (lr':=lr) hp0 rfl l2 (k3.trans k2 fun x hx=>.inl hx) f2 (.inl ⟨rfl,rfl⟩)
     have hs2:=j2.sum
     simp only [AT,AY,Lq,Lc,Ln,show BI []=0 from rfl] at hs2
     refine Aa (DG (by have:=Cg ws;omega) _ _) (Aa (Fm hne (by omega) (by omega) _ _) ?_)
     simp only [Av,Ad,e2]
     exact Ah.2 (nxt j2 (by simp only [AT,AY,Lq,Lc,Ln,show BI []=0 from rfl];omega))
    refine Aa Ai (Af.2 ⟨fun hc=>?_,fun hc102=>?_⟩)
    ·obtain rfl:h=102:=Cq (k:=102) (by decide) hc
     refine Aa (BF _ 0) (Aa (HD j.r) (Aa (Db _ 0) (Aa (LB j.r) (Aa (XN _ _ _ _) (Zi (w0:=IK) (w1:=FP) (w2:=CV) (w3:=Dl) j.f (by omega) fun A1 g1=>?_)))))
     have n1:=g1.next
     refine Aa (BF _ 0) (Go.Abs.AD.store (n:=1) (off:=8) (v:=.bool false) (j.l.keeps g1.keeps (by simp)) g1.Az (by omega) (EL _ _ _) rfl (show 8+1≤12 by decide) rfl fun A3 l3 k3 n3 f3=>?_)
     refine Aa (Db _ 0) (Go.Abs.AD.store (n:=1) (off:=9) (v:=.bool false) l3 f3 (by omega) (EL _ _ _) rfl (show 9+1≤12 by decide) rfl fun A2 l2 k2 n2 f2=>?_)
     have j2:=(j.grow g1).step (h:=102) (lr':=lr) hp0 rfl l2 (k3.trans k2 fun x hx=>.inl hx) f2 (.inl ⟨rfl,rfl⟩)
     have hs2:=j2.sum
     simp only [AT,AY,Lq,Lc,Ln,show BI []=0 from rfl] at hs2
     refine Aa (DG (by have:=Cg ws;omega) _ _) (Aa (Fm hne (by omega) (by omega) _ _) ?_)
     simp only [Av,Ad,e2]
     exact Ah.2 (nxt j2 (by simp only [AT,AY,Lq,Lc,Ln,show BI []=0 from rfl];omega))
    refine Aa Ai (Af.2 ⟨fun hc=>?_,fun hc82=>?_⟩)
    ·obtain rfl:h=82:=Cq (k:=82) (by decide) hc
     refine Ah.2 ⟨((partsOf c.what).2.length - i) * 100000000 - 1 - 0,by omega,.inr ⟨rfl,q,i,0,ws,left,lr,?_,j,hp0,by omega,?_,rfl⟩⟩
     ·simp only [List.take_zero,Mn,List.append_nil];rfl
     ·simp only [List.take_zero,Mn,List.append_nil];exact hn
    rcases OH _ h hmem with rfl | rfl | rfl | rfl | rfl | rfl | rfl | rfl | rfl | rfl | rfl
    ·exact absurd rfl hc81
    ·exact absurd rfl hc84
    ·exact absurd rfl hc66
    ·exact absurd rfl hc78
    ·exact absurd rfl hc88
    ·exact absurd rfl hc101
    ·exact absurd rfl hc109
    ·exact absurd rfl hc100
    ·exact absurd rfl hc115
    ·exact absurd rfl hc102
    ·exact absurd rfl hc82
   ·have hge:(partsOf c.what).2.length≤i:=by have:¬ ((i:Int) < ((partsOf c.what).2.length:Int)):=hge;omega
    obtain ⟨hdone,rfl⟩:=j.done hge
    obtain ⟨zc,z1,z2⟩:=j.zr
    have ho:=j.one hvr
    have ll:At Tp A' 38 (pP q 0)=some (.agg ⟨left.cells lr⟩):=BY j.l (DX _ ho.2) rfl (Iv _ _)
    refine Aa ll (Aa CP (ck CP (Ao.2 (ck ll ?_))))
    refine storeAll (n:=12) (new:=left.cells lr) z1 j.f (by omega) (GJ _ _ _) rfl z2 (CX _ ho.1) fun A2 l2 k2 n2 f2=>?_
    refine ck CP (Ao.2 (Aa (BY l2 (DX _ ho.2) rfl (Iv _ _)) ?_))
    exact h1 left hdone A2 lr j.rd ⟨j.k.trans k2 fun x hx=>.inr (by rw [Ms.1 hx];omega),f2,by omega⟩
  ·rw [Aaz]
   simp only [L35,Mc,Mn,Li,and_true] at hd
   obtain ⟨d1,d3,d5,d6,d7,d8,d9,d13⟩:=hd
   simp only [d1,d3,d5,d6,d7,d8,d9,d13]
   have hlt:=(Gs.1 hp0).1
   have hrd':=hrd.keeps j.k (by simp)
   have hne:=j.ne
   have e2:IntKind.i64.wrap ((k:Int)+1)=((k+1:Nat):Int):=wrap_i64 (by omega) (by omega)
   have e3:IntKind.i64.wrap ((i:Int)+1)=((i+1:Nat):Int):=wrap_i64 (by omega) (by omega)
   have hall:BI (ws++c.refs.map Dn)+(ws++c.refs.map Dn).length≤BI (Bv c)+(Bv c).length:=by
    obtain ⟨zc,h1,h2⟩:=j.zr
    have e:Bv c=(ws++c.refs.map Dn)++((partsOf c.what).2.drop (i+1)).flatMap (Ca c):=by
     rw [j.hw]
     show JK c++(partsOf c.what).2.flatMap (Ca c)=_
     have e1:((partsOf c.what).2.take (i+1)).flatMap (Ca c)=((partsOf c.what).2.take i).flatMap (Ca c)++c.refs.map Dn:=by
      rw [Bm hp0,List.flatMap_append]
      simp [Ca,Dk]
     conv=>lhs;rw [← List.take_append_drop (i+1) (partsOf c.what).2,List.flatMap_append,e1]
     simp
    rw [e]
    simp only [AT,Lq]
    omega
   simp only [AT,Lq] at hall hn
   have htk:=Gy (c.refs.map Dn) k
   rw [← List.map_take] at htk
   refine Aa (C0 _ 0) (Aa (Ja j.r hvr.2) (Aa (hrd'.len I3) (Aa Be (Aq.2 ⟨fun hkl=>?_,fun hkl=>?_⟩))))
   ·have hkl:k < c.refs.length:=by omega
    have hk0:=Ge hkl
    have hm:=hw.refs _ (List.getElem_mem hkl)
    have hsz2:=SQ (List.getElem_mem hkl)
    generalize c.refs[k]=rf at hk0 hm hsz2
    have hm:rf.2 < 18446744073709551616:=hm
    obtain ⟨r,o,a1,a2⟩:=Yo hrd' hk0
    obtain ⟨l9,l35⟩:=a2 (.refl A' [])
    have htk1:=Gy (c.refs.map Dn) (k+1)
    rw [← List.map_take,Bm hk0,List.map_append,AT,Lq,Mc,Mn,AY,show BI []=0 from rfl,Lc,Ln] at htk1
    have hrw:(Dn rf).length=(AV (bl rf.1)).length+1+(Lib.decDigits rf.2).length:=by simp [Dn];omega
    have hqq:=FD (bl rf.1)
    have hjl:=Cg (ws++(c.refs.take k).map Dn)
    simp only [AT,Lq] at hjl
    generalize hS:BP ((ws++(c.refs.take k).map Dn).map txt)=S at *
    have s1:=DG (j:=S) (by omega)
    refine Aa (s1 _ _) (Aa (C0 _ 0) (Aa (Ja j.r hvr.2) (Aa a1 (Aa (Tk _ _) (Aa l9 (Aa (C0 _ 0) (Aa (Ja j.r hvr.2) (Aa a1 (Aa (PG _ _) (Aa l35 ?_))))))))))
    refine Rz (s:=rf.1) (by show (bl rf.1).length < _;omega) j.f (by show _+(bl rf.1).length < _;omega) fun A1 g1=>?_
    have g1:Grow A' A1 (bl rf.1).length:=g1
    have n1:=g1.next
    have j1:=j.grow g1
    obtain ⟨_,m35⟩:=a2 g1.keeps
    refine ck m35 (ck (PG _ _) (ck a1 (Ao.2 (ck (Ja j1.r hvr.2) (ck (C0 _ 0) (ck (s1 _ _) (Ao.2 ?_)))))))
    have s2:=We (x:=S++[32]) (y:=AV (bl rf.1)) (by rw [Lq,Lc,Ln];omega)
    have s3:=We (x:=S++[32]++AV (bl rf.1)) (y:=[58]) (by simp only [Lq,Lc,Ln];omega)
    have s4:=We (x:=S++[32]++AV (bl rf.1)++[58]) (y:=Lib.decDigits rf.2) (by simp only [Lq,Lc,Ln];omega)
    refine Aa (s2 _ _) (Aa (s3 _ _) (Pd hm g1.Az (by omega) fun A2 g2=>?_))
    have n2:=g2.next
    refine ck (s3 _ _) (ck (s2 _ _) (ck (s1 _ _) (Ao.2 (Aa (s4 _ _) ?_))))
    simp only [Av,Ad,e2]
    have eS:S++[32]++AV (bl rf.1)++[58]++Lib.decDigits rf.2=BP ((ws++(c.refs.take (k+1)).map Dn).map txt):=by
     have e:ws++(c.refs.take (k+1)).map Dn=(ws++(c.refs.take k).map Dn)++[Dn rf]:=by
      rw [Bm hk0,List.map_append,List.append_assoc];rfl
     rw [e,OR _ (by simp [hne]),hS]
     simp [Dn]
    rw [eS]
    refine Ah.2 ⟨((partsOf c.what).2.length - i) * 100000000 - 1 - (k+1),by omega,.inr ⟨rfl,q,i,k+1,ws,left,lr,rfl,(j1.grow g2),hp0,by omega,?_,rfl⟩⟩
    rw [Bm hk0,List.map_append,← List.append_assoc]
    simp only [AT,Lq,Mc,Mn,AY,Lc,Ln,show BI []=0 from rfl]
    omega
   ·have:k=c.refs.length:=by omega
    subst this
    rw [List.take_length] at hn
    rw [List.take_length]
    refine Aa (C0 _ 0) (Go.Abs.AD.store (n:=1) (off:=10) (v:=vN) j.l j.f (by omega) (Qk _ _ _) rfl (show 10+1≤12 by decide) rfl fun A2 l2 k2 n2 f2=>?_)
    have j2:=j.step (h:=82) (lr':=vN) hp0 rfl l2 k2 f2 (.inr ⟨rfl,rfl⟩)
    simp only [Av,Ad,e3]
    exact Ah.2 ⟨((partsOf c.what).2.length - (i+1)) * 100000000,by omega,.inl ⟨rfl,q,i+1,_,_,vN,rfl,j2,by omega,by simp only [AT,Lq];omega,rfl⟩⟩
 rw [e35]
 refine BX (cs:=c.cells vr) hf (by omega) (CX c hvr.1) fun A1 m1=>?_
 have n1:=m1.next
 refine AI Gc m1.Az (by omega) rfl fun A2 m2=>?_
 rw [n1]
 have z2:Go.Abs.AD A2 (A.next+1) (Bc.cells vN) 38:=by rw [← n1];exact m2.BU
 have n2:=m2.next
 have k2:=m2.keeps m1.Az
 have r2:=m1.BU.keeps k2 (by simp)
 refine Aa (DJ _ 0) (Aa (NO r2) (Zj (Aa Cw (Aa Cv (Aa (FM _ 0) (Aa (Rh r2) ?_))))))
 refine Pd hw.ses m2.Az (by omega) fun A3 g3=>?_
 have n3:=g3.next
 have hs1:BI [Lib.decDigits c.ses]=(Lib.decDigits c.ses).length:=by simp [BI]
 have hd20:=I8 hw.ses
 have hv12:=Ot c.what
 refine Aa (DG (j:=Lib.decDigits c.ses) (by omega) _ _) ?_
 have ea:∀ xo yo,Ag Tp .add 9 xo yo (.string (txt (Lib.decDigits c.ses++[32]))) (.string (txt (partsOf c.what).1))=some (.string (txt (BP ((JK c).map txt)))):=fun xo yo=>by
  have:=Fm (ws:=[Lib.decDigits c.ses]) (w:=(partsOf c.what).1) (by simp) (by rw [hs1];simp;omega) (by omega) xo yo
  have e:BP ([Lib.decDigits c.ses].map txt)=Lib.decDigits c.ses:=by show _++[]=_;rw [List.append_nil];rfl
  rw [e] at this
  exact this
 refine Aa (ea _ _) ?_
 have r3:=r2.keeps g3.keeps (by simp)
 have le3:=g3.le
 refine Aa (BY r3 (DX _ hvr.2) rfl (Iv _ _)) (AI Gc g3.Az (by omega) rfl fun A4 m4=>?_)
 have n4:=m4.next
 have k4:=m4.keeps g3.Az
 refine storeAll (n:=12) (new:=c.cells vr) m4.BU m4.Az (by omega) (GJ _ _ _) rfl rfl (CX c hvr.1) fun A5 l5 k5 n5 f5=>?_
 refine Aa (DJ _ 0) (Go.Abs.AD.store (n:=1) (off:=0) (v:=.int .u8 0) l5 f5 (by omega) (Gk _ _ _) rfl (show 0+1≤12 by decide) rfl fun A6 l6 k6 n6 f6=>?_)
 refine Aa (FM _ 0) (Go.Abs.AD.store (n:=1) (off:=1) (v:=.int .u64 0) l6 f6 (by omega) (Xp _ _ _) rfl (show 1+1≤12 by decide) rfl fun A7 l7 k7 n7 f7=>?_)
 have l7:Go.Abs.AD A7 A3.next ((zC c).cells vr) 38:=l7
 have K57:Ay A4 A7 [A3.next]:=(k5.trans k6 fun x hx=>.inl hx).trans k7 fun x hx=>.inl hx
 have K4:Ay A A4 []:=(((m1.keeps hf).trans k2 (by simp)).trans g3.keeps (by simp)).trans k4 (by simp)
 have K7:Ay A A7 []:=K4.trans K57 fun x hx=>.inr (by rw [Ms.1 hx];omega)
 have j:JC A A7 c vr A.next A3.next (A.next+1) 0 (JK c) (zC c) vr:=by
  refine ⟨(r3.keeps k4 (by simp)).keeps K57 (by simp;omega),l7,⟨_,((z2.keeps g3.keeps (by simp)).keeps k4 (by simp)).keeps K57 (by simp;omega),rfl⟩,.inl ⟨rfl,rfl⟩,by simp,rfl,K7,f7,by omega,by omega,by omega,by omega,by omega⟩
 exact Ah.2 ⟨_,.inl ⟨rfl,A3.next,0,JK c,zC c,vr,rfl,j,by omega,by omega,rfl⟩⟩
end
theorem VE {ws us:List Word} (h:ws≠[]) (h2:us≠[]):BP ((ws++us).map txt)=BP (ws.map txt)++[32]++BP (us.map txt):=by
 cases ws with
 | nil=>exact absurd rfl h
 | cons x r=>
  cases us with
  | nil=>exact absurd rfl h2
  | cons y t=>
   show x++Dm ((r++y::t).map txt)=x++Dm (r.map txt)++[32]++(y++Dm (t.map txt))
   rw [List.map_append,KY]
   have:Dm ((y::t).map txt)=32::(y++Dm (t.map txt)):=by simp [Dm,Cp]
   rw [this];simp
theorem AcY {ws us:List Word} (h0:ws≠[]) (h2:us≠[]) (h:BI ws+ws.length < 1000000000) (hu:BI us+us.length < 1000000000) (xo yo:Operand):Ag Tp .add 9 xo yo (.string (txt (BP (ws.map txt)++[32]))) (.string (txt (BP (us.map txt))))=some (.string (txt (BP ((ws++us).map txt)))):=by
 have e1:=Cg ws
 have e2:=Cg us
 have:=We (x:=BP (ws.map txt)++[32]) (y:=BP (us.map txt)) (by simp only [Lq,Lc,Ln];omega) xo yo
 rw [VE h0 h2]
 exact this
structure JE (A0 A:AW) (v:EvD) (vn vk vr:Value) (b q:Nat) (i:Nat) (ws:List Word) (left:EvD) (ln lk lr:Value):Prop where
 r:Go.Abs.AD A b (v.cells vn vk vr) 40
 l:Go.Abs.AD A q (left.cells ln lk lr) 40
 rd:∃ G,RdV A left ln lk lr G∧q∉G
 hw:ws=[(Ak v.kind).1]++((Ak v.kind).2.take i).flatMap (B5 v)
 go:goE v (Ak v.kind).2 [(Ak v.kind).1] (zE v)=goE v ((Ak v.kind).2.drop i) ws left
 k:Ay A0 A []
 f:AH A
 hq:A0.next≤q
 n1:b≠q
 kind0:left.kind=0
theorem JE.grow {A0 A A':AW} {v:EvD} {vn vk vr ln lk lr:Value} {b q i:Nat} {ws:List Word} {left:EvD} {m:Nat} (j:JE A0 A v vn vk vr b q i ws left ln lk lr) (g:Grow A A' m):JE A0 A' v vn vk vr b q i ws left ln lk lr:=by
 obtain ⟨G,h3,h4⟩:=j.rd
 exact ⟨j.r.keeps g.keeps (by simp),j.l.keeps g.keeps (by simp),⟨G,h3.keeps g.keeps (by simp),h4⟩,j.hw,j.go,j.k.trans g.keeps (by simp),g.Az,j.hq,j.n1,j.kind0⟩
theorem WT {left:EvD} (h0:left.kind=0) (h1:left.node=0) (h2:left.to=0) (h3:left.n=0) (h4:left.x=DY) (h5:left.nodes=[]) (h6:left.Bd=[]) (h7:left.s=.empty) (h8:left.a=false) (h9:left.call=Bc):left=BQ:=by
 cases left
 simp only at h0 h1 h2 h3 h4 h5 h6 h7 h8 h9
 simp only [h0,h1,h2,h3,h4,h5,h6,h7,h8,h9]
 rfl
theorem Us (v:EvD) (h:UInt8) (left:EvD):(Hi v h left).kind=left.kind:=by
 unfold Hi
 repeat' split
 all_goals rfl
theorem XJ {v:EvD} {i:Nat} {h:UInt8} (hi:(Ak v.kind).2[i]? =some h):(Ak v.kind).2.drop i=h::(Ak v.kind).2.drop (i+1):=by
 obtain ⟨hlt,e⟩:=Gs.1 hi
 rw [List.drop_eq_getElem_cons hlt,e]
theorem JE.step {A0 A A':AW} {v:EvD} {vn vk vr ln lk lr ln' lk' lr':Value} {b q i:Nat} {ws w:List Word} {left left':EvD} {h:UInt8} (j:JE A0 A v vn vk vr b q i ws left ln lk lr) (hi:(Ak v.kind).2[i]? =some h) (hl:FC v h=some w) (hc:Hi v h left=left') (l2:Go.Abs.AD A' q (left'.cells ln' lk' lr') 40) (k2:Ay A A' [q]) (f2:AH A')
  (hr:∃ G,RdV A left' ln' lk' lr' G∧q∉G):JE A0 A' v vn vk vr b q (i+1) (ws++w) left' ln' lk' lr':=by
 obtain ⟨G,h3,h4⟩:=hr
 refine ⟨j.r.keeps k2 (by simp [j.n1]),l2,⟨G,h3.keeps k2 fun x hx hm=>h4 (by rw [← Ms.1 hm];exact hx),h4⟩,?_,?_,j.k.trans k2 fun x hx=>.inr (by rw [Ms.1 hx];exact j.hq),f2,j.hq,j.n1,?_⟩
 ·rw [Bm hi,List.flatMap_append,← List.append_assoc,← j.hw]
  simp [HL hl]
 ·rw [j.go,XJ hi]
  show (match FC v h with | none=>none | some w=>goE v _ (ws++w) (Hi v h left))=_
  rw [hl,hc]
 ·rw [← hc,Us];exact j.kind0
theorem JE.bad {A0 A:AW} {v:EvD} {vn vk vr ln lk lr:Value} {b q i:Nat} {ws:List Word} {left:EvD} {h:UInt8} (j:JE A0 A v vn vk vr b q i ws left ln lk lr) (hi:(Ak v.kind).2[i]? =some h) (hl:FC v h=none):DL v=none:=by
 have e:goE v (Ak v.kind).2 [(Ak v.kind).1] (zE v)=none:=by
  rw [j.go,XJ hi]
  show (match FC v h with | none=>none | some w=>goE v _ (ws++w) (Hi v h left))=_
  rw [hl]
 cases hp:DL v with
 | none=>rfl
 | some ws'=>
  have:=(C6.1 hp).2.1
  have this:goE v (Ak v.kind).2 [(Ak v.kind).1] (zE v)=some (ws',BQ):=this
  rw [e] at this;cases this
theorem JE.sum {A0 A:AW} {v:EvD} {vn vk vr ln lk lr:Value} {b q i:Nat} {ws:List Word} {left:EvD} (j:JE A0 A v vn vk vr b q i ws left ln lk lr):BI ws+ws.length≤BI (Bh v)+(Bh v).length:=by
 have e:Bh v=ws++((Ak v.kind).2.drop i).flatMap (B5 v):=by
  rw [j.hw]
  show [(Ak v.kind).1]++(Ak v.kind).2.flatMap (B5 v)=_
  conv=>lhs;rw [← List.take_append_drop i (Ak v.kind).2,List.flatMap_append,← List.append_assoc]
 rw [e,AT,Lq]
 omega
theorem JE.ZP {A0 A:AW} {v:EvD} {vn vk vr ln lk lr:Value} {b q i:Nat} {ws:List Word} {left:EvD} {h:UInt8} (j:JE A0 A v vn vk vr b q i ws left ln lk lr) (hi:(Ak v.kind).2[i]? =some h):BI (ws++B5 v h)+(ws++B5 v h).length≤BI (Bh v)+(Bh v).length:=by
 have e:Bh v=(ws++B5 v h)++((Ak v.kind).2.drop (i+1)).flatMap (B5 v):=by
  rw [j.hw]
  show [(Ak v.kind).1]++(Ak v.kind).2.flatMap (B5 v)=_
  have e1:((Ak v.kind).2.take (i+1)).flatMap (B5 v)=((Ak v.kind).2.take i).flatMap (B5 v)++B5 v h:=by
   rw [Bm hi,List.flatMap_append];simp
  conv=>lhs;rw [← List.take_append_drop (i+1) (Ak v.kind).2,List.flatMap_append,e1]
  simp
 rw [e]
 simp only [AT,Lq]
 omega
theorem JE.ne {A0 A:AW} {v:EvD} {vn vk vr ln lk lr:Value} {b q i:Nat} {ws:List Word} {left:EvD} (j:JE A0 A v vn vk vr b q i ws left ln lk lr):ws≠[]:=by
 rw [j.hw];simp
theorem JE.done {A0 A:AW} {v:EvD} {vn vk vr ln lk lr:Value} {b q i:Nat} {ws:List Word} {left:EvD} (j:JE A0 A v vn vk vr b q i ws left ln lk lr) (hi:(Ak v.kind).2.length≤i):ws=Bh v∧((Ak v.kind).1=[]∨left≠BQ→DL v=none)∧((Ak v.kind).1≠[]→left=BQ→DL v=some (Bh v)):=by
 have e:ws=Bh v:=by
  rw [j.hw,List.take_of_length_le hi];rfl
 have h:=j.go
 rw [List.drop_eq_nil_of_le hi] at h
 have h:goE v (Ak v.kind).2 [(Ak v.kind).1] (zE v)=some (ws,left):=h
 refine ⟨e,fun hb=>?_,fun h1 h2=>C6.2 ⟨rfl,?_,h1⟩⟩
 ·cases hp:DL v with
  | none=>rfl
  | some ws'=>
   obtain ⟨_,h3,h4⟩:=C6.1 hp
   have h3:goE v (Ak v.kind).2 [(Ak v.kind).1] (zE v)=some (ws',BQ):=h3
   rw [h] at h3
   simp only [Oi,Pj] at h3
   rcases hb with hb | hb
   ·exact absurd hb h4
   ·exact absurd h3.2 hb
 ·rw [← e,← h2];exact h
theorem OI (n:Nat):∀ h∈(Ak n).2,h=110∨h=116∨h=105∨h=88∨h=99∨h=83∨h=98∨h=107∨h=67:=by
 rcases Nat.lt_or_ge 17 n with h | h
 ·rw [Cr h];simp
 ·have:∀ n < 18,∀ h∈(Ak n).2,h=110∨h=116∨h=105∨h=88∨h=99∨h=83∨h=98∨h=107∨h=67:=by decide
  exact this n (by omega)
theorem OZ (n:Nat):(Ak n).2.length≤3:=by
 rcases Nat.lt_or_ge 17 n with h | h
 ·rw [Cr h];decide
 ·have:∀ n < 18,(Ak n).2.length≤3:=by decide
  exact this n (by omega)
theorem Z8 {n i:Nat} (h:i < (Ak n).2.length):∃ b,(Ak n).2[i]? =some b∧b∈(Ak n).2:=⟨_,Ge h,List.getElem_mem h⟩
theorem I9 {n:Nat} (h:n < 256) (A:AW):Au Tp A 5 35 (.int .u8 (n:Int))=.ok (.int .u64 (n:Int)) A:=by
 rw [To,wrap_u64 (by omega) (by omega)]
theorem XI {a b c:Value}:BC (.tuple ⟨[a,b,c]⟩) 0=some a:=rfl
theorem XH {a b c:Value}:BC (.tuple ⟨[a,b,c]⟩) 1=some b:=rfl
theorem XG {a b c:Value}:BC (.tuple ⟨[a,b,c]⟩) 2=some c:=rfl
theorem Z5 (p q:Nm) (xo yo:Operand):Ag Tp .neq 32 xo yo (.agg ⟨p.cells⟩) (.agg ⟨q.cells⟩)=some (.bool !(MU (p.f:Int) (q.f:Int) p.g q.g p.b q.b)):=by
 have hg:D0 Tp 32 xo yo (kX p) (kX q)=true:=by
  show (!Tp.eqGuardType Tp.depth 32)=true
  kernel_rfl
 show (bif D0 Tp 32 xo yo (kX p) (kX q) then (match eqA Tp 32 (kX p) (kX q) with | some b=>some (Value.bool !b) | none=>none) else none)=_
 rw [hg,Ct,eqX]
section
variable {W0:World} {m0:Inj Tp}
set_option maxHeartbeats 4000000 in
theorem AbY {v:EvD} {vn vk vr:Value} {G:List Nat} {A:AW} {K:Value→AW→Prop} (hw:v.Wf) (hrd:RdV A v vn vk vr G) (hsz:szV v < 90000000) (hsum:BI (Bh v)+(Bh v).length < 300000000) (hsumC:BI (Bv v.call)+(Bv v.call).length < 300000000) (hf:AH A) (hA:A.next+60 * (BI (Bh v)+(Bh v).length)+60 * (BI (Bv v.call)+(Bv v.call).length)+300000000 < Ap)
  (h0:DL v=none→∀ A',Grow A A' (60 * (BI (Bh v)+(Bh v).length)+60 * (BI (Bv v.call)+(Bv v.call).length)+100000)→K (.tuple ⟨[.string ⟨⟨[]⟩⟩,.int .i64 310]⟩) A')
  (h1:DL v=some (Bh v)→∀ A',Grow A A' (60 * (BI (Bh v)+(Bh v).length)+60 * (BI (Bv v.call)+(Bv v.call).length)+100000)→K (.tuple ⟨[.string (txt (BP ((Bh v).map txt))),.int .i64 0]⟩) A'):
  Wc Tp Aw W0 m0 14 [.agg ⟨v.cells vn vk vr⟩] A K:=by
 have hmx:Ap=1099511627776:=rfl
 obtain ⟨G,hrd,_,hGA⟩:=hrd.tight
 obtain ⟨⟨on,hvn⟩,⟨ok,hvk⟩,or,hvr⟩:=hrd.one
 have hrl:=Hu v.call.refs
 have hszv:szV v=(bl v.s).length+v.nodes.length+v.Bd.length+szC v.call:=rfl
 have hsl:=FD (bl v.s)
 have hpl:=OZ v.kind
 let I:Nat→Nat→List Value→AW→Prop:=fun g id vals A'=>
  (id=0∧∃ (q i:Nat) (ws:List Word) (left:EvD) (ln lk lr:Value),vals=[pP A.next 0,.string (txt (Ak v.kind).1),.string (txt (Ak v.kind).2),.string (txt (BP (ws.map txt))),pP q 0,.int .i64 (i:Int)]∧JE A A' v vn vk vr A.next q i ws left ln lk lr∧i≤(Ak v.kind).2.length∧A'.next≤A.next+100+15000 * i+60 * (BI ws+ws.length)+(if i=(Ak v.kind).2.length then 60 * (BI (Bv v.call)+(Bv v.call).length) else 0)∧g=((Ak v.kind).2.length - i) * 100000000)∨
  (id=3∧∃ (q i k:Nat) (ws:List Word) (left:EvD) (ln lk lr:Value),vals=[pP A.next 0,.string (txt (Ak v.kind).1),.string (txt (Ak v.kind).2),.string (txt (BP ((ws++(v.nodes.take k).map Lib.decDigits).map txt))),pP q 0,.int .i64 (i:Int),.int .i64 (k:Int)]∧JE A A' v vn vk vr A.next q i ws left ln lk lr∧(Ak v.kind).2[i]? =some 98∧k≤v.nodes.length∧A'.next≤A.next+100+15000 * i+60 * (BI (ws++(v.nodes.take k).map Lib.decDigits)+(ws++(v.nodes.take k).map Lib.decDigits).length)∧g=((Ak v.kind).2.length - i) * 100000000 - 1 - k)∨
  (id=5∧∃ (q i k:Nat) (ws:List Word) (left:EvD) (ln lk lr:Value),vals=[pP A.next 0,.string (txt (Ak v.kind).1),.string (txt (Ak v.kind).2),.string (txt (BP ((ws++(v.Bd.take k).map Lib.itoa).map txt))),pP q 0,.int .i64 (i:Int),.int .i64 (k:Int)]∧JE A A' v vn vk vr A.next q i ws left ln lk lr∧(Ak v.kind).2[i]? =some 107∧k≤v.Bd.length∧A'.next≤A.next+100+15000 * i+60 * (BI (ws++(v.Bd.take k).map Lib.itoa)+(ws++(v.Bd.take k).map Lib.itoa).length)∧g=((Ak v.kind).2.length - i) * 100000000 - 1 - k)
 refine w14 _ _ (c14 (I:=I) ?_) ?_
 ·rintro g id vals A' d (⟨rfl,q,i,ws,left,ln,lk,lr,rfl,j,hi,hn,rfl⟩ | ⟨rfl,q,i,k,ws,left,ln,lk,lr,rfl,j,hp0,hk,hn,rfl⟩ | ⟨rfl,q,i,k,ws,left,ln,lk,lr,rfl,j,hp0,hk,hn,rfl⟩) hd
  ·rw [AaO]
   simp only [L14,Mc,Mn,Li,and_true] at hd
   obtain ⟨d1,d4,d5,d6,d7,d8⟩:=hd
   simp only [d1,d4,d5,d6,d7,d8]
   have hne:=j.ne
   have hs0:=j.sum
   obtain ⟨G',hrl',hqG⟩:=j.rd
   have hlo:=hrl'.one
   refine Aa (Ef _ _) (Aa Be (Aq.2 ⟨fun hlt=>?_,fun hge=>?_⟩))
   ·have hlt:i < (Ak v.kind).2.length:=by have:(i:Int) < ((Ak v.kind).2.length:Int):=hlt;omega
    rw [Ff (by omega)] at hn
    obtain ⟨h,hp0,hmem⟩:=Z8 hlt
    have e2:IntKind.i64.wrap ((i:Int)+1)=((i+1:Nat):Int):=wrap_i64 (by omega) (by omega)
    have nxt:∀ {A2:AW} {w:List Word} {left':EvD} {ln' lk' lr':Value},JE A A2 v vn vk vr A.next q (i+1) (ws++w) left' ln' lk' lr'→A2.next≤A.next+100+15000 * (i+1)+60 * (BI (ws++w)+(ws++w).length)→∃ g2,g2 < ((Ak v.kind).2.length - i) * 100000000∧I g2 0 [pP A.next 0,.string (txt (Ak v.kind).1),.string (txt (Ak v.kind).2),.string (txt (BP ((ws++w).map txt))),pP q 0,.int .i64 ((i+1:Nat):Int)] A2:=fun {A2 w left' ln' lk' lr'} j2 hn2=>
     ⟨((Ak v.kind).2.length - (i+1)) * 100000000,by omega,.inl ⟨rfl,q,i+1,ws++w,left',ln',lk',lr',rfl,j2,by omega,by omega,rfl⟩⟩
    refine Aa (ix9 (s:=txt (Ak v.kind).2) hp0) ?_
    refine Aa Ai (Af.2 ⟨fun hc=>?_,fun hc110=>?_⟩)
    ·obtain rfl:h=110:=Cq (k:=110) (by decide) hc
     refine Aa (BE _ 0) (Aa (FQ j.r) (Co (I9 hw.node _) (Pd (by have:=hw.node;omega) j.f (by omega) fun A1 g1=>?_)))
     have n1:=g1.next
     have j1:=j.grow g1
     refine Aa (BE _ 0) (Go.Abs.AD.store (n:=1) (off:=1) (v:=.int .u8 0) (j1.l) j1.f (by omega) (Gk _ _ _) rfl (show 1+1≤23 by decide) rfl fun A2 l2 k2 n2 f2=>?_)
     have same:∀ {B:AW},JE A B v vn vk vr A.next q i ws left ln lk lr→∃ G,RdV B { left with node:=0 } ln lk lr G∧q∉G:=fun j=>by obtain ⟨G,h,h2⟩:=j.rd;exact ⟨G,⟨h.n,h.k,h.r⟩,h2⟩
     have j2:=j1.step (h:=110) (ln':=ln) (lk':=lk) (lr':=lr) hp0 rfl rfl l2 k2 f2 (same j1)
     have hs2:=j2.sum
     simp only [AT,AY,Lq,Lc,Ln,show BI []=0 from rfl] at hs2
     refine Aa (DG (by have:=Cg ws;omega) _ _) (Aa (Fm (w:=Lib.decDigits v.node) hne (by omega) (by omega) _ _) ?_)
     simp only [Av,Ad,e2]
     exact Ah.2 (nxt j2 (by simp only [AT,AY,Lq,Lc,Ln,show BI []=0 from rfl];omega))
    refine Aa Ai (Af.2 ⟨fun hc=>?_,fun hc116=>?_⟩)
    ·obtain rfl:h=116:=Cq (k:=116) (by decide) hc
     refine Aa (CU _ 0) (Aa (Ju j.r) (Co (I9 hw.to _) (Pd (by have:=hw.to;omega) j.f (by omega) fun A1 g1=>?_)))
     have n1:=g1.next
     have j1:=j.grow g1
     refine Aa (CU _ 0) (Go.Abs.AD.store (n:=1) (off:=2) (v:=.int .u8 0) (j1.l) j1.f (by omega) (Gk _ _ _) rfl (show 2+1≤23 by decide) rfl fun A2 l2 k2 n2 f2=>?_)
     have same:∀ {B:AW},JE A B v vn vk vr A.next q i ws left ln lk lr→∃ G,RdV B { left with to:=0 } ln lk lr G∧q∉G:=fun j=>by obtain ⟨G,h,h2⟩:=j.rd;exact ⟨G,⟨h.n,h.k,h.r⟩,h2⟩
     have j2:=j1.step (h:=116) (ln':=ln) (lk':=lk) (lr':=lr) hp0 rfl rfl l2 k2 f2 (same j1)
     have hs2:=j2.sum
     simp only [AT,AY,Lq,Lc,Ln,show BI []=0 from rfl] at hs2
     refine Aa (DG (by have:=Cg ws;omega) _ _) (Aa (Fm (w:=Lib.decDigits v.to) hne (by omega) (by omega) _ _) ?_)
     simp only [Av,Ad,e2]
     exact Ah.2 (nxt j2 (by simp only [AT,AY,Lq,Lc,Ln,show BI []=0 from rfl];omega))
    refine Aa Ai (Af.2 ⟨fun hc=>?_,fun hc105=>?_⟩)
    ·obtain rfl:h=105:=Cq (k:=105) (by decide) hc
     refine Aa (BG _ 0) (Aa (EZ j.r) (Zx hw.n.1 hw.n.2 j.f (by omega) fun A1 g1=>?_))
     have n1:=g1.next
     have j1:=j.grow g1
     refine Aa (BG _ 0) (Go.Abs.AD.store (n:=1) (off:=3) (v:=.int .i64 0) (j1.l) j1.f (by omega) (Mj _ _ _) rfl (show 3+1≤23 by decide) rfl fun A2 l2 k2 n2 f2=>?_)
     have same:∀ {B:AW},JE A B v vn vk vr A.next q i ws left ln lk lr→∃ G,RdV B { left with n:=0 } ln lk lr G∧q∉G:=fun j=>by obtain ⟨G,h,h2⟩:=j.rd;exact ⟨G,⟨h.n,h.k,h.r⟩,h2⟩
     have j2:=j1.step (h:=105) (ln':=ln) (lk':=lk) (lr':=lr) hp0 rfl rfl l2 k2 f2 (same j1)
     have hs2:=j2.sum
     simp only [AT,AY,Lq,Lc,Ln,show BI []=0 from rfl] at hs2
     refine Aa (DG (by have:=Cg ws;omega) _ _) (Aa (Fm (w:=Lib.itoa v.n) hne (by omega) (by omega) _ _) ?_)
     simp only [Av,Ad,e2]
     exact Ah.2 (nxt j2 (by simp only [AT,AY,Lq,Lc,Ln,show BI []=0 from rfl];omega))
    refine Aa Ai (Af.2 ⟨fun hc=>?_,fun hc88=>?_⟩)
    ·obtain rfl:h=88:=Cq (k:=88) (by decide) hc
     refine Aa (DC _ 0) (Aa (Mh j.r) (Zw hw.x j.f (by omega) fun A1 g1=>?_))
     have n1:=g1.next
     have j1:=j.grow g1
     refine Aa Cw (Aa Cv (Aa D6 (Aj.2 ⟨fun hx=>?_,fun hx=>?_⟩)))
     ·have hx:okX v.x=false:=by simpa using hx
      exact h0 (j.bad hp0 (show (if okX v.x=true then some [Cs v.x] else none)=none by rw [Ff (by rw [hx];decide)])) A1 ⟨j1.k,j1.f,by omega⟩
     have hx:okX v.x=true:=by simpa using hx
     have hwx:FC v 88=some [bl (tx v.x)]:=by
      show (if okX v.x=true then some [Cs v.x] else none)=some [if okX v.x=true then Cs v.x else []]
      rw [if_pos hx,if_pos hx]
     refine Aa P1 ?_
     refine Aa (DC _ 0) (Go.Abs.AD.store (n:=3) (off:=4) (v:=.agg ⟨DY.cells⟩) (j1.l) j1.f (by omega) (FR _ _ _) rfl (show 4+3≤23 by decide) rfl fun A2 l2 k2 n2 f2=>?_)
     have same:∀ {B:AW},JE A B v vn vk vr A.next q i ws left ln lk lr→∃ G,RdV B { left with x:=DY } ln lk lr G∧q∉G:=fun j=>by obtain ⟨G,h,h2⟩:=j.rd;exact ⟨G,⟨h.n,h.k,h.r⟩,h2⟩
     have j2:=j1.step (h:=88) (ln':=ln) (lk':=lk) (lr':=lr) hp0 hwx rfl l2 k2 f2 (same j1)
     have etx:tx v.x=txt (bl (tx v.x)):=(E3 _).symm
     rw [etx]
     have hs2:=j2.sum
     simp only [AT,AY,Lq,Lc,Ln,show BI []=0 from rfl] at hs2
     refine Aa (DG (by have:=Cg ws;omega) _ _) (Aa (Fm hne (by omega) (by omega) _ _) ?_)
     simp only [Av,Ad,e2]
     exact Ah.2 (nxt j2 (by simp only [AT,AY,Lq,Lc,Ln,show BI []=0 from rfl];omega))
    refine Aa Ai (Af.2 ⟨fun hc=>?_,fun hc99=>?_⟩)
    ·obtain rfl:h=99:=Cq (k:=99) (by decide) hc
     refine Aa (Dz _ 0) (Aa (HE j.r) (SP ?_))
     have j1:=j
     refine Aa (Dz _ 0) (Go.Abs.AD.store (n:=1) (off:=10) (v:=.bool false) (j1.l) j1.f (by omega) (EL _ _ _) rfl (show 10+1≤23 by decide) rfl fun A2 l2 k2 n2 f2=>?_)
     have same:∀ {B:AW},JE A B v vn vk vr A.next q i ws left ln lk lr→∃ G,RdV B { left with a:=false } ln lk lr G∧q∉G:=fun j=>by obtain ⟨G,h,h2⟩:=j.rd;exact ⟨G,⟨h.n,h.k,h.r⟩,h2⟩
     have j2:=j1.step (h:=99) (ln':=ln) (lk':=lk) (lr':=lr) hp0 rfl rfl l2 k2 f2 (same j1)
     have hs2:=j2.sum
     simp only [AT,AY,Lq,Lc,Ln,show BI []=0 from rfl] at hs2
     refine Aa (DG (by have:=Cg ws;omega) _ _) (Aa (Fm (w:=Cd v.a Da MK) hne (by omega) (by omega) _ _) ?_)
     simp only [Av,Ad,e2]
     exact Ah.2 (nxt j2 (by simp only [AT,AY,Lq,Lc,Ln,show BI []=0 from rfl];omega))
    refine Aa Ai (Af.2 ⟨fun hc=>?_,fun hc83=>?_⟩)
    ·obtain rfl:h=83:=Cq (k:=83) (by decide) hc
     refine Aa (Eh _ 0) (Aa (NV j.r) (Rz (s:=v.s) (by show (bl v.s).length < _;omega) j.f (by show _+(bl v.s).length < _;omega) fun A1 g1=>?_))
     have g1:Grow A' A1 (bl v.s).length:=g1
     have n1:=g1.next
     have j1:=j.grow g1
     refine Aa (Eh _ 0) (Go.Abs.AD.store (n:=1) (off:=9) (v:=.string ⟨⟨[]⟩⟩) (j1.l) j1.f (by omega) (GI _ _ _) rfl (show 9+1≤23 by decide) rfl fun A2 l2 k2 n2 f2=>?_)
     have same:∀ {B:AW},JE A B v vn vk vr A.next q i ws left ln lk lr→∃ G,RdV B { left with s:=.empty } ln lk lr G∧q∉G:=fun j=>by obtain ⟨G,h,h2⟩:=j.rd;exact ⟨G,⟨h.n,h.k,h.r⟩,h2⟩
     have j2:=j1.step (h:=83) (ln':=ln) (lk':=lk) (lr':=lr) hp0 rfl rfl l2 k2 f2 (same j1)
     have hs2:=j2.sum
     simp only [AT,AY,Lq,Lc,Ln,show BI []=0 from rfl] at hs2
     refine Aa (DG (by have:=Cg ws;omega) _ _) (Aa (Fm (w:=AV (bl v.s)) hne (by omega) (by omega) _ _) ?_)
     simp only [Av,Ad,e2]
     exact Ah.2 (nxt j2 (by simp only [AT,AY,Lq,Lc,Ln,show BI []=0 from rfl];omega))
    refine Aa Ai (Af.2 ⟨fun hc=>?_,fun hc98=>?_⟩)
    ·obtain rfl:h=98:=Cq (k:=98) (by decide) hc
     refine Ah.2 ⟨((Ak v.kind).2.length - i) * 100000000 - 1 - 0,by omega,.inr (.inl ⟨rfl,q,i,0,ws,left,ln,lk,lr,?_,j,hp0,by omega,?_,rfl⟩)⟩
     ·simp only [List.take_zero,Mn,List.append_nil];rfl
     ·simp only [List.take_zero,Mn,List.append_nil];omega
    refine Aa Ai (Af.2 ⟨fun hc=>?_,fun hc107=>?_⟩)
    ·obtain rfl:h=107:=Cq (k:=107) (by decide) hc
     refine Ah.2 ⟨((Ak v.kind).2.length - i) * 100000000 - 1 - 0,by omega,.inr (.inr ⟨rfl,q,i,0,ws,left,ln,lk,lr,?_,j,hp0,by omega,?_,rfl⟩)⟩
     ·simp only [List.take_zero,Mn,List.append_nil];rfl
     ·simp only [List.take_zero,Mn,List.append_nil];omega
    refine Aa Ai (Af.2 ⟨fun hc=>?_,fun hc67=>?_⟩)
    ·obtain rfl:h=67:=Cq (k:=67) (by decide) hc
     have hlast:i+1=(Ak v.kind).2.length:=by
      have hC:(67:UInt8)∈(Ak v.kind).2:=hmem
      have h16:v.kind=16:=by
       rcases Nat.lt_or_ge 17 v.kind with hg | hg
       ·rw [Cr hg] at hC;cases hC
       ·exact Xo v.kind (by omega) hC
      rw [h16] at hp0 hlt ⊢
      match i with
      | 0=>exact absurd hp0 (by decide)
      | 1=>rfl
      | i+2=>exact absurd hlt (by show ¬ (i+2 < 2);omega)
     obtain ⟨Fr,hrc,hFr⟩:=(hrd.keeps j.k (by simp)).r
     refine Aa (Dj _ 0) (Aa (Kp j.r hvr) (AbS hw.call hrc (by omega) hsumC j.f (by omega) (fun hno A1 rest rr o1 o2 g1=>?_) (fun rest hyes A1 rr hrr g1=>?_)))
     ·have n1:=g1.next
      have hl:FC v 67=none:=by
       show (match CB v.call with | some (ws,_)=>if (partsOf v.call.what).1=[] then none else some ws | none=>none)=none
       rw [hno]
      have j1:=j.grow g1
      refine Aa XI (Aa XH (Aa XG (AI Gc g1.Az (by omega) rfl fun A2 m2=>?_)))
      have n2:=m2.next
      have k2:=m2.keeps g1.Az
      refine storeAll (n:=12) (new:=rest.cells rr) m2.BU m2.Az (by omega) (GJ _ _ _) rfl rfl (CX _ o1) fun A3 l3 k3 n3 f3=>?_
      refine Aa D6 (Aj.2 ⟨fun _=>?_,fun h=>(by cases h)⟩)
      have hle:=j1.k.next
      exact h0 (j.bad hp0 hl) A3 ⟨(j1.k.trans k2 (by simp)).trans k3 fun x hx=>.inr (by rw [Ms.1 hx];exact hle),f3,by omega⟩
     ·have n1:=g1.next
      have j1:=j.grow g1
      have hro:AL rr=true∧isTuple rr=false:=by
       rcases hrr with ⟨rfl,_⟩ | ⟨rfl,_⟩
       ·exact hrc.one
       ·exact ⟨rfl,rfl⟩
      have hle:=j1.k.next
      refine Aa XI (Aa XH (Aa XG (AI Gc g1.Az (by omega) rfl fun A2 m2=>?_)))
      have n2:=m2.next
      have k2:=m2.keeps g1.Az
      have j2:=j1.grow (Grow.made m2 g1.Az)
      refine storeAll (n:=12) (new:=rest.cells rr) m2.BU m2.Az (by omega) (GJ _ _ _) rfl rfl (CX _ hro.1) fun A3 l3 k3 n3 f3=>?_
      have g13:Grow A1 A3 1:=⟨k2.trans k3 fun x hx=>.inr (by rw [Ms.1 hx];omega),f3,by omega⟩
      have j3:=j1.grow g13
      refine Aa D6 (Aj.2 ⟨fun hb=>?_,fun hb=>?_⟩)
      ·have hv:(partsOf v.call.what).1=[]:=by simpa using hb
       have hl:FC v 67=none:=by
        show (match CB v.call with | some (ws,_)=>if (partsOf v.call.what).1=[] then none else some ws | none=>none)=none
        rw [hyes]
        show (if _ then _ else _)=_
        rw [if_pos hv]
       exact h0 (j.bad hp0 hl) A3 ⟨j3.k,f3,by omega⟩
      ·have hv:(partsOf v.call.what).1≠[]:=by simpa using hb
       have hl:FC v 67=some (Bv v.call):=by
        show (match CB v.call with | some (ws,_)=>if (partsOf v.call.what).1=[] then none else some ws | none=>none)=_
        rw [hyes]
        show (if _ then _ else _)=_
        rw [Ff hv]
       have hcl:Hi v 67 left={ left with call:=rest }:=by
        show (match CB v.call with | some (_,c)=>{ left with call:=c } | none=>left)=_
        rw [hyes]
       refine Aa (BY l3 (DX _ hro.2) rfl (Iv _ _)) (Aa (Dj _ 0) ?_)
       refine Go.Abs.AD.store (n:=12) (off:=11) (v:=.agg ⟨rest.cells rr⟩) j3.l j3.f (by omega) (GJ _ _ _) rfl (show 11+12≤23 by decide) (CX _ hro.1) fun A4 l4 k4 n4 f4=>?_
       have hrd4:∃ G,RdV A3 { left with call:=rest } ln lk rr G∧q∉G:=by
        obtain ⟨G,hG,hqG⟩:=j3.rd
        refine ⟨G++Fr,⟨?_,?_,?_⟩,?_⟩
        ·obtain ⟨F,a,b⟩:=hG.n;exact ⟨F,a,fun x hx=>List.mem_append_left _ (b x hx)⟩
        ·obtain ⟨F,a,b⟩:=hG.k;exact ⟨F,a,fun x hx=>List.mem_append_left _ (b x hx)⟩
        ·rcases hrr with ⟨rfl,e⟩ | ⟨rfl,e⟩
         ·refine ⟨Fr,?_,fun x hx=>List.mem_append_right _ hx⟩
          show RdE 1 cR A3 rr rest.refs Fr
          rw [e];exact (hrc.keeps g1.keeps (by simp)).keeps g13.keeps (by simp)
         ·refine ⟨[],?_,by simp⟩
          show RdE 1 cR A3 vN rest.refs []
          rw [e];exact .nil _ _ _
        ·simp only [List.mem_append,not_or]
         refine ⟨hqG,fun hm=>?_⟩
         have:=hGA q (hFr q hm)
         have:=j.hq
         omega
       have j4:=j3.step (h:=67) (ln':=ln) (lk':=lk) (lr':=rr) hp0 hl hcl l4 k4 f4 hrd4
       have hs2:=j4.sum
       simp only [AT,Lq] at hs2
       refine Aa (DG (by have:=Cg ws;omega) _ _) (Aa (AcY hne (by simp [Bv]) (by omega) (by omega) _ _) ?_)
       simp only [Av,Ad,e2]
       refine Ah.2 ⟨((Ak v.kind).2.length - (i+1)) * 100000000,by omega,.inl ⟨rfl,q,i+1,ws++Bv v.call,_,ln,lk,rr,rfl,j4,by omega,?_,rfl⟩⟩
       rw [if_pos hlast]
       simp only [AT,Lq]
       omega
    rcases OI _ h hmem with rfl | rfl | rfl | rfl | rfl | rfl | rfl | rfl | rfl
    ·exact absurd rfl hc110
    ·exact absurd rfl hc116
    ·exact absurd rfl hc105
    ·exact absurd rfl hc88
    ·exact absurd rfl hc99
    ·exact absurd rfl hc83
    ·exact absurd rfl hc98
    ·exact absurd rfl hc107
    ·exact absurd rfl hc67
   ·have hge:(Ak v.kind).2.length≤i:=by have:¬ ((i:Int) < ((Ak v.kind).2.length:Int)):=hge;omega
    obtain ⟨hws,hbad,hgood⟩:=j.done hge
    have hei:i=(Ak v.kind).2.length:=by omega
    rw [if_pos hei,hws] at hn
    have no:((Ak v.kind).1=[]∨left≠BQ)→K (.tuple ⟨[.string ⟨⟨[]⟩⟩,.int .i64 310]⟩) A':=fun h=>h0 (hbad h) A' ⟨j.k,j.f,by omega⟩
    refine Aa AX (Aj.2 ⟨fun h=>no (.inl (eq_of_beq h)),fun h=>?_⟩)
    have hverb:(Ak v.kind).1≠[]:=fun e=>by
     have h:((Ak v.kind).1==[])=false:=h
     rw [e] at h;cases h
    refine Aa (BE _ 0) (Aa (FQ j.l) (Aa BV (Bw.2 ⟨fun h=>no (.inr fun e=>h (by rw [e];rfl)),fun h_node=>?_⟩)))
    have h_node:left.node=0:=by omega
    refine Aa (CU _ 0) (Aa (Ju j.l) (Aa BV (Bw.2 ⟨fun h=>no (.inr fun e=>h (by rw [e];rfl)),fun h_to=>?_⟩)))
    have h_to:left.to=0:=by omega
    refine Aa (BG _ 0) (Aa (EZ j.l) (Aa BV (Bw.2 ⟨fun h=>no (.inr fun e=>h (by rw [e];rfl)),fun h_n=>?_⟩)))
    have h_n:left.n=0:=by omega
    refine Aa (DC _ 0) (Aa (Mh j.l) (Aa P1 (Aa (Z5 _ _ _ _) (Aj.2 ⟨fun h=>no (.inr fun e=>by have e:left.x=DY:=(by rw [e];rfl);rw [e,Dr.2 rfl] at h;cases h),fun h_x=>?_⟩))))
    have h_x:left.x=DY:=Dr.1 (by simpa using h_x)
    obtain ⟨F_nodes,q_nodes,_⟩:=hrl'.n
    refine Aa (DB _ 0) (Aa (Ko j.l hlo.1.2) (Aa (I6.Gr q_nodes) (Aa DK (Aq.2 ⟨fun h=>no (.inr fun e=>by rw [e] at h;exact absurd h (by decide)),fun h_nodes=>?_⟩))))
    have h_nodes:left.nodes=[]:=List.eq_nil_of_length_eq_zero (by omega)
    obtain ⟨F_keep,q_keep,_⟩:=hrl'.k
    refine Aa (DA _ 0) (Aa (Km j.l hlo.2.1.2) (Aa (I5.Gr q_keep) (Aa DK (Aq.2 ⟨fun h=>no (.inr fun e=>by rw [e] at h;exact absurd h (by decide)),fun h_keep=>?_⟩))))
    have h_keep:left.Bd=[]:=List.eq_nil_of_length_eq_zero (by omega)
    refine Aa (Eh _ 0) (Aa (NV j.l) (Aa CP (Aj.2 ⟨fun h=>no (.inr fun e=>by rw [e] at h;cases h),fun h_s=>?_⟩)))
    have h_s:left.s=.empty:=PS (by have h_s:(!(bl left.s==bl ⟨⟨[]⟩⟩))=false:=h_s;simpa using h_s)
    refine Aa (Dz _ 0) (Aa (HE j.l) (Aj.2 ⟨fun h=>no (.inr fun e=>by rw [e] at h;cases h),fun h_a=>?_⟩))
    obtain ⟨F_r,q_r,_⟩:=hrl'.r
    refine Aa (Dj _ 0) (Aa (Kp j.l hlo.2.2.2) (AbR q_r j.f (by omega) fun A2 b hb g2=>Aa D6 (Aj.2 ⟨fun h=>?_,fun h=>?_⟩)))
    ·have n2:=g2.next
     refine h0 (hbad (.inr fun e=>?_)) A2 ⟨j.k.trans g2.keeps (by simp),g2.Az,by omega⟩
     have:=hb.2 (by rw [e];rfl)
     rw [this] at h;cases h
    ·have n2:=g2.next
     have hbt:b=true:=by simpa using h
     have h_call:=hb.1 hbt
     have hkz:left.kind=0:=j.kind0
     have e:left=BQ:=by
      revert h_node h_to h_n h_x h_nodes h_keep h_s h_a h_call hkz
      exact fun h_node h_to h_n h_x h_nodes h_keep h_s h_a h_call hkz=>WT hkz h_node h_to h_n h_x h_nodes h_keep h_s h_a h_call
     rw [hws]
     exact h1 (hgood hverb e) A2 ⟨j.k.trans g2.keeps (by simp),g2.Az,by omega⟩
  ·rw [AaN]
   simp only [L14,Mc,Mn,Li,and_true] at hd
   obtain ⟨d1,d4,d5,d6,d7,d8,d9⟩:=hd
   simp only [d1,d4,d5,d6,d7,d8,d9]
   have hlt:=(Gs.1 hp0).1
   obtain ⟨Fx,hrx,_⟩:=(hrd.keeps j.k (by simp)).n
   have hne:=j.ne
   have e2:IntKind.i64.wrap ((k:Int)+1)=((k+1:Nat):Int):=wrap_i64 (by omega) (by omega)
   have e3:IntKind.i64.wrap ((i:Int)+1)=((i+1:Nat):Int):=wrap_i64 (by omega) (by omega)
   have hall:=j.ZP hp0
   rw [show B5 v 98=v.nodes.map Lib.decDigits from rfl] at hall
   simp only [AT,Lq] at hall hn
   have htk:=Gy (v.nodes.map Lib.decDigits) k
   rw [← List.map_take] at htk
   refine Aa (DB _ 0) (Aa (Ko j.r hvn) (Aa (I6.Gr hrx) (Aa Be (Aq.2 ⟨fun hkl=>?_,fun hkl=>?_⟩))))
   ·have hkl:k < v.nodes.length:=by omega
    have hk0:=Ge hkl
    have hm:=hw.nodes _ (List.getElem_mem hkl)
    generalize v.nodes[k]=rf at hk0 hm
    obtain ⟨a,a1,a2⟩:=ES.at I6 hrx hk0 rfl
    have htk1:=Gy (v.nodes.map Lib.decDigits) (k+1)
    rw [← List.map_take,Bm hk0,List.map_append,AT,Lq,Mc,Mn,AY,show BI []=0 from rfl,Lc,Ln] at htk1
    have hjl:=Cg (ws++(v.nodes.take k).map Lib.decDigits)
    simp only [AT,Lq] at hjl
    refine Aa (DG (by omega) _ _) (Aa (DB _ 0) (Aa (Ko j.r hvn) (Aa a1 (Aa a2 (Co (I9 hm _) (Pd (by omega) j.f (by omega) fun A1 g1=>?_))))))
    have n1:=g1.next
    refine Aa (Fm (w:=Lib.decDigits rf) (by simp [hne]) (by simp only [AT,Lq];omega) (by omega) _ _) ?_
    simp only [Av,Ad,e2]
    have e:ws++(v.nodes.take (k+1)).map Lib.decDigits=(ws++(v.nodes.take k).map Lib.decDigits)++[Lib.decDigits rf]:=by
     rw [Bm hk0,List.map_append,List.append_assoc];rfl
    rw [← e]
    refine Ah.2 ⟨((Ak v.kind).2.length - i) * 100000000 - 1 - (k+1),by omega,.inr (.inl ⟨rfl,q,i,k+1,ws,left,ln,lk,lr,rfl,(j.grow g1),hp0,by omega,?_,rfl⟩)⟩
    rw [e]
    simp only [AT,Lq,Lc,Ln,AY,show BI []=0 from rfl]
    omega
   ·have:k=v.nodes.length:=by omega
    subst this
    rw [List.take_length] at hn
    rw [List.take_length]
    refine Aa (DB _ 0) (Go.Abs.AD.store (n:=1) (off:=7) (v:=vN) j.l j.f (by omega) (MS _ _ _) rfl (show 7+1≤23 by decide) rfl fun A2 l2 k2 n2 f2=>?_)
    have j2:=j.step (h:=98) (ln':=vN) (lk':=lk) (lr':=lr) hp0 rfl rfl l2 k2 f2 (by
     obtain ⟨G,hG,hqG⟩:=j.rd
     exact ⟨G,⟨⟨[],.nil _ _ _,by simp⟩,hG.k,hG.r⟩,hqG⟩)
    simp only [Av,Ad,e3]
    exact Ah.2 ⟨((Ak v.kind).2.length - (i+1)) * 100000000,by omega,.inl ⟨rfl,q,i+1,_,_,_,_,lr,rfl,j2,by omega,by simp only [AT,Lq];omega,rfl⟩⟩
  ·rw [AaM]
   simp only [L14,Mc,Mn,Li,and_true] at hd
   obtain ⟨d1,d4,d5,d6,d7,d8,d9⟩:=hd
   simp only [d1,d4,d5,d6,d7,d8,d9]
   have hlt:=(Gs.1 hp0).1
   obtain ⟨Fx,hrx,_⟩:=(hrd.keeps j.k (by simp)).k
   have hne:=j.ne
   have e2:IntKind.i64.wrap ((k:Int)+1)=((k+1:Nat):Int):=wrap_i64 (by omega) (by omega)
   have e3:IntKind.i64.wrap ((i:Int)+1)=((i+1:Nat):Int):=wrap_i64 (by omega) (by omega)
   have hall:=j.ZP hp0
   rw [show B5 v 107=v.Bd.map Lib.itoa from rfl] at hall
   simp only [AT,Lq] at hall hn
   have htk:=Gy (v.Bd.map Lib.itoa) k
   rw [← List.map_take] at htk
   refine Aa (DA _ 0) (Aa (Km j.r hvk) (Aa (I5.Gr hrx) (Aa Be (Aq.2 ⟨fun hkl=>?_,fun hkl=>?_⟩))))
   ·have hkl:k < v.Bd.length:=by omega
    have hk0:=Ge hkl
    have hm:=hw.Bd _ (List.getElem_mem hkl)
    generalize v.Bd[k]=rf at hk0 hm
    obtain ⟨a,a1,a2⟩:=ES.at I5 hrx hk0 rfl
    have htk1:=Gy (v.Bd.map Lib.itoa) (k+1)
    rw [← List.map_take,Bm hk0,List.map_append,AT,Lq,Mc,Mn,AY,show BI []=0 from rfl,Lc,Ln] at htk1
    have hjl:=Cg (ws++(v.Bd.take k).map Lib.itoa)
    simp only [AT,Lq] at hjl
    refine Aa (DG (by omega) _ _) (Aa (DA _ 0) (Aa (Km j.r hvk) (Aa a1 (Aa a2 (Zx hm.1 hm.2 j.f (by omega) fun A1 g1=>?_)))))
    have n1:=g1.next
    refine Aa (Fm (w:=Lib.itoa rf) (by simp [hne]) (by simp only [AT,Lq];omega) (by omega) _ _) ?_
    simp only [Av,Ad,e2]
    have e:ws++(v.Bd.take (k+1)).map Lib.itoa=(ws++(v.Bd.take k).map Lib.itoa)++[Lib.itoa rf]:=by
     rw [Bm hk0,List.map_append,List.append_assoc];rfl
    rw [← e]
    refine Ah.2 ⟨((Ak v.kind).2.length - i) * 100000000 - 1 - (k+1),by omega,.inr (.inr ⟨rfl,q,i,k+1,ws,left,ln,lk,lr,rfl,(j.grow g1),hp0,by omega,?_,rfl⟩)⟩
    rw [e]
    simp only [AT,Lq,Lc,Ln,AY,show BI []=0 from rfl]
    omega
   ·have:k=v.Bd.length:=by omega
    subst this
    rw [List.take_length] at hn
    rw [List.take_length]
    refine Aa (DA _ 0) (Go.Abs.AD.store (n:=1) (off:=8) (v:=vN) j.l j.f (by omega) (UU _ _ _) rfl (show 8+1≤23 by decide) rfl fun A2 l2 k2 n2 f2=>?_)
    have j2:=j.step (h:=107) (ln':=ln) (lk':=vN) (lr':=lr) hp0 rfl rfl l2 k2 f2 (by
     obtain ⟨G,hG,hqG⟩:=j.rd
     exact ⟨G,⟨hG.n,⟨[],.nil _ _ _,by simp⟩,hG.r⟩,hqG⟩)
    simp only [Av,Ad,e3]
    exact Ah.2 ⟨((Ak v.kind).2.length - (i+1)) * 100000000,by omega,.inl ⟨rfl,q,i+1,_,_,_,_,lr,rfl,j2,by omega,by simp only [AT,Lq];omega,rfl⟩⟩
 rw [e14]
 refine BX (cs:=v.cells vn vk vr) hf (by omega) (Ep v on ok or) fun A1 m1=>?_
 have n1:=m1.next
 have k1:=m1.keeps hf
 refine Aa (DQ _ 0) (Aa (Mi m1.BU) (Zy (Aa Cw (Aa Cv (Aa (BY m1.BU (D7 v hvn hvk hvr) rfl (Gi _ _)) (AI EK m1.Az (by omega) rfl fun A2 m2=>?_))))))
 have n2:=m2.next
 have k2:=m2.keeps m1.Az
 refine storeAll (n:=23) (new:=v.cells vn vk vr) m2.BU m2.Az (by omega) (HG _ _ _) rfl rfl (Ep v on ok or) fun A3 l3 k3 n3 f3=>?_
 refine Aa (DQ _ 0) (Go.Abs.AD.store (n:=1) (off:=0) (v:=.int .u8 0) l3 f3 (by omega) (Gk _ _ _) rfl (show 0+1≤23 by decide) rfl fun A4 l4 k4 n4 f4=>?_)
 have l4:Go.Abs.AD A4 A1.next ((zE v).cells vn vk vr) 40:=l4
 have K24:Ay A2 A4 [A1.next]:=k3.trans k4 fun x hx=>.inl hx
 have K4:Ay A A4 []:=(k1.trans k2 (by simp)).trans K24 fun x hx=>.inr (by rw [Ms.1 hx];omega)
 have hv12:=Oq v.kind
 have j:JE A A4 v vn vk vr A.next A1.next 0 [(Ak v.kind).1] (zE v) vn vk vr:=by
  have hR:=hrd.keeps K4 (by simp)
  exact ⟨(m1.BU.keeps k2 (by simp)).keeps K24 (by simp;omega),l4,⟨G,⟨hR.n,hR.k,hR.r⟩,fun hm=>by have:=hGA _ hm;omega⟩,by simp,rfl,K4,f4,by omega,by omega,rfl⟩
 have ej:BP ([(Ak v.kind).1].map txt)=(Ak v.kind).1:=by show _++[]=_;rw [List.append_nil];rfl
 have:AZ (T14 0) (T14 0) (∃ g,I g 0 [pP A.next 0,.string (txt (Ak v.kind).1),.string (txt (Ak v.kind).2),.string (txt (BP ([(Ak v.kind).1].map txt))),pP A1.next 0,.int .i64 0] A4):=Ah.2 ⟨_,.inl ⟨rfl,A1.next,0,[(Ak v.kind).1],zE v,vn,vk,vr,rfl,j,by omega,by omega,rfl⟩⟩
 rw [ej] at this
 exact this
end
theorem NR {t:TypeId} {xo yo:Operand} {k:IntKind} {a b:Int}:Ag Tp .mul t xo yo (.int k a) (.int k b)=some (.int k (k.wrap (a * b))):=by simp [Ag,binOp,Op.intArith,quiet,Dc,AG,pure]
theorem V9 {t:TypeId} {xo yo:Operand} {k:IntKind} {a b:Int} (hb:b≠0):Ag Tp .rem t xo yo (.int k a) (.int k b)=some (.int k (a.tmod b)):=by simp [Ag,binOp,Op.intDiv,hb,quiet,Dc,AG,pure]
def CY (l:Word):Nat:=l.foldl (fun n b=>(10 * n+(b.toNat+208) % 256) % 18446744073709551616) 0
theorem Jq (l:Word) (b:UInt8):CY (l++[b])=(10 * CY l+(b.toNat+208) % 256) % 18446744073709551616:=by
 unfold CY
 rw [List.foldl_append];rfl
theorem S5 (l:Word):CY l < 18446744073709551616:=by
 rcases List.eq_nil_or_concat l with rfl | ⟨r,b,rfl⟩
 ·decide
 ·rw [List.concat_eq_append,Jq];exact Nat.mod_lt _ (by decide)
theorem Ey (m:Nat):m < 18446744073709551616→CY (Lib.decDigits m)=m:=by
 induction m using Nat.strongRecOn with
 | ind m ih=>
  intro h
  by_cases h10:m < 10
  ·rw [Ek h10]
   have e:(UInt8.ofNat (48+m)).toNat=48+m:=by rw [UInt8.toNat_ofNat'];omega
   show (10 * 0+((UInt8.ofNat (48+m)).toNat+208) % 256) % 18446744073709551616=m
   rw [e];omega
  ·rw [EX h10,Jq,ih (m / 10) (by omega) (by omega)]
   have e:(UInt8.ofNat (48+m % 10)).toNat=48+m % 10:=by rw [UInt8.toNat_ofNat'];omega
   rw [e];omega
theorem Jf (n:Nat):IntKind.u64.wrap (n:Int)=((n % 18446744073709551616:Nat):Int):=by
 simp [IntKind.wrap,IntKind.bits,IntKind.signed]
theorem P3 {b:UInt8}:IntKind.u8.wrap ((b.toNat:Int) - 48)=(((b.toNat+208) % 256:Nat):Int):=by
 have:=b.toNat_lt
 simp [IntKind.wrap,IntKind.bits,IntKind.signed]
 omega
def Xa (w:Word) (n:Int):Prop:=Mx n∧∀ m:Int,Mx m→w=Lib.itoa m→n=m
theorem Rx (u:Nat):IntKind.i64.wrap (IntKind.u64.wrap (-(u:Int)))=IntKind.i64.wrap (-(u:Int)):=by
 simp [IntKind.wrap,IntKind.bits,IntKind.signed]
theorem Ok (n:Int):Mx (IntKind.i64.wrap n):=by
 unfold Mx
 simp only [IntKind.wrap,IntKind.bits,IntKind.signed]
 simp
 omega
section
variable {W0:World} {m0:Inj Tp}
theorem Pc {s:ByteArray} {A:AW} {K:Value→AW→Prop} (hl:(bl s).length < 900000000) (hk:K (.int .u64 (CY (bl s):Int)) A):Wc Tp Aw W0 m0 40 [.string s] A K:=by
 let I:Nat→Nat→List Value→AW→Prop:=fun g id vals A'=>id=0∧A'=A∧∃ i:Nat,vals=[.string s,.int .u64 (CY ((bl s).take i):Int),.int .i64 (i:Int)]∧i≤(bl s).length∧g=(bl s).length - i
 refine w40 _ _ (c40 (I:=I) ?_) ?_
 ·rintro g id vals A' d ⟨rfl,rfl,i,rfl,hi,rfl⟩ hd
  rw [Aax]
  simp only [L40,Mc,Mn,Li,and_true] at hd
  obtain ⟨d0,d3,d4⟩:=hd
  simp only [d0,d3,d4]
  refine Aa (Ef _ _) (Aa Be (Aq.2 ⟨fun hlt=>?_,fun hge=>?_⟩))
  ·have hlt:i < (bl s).length:=by have:(i:Int) < ((bl s).length:Int):=hlt;omega
   have hp:=Ge hlt
   generalize (bl s)[i]=b at hp
   have e2:IntKind.i64.wrap ((i:Int)+1)=((i+1:Nat):Int):=wrap_i64 (by omega) (by omega)
   refine Aa NR (Aa (ix9 hp) (Aa DS ?_))
   rw [P3]
   refine Co (I9 (Nat.mod_lt _ (by decide)) _) (Aa Av ?_)
   have e:IntKind.u64.wrap (IntKind.u64.wrap (10 * (CY ((bl s).take i):Int))+(((b.toNat+208) % 256:Nat):Int))=(CY ((bl s).take (i+1)):Int):=by
    rw [Bm hp,Jq,show (10 * (CY ((bl s).take i):Int))=((10 * CY ((bl s).take i):Nat):Int) by omega,Jf]
    rw [show (((10 * CY ((bl s).take i) % 18446744073709551616:Nat):Int)+(((b.toNat+208) % 256:Nat):Int))=((10 * CY ((bl s).take i) % 18446744073709551616+(b.toNat+208) % 256:Nat):Int) by omega,Jf]
    congr 1
    omega
   rw [e]
   simp only [Av,Ad,e2]
   exact Ah.2 ⟨(bl s).length - (i+1),by omega,rfl,rfl,i+1,rfl,by omega,rfl⟩
  ·have hge:¬ ((i:Int) < ((bl s).length:Int)):=hge
   have:i=(bl s).length:=by omega
   subst this
   rw [List.take_length]
   exact hk
 ·rw [e40]
  exact Ah.2 ⟨_,rfl,rfl,0,rfl,by omega,rfl⟩
theorem PN (A:AW) (n:Int) (k:IntKind):Au Tp A 35 3 (.int k n)=.ok (.int .i64 (IntKind.i64.wrap n)) A:=by kernel_rfl
theorem Zu {s:ByteArray} {A:AW} {K:Value→AW→Prop} (hl:(bl s).length < 900000000) (hk:∀ n,Xa (bl s) n→K (.int .i64 n) A):Wc Tp Aw W0 m0 41 [.string s] A K:=by
 have pos:(∀ r,bl s≠45::r)→Xa (bl s) (IntKind.i64.wrap (CY (bl s):Int)):=fun hno=>by
  refine ⟨Ok _,fun m hm hw=>?_⟩
  have hm: -9223372036854775808≤m∧m≤9223372036854775807:=hm
  rcases Int.lt_or_le m 0 with h | h
  ·obtain ⟨u,rfl⟩:∃ u:Nat,m= -(u:Int):=⟨(-m).toNat,by omega⟩
   rw [Lib.itoa_neg _ (by omega)] at hw
   exact absurd hw (hno _)
  ·obtain ⟨u,rfl⟩:∃ u:Nat,m=(u:Int):=⟨m.toNat,by omega⟩
   rw [Lib.itoa_nonneg] at hw
   rw [hw,Ey u (by omega)]
   exact wrap_i64 (by omega) (by omega)
 refine w41 _ _ (AA (S:=fun _ _ _=>False) fun _ _ _ h=>h) ?_
 rw [e41]
 refine Aa (Ef _ _) (Aa DK (Aq.2 ⟨fun hp=>?_,fun hp=>?_⟩))
 ·have hp:(0:Int) < ((bl s).length:Int):=hp
  cases hs:bl s with
  | nil=>rw [hs] at hp;simp at hp
  | cons b r=>
   have h0:s.data.toList[0]? =some b:=by
    have:(bl s)[0]? =some b:=by rw [hs];rfl
    exact this
   refine Aa (ix9 (k:=.i64) (i:=0) h0) (Aa Ai (Af.2 ⟨fun hc=>?_,fun hc=>?_⟩))
   ·have hb:b=45:=Cq (k:=45) (by decide) hc
    subst hb
    have hsl:Br Tp A 9 (.string s) (some (.int .i64 1)) none none=some (.string (txt r)):=by
     have:=TL (A:=A) (s:=s) (l:=1) (k:=.i64) (by rw [hs];simp)
     rw [hs] at this
     exact this
    refine Aa hsl (Pc (by rw [Cp];rw [hs] at hl;simp at hl;omega) ?_)
    refine Aa UN (Co (PN _ _ _) (hk _ ⟨Ok _,fun m hm hw=>?_⟩))
    have hm: -9223372036854775808≤m∧m≤9223372036854775807:=hm
    rw [hs] at hw
    rw [Cp,Rx]
    rcases Int.lt_or_le m 0 with h | h
    ·obtain ⟨u,rfl⟩:∃ u:Nat,m= -(u:Int):=⟨(-m).toNat,by omega⟩
     rw [Lib.itoa_neg _ (by omega)] at hw
     simp only [Li,true_and] at hw
     rw [hw,Ey u (by omega)]
     exact wrap_i64 (by omega) (by omega)
    ·obtain ⟨u,rfl⟩:∃ u:Nat,m=(u:Int):=⟨m.toNat,by omega⟩
     rw [Lib.itoa_nonneg] at hw
     obtain ⟨c,r',e,h1,_⟩:=NH u
     rw [e] at hw
     simp only [Li] at hw
     rw [← hw.1] at h1
     exact absurd h1 (by decide)
   ·have hno:∀ r',bl s≠45::r':=fun r' e=>by
     rw [hs] at e
     simp only [Li] at e
     exact hc (by rw [e.1];rfl)
    exact Pc hl (Co (PN _ _ _) (hk _ (pos hno)))
 ·have hno:∀ r',bl s≠45::r':=fun r' e=>by
   have hp:¬ ((0:Int) < ((bl s).length:Int)):=hp
   rw [e] at hp;simp at hp
  exact Pc hl (Co (PN _ _ _) (hk _ (pos hno)))
theorem VW:∀ {l:List Word},l≠[]→l.dropLast++[l.getLastD []]=l
 | [],h=>absurd rfl h
 | [_],_=>rfl
 | w::x::r,_=>by
  have:=VW (l:=x::r) (by simp)
  show w::((x::r).dropLast++[(x::r).getLastD []])=_
  rw [this]
theorem LM {c b:UInt8}:∀ (l:Word),AS c (l++[b])=(if b=c then AS c l++[[]] else (AS c l).dropLast++[(AS c l).getLastD []++[b]])
 | []=>by
  by_cases h:b=c
  ·subst h;simp [AS]
  ·have h2:(b==c)=false:=by simpa using h
   simp [AS,h,h2]
 | x::l=>by
  have ih:=LM (c:=c) (b:=b) l
  have hne:=Fu c l
  obtain ⟨w,r,hs⟩:∃ w r,AS c l=w::r:=by
   cases hs:AS c l with
   | nil=>exact absurd hs hne
   | cons w r=>exact ⟨w,r,rfl⟩
  rw [hs] at ih
  have e:(x::l)++[b]=x::(l++[b]):=rfl
  rw [e]
  by_cases hx:x=c
  ·have hx2:(x==c)=true:=by simpa using hx
   have ex:∀ m,AS c (x::m)=[]::AS c m:=fun m=>by simp only [AS,hx2,if_true]
   rw [ex,ex,ih,hs]
   split <;> rfl
  ·have hx2:(x==c)=false:=by simpa using hx
   have ex:∀ m,AS c (x::m)=(match AS c m with | []=>[[x]] | w::r=>(x::w)::r):=fun m=>by simp only [AS,hx2,Bool.false_eq_true,if_false];rfl
   rw [ex,ex,ih,hs]
   by_cases hb:b=c
   ·rw [if_pos hb,if_pos hb];rfl
   ·rw [Ff hb,Ff hb]
    cases r with
    | nil=>rfl
    | cons y t=>rfl
theorem AbP {s:ByteArray} {A:AW} {K:Value→AW→Prop} (hl:(bl s).length < 90000000) (hf:AH A) (hA:A.next+2 * (bl s).length+10 < Ap)
  (hk:∀ A' v F,CZ 9 0 cS A' v ((AS 32 (bl s)).map txt) F→(∀ x∈F,A.next≤x)→Grow A A' (2 * (bl s).length+2)→K v A'):Wc Tp Aw W0 m0 39 [.string s] A K:=by
 have hmx:Ap=1099511627776:=rfl
 let I:Nat→Nat→List Value→AW→Prop:=fun g id vals A'=>id=0∧∃ (i:Nat) (v:Value) (F:List Nat),vals=[.string s,v,.string (txt ((AS 32 ((bl s).take i)).getLastD [])),.int .i64 (i:Int)]∧i≤(bl s).length∧
  CZ 9 0 cS A' v ((AS 32 ((bl s).take i)).dropLast.map txt) F∧(∀ x∈F,A.next≤x)∧Grow A A' (2 * i)∧((AS 32 ((bl s).take i)).getLastD []).length≤i∧g=(bl s).length - i
 have hsl:∀ i,(AS 32 ((bl s).take i)).length≤(bl s).length+1:=fun i=>by
  rw [H6]
  have:=count_le 32 ((bl s).take i)
  rw [List.length_take] at this
  omega
 refine w39 _ _ (c39 (I:=I) ?_) ?_
 ·rintro g id vals A' d ⟨rfl,i,v,F,rfl,hi,ho,hF,gr,hwl,rfl⟩ hd
  rw [Aay]
  simp only [L39,Mc,Mn,Li,and_true] at hd
  obtain ⟨d0,d3,d4,d5⟩:=hd
  simp only [d0,d3,d4,d5]
  have ng:=gr.next
  have le:=gr.le
  have hs1:=hsl i
  have hdl:((AS 32 ((bl s).take i)).dropLast.map txt).length < 100000000:=by rw [List.length_map,List.length_dropLast];omega
  refine Aa (Ef _ _) (Aa Be (Aq.2 ⟨fun hlt=>?_,fun hge=>?_⟩))
  ·have hlt:i < (bl s).length:=by have:(i:Int) < ((bl s).length:Int):=hlt;omega
   have hp:=Ge hlt
   generalize (bl s)[i]=b at hp
   have e2:IntKind.i64.wrap ((i:Int)+1)=((i+1:Nat):Int):=wrap_i64 (by omega) (by omega)
   have hsn:=LM (c:=32) (b:=b) ((bl s).take i)
   rw [← Bm hp] at hsn
   refine Aa (ix9 hp) (Aa Ai (Af.2 ⟨fun hc=>?_,fun hc=>?_⟩))
   ·obtain rfl:b=32:=Cq (k:=32) (by decide) hc
    rw [if_pos rfl] at hsn
    refine Bs (D9 _ _) rfl gr.Az (by omega) fun A1 m1=>?_
    have n1:=m1.next
    have k1:=m1.keeps gr.Az
    refine ES.append Hh (p:=txt ((AS 32 ((bl s).take i)).getLastD [])) (ho.keeps k1 (by simp)) m1.BU m1.Az (by omega) hdl fun v' A2 F' o2 k2 hF2 n2 f2=>?_
    simp only [Av,Ad,e2]
    have el:(AS 32 ((bl s).take (i+1))).getLastD []=[]:=by simp [hsn]
    have ed:(AS 32 ((bl s).take (i+1))).dropLast=AS 32 ((bl s).take i):=by rw [hsn];simp
    have ej:(AS 32 ((bl s).take i)).dropLast.map txt++[txt ((AS 32 ((bl s).take i)).getLastD [])]=(AS 32 ((bl s).take i)).map txt:=by
     conv=>rhs;rw [← VW (Fu 32 ((bl s).take i)),List.map_append]
     rfl
    rw [ej] at o2
    refine Ah.2 ⟨(bl s).length - (i+1),by omega,rfl,i+1,v',F',by rw [el];rfl,by omega,by rw [ed];exact o2,fun x hx=>?_,⟨(gr.keeps.trans k1 (by simp)).trans k2 fun x hx=>.inr (hF x hx),f2,by omega⟩,by rw [el];simp,rfl⟩
    rcases hF2 x hx with e | e
    ·exact hF x e
    ·omega
   ·have hb:b≠32:=ZO (k:=32) (by decide) hc
    rw [Ff hb] at hsn
    refine Aa Av ?_
    rw [e2]
    have hsl9:Br Tp A' 9 (.string s) (some (.int .i64 (i:Int))) (some (.int .i64 ((i+1:Nat):Int))) none=some (.string (txt [b])):=by
     rw [sl9 (by omega) (show i+1≤s.data.toList.length from hlt)]
     congr 2
     exact ED (by
      show ((bl s).take (i+1)).drop i=[b]
      rw [Bm hp]
      have:((bl s).take i).length=i:=by rw [List.length_take];omega
      conv=>lhs;arg 1;rw [← this]
      exact List.drop_left)
    refine Aa hsl9 (Aa (We (by rw [Lc,Ln];omega) _ _) ?_)
    simp only [Av,Ad,e2]
    have el:(AS 32 ((bl s).take (i+1))).getLastD []=(AS 32 ((bl s).take i)).getLastD []++[b]:=by simp [hsn]
    have ed:(AS 32 ((bl s).take (i+1))).dropLast=(AS 32 ((bl s).take i)).dropLast:=by rw [hsn];simp
    exact Ah.2 ⟨(bl s).length - (i+1),by omega,rfl,i+1,v,F,by rw [el],by omega,by rw [ed];exact ho,hF,gr.more (by omega),by rw [el,Lq,Lc,Ln];omega,rfl⟩
  ·have hge:¬ ((i:Int) < ((bl s).length:Int)):=hge
   have:i=(bl s).length:=by omega
   subst this
   refine Bs (D9 _ _) rfl gr.Az (by omega) fun A1 m1=>?_
   have n1:=m1.next
   have k1:=m1.keeps gr.Az
   refine ES.append Hh (p:=txt ((AS 32 ((bl s).take (bl s).length)).getLastD [])) (ho.keeps k1 (by simp)) m1.BU m1.Az (by omega) hdl fun v' A2 F' o2 k2 hF2 n2 f2=>?_
   have ej:(AS 32 ((bl s).take (bl s).length)).dropLast.map txt++[txt ((AS 32 ((bl s).take (bl s).length)).getLastD [])]=(AS 32 (bl s)).map txt:=by
    conv=>rhs;rw [← List.take_length (l:=bl s),← VW (Fu 32 ((bl s).take (bl s).length)),List.map_append]
    rfl
   rw [ej] at o2
   refine hk A2 v' F' o2 (fun x hx=>?_) ⟨(gr.keeps.trans k1 (by simp)).trans k2 fun x hx=>.inr (hF x hx),f2,by omega⟩
   rcases hF2 x hx with e | e
   ·exact hF x e
   ·omega
 ·rw [e39]
  exact Ah.2 ⟨_,rfl,0,_,[],rfl,by omega,.nil _,by simp,⟨.refl _ _,hf,by omega⟩,by simp [AS],rfl⟩
end
def IC (b:UInt8):Nat:=if 0≤B0 b.toNat then (B0 b.toNat).toNat else 16
theorem Lm {n:Nat} (h:n < 16):IC (CM n)=n:=by
 unfold IC
 rw [Ds n h,if_pos (by omega)]
 omega
theorem Te (b:UInt8):IC b≤16:=by
 unfold IC
 split
 ·rename_i h
  have:=(GA (b:=b) h).2.1;omega
 ·omega
theorem Tf:∀ (l:List UInt8) (j:Nat) (x:UInt8),l[j]? =some x→(BN l)[2 * j]? =some (CM (x.toNat / 16))∧(BN l)[2 * j+1]? =some (CM (x.toNat % 16))
 | [],j,x,h=>by simp at h
 | y::l,0,x,h=>by
  simp only [List.getElem?_cons_zero,Oi] at h
  subst h
  rw [FE];exact ⟨rfl,rfl⟩
 | y::l,j+1,x,h=>by
  have:=Tf l j x (by simpa using h)
  rw [FE,show 2 * (j+1)=2 * j+1+1 by omega]
  simpa using this
def NmP (w:Word) (x:Nm):Prop:=HV x∧∀ y,HV y→okX y=true→w=Cs y→x=y
def Xc (w:Word) (r:ByteArray × Nat):Prop:=r.2 < 18446744073709551616∧(bl r.1).length≤w.length∧∀ r0:ByteArray × Nat,r0.2 < 18446744073709551616→w=Dn r0→r=r0
theorem TT (m:Nat):∀ k,m < 18446744073709551616→k≤(Lib.decDigits m).length→CY ((Lib.decDigits m).take k)≤m:=by
 induction m using Nat.strongRecOn with
 | ind m ih=>
  intro k h hk
  by_cases he:k=(Lib.decDigits m).length
  ·rw [he,List.take_length,Ey m h];exact Nl _
  ·by_cases h10:m < 10
   ·rw [Ek h10] at hk he
    have:k=0:=by simp at hk he;omega
    subst this
    exact Nat.zero_le _
   ·rw [EX h10] at hk he
    rw [Lq,Lc,Ln] at hk he
    rw [EX h10,List.take_append_of_le_length (by omega)]
    have:=ih (m / 10) (by omega) k (by omega) (by omega)
    omega
theorem Wq:Bo Tp 54 []=some (.agg ⟨cR (.empty,0)⟩):=by kernel_rfl
section
variable {W0:World} {m0:Inj Tp}
theorem Zc {b:UInt8} {A:AW} {K:Value→AW→Prop} (hk:K (.int .u8 (IC b:Int)) A):Wc Tp Aw W0 m0 99 [.int .u8 (b.toNat:Int)] A K:=by
 let I:Nat→Nat→List Value→AW→Prop:=fun g id vals A'=>id=0∧A'=A∧∃ n:Nat,vals=[.int .u8 (b.toNat:Int),.int .u8 (n:Int)]∧n≤16∧(∀ k,k < n→CM k≠b)∧g=16 - n
 refine w99 _ _ (c99 (I:=I) ?_) ?_
 ·rintro g id vals A' d ⟨rfl,rfl,n,rfl,hn,hno,rfl⟩ hd
  rw [Aad]
  simp only [L99,Mc,Mn,Li,and_true] at hd
  obtain ⟨d0,d3⟩:=hd
  simp only [d0,d3]
  refine Aa Be (Aq.2 ⟨fun hlt=>?_,fun hge=>?_⟩)
  ·have hlt:n < 16:=by omega
   refine UG hlt (Aa Ai (Af.2 ⟨fun hc=>?_,fun hc=>?_⟩))
   ·have e:CM n=b:=UInt8.toNat_inj.1 (by omega)
    rw [← e,Lm hlt] at hk
    exact hk
   ·have e2:IntKind.u8.wrap ((n:Int)+1)=((n+1:Nat):Int):=by simp [IntKind.wrap,IntKind.bits,IntKind.signed];omega
    simp only [Av,Ad,e2]
    refine Ah.2 ⟨16 - (n+1),by omega,rfl,rfl,n+1,rfl,by omega,fun k hk=>?_,rfl⟩
    rcases Nat.lt_or_ge k n with h | h
    ·exact hno k h
    ·obtain rfl:k=n:=by omega
     intro e;exact hc (by rw [e])
  ·have:n=16:=by omega
   subst this
   have e:IC b=16:=by
    unfold IC
    rw [Ff]
    intro h
    obtain ⟨h1,h2,_⟩:=GA (b:=b) h
    exact hno _ h2 h1
   rw [e] at hk
   exact hk
 ·rw [e99]
  exact Ah.2 ⟨_,rfl,rfl,0,rfl,by omega,fun k h=>absurd h (by omega),rfl⟩
theorem Zh {s:ByteArray} {A:AW} {K:Value→AW→Prop} (hl:(bl s).length < 90000000) (hf:AH A) (hA:A.next+2 * (bl s).length+10 < Ap)
  (hk:∀ A' u ok,(∀ l,bl s=BN l→bl u=l∧ok=true)→Grow A A' (2 * (bl s).length)→K (.tuple ⟨[.string u,.bool ok]⟩) A'):Wc Tp Aw W0 m0 73 [.string s] A K:=by
 have hroom:room=68719476736:=rfl
 have hmx:Ap=1099511627776:=rfl
 let I:Nat→Nat→List Value→AW→Prop:=fun g id vals A'=>id=0∧∃ (i:Nat) (v:Value) (o:List UInt8) (F:List Nat),vals=[.string s,v,.int .i64 ((2 * i:Nat):Int)]∧(bl s).length % 2=0∧2 * i≤(bl s).length∧o.length=i∧Buf 5 A' v o F∧(∀ x∈F,A.next≤x)∧
  (∀ l,bl s=BN l→o=l.take i)∧Grow A A' (2 * i)∧g=(bl s).length - 2 * i
 refine w73 _ _ (c73 (I:=I) ?_) ?_
 ·rintro g id vals A' d ⟨rfl,i,v,o,F,rfl,hev,hi,hol,hB,hF,hst,gr,rfl⟩ hd
  rw [Aai]
  simp only [L73,Mc,Mn,Li,and_true] at hd
  obtain ⟨d0,d4,d5⟩:=hd
  simp only [d0,d4,d5]
  have ng:=gr.next
  have le:=gr.le
  ·refine Aa (Ef _ _) (Aa Be (Aq.2 ⟨fun hlt=>?_,fun hge=>?_⟩))
   ·have hlt:2 * i < (bl s).length:=by have:((2 * i:Nat):Int) < ((bl s).length:Int):=hlt;omega
    have p0:=Ge hlt
    have p1:=Ge (l:=bl s) (i:=2 * i+1) (by omega)
    have h0:(bl s)[2 * i]? =some ((bl s)[2 * i]):=p0
    generalize (bl s)[2 * i]=b0 at p0
    generalize (bl s)[2 * i+1]=b1 at p1
    have e1:IntKind.i64.wrap (((2 * i:Nat):Int)+1)=((2 * i+1:Nat):Int):=wrap_i64 (by omega) (by omega)
    have e2:IntKind.i64.wrap (((2 * i:Nat):Int)+2)=((2 * (i+1):Nat):Int):=by rw [wrap_i64 (by omega) (by omega)];omega
    have i1:Bj Tp 9 (.string s) (.int .i64 ((2 * i+1:Nat):Int))=some (.int .u8 (b1.toNat:Int)):=ix9 p1
    have a1:∀ xo yo,Ag Tp .add 3 xo yo (.int .i64 ((2 * i:Nat):Int)) (.int .i64 1)=some (.int .i64 ((2 * i+1:Nat):Int)):=fun xo yo=>by rw [Av,e1]
    have hv0:=Te b0
    have hv1:=Te b1
    have dig:∀ l,bl s=BN l→IC b0 < 16∧IC b1 < 16:=fun l e=>by
     have m0:b0∈BN l:=by rw [← e];exact List.mem_of_getElem? p0
     have m1:b1∈BN l:=by rw [← e];exact List.mem_of_getElem? p1
     have q0:=IZ m0
     have q1:=IZ m1
     unfold IC
     rw [if_pos q0,if_pos q1]
     exact ⟨(GA q0).2.1,(GA q1).2.1⟩
    have bad:¬ (IC b0 < 16∧IC b1 < 16)→K (.tuple ⟨[.string ⟨⟨[]⟩⟩,.bool false]⟩) A':=fun h=>hk A' ⟨⟨[]⟩⟩ false (fun l e=>absurd (dig l e) h) (gr.more (by omega))
    refine Aa (ix9 p0) (Aa (a1 _ _) (Aa i1 (Zc (ck i1 (ck (a1 _ _) (Ao.2 (Ao.2 (Zc ?_))))))))
    refine Aa DK (Aq.2 ⟨fun h=>bad (by omega),fun hg0=>Aa DK (Aq.2 ⟨fun h=>bad (by omega),fun hg1=>?_⟩)⟩)
    have hx0:IC b0 < 16:=by omega
    have hx1:IC b1 < 16:=by omega
    refine Aa NR (Aa Av ?_)
    have ev:IntKind.u8.wrap (IntKind.u8.wrap (16 * (IC b0:Int))+(IC b1:Int))=((UInt8.ofNat (IC b0 * 16+IC b1)).toNat:Int):=by
     rw [UInt8.toNat_ofNat']
     simp [IntKind.wrap,IntKind.bits,IntKind.signed]
     omega
    rw [ev]
    refine N3 gr.Az (by omega) fun A2 m2=>?_
    have n2:=m2.next
    have k2:=m2.keeps gr.Az
    refine El DN (hB.keeps k2 (by simp)) (Ed DN (Made.rdB (c:=1) m2)) m2.Az (by omega) (by simp;omega) fun v' A3 F' v3 k3 hF3 n3 f3=>?_
    refine Aa Av ?_
    rw [e2]
    refine Ah.2 ⟨(bl s).length - 2 * (i+1),by omega,rfl,i+1,v',_,F',rfl,hev,by omega,by simp;omega,v3,fun x hx=>?_,fun l e=>?_,⟨(gr.keeps.trans k2 (by simp)).trans k3 (fun x hx=>.inr (hF x hx)),f3,by omega⟩,rfl⟩
    ·rcases hF3 x hx with h | h
     ·exact hF x h
     ·omega
    ·have hll:(bl s).length=2 * l.length:=by rw [e,Dy]
     have hlx:=Ge (l:=l) (i:=i) (by omega)
     generalize l[i]=x at hlx
     obtain ⟨q0,q1⟩:=Tf l i x hlx
     rw [← e,p0] at q0
     rw [← e,p1] at q1
     simp only [Oi] at q0 q1
     have hxb:=x.toNat_lt
     rw [Bm hlx,← hst l e,q0,q1,Lm (by omega),Lm (by omega),show x.toNat / 16 * 16+x.toNat % 16=x.toNat by omega]
     simp
   ·have hge:¬ (((2 * i:Nat):Int) < ((bl s).length:Int)):=hge
    have hi2:2 * i=(bl s).length:=by omega
    rw [hB.rd.str DN]
    refine Bg.2 (hk A' ⟨⟨o⟩⟩ true (fun l e=>⟨?_,rfl⟩) (gr.more (by omega)))
    have hll:(bl s).length=2 * l.length:=by rw [e,Dy]
    show o=l
    rw [hst l e,show i=l.length by omega,List.take_length]
 ·rw [e73]
  refine Aa (Ef _ _) (Aa (V9 (by decide)) (Aa BV (Bw.2 ⟨fun h=>?_,fun h=>?_⟩)))
  ·refine hk A ⟨⟨[]⟩⟩ false (fun l e=>?_) ⟨.refl _ _,hf,by omega⟩
   have hll:(bl s).length=2 * l.length:=by rw [e,Dy]
   have h:(((bl s).length % 2:Nat):Int)≠0:=h
   omega
  ·have h:(((bl s).length % 2:Nat):Int)=0:=h
   exact Ah.2 ⟨_,rfl,0,_,[],[],rfl,by omega,by omega,rfl,.nil _ _,by simp,fun l _=>by simp,⟨.refl _ _,hf,by omega⟩,rfl⟩
theorem AbC {s:ByteArray} {A:AW} {K:Value→AW→Prop} (hl:(bl s).length < 40000000) (hf:AH A) (hA:A.next+50 * (bl s).length+500 < Ap)
  (hk:∀ A' r,Xc (bl s) r→Grow A A' (12 * (bl s).length+50)→K (.agg ⟨cR r⟩) A'):Wc Tp Aw W0 m0 74 [.string s] A K:=by
 have hmx:Ap=1099511627776:=rfl
 let I:Nat→Nat→List Value→AW→Prop:=fun g id vals A'=>id=0∧∃ i:Nat,vals=[.string s,pP A.next 0,.int .i64 (i:Int)]∧i≤(bl s).length∧(58:UInt8)∉(bl s).take i∧Go.Abs.AD A' A.next (cR (.empty,0)) 54∧Grow A A' 1∧g=(bl s).length - i
 refine w74 _ _ (c74 (I:=I) ?_) ?_
 ·rintro g id vals A' d ⟨rfl,i,rfl,hi,hno,r0,gr,rfl⟩ hd
  rw [Aah]
  simp only [L74,Mc,Mn,Li,and_true] at hd
  obtain ⟨d0,d2,d3⟩:=hd
  simp only [d0,d2,d3]
  have ng:=gr.next
  have fin:∀ {B:AW} {r:ByteArray × Nat},Go.Abs.AD B A.next (cR (.empty,0)) 54→Grow A B (12 * (bl s).length+40)→Xc (bl s) r→(Bb (AB Tp B 54 (pP A.next 0) (.agg ⟨cR r⟩)) fun C=>Ab (At Tp C 54 (pP A.next 0)) fun t=>K t C):=fun {B r} q g hr=>by
   have nb:=g.next
   refine storeAll (n:=2) (new:=cR r) q g.Az (by omega) (Qj _ _ _) rfl rfl rfl fun C l2 k2 n2 f2=>?_
   exact Aa (Nf l2) (hk C r hr ((g.own k2 (fun x hx=>by rw [Ms.1 hx];exact Nl _) (m:=0) (by omega) f2).more (by omega)))
  refine Aa (Ef _ _) (Aa Be (Aq.2 ⟨fun hlt=>?_,fun hge=>?_⟩))
  ·have hlt:i < (bl s).length:=by have:(i:Int) < ((bl s).length:Int):=hlt;omega
   have hp:=Ge hlt
   generalize (bl s)[i]=b at hp
   have e2:IntKind.i64.wrap ((i:Int)+1)=((i+1:Nat):Int):=wrap_i64 (by omega) (by omega)
   refine Aa (ix9 hp) (Aa Ai (Af.2 ⟨fun hc=>?_,fun hc=>?_⟩))
   ·obtain rfl:b=58:=Cq (k:=58) (by decide) hc
    have hsp:bl s=(bl s).take i++[58]++(bl s).drop (i+1):=by
     conv=>lhs;rw [← List.take_append_drop i (bl s)]
     have:(bl s).drop i=58::(bl s).drop (i+1):=by
      obtain ⟨h,e⟩:=Gs.1 hp
      rw [List.drop_eq_getElem_cons h,e]
     rw [this];simp
    obtain ⟨u,e,hw⟩:=Jg ((bl s).take i)
    have hlt1:((bl s).take i).length≤(bl s).length:=by rw [List.length_take];omega
    have htw:=HY hw
    refine Aa (Yl (by omega)) (P8 (s:=txt ((bl s).take i)) (u:=u) (e:=e) hw (by show ((bl s).take i).length < _;omega) gr.Az (by show _+200+20 * ((bl s).take i).length < _;omega) fun A1 g1=>?_)
    have g1:Grow A' A1 (30+12 * ((bl s).take i).length):=g1
    have n1:=g1.next
    refine Aa Cw (Aa Cv (Aa Av ?_))
    rw [e2]
    refine Aa (TL (by omega)) (Pc (by rw [Cp,List.length_drop];omega) (Aa (Abi _ _) ?_))
    refine fin (r:=(⟨⟨u⟩⟩,CY ((bl s).drop (i+1)))) (r0.keeps g1.keeps (by simp)) ((gr.trans g1).more (by omega)) ⟨S5 _,by have:=htw.1;show u.length≤_;omega,fun p hp2 hw2=>?_⟩
    have h2:=H5 p
    rw [← hw2,hsp,Fv hno] at h2
    simp only [Li] at h2
    have h3:=J0 (c:=58) (l:=(bl s).drop (i+1)) (by rw [h2.2];rfl)
    rw [h2.2] at h3
    simp only [Li,and_true] at h3
    obtain ⟨h4,_⟩:=htw.2 _ h2.1
    rw [h4,← h3,Ey _ hp2]
   ·have hb:b≠58:=ZO (k:=58) (by decide) hc
    simp only [Av,Ad,e2]
    refine Ah.2 ⟨(bl s).length - (i+1),by omega,rfl,i+1,rfl,by omega,?_,r0,gr,rfl⟩
    rw [Bm hp]
    simp only [List.mem_append,Ms,not_or]
    exact ⟨hno,fun e=>hb e.symm⟩
  ·have hge:¬ ((i:Int) < ((bl s).length:Int)):=hge
   have:i=(bl s).length:=by omega
   subst this
   rw [List.take_length] at hno
   refine Aa Wq (fin (r:=(.empty,0)) r0 (gr.more (by omega)) ⟨by decide,by show (0:Nat)≤_;omega,fun p hp2 hw2=>?_⟩)
   have h2:=H5 p
   rw [← hw2,FT hno] at h2
   simp at h2
 ·rw [e74]
  refine AI Pa hf (by omega) rfl fun A1 m1=>?_
  exact Ah.2 ⟨_,rfl,0,rfl,by omega,by simp,m1.BU,Grow.made m1 hf,rfl⟩
set_option maxHeartbeats 1000000 in
theorem US {s:ByteArray} {A0 A1:AW} {K:Value→AW→Prop} {at0 stop:Nat} (hl:(bl s).length < 40000000) (hA:A0.next+5 * (bl s).length+5000 < Ap) (h1:at0+1≤stop) (hst:stop≤(bl s).length+1) (r0:Go.Abs.AD A1 A0.next DY.cells 32) (gr:Grow A0 A1 1)
  (hcan:∀ y,HV y→okX y=true→bl s=Cs y→stop < (bl s).length∧CY ((bl s).take at0)=y.f∧((bl s).take stop).drop (at0+1)=BN (bl y.g)∧(bl s).drop (stop+1)=BN (bl y.b))
  (hk:∀ A' x (e:Int),NmP (bl s) x→Grow A0 A' (4 * (bl s).length+1000)→K (.tuple ⟨[.agg ⟨x.cells⟩,.int .i64 e]⟩) A'):
  Ab (Ag Tp .geq 35 (.tmp 58) (.const (.int .u64 4294967296)) (.int .u64 (CY ((bl s).take at0):Int)) (.int .u64 4294967296)) fun t5=>Ae t5 (Ab (Bo Tp 32 []) fun t6=>Bb (AB Tp A1 32 (pP A0.next 0) t6) fun At7=>Ab (At Tp At7 32 (pP A0.next 0)) fun t8=>K (.tuple ⟨[t8,(.int .i64 5)]⟩) At7) (Ab (Bn Tp A1 9 (.string s)) fun t9=>Ab (Ag Tp .geq 3 (.tmp 61) (.tmp 63) (.int .i64 (stop:Int)) t9) fun t10=>Ae t10 (Ab (Bo Tp 32 []) fun t11=>Bb (AB Tp A1 32 (pP A0.next 0) t11) fun At12=>Ab (At Tp At12 32 (pP A0.next 0)) fun t13=>K (.tuple ⟨[t13,(.int .i64 5)]⟩) At12) (Ab (Ag Tp .add 3 (.tmp 69) (.const (.int .i64 1)) (.int .i64 (at0:Int)) (.int .i64 1)) fun t14=>Ab (Br Tp A1 9 (.string s) (some t14) (some (.int .i64 (stop:Int))) none) fun t15=>Wc Tp Aw W0 m0 73 [t15] A1 fun t16 At16=>Ab (BC t16 0) fun t17=>Ab (BC t16 1) fun t18=>Ab (Ag Tp .add 3 (.tmp 78) (.const (.int .i64 1)) (.int .i64 (stop:Int)) (.int .i64 1)) fun t19=>Ab (Br Tp At16 9 (.string s) (some t19) none none) fun t20=>Wc Tp Aw W0 m0 73 [t20] At16 fun t21 At21=>Ab (BC t21 0) fun t22=>Ab (BC t21 1) fun t23=>Al (Au Tp At21 35 30 (.int .u64 (CY ((bl s).take at0):Int))) fun t24 At24=>Ab (Bo Tp 32 [(0,t24),(1,t17),(2,t22)]) fun t25=>Al (BM Tp At24 32) fun t26 At26=>Bb (AB Tp At26 32 t26 t25) fun At27=>Ab (At Tp At27 32 t26) fun t28=>Wc Tp Aw W0 m0 60 [t28] At27 fun t29 At29=>Ab (BC t29 0) fun t30=>Ab (BC t29 1) fun t31=>Ab (unA Tp .not t18) fun t32=>Ae t32 (Ab (Bo Tp 32 []) fun t33=>Bb (AB Tp At29 32 (pP A0.next 0) t33) fun At34=>Ab (At Tp At34 32 (pP A0.next 0)) fun t35=>K (.tuple ⟨[t35,(.int .i64 5)]⟩) At34) (Ab (unA Tp .not t23) fun t36=>Ae t36 (Ab (Bo Tp 32 []) fun t37=>Bb (AB Tp At29 32 (pP A0.next 0) t37) fun At38=>Ab (At Tp At38 32 (pP A0.next 0)) fun t39=>K (.tuple ⟨[t39,(.int .i64 5)]⟩) At38) (Ab (Ag Tp .neq 3 (.tmp 101) (.const (.int .i64 0)) t31 (.int .i64 0)) fun t40=>Ae t40 (Ab (Bo Tp 32 []) fun t41=>Bb (AB Tp At29 32 (pP A0.next 0) t41) fun At42=>Ab (At Tp At42 32 (pP A0.next 0)) fun t43=>K (.tuple ⟨[t43,(.int .i64 5)]⟩) At42) (Ab (Ag Tp .neq 9 (.tmp 105) (.tmp 106) t30 (.string s)) fun t44=>Ae t44 (Ab (Bo Tp 32 []) fun t45=>Bb (AB Tp At29 32 (pP A0.next 0) t45) fun At46=>Ab (At Tp At46 32 (pP A0.next 0)) fun t47=>K (.tuple ⟨[t47,(.int .i64 5)]⟩) At46) (Ab (At Tp At29 32 t26) fun t48=>Bb (AB Tp At29 32 (pP A0.next 0) t48) fun At49=>Ab (At Tp At49 32 (pP A0.next 0)) fun t50=>K (.tuple ⟨[t50,(.int .i64 0)]⟩) At49)))))):=by
 have hmx:Ap=1099511627776:=rfl
 have ng:=gr.next
 have bad:∀ {B:AW} {N:Nat},Go.Abs.AD B A0.next DY.cells 32→Grow A0 B N→N≤4 * (bl s).length+900→(∀ y,HV y→okX y=true→bl s≠Cs y)→(Ab (Bo Tp 32 []) fun t=>Bb (AB Tp B 32 (pP A0.next 0) t) fun C=>Ab (At Tp C 32 (pP A0.next 0)) fun v=>K (.tuple ⟨[v,.int .i64 5]⟩) C):=fun {B N} q g hN hno=>by
  have nb:=g.next
  refine VL q g.Az (by omega) fun C k2 n2 f2=>?_
  exact hk C DY 5 ⟨RZ,fun y hy hy2 e=>absurd e (hno y hy hy2)⟩ ((g.own k2 (fun x hx=>by rw [Ms.1 hx];exact Nl _) (m:=0) (by omega) f2).more (by omega))
 refine Aa DT (Aq.2 ⟨fun h=>bad r0 gr (by omega) (fun y hy hy2 e=>?_),fun hn=>?_⟩)
 ·obtain ⟨_,h2,_⟩:=hcan y hy hy2 e
  have:y.f < 4294967296:=hy
  omega
 have hn:CY ((bl s).take at0) < 4294967296:=by omega
 refine Aa (Ef _ _) (Aa DT (Aq.2 ⟨fun h=>bad r0 gr (by omega) (fun y hy hy2 e=>?_),fun hs=>?_⟩))
 ·have h:((bl s).length:Int)≤(stop:Int):=h
  obtain ⟨h2,_⟩:=hcan y hy hy2 e
  omega
 have hs:¬ (((bl s).length:Int)≤(stop:Int)):=hs
 have hs:stop < (bl s).length:=by omega
 have e1:IntKind.i64.wrap ((at0:Int)+1)=((at0+1:Nat):Int):=wrap_i64 (by omega) (by omega)
 have e2:IntKind.i64.wrap ((stop:Int)+1)=((stop+1:Nat):Int):=wrap_i64 (by omega) (by omega)
 have hla:(((bl s).take stop).drop (at0+1)).length≤(bl s).length:=by rw [List.length_drop,List.length_take];omega
 have hlb:((bl s).drop (stop+1)).length≤(bl s).length:=by rw [List.length_drop];omega
 refine Aa Av ?_
 rw [e1]
 refine Aa (sl9 (by omega) (by show stop≤(bl s).length;omega)) (Zh (s:=txt (((bl s).take stop).drop (at0+1))) (by rw [Cp];omega) gr.Az (by rw [Cp];omega) fun A2 u1 ok1 hu1 g2=>?_)
 rw [Cp] at g2 hu1
 have n2:=g2.next
 refine Aa Cw (Aa Cv (Aa Av ?_))
 rw [e2]
 refine Aa (TL (by omega)) (Zh (s:=txt ((bl s).drop (stop+1))) (by rw [Cp];omega) g2.Az (by rw [Cp];omega) fun A3 u2 ok2 hu2 g3=>?_)
 rw [Cp] at g3 hu2
 have n3:=g3.next
 let x:Nm:=⟨CY ((bl s).take at0),u1,u2⟩
 have hx:HV x:=hn
 refine Aa Cw (Aa Cv (Co (HR _ _ _) ?_))
 rw [wrap_u32 (by omega) (by omega)]
 refine Aa (Abj _ _ _) (AI KX g3.Az (by omega) rfl fun A4 m4=>?_)
 have n4:=m4.next
 have k4:=m4.keeps g3.Az
 refine storeAll (n:=3) (new:=x.cells) m4.BU m4.Az (by omega) (FR _ _ _) rfl rfl rfl fun A5 r5 k5 n5 f5=>?_
 refine Aa (FB r5) (Zk hx f5 (by omega) fun A6 g6=>?_)
 have n6:=g6.next
 have K35:Ay A3 A5 []:=k4.trans k5 fun y hy=>.inr (by rw [Ms.1 hy];omega)
 have G6:Grow A0 A6 (4 * (bl s).length+800):=⟨(((gr.keeps.trans g2.keeps (by simp)).trans g3.keeps (by simp)).trans K35 (by simp)).trans g6.keeps (by simp),g6.Az,by omega⟩
 have r6:Go.Abs.AD A6 A0.next DY.cells 32:=(((r0.keeps g2.keeps (by simp)).keeps g3.keeps (by simp)).keeps K35 (by simp)).keeps g6.keeps (by simp)
 have q6:=r5.keeps g6.keeps (by simp)
 have same:∀ y,HV y→okX y=true→bl s=Cs y→x=y∧ok1=true∧ok2=true:=fun y hy hy2 e=>by
  obtain ⟨_,c1,c2,c3⟩:=hcan y hy hy2 e
  obtain ⟨a1,a2⟩:=hu1 _ c2
  obtain ⟨b1,b2⟩:=hu2 _ c3
  refine ⟨?_,a2,b2⟩
  show (⟨CY ((bl s).take at0),u1,u2⟩:Nm)=y
  rw [c1,show u1=y.g from ED a1,show u2=y.b from ED b1]
 have ht:Kq x=.tuple ⟨[.string ⟨⟨if okX x=true then Cs x else []⟩⟩,.int .i64 (if okX x=true then 0 else 40)]⟩:=rfl
 rw [ht]
 refine Aa Cw (Aa Cv (Aa D6 (Aj.2 ⟨fun h=>bad r6 G6 (by omega) (fun y hy hy2 e=>?_),fun ho1=>Aa D6 (Aj.2 ⟨fun h=>bad r6 G6 (by omega) (fun y hy hy2 e=>?_),fun ho2=>?_⟩)⟩)))
 ·rw [(same y hy hy2 e).2.1] at h;cases h
 ·rw [(same y hy hy2 e).2.2] at h;cases h
 ·refine Aa BV (Bw.2 ⟨fun h=>bad r6 G6 (by omega) (fun y hy hy2 e=>?_),fun h=>?_⟩)
  ·rw [(same y hy hy2 e).1,if_pos hy2] at h;exact h rfl
  ·refine Aa CP (Aj.2 ⟨fun h=>bad r6 G6 (by omega) (fun y hy hy2 e=>?_),fun h=>?_⟩)
   ·have h:(!((if okX x=true then Cs x else [])==bl s))=true:=h
    rw [(same y hy hy2 e).1,if_pos hy2,e] at h
    simp at h
   ·refine Aa (FB q6) (Go.Abs.AD.store (n:=3) (off:=0) (v:=.agg ⟨x.cells⟩) r6 g6.Az (by omega) (FR _ _ _) rfl (by simp [Nm.cells]) rfl fun A7 l7 k7 n7 f7=>?_)
    have l7:Go.Abs.AD A7 A0.next x.cells 32:=l7
    refine Aa (FB l7) (hk A7 x 0 ⟨hx,fun y hy hy2 e=>(same y hy hy2 e).1⟩ ((G6.own k7 (fun x hx=>by rw [Ms.1 hx];exact Nl _) (m:=0) (by omega) f7).more (by omega)))
def E42 (l:Word) (a:Nat):Prop:=(∀ b∈l.take a,48≤b.toNat∧b.toNat≤57)∧a≤l.length∧(a=l.length∨(∃ b,l[a]? =some b∧¬ (48≤b.toNat∧b.toNat≤57))∨4294967296≤CY (l.take a))
theorem Tt {l:Word} {a stop:Nat} {y:Nm} (hE:E42 l a) (h1:a+1≤stop) (hno:∀ k,a+1≤k→k < stop→l[k]? ≠some 46) (hex:l.length≤stop∨l[stop]? =some 46) (hy:HV y) (e:l=Cs y):
  stop < l.length∧CY (l.take a)=y.f∧(l.take stop).drop (a+1)=BN (bl y.g)∧l.drop (stop+1)=BN (bl y.b):=by
 obtain ⟨hd,hal,hx⟩:=hE
 have hf:y.f < 4294967296:=hy
 have e:l=Lib.decDigits y.f++46::(BN (bl y.g)++46::BN (bl y.b)):=by rw [e];simp [Cs]
 generalize hD:Lib.decDigits y.f=D at e
 generalize hG:BN (bl y.g)=G at e
 generalize hB:BN (bl y.b)=B at e
 have hlen:l.length=D.length+1+G.length+1+B.length:=by rw [e];simp;omega
 have q0:l[D.length]? =some 46:=by rw [e,List.getElem?_append_right (Nl _)];simp
 have ha:a=D.length:=by
  rcases Nat.lt_trichotomy a D.length with h | h | h
  ·exfalso
   have p0:l[a]? =D[a]? :=by rw [e,List.getElem?_append_left h]
   have p1:=Ge h
   have hm:D[a]∈Lib.decDigits y.f:=by rw [hD];exact List.getElem_mem h
   have hm2:=PL _ hm
   rcases hx with hx | ⟨b,hb,hb2⟩ | hx
   ·omega
   ·rw [p0,p1] at hb
    simp only [Oi] at hb
    rw [← hb] at hb2
    exact hb2 hm2
   ·have:l.take a=D.take a:=by rw [e,List.take_append_of_le_length (by omega)]
    rw [this,← hD] at hx
    have:=TT y.f a (by omega) (by rw [hD];omega)
    omega
  ·exact h
  ·exfalso
   have:(46:UInt8)∈l.take a:=by
    refine List.mem_of_getElem? (i:=D.length) ?_
    rw [List.getElem?_take,if_pos h];exact q0
   have:=hd _ this
   exact absurd this (by decide)
 subst ha
 have hdr:l.drop (D.length+1)=G++46::B:=by rw [e,← List.drop_drop,List.drop_left];rfl
 have gt:∀ j,l[D.length+1+j]? =(G++46::B)[j]? :=fun j=>by rw [← hdr,List.getElem?_drop]
 have hs:stop=D.length+1+G.length:=by
  rcases Nat.lt_trichotomy stop (D.length+1+G.length) with h | h | h
  ·exfalso
   rcases hex with hex | hex
   ·omega
   ·have:=gt (stop - (D.length+1))
    rw [show D.length+1+(stop - (D.length+1))=stop by omega,hex,List.getElem?_append_left (by omega)] at this
    have:(46:UInt8)∈BN (bl y.g):=by rw [hG];exact List.mem_of_getElem? this.symm
    exact KF (by decide) _ this
  ·exact h
  ·exfalso
   refine hno (D.length+1+G.length) (by omega) h ?_
   rw [gt,List.getElem?_append_right (Nl _)];simp
 subst hs
 refine ⟨by omega,?_,?_,?_⟩
 ·have:l.take D.length=D:=by rw [e];simp
  rw [this,← hD,Ey _ (by omega)]
 ·rw [List.drop_take,hdr,show D.length+1+G.length - (D.length+1)=G.length by omega]
  simp
 ·rw [show D.length+1+G.length+1=(D.length+1)+(G.length+1) by omega,← List.drop_drop,hdr]
  rw [show G++46::B=(G++[46])++B by simp]
  have:(G++[46]).length=G.length+1:=by simp
  rw [← this,List.drop_left]
set_option maxHeartbeats 1000000 in
theorem Zt {s:ByteArray} {A:AW} {K:Value→AW→Prop} (hl:(bl s).length < 40000000) (hf:AH A) (hA:A.next+5 * (bl s).length+5000 < Ap)
  (hk:∀ A' x (e:Int),NmP (bl s) x→Grow A A' (4 * (bl s).length+1000)→K (.tuple ⟨[.agg ⟨x.cells⟩,.int .i64 e]⟩) A'):Wc Tp Aw W0 m0 42 [.string s] A K:=by
 have hmx:Ap=1099511627776:=rfl
 let I:Nat→Nat→List Value→AW→Prop:=fun g id vals A'=>
  (id=0∧∃ a:Nat,vals=[.string s,pP A.next 0,.int .u64 (CY ((bl s).take a):Int),.int .i64 (a:Int)]∧a≤(bl s).length∧(∀ b∈(bl s).take a,48≤b.toNat∧b.toNat≤57)∧Go.Abs.AD A' A.next DY.cells 32∧Grow A A' 1∧g=2 * (bl s).length+10 - a)∨
  (id=2∧∃ a stop:Nat,vals=[.string s,pP A.next 0,.int .u64 (CY ((bl s).take a):Int),.int .i64 (a:Int),.int .i64 (stop:Int)]∧E42 (bl s) a∧a+1≤stop∧stop≤(bl s).length+1∧(∀ k,a+1≤k→k < stop→(bl s)[k]? ≠some 46)∧Go.Abs.AD A' A.next DY.cells 32∧Grow A A' 1∧g=(bl s).length+1 - stop)
 refine w42 _ _ (c42 (I:=I) ?_) ?_
 ·rintro g id vals A' d (⟨rfl,a,rfl,ha,hd48,r0,gr,rfl⟩ | ⟨rfl,a,stop,rfl,hE,h1,hst,hno,r0,gr,rfl⟩) hd
  ·rw [Aaw]
   simp only [L42,Mc,Mn,Li,and_true] at hd
   obtain ⟨d0,d2,d4,d5⟩:=hd
   simp only [d0,d2,d4,d5]
   have e2:IntKind.i64.wrap ((a:Int)+1)=((a+1:Nat):Int):=wrap_i64 (by omega) (by omega)
   have out:E42 (bl s) a→(Ab (Ag Tp .add 3 (.tmp 44) (.const (.int .i64 1)) (.int .i64 (a:Int)) (.int .i64 1)) fun t13=>AZ (T42 2) (T42 2) (∃ g2,g2 < 2 * (bl s).length+10 - a∧I g2 2 [.string s,pP A.next 0,.int .u64 (CY ((bl s).take a):Int),.int .i64 (a:Int),t13] A')):=fun hE=>by
    refine Aa Av ?_
    rw [e2]
    exact Ah.2 ⟨(bl s).length+1 - (a+1),by omega,.inr ⟨rfl,a,a+1,rfl,hE,by omega,by omega,fun k h1 h2=>absurd h1 (by omega),r0,gr,rfl⟩⟩
   refine Aa (Ef _ _) (Aa Be (Aq.2 ⟨fun hlt=>?_,fun hge=>?_⟩))
   ·have hlt:a < (bl s).length:=by have:(a:Int) < ((bl s).length:Int):=hlt;omega
    have hp:=Ge hlt
    generalize (bl s)[a]=b at hp
    have hb:=b.toNat_lt
    refine Aa (ix9 hp) (Aa DT (Aq.2 ⟨fun h3=>?_,fun h3=>out ⟨hd48,ha,.inr (.inl ⟨b,hp,by omega⟩)⟩⟩))
    refine Aa (ix9 hp) (Aa Fl (Aq.2 ⟨fun h4=>?_,fun h4=>out ⟨hd48,ha,.inr (.inl ⟨b,hp,by omega⟩)⟩⟩))
    refine Aa Be (Aq.2 ⟨fun h5=>?_,fun h5=>out ⟨hd48,ha,.inr (.inr (by omega))⟩⟩)
    refine Aa NR (Aa (ix9 hp) (Aa DS ?_))
    rw [P3]
    refine Co (I9 (Nat.mod_lt _ (by decide)) _) (Aa Av ?_)
    have e:IntKind.u64.wrap (IntKind.u64.wrap (10 * (CY ((bl s).take a):Int))+(((b.toNat+208) % 256:Nat):Int))=(CY ((bl s).take (a+1)):Int):=by
     rw [Bm hp,Jq,show (10 * (CY ((bl s).take a):Int))=((10 * CY ((bl s).take a):Nat):Int) by omega,Jf]
     rw [show (((10 * CY ((bl s).take a) % 18446744073709551616:Nat):Int)+(((b.toNat+208) % 256:Nat):Int))=((10 * CY ((bl s).take a) % 18446744073709551616+(b.toNat+208) % 256:Nat):Int) by omega,Jf]
     congr 1
     omega
    rw [e]
    simp only [Av,Ad,e2]
    refine Ah.2 ⟨2 * (bl s).length+10 - (a+1),by omega,.inl ⟨rfl,a+1,rfl,by omega,fun x hx=>?_,r0,gr,rfl⟩⟩
    rw [Bm hp] at hx
    rcases List.mem_append.1 hx with hx | hx
    ·exact hd48 x hx
    ·rw [Ms.1 hx];omega
   ·have hge:¬ ((a:Int) < ((bl s).length:Int)):=hge
    exact out ⟨hd48,ha,.inl (by omega)⟩
  ·rw [Aav]
   simp only [L42,Mc,Mn,Li,and_true] at hd
   obtain ⟨d0,d2,d4,d5,d6⟩:=hd
   simp only [d0,d2,d4,d5,d6]
   refine Aa (Ef _ _) (Aa Be (Aq.2 ⟨fun hlt=>?_,fun hge=>?_⟩))
   ·have hlt:stop < (bl s).length:=by have:(stop:Int) < ((bl s).length:Int):=hlt;omega
    have hp:=Ge hlt
    generalize (bl s)[stop]=b at hp
    refine Aa (ix9 hp) (Aa BV (Bw.2 ⟨fun hc=>?_,fun hc=>?_⟩))
    ·have e2:IntKind.i64.wrap ((stop:Int)+1)=((stop+1:Nat):Int):=wrap_i64 (by omega) (by omega)
     simp only [Av,Ad,e2]
     refine Ah.2 ⟨(bl s).length+1 - (stop+1),by omega,.inr ⟨rfl,a,stop+1,rfl,hE,by omega,by omega,fun k q1 q2=>?_,r0,gr,rfl⟩⟩
     rcases Nat.lt_or_ge k stop with h | h
     ·exact hno k q1 h
     ·obtain rfl:k=stop:=by omega
      rw [hp]
      intro e
      simp only [Oi] at e
      exact hc (by rw [e];rfl)
    ·obtain rfl:b=46:=Cq (k:=46) (by decide) hc
     exact US hl hA h1 hst r0 gr (fun y hy _ e=>Tt hE h1 hno (.inr hp) hy e) hk
   ·have hge:¬ ((stop:Int) < ((bl s).length:Int)):=hge
    exact US hl hA h1 hst r0 gr (fun y hy _ e=>Tt hE h1 hno (.inl (by omega)) hy e) hk
 ·rw [e42]
  refine AI KX hf (by omega) rfl fun A1 m1=>?_
  exact Ah.2 ⟨_,.inl ⟨rfl,0,rfl,by omega,fun b hb=>by simp at hb,m1.BU,Grow.made m1 hf,rfl⟩⟩
end
end Go.Proofs.YtebidlpekphaoaaGreatDoor
