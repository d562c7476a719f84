/-
  This text prints what the functions reached ask of their memory, and shows what they answer. Conditions: none for the last theorem, those that each theorem states for the others.
-/
import Derived.Test.YtkjlldaddekegaaGreatDoorPd
set_option maxRecDepth 100000
set_option maxHeartbeats 1000000
namespace Go.Proofs.YtkjlldaddekegaaGreatDoor
open Go.Abs
theorem Aew(a:Addr)(xo yo:Operand):Ah Tryz.prog .neq 27 xo yo (.pointer (some a)) (.pointer none)=some (.bool true):=by kernel_rfl
theorem Aex(a:Addr)(xo yo:Operand):Ah Tryz.prog .neq 25 xo yo (.pointer (some a)) (.pointer none)=some (.bool true):=by kernel_rfl
theorem AaR(a:Addr)(xo yo:Operand):Ah Tryz.prog .neq 72 xo yo (.pointer (some a)) (.pointer none)=some (.bool true):=by kernel_rfl
theorem Aeu(a:Nat)(xo yo:Operand):Ah Tryz.prog .neq 75 xo yo (.map (some a)) (.map none)=some (.bool true):=by kernel_rfl
theorem Aev(a:Nat)(xo yo:Operand):Ah Tryz.prog .neq 68 xo yo (.map (some a)) (.map none)=some (.bool true):=by kernel_rfl
theorem Yi(a:Nat)(xo yo:Operand):Ah Tryz.prog .neq 119 xo yo (.map (some a)) (.map none)=some (.bool true):=by kernel_rfl
structure Env (A:AW) (lg dk:Nat):Prop where
 dk:∃ r,Go.Abs.AF A dk [.map (some r),.int .i64 200000,.int .i64 0,.bool false] 70
 lg:∃ j r,Go.Abs.AF A lg [.pointer (some j),.int .u32 2,.map (some r)] 121
theorem Env.keeps{A A':AW}{lg dk:Nat}{S:List Nat}(h:Env A lg dk)(k:AA A A' S)(h1:lg∉S)(h2:dk∉S):Env A' lg dk:=by
 obtain ⟨⟨r,a⟩,⟨j,r',b⟩⟩:=h;exact ⟨⟨r,a.keeps k h2⟩,⟨j,r',b.keeps k h1⟩⟩
section
variable {W0:World} {m0:Inj Tryz.prog} {c lg dk rm am sr:Nat} {out:Value} {A:AW} {K:Value→AW→Prop}
theorem Tb(hc:CR A c lg dk rm am sr out)(hk:K (.bool true) A):Wc Tryz.prog Af W0 m0 26 [.pointer (some ⟨c,0,none⟩)] A K:=by
 refine w26 _ _ Bu ?_;rw [e26];simp only [Aew,Ab,Bf];refine Ai.2 ⟨fun _=>?_,fun h=>by cases h⟩;simp only [D0,GR,Ag hc.row,cellOf,BG,Au,Ch,Cf,Ab,Nat.zero_add,Aeu];exact hk
theorem Aaz(he:Env A lg dk)(hk:K (.bool false) A):Wc Tryz.prog Af W0 m0 106 [.pointer (some ⟨dk,0,none⟩)] A K:=by
 obtain ⟨⟨r,hd⟩,_⟩:=he;refine Aek _ _ Bu ?_;rw [Afk];refine w51 _ _ Bu ?_;rw [e51];simp only [Aex,Ab,Bf];refine Ai.2 ⟨fun _=>?_,fun h=>by cases h⟩;simp only [Xj,Abc,Ag hd.row,cellOf,BG,Au,Ch,Cf,Ab,Nat.zero_add,Aev,BC,Xi,OT,Bm];exact Ai.2 ⟨fun h=>(by cases h),fun _=>hk⟩
theorem Adx(hc:CR A c lg dk rm am sr out)(ho:HE out)(he:Env A lg dk)(hk:K (.bool false) A):Wc Tryz.prog Af W0 m0 71 [.pointer (some ⟨c,0,none⟩)] A K:=by
 refine w71 _ _ Bu ?_;rw [e71];refine Tb hc ?_;simp only [BC,Ab];refine Ai.2 ⟨fun h=>(by cases h),fun _=>?_⟩;simp only [Bf,Ab,Xe,Xh,OT,Abf,Ag hc.row,cellOf,BG,Au,Ch,Bm,ho.noT,Cf,Nat.zero_add];exact Ai.2 ⟨fun h=>(by cases h),fun _=>Aaz he hk⟩
theorem AdG(he:Env A lg dk)(hk:K (.int .u32 2) A):Wc Tryz.prog Af W0 m0 27 [.pointer (some ⟨lg,0,none⟩)] A K:=by
 obtain ⟨_,⟨j,r,hd⟩⟩:=he;refine w27 _ _ Bu ?_;rw [e27];refine w63 _ _ Bu ?_;rw [e63];simp only [AaR,Ab,Bf];refine Ai.2 ⟨fun _=>?_,fun h=>by cases h⟩;simp only [M0,RL,Ag hd.row,cellOf,BG,Au,Ch,Cf,Ab,Nat.zero_add,Yi,BC,VS,E9];exact Ai.2 ⟨fun h=>(by cases h),fun _=>hk⟩
theorem wc8(hc:CR A c lg dk rm am sr out)(he:Env A lg dk)(hk:K (.int .u32 2) A):Wc Tryz.prog Af W0 m0 8 [.pointer (some ⟨c,0,none⟩)] A K:=by
 refine w8 _ _ Bu ?_;rw [e8];refine Tb hc ?_;simp only [BC,Ab];refine Ai.2 ⟨fun h=>(by cases h),fun _=>?_⟩;simp only [Bf,Ab,SY,Yt,Ag hc.row,cellOf,BG,Cf,Nat.zero_add];exact AdG he hk
theorem AdE{fv:Value}(hc:CR A c lg dk rm am sr out)(ho:HE out)(he:Env A lg dk)(hk:anW Tryz.prog Af W0 m0 (EL Tryz.prog Af A fv []) K):Wc Tryz.prog Af W0 m0 32 [.pointer (some ⟨c,0,none⟩),fv] A K:=by
 refine w32 _ _ _ Bu ?_;rw [e32];refine Tb hc ?_;simp only [BC,Ab];refine Ai.2 ⟨fun h=>(by cases h),fun _=>Adx hc ho he (Ai.2 ⟨fun h=>(by cases h),fun _=>hk⟩)⟩
theorem AdH(hc:CR A c lg dk rm am sr out)(ho:HE out)(hf:AB A)(hA:A.next<Ak)(hk:∀ A',CR A' c lg dk rm am sr (.slice none 0 0)→AA A A' [c]→A'.next=A.next→AB A'→K out A'):Wc Tryz.prog Af W0 m0 12 [.pointer (some ⟨c,0,none⟩)] A K:=by
 refine w12 _ _ Bu ?_;rw [e12];refine Tb hc ?_;simp only [BC,Ab];refine Ai.2 ⟨fun h=>(by cases h),fun _=>?_⟩;simp only [Bf,Ab,OY,VC,Ag hc.row,cellOf,BG,Au,Ch,Bm,ho.noT,Cf,Nat.zero_add];exact hc.store hf (by omega) (Yf _ _ _) rfl (by simp) rfl fun A4 r4 k4 n4 f4=>hk A4 r4 k4 n4 f4
theorem AbZ(n:Nat)(x:Nm):Aw Tryz.prog 135 [(0,.int .u8 (n:Int)),(1,.agg ⟨x.cells⟩)]=some (.agg ⟨(Pt.mk n x).cells⟩):=by kernel_rfl
theorem Aa3{p:Pt}(hf:AB A)(h:A.next<Ak)(hk:∀ A',Made A A' p.cells 135→K (.slice (some ⟨A.next,0,none⟩) 1 1) A'):Al (Aq Tryz.prog A 48 1 [(0,.agg ⟨p.cells⟩)]) K:=
 Gx (cs:=p.cells) (e:=135) (n:=1) (by kernel_rfl) rfl hf h hk
theorem Uo{n:Int}(h1:0≤n)(h2:n<256):IntKind.u8.wrap n=n:=by
 have:IntKind.u8.wrap n=n%256:=by simp [IntKind.wrap,IntKind.bits,IntKind.signed]
 rw [this];omega
end
variable {A:AW} {K:Value→AW→Prop} {q r c:Nat} {e:TypeId}
theorem ZD(A:AW)(l:Nat)(a:Addr):EL Tryz.prog Af A (.func (.func 167) ⟨[]⟩ ⟨[.pointer (some a)]⟩) [.func (.yield l) #[] #[]]=.ok (.enter 167 [.func (.yield l) #[] #[],.pointer (some a)]) A:=by kernel_rfl
theorem VU(a b:Value):Ar (.tuple #[a,b]) 0=some a:=rfl
theorem Xm(a b c:Value):Ar (.tuple #[a,b,c]) 0=some a:=rfl
theorem Xn(a:Value):Ar (.tuple #[a]) 0=some a:=rfl
theorem Ki{γ:Type}:∀ {a b:List γ},a.Nodup→(∀ x∈a,x∈b)→a.length≤b.length
 |[],_,_,_=>Nat.zero_le _
 |x::a,b,hn,hs=>by
  obtain ⟨s,t,rfl⟩:=List.append_of_mem (hs x List.mem_cons_self);rw [List.nodup_cons] at hn
  have:=Ki (a:=a) (b:=s++t) hn.2 fun y hy=>by
   have hne:y≠x:=fun e=>hn.1 (e▸hy);rcases Mz.1 (hs y (List.mem_cons_of_mem _ hy)) with h | h
   ·exact List.mem_append_left _ h
   ·rcases Mk.1 h with h | h
    ·exact absurd h hne
    ·exact List.mem_append_right _ h
  simp only [Lq,Lc] at *;omega
theorem RB{p:Nm}(hf:AB A)(h:A.next<Ak)(hk:∀ A',Made A A' p.cells 24→K (.slice (some ⟨A.next,0,none⟩) 1 1) A'):Al (Aq Tryz.prog A 34 1 [(0,.agg ⟨p.cells⟩)]) K:=
 Gx (cs:=p.cells) (e:=24) (n:=1) (by kernel_rfl) rfl hf h hk
theorem Di{p:Nm}(h:Go.Abs.AF A q p.cells e):Ad Tryz.prog A 24 (.pointer (some ⟨q,0,none⟩))=some (.agg ⟨p.cells⟩):=Fi (pre:=[]) (post:=[]) (by simpa using h)
theorem Yh{p:Nm}{cs:List Value}{K:AW→Prop}(h:Go.Abs.AF A q cs e)(hl:cs.length=3)(hf:AB A)(hb:A.next≤Ak)(hk:∀ A',Go.Abs.AF A' q p.cells e→AA A A' [q]→A'.next=A.next→AB A'→K A'):
  AQ (Am Tryz.prog A 24 (.pointer (some ⟨q,0,none⟩)) (.agg ⟨p.cells⟩)) K:=by
 refine h.store hf hb (HO _ _ _) rfl (by omega) rfl fun A' h1 k1 n1 f1=>hk A' ?_ k1 n1 f1
 match cs,hl with
 |[_,_,_],_=>exact h1
theorem AaJ(q b:Nat)(v:Value):(CZ (SB ⟨13,.nil⟩ [(0,.slice none 0 0),(1,.func (.func 167) ⟨[]⟩ ⟨[.pointer (some ⟨q,0,none⟩)]⟩),(2,.pointer (some ⟨b,0,none⟩)),(4,.slice none 0 0),(6,.func (.func 167) ⟨[]⟩ ⟨[.pointer (some ⟨q,0,none⟩)]⟩)]) [(7,v)]).sz=13∧
  (CZ (SB ⟨13,.nil⟩ [(0,.slice none 0 0),(1,.func (.func 167) ⟨[]⟩ ⟨[.pointer (some ⟨q,0,none⟩)]⟩),(2,.pointer (some ⟨b,0,none⟩)),(4,.slice none 0 0),(6,.func (.func 167) ⟨[]⟩ ⟨[.pointer (some ⟨q,0,none⟩)]⟩)]) [(7,v)]).get 2=.pointer (some ⟨b,0,none⟩)∧
  (CZ (SB ⟨13,.nil⟩ [(0,.slice none 0 0),(1,.func (.func 167) ⟨[]⟩ ⟨[.pointer (some ⟨q,0,none⟩)]⟩),(2,.pointer (some ⟨b,0,none⟩)),(4,.slice none 0 0),(6,.func (.func 167) ⟨[]⟩ ⟨[.pointer (some ⟨q,0,none⟩)]⟩)]) [(7,v)]).get 7=v:=⟨by kernel_rfl,by kernel_rfl,by kernel_rfl⟩
section
variable {W0:World} {m0:Inj Tryz.prog} {β:Type} {ve:β→Value}
abbrev SP(tm:Tm)(D:Nat)(ac bd:Code):GB:={ state:=.ready,pending:=none,fn:=223,tm:=tm,params:=[7],assign:=ac,body:=bd,defers:=D }
theorem Aar {b l D:Nat} {es:List (En Nm β)} {tm:Tm} {ac bd:Code} (has:ac=cd 223 [1,0,1,0,0]) (hbd:bd=cd 223 [1,0,1,0,1]) (hq:Go.Abs.AF A q [.map (some r)] 75) (hm:Ef kN ve A r es c) (hb:Go.Abs.AF A b [.slice none 0 0] 34) (hl:GA A l (SP tm D ac bd)) (hbl:b≠l) (hqb:q≠b) (hql:q≠l) (hrb:r≠b) (hrl:r≠l)
  (ht:∀ v,(CZ tm [(7,v)]).sz=13∧(CZ tm [(7,v)]).get 2=.pointer (some ⟨b,0,none⟩)∧(CZ tm [(7,v)]).get 7=v) (hf:AB A) (hes:es.length<100000) (hA:A.next+20+6*es.length<Ak)
  (hk:∀ A' sv F (vs:List (En Nm β)),Go.Abs.AF A' b [sv] 34→GA A' l (SP tm D ac bd)→C4 24 2 Nm.cells A' sv (vs.map En.k) F→vs.Perm es→(∀ x∈F,A.next<x)→AA A A' [b,l]→A'.next≤A.next+1+6*es.length→AB A'→K (.tuple ⟨[]⟩) A'):
  Wc Tryz.prog Af W0 m0 167 [.func (.yield l) #[] #[],.pointer (some ⟨q,0,none⟩)] A K:=by
 have hblt:=hb.lt;have hllt:=hl.lt;have hqlt:=hq.lt;have hrlt:=hm.ltA;let I:Nat→Nat→List Value→AW→Prop:=fun g id vals A'=>id=0∧∃ (sv:Value) (F:List Nat) (vs:List (En Nm β)),vals=[.func (.yield l) #[] #[],.pointer (some ⟨A.next,0,none⟩)]∧Iter A' A.next r c vs∧Ef kN ve A' r es c∧Go.Abs.AF A' b [sv] 34∧GA A' l (SP tm D ac bd)∧
  C4 24 2 Nm.cells A' sv (vs.map En.k) F∧(∀ e∈vs,e∈es)∧(vs.map En.b).Nodup∧(∀ x∈F,A.next<x)∧AA A A' [b,l]∧AB A'∧A'.next≤A.next+1+6*vs.length∧g=es.length-vs.length
 refine Ad3 _ _ _ (c167 (I:=I) ?_) ?_
 ·rintro g id vals A' d ⟨rfl,sv,F,vs,rfl,hit,hm',hb',hl',ho,hvs,hnd,hF,k,f,nx,rfl⟩ hd;rw [Zq];simp only [Wu,Mc,Mn,Li,and_true] at hd;obtain ⟨d0,d5⟩:=hd;rw [d0,d5];have hlen:=Ki (HW _ hnd) hvs;refine hm'.next hit hvs f (by omega) (fun e A2 he hnv it2 k2 n2 f2=>?_) fun hall=>?_
  ·have hm2:=hm'.keeps k2 (by simp;omega);have hb2:=hb'.keeps k2 (by simp;omega);have hl2:=hl'.keeps k2 (by simp;omega);have ho2:=ho.keeps k2 (fun x hx=>by have:=hF x hx;simp;omega);have K2:AA A A2 [b,l]:=k.trans k2 (by simp);have hvs2:∀ x∈vs++[e],x∈es:=fun x hx=>by
    rcases Mz.1 hx with h | h
    ·exact hvs x h
    ·rw [Ms.1 h];exact he
   have hnd2:((vs++[e]).map En.b).Nodup:=by
    rw [List.map_append,List.nodup_append];refine ⟨hnd,by simp,fun x hx y hy hxy=>hnv ?_⟩;obtain ⟨z,hz,rfl⟩:=List.mem_map.1 hx;obtain rfl:y=e.b:=by simpa using hy
    rw [← Yx hm.nb (hvs z hz) he hxy];exact hz
   have hlen2:=Ki (HW _ hnd2) hvs2;have hl1:(vs++[e]).length=vs.length+1:=by simp
   have hle:=K2.next;simp only [Xm,Ab];refine Ai.2 ⟨fun _=>?_,fun h=>by cases h⟩;refine hm2.entry it2 he ?_;simp only [VU,Ab];refine AX EG f2 (by omega) rfl fun A3 m3=>?_;have n3:=m3.next;have k3:=m3.keeps f2;refine Yh (p:=e.k) m3.Bk rfl m3.Ao (by omega) fun A4 h4 k4 n4 f4=>?_;have K24:AA A2 A4 []:=k3.trans k4 (by simp);simp only [Di h4,Ab];have hb4:=hb2.keeps K24 (by simp);have hl4:=hl2.keeps K24 (by simp);have hm4:=hm2.keeps K24 (by simp);have it4:=it2.keeps K24 (by simp);have ho4:=ho2.keeps K24 (by simp);obtain ⟨t1,t2,t3⟩:=ht (kN e.k);refine Pu hl4 rfl (U6 (T:=XL) (L:=XM) (N:=4000) gX gP Ji (by decide) t1 ?_);rw [has,hbd,Y6];have t2:(CZ tm (List.zip [7] [kN e.k])).get 2=.pointer (some ⟨b,0,none⟩):=t2;have t3:(CZ tm (List.zip [7] [kN e.k])).get 7=.agg ⟨e.k.cells⟩:=t3;refine AX EG f4 (by omega) rfl fun A5 m5=>?_;have n5:=m5.next;have k5:=m5.keeps f4;have t3':(CZ tm (List.zip [7] [Value.agg ⟨e.k.cells⟩])).get 7=.agg ⟨e.k.cells⟩:=t3;have t2':(CZ tm (List.zip [7] [Value.agg ⟨e.k.cells⟩])).get 2=.pointer (some ⟨b,0,none⟩):=t2;simp only [t3'];refine Yh (p:=e.k) m5.Bk rfl m5.Ao (by omega) fun A6 h6 k6 n6 f6=>?_;have K46:AA A4 A6 []:=k5.trans k6 (by simp);refine QL (hl4.keeps K46 (by simp)) rfl f6 (by omega) fun A7 hl7 k7 n7 f7=>?_;have hb7:=(hb4.keeps K46 (by simp)).keeps k7 (by simp;omega);have ho7:=(ho4.keeps K46 (by simp)).keeps k7 (fun x hx=>by have:=hF x hx;simp;omega);have h7:=h6.keeps k7 (by simp;omega);have one7:=ho7.one;simp only [t2',E8,Ag hb7.row,cellOf,one7.2,Cf,Di h7,Ab];refine RB f7 (by omega) fun A8 m8=>?_;have n8:=m8.next;have k8:=m8.keeps f7;refine C4.append etN (ho7.keeps k8 (by simp)) m8.Bk m8.Ao (by omega) (by rw [List.length_map];omega) fun sv5 A9 F5 ho9 k9 hF9 n9 f9=>?_;have hb9:=(hb7.keeps k8 (by simp)).keeps k9 (fun hm=>by have:=hF _ hm;omega);have hl9:=(hl7.keeps k8 (by simp)).keeps k9 (fun hm=>by have:=hF _ hm;omega);have hm9:=(((hm4.keeps K46 (by simp)).keeps k7 (by simp;omega)).keeps k8 (by simp)).keeps k9 (fun hm=>by have:=hF _ hm;omega);have hit9:=(((it4.keeps K46 (by simp)).keeps k7 (by simp;omega)).keeps k8 (by simp)).keeps k9 (fun hm=>by have:=hF _ hm;omega);have hF9':∀ x∈F5,A.next<x:=fun x hx=>by
    rcases hF9 x hx with h | h
    ·exact hF x h
    ·omega
   obtain ⟨o5,hx5⟩:∃ o n c,sv5=.slice o n c:=by
    rcases ho9 with ⟨rfl,_⟩ | ⟨_,_,rfl,_⟩
    ·exact ⟨_,_,_,rfl⟩
    ·exact ⟨_,_,_,rfl⟩
   refine hb9.store f9 (by omega) (UX _ _ _) (by obtain ⟨n,c,rfl⟩:=hx5;rfl) (by simp) (by obtain ⟨n,c,rfl⟩:=hx5;rfl) fun A10 hb10 k10 n10 f10=>?_;have hb10:Go.Abs.AF A10 b [sv5] 34:=by obtain ⟨n,c,rfl⟩:=hx5;exact hb10
   refine Qb (hl9.keeps k10 (by simp;omega)) f10 (by omega) fun A11 hl11 k11 n11 f11=>?_;have hl11:GA A11 l (SP tm D ac bd):=hl11;simp only [BC,Ab];refine Ai.2 ⟨fun h=>(by cases h),fun _=>?_⟩;refine AE.2 ⟨es.length-(vs.length+1),by omega,rfl,sv5,F5,vs++[e],rfl,(hit9.keeps k10 (by simp;omega)).keeps k11 (by simp;omega),(hm9.keeps k10 (by simp;omega)).keeps k11 (by simp;omega),hb10.keeps k11 (by simp;omega),hl11,?_,hvs2,hnd2,hF9',?_,f11,by omega,by omega⟩
   ·rw [List.map_append];exact (ho9.keeps k10 (fun x hx=>by have:=hF9' x hx;simp;omega)).keeps k11 (fun x hx=>by have:=hF9' x hx;simp;omega)
   ·exact ((((((K2.trans K24 (by simp)).trans K46 (by simp)).trans k7 (by simp)).trans k8 (by simp)).trans k9 (fun x hx=>.inr (by have:=hF x hx;omega))).trans k10 (by simp)).trans k11 (by simp)
  ·simp only [Xn,Ab];refine Ai.2 ⟨fun h=>(by cases h),fun _=>?_⟩;exact hk A' sv F vs hb' hl' ho (UM hm.nb hnd hvs hall) hF k (by omega) f
 ·rw [Ae3];simp only [GR,Ag hq.row,cellOf,Ch,Cf,Ab];refine hm.range mtG hf (by omega) fun A1 hit k1 n1 f1=>?_;exact AE.2 ⟨es.length,rfl,.slice none 0 0,[],[],rfl,hit,hm.keeps k1 (by simp),hb.keeps k1 (by simp),hl.keeps k1 (by simp),.nil _,by simp,by simp,by simp,k1.more (by simp),f1,by simp;omega,rfl⟩
theorem XT {es:List (En Nm β)} (hq:Go.Abs.AF A q [.map (some r)] 75) (hm:Ef kN ve A r es c) (hf:AB A) (hes:es.length<100000) (hA:A.next+40+6*es.length<Ak)
  (hk:∀ A' sv F (vs:List (En Nm β)),C4 24 2 Nm.cells A' sv (vs.map En.k) F→vs.Perm es→(∀ x∈F,A.next≤x)→AA A A' []→A'.next≤A.next+20+6*es.length→AB A'→K sv A'):
  Wc Tryz.prog Af W0 m0 223 [.slice none 0 0,.func (.func 167) ⟨[]⟩ ⟨[.pointer (some ⟨q,0,none⟩)]⟩] A K:=by
 have hqlt:=hq.lt;have hrlt:=hm.ltA;refine AdN _ _ _ Bu ?_;rw [AeN];refine AH (cs:=[.slice none 0 0]) hf (by omega) rfl fun A1 m1=>?_;have n1:=m1.next;have k1:=m1.keeps hf;refine RH m1.Ao (by omega) fun A2 hD hl k2 n2 f2=>?_;have K2:AA A A2 []:=k1.trans k2 (by simp);refine ⟨167,_,A2,ZD A2 _ ⟨q,0,none⟩,Aar rfl rfl (hq.keeps K2 (by simp)) (hm.keeps K2 (by simp)) (m1.Bk.keeps k2 (by simp)) hl (by omega) (by omega) (by omega) (by omega) (by omega) (fun v=>AaJ q _ v) f2 hes (by omega) fun A3 sv F vs hb3 hl3 ho3 hp hF k3 n3 f3=>?_⟩;refine NI hl3 (show LoopState.ready≠LoopState.busy from fun h=>by cases h) rfl f3 (by omega) fun A4 k4 n4 f4=>?_;have hb4:=hb3.keeps k4 (by simp;omega);have ho4:=ho3.keeps k4 (fun x hx=>by have:=hF x hx;simp;omega);have one4:=ho4.one;simp only [E8,Ag hb4.row,cellOf,one4.2,Cf,Ab];refine Q6 ((hD.keeps k3 (by simp;omega)).keeps k4 (by simp)) f4 (by omega) fun A5 k5 n5 f5=>?_;refine hk A5 sv F vs (ho4.keeps k5 (fun x hx=>by have:=hF x hx;simp;omega)) hp (fun x hx=>by have:=hF x hx;omega) ?_ (by omega) f5;exact ((K2.trans k3 (by simp;omega)).trans k4 (by simp;omega)).trans k5 (by simp;omega)
end
section
variable {W0:World} {m0:Inj Tryz.prog}
theorem X1{v:Value}{x:Nm}{F:List Nat}(hv:RdE 2 Nm.cells A v [x] F)(hk:K (.tuple ⟨[]⟩) A):Wc Tryz.prog Af W0 m0 166 [v,.func (.func 95) #[] #[]] A K:=by
 obtain ⟨o,c,rfl⟩:=hv.slice;exact ⟨by kernel_rfl,LY (mg:=[]) (kn:=fun _=>[]) (n:=2000) gX gP (by kernel_rfl) hk⟩
theorem AdC {lg dk rm am sr cl:Nat} {out:Value} {e:En Nm GV} (hc:CR A c lg dk rm am sr out) (hm:Ef kN vG A rm [e] cl) (hf:AB A) (hA:A.next+60<Ak)
  (hk:∀ A' sv F,RdE 2 Nm.cells A' sv [e.k] F→(∀ x∈F,A.next≤x)→AA A A' []→A'.next≤A.next+40→AB A'→K sv A'):Wc Tryz.prog Af W0 m0 38 [.pointer (some ⟨c,0,none⟩)] A K:=by
 refine w38 _ _ Bu ?_;rw [e38];simp only [Bf,Ab,D0,GR,Ag hc.row,cellOf,BG,Au,Ch,Cf,Nat.zero_add];refine w94 _ _ Bu ?_;rw [e94];refine AH (cs:=[_]) hf (by omega) rfl fun A1 m1=>?_;have n1:=m1.next;have k1:=m1.keeps hf;refine w93 _ _ _ Bu ?_;rw [e93];refine AaE _ _ Bu ?_;rw [Abz];refine XT m1.Bk (hm.keeps k1 (by simp)) m1.Ao (by simp) (by simp;omega) fun A2 sv F vs ho hp hF k2 n2 f2=>?_;have hvs:=List.perm_singleton.1 hp;subst hvs;have hrd:RdE 2 Nm.cells A2 sv [e.k] F:=C4.rd (fun _=>rfl) ho;refine X1 hrd ?_;exact hk A2 sv F hrd (fun x hx=>by have:=hF x hx;omega) (k1.trans k2 (by simp)) (by simp at n2;omega) f2
end
end Go.Proofs.YtkjlldaddekegaaGreatDoor
namespace Go.Proofs.YtkjlldaddekegaaGreatDoor.Lt
open Go.Abs
theorem Et(b o:Nat):Ac Tryz.prog 24 (.pointer (some ⟨b,o,none⟩)) 0=some (.pointer (some ⟨b,o,none⟩)):=by kernel_rfl
theorem Es(b o:Nat):Ac Tryz.prog 24 (.pointer (some ⟨b,o,none⟩)) 1=some (.pointer (some ⟨b,o+1,none⟩)):=by kernel_rfl
theorem Fu(b o:Nat):Ac Tryz.prog 24 (.pointer (some ⟨b,o,none⟩)) 2=some (.pointer (some ⟨b,o+2,none⟩)):=by kernel_rfl
theorem Cw(b o:Nat):Ac Tryz.prog 38 (.pointer (some ⟨b,o,none⟩)) 0=some (.pointer (some ⟨b,o,none⟩)):=by kernel_rfl
theorem Er(b o:Nat):Ac Tryz.prog 38 (.pointer (some ⟨b,o,none⟩)) 1=some (.pointer (some ⟨b,o+1,none⟩)):=by kernel_rfl
theorem EW(b o:Nat):Ac Tryz.prog 38 (.pointer (some ⟨b,o,none⟩)) 2=some (.pointer (some ⟨b,o+4,none⟩)):=by kernel_rfl
theorem Ft(b o:Nat):Ac Tryz.prog 38 (.pointer (some ⟨b,o,none⟩)) 3=some (.pointer (some ⟨b,o+5,none⟩)):=by kernel_rfl
theorem DT(b o:Nat):Ac Tryz.prog 38 (.pointer (some ⟨b,o,none⟩)) 4=some (.pointer (some ⟨b,o+6,none⟩)):=by kernel_rfl
theorem JX(b o:Nat):Ac Tryz.prog 254 (.pointer (some ⟨b,o,none⟩)) 0=some (.pointer (some ⟨b,o,none⟩)):=by kernel_rfl
theorem VQ(b o:Nat):Ac Tryz.prog 254 (.pointer (some ⟨b,o,none⟩)) 1=some (.pointer (some ⟨b,o+1,none⟩)):=by kernel_rfl
theorem Qp(b o:Nat):Ac Tryz.prog 254 (.pointer (some ⟨b,o,none⟩)) 2=some (.pointer (some ⟨b,o+2,none⟩)):=by kernel_rfl
theorem Ia(b o:Nat):Ac Tryz.prog 256 (.pointer (some ⟨b,o,none⟩)) 0=some (.pointer (some ⟨b,o,none⟩)):=by kernel_rfl
theorem OT(A:AW)(a:Addr):Ad Tryz.prog A 4 (.pointer (some a))=A.cell? a:=by kernel_rfl
theorem DV(A:AW)(a:Addr):Ad Tryz.prog A 5 (.pointer (some a))=A.cell? a:=by kernel_rfl
theorem Kq(A:AW)(a:Addr):Ad Tryz.prog A 9 (.pointer (some a))=A.cell? a:=by kernel_rfl
theorem E9(A:AW)(a:Addr):Ad Tryz.prog A 22 (.pointer (some a))=A.cell? a:=by kernel_rfl
theorem Ec(A:AW)(a:Addr):Ad Tryz.prog A 24 (.pointer (some a))=(match A.cells? a 3 with | some l=>some (.agg ⟨l⟩) | none=>none):=by kernel_rfl
theorem IT(A:AW)(a:Addr):Ad Tryz.prog A 35 (.pointer (some a))=A.cell? a:=by kernel_rfl
theorem JS(A:AW)(a:Addr):Ad Tryz.prog A 36 (.pointer (some a))=A.cell? a:=by kernel_rfl
theorem E8(A:AW)(a:Addr):Ad Tryz.prog A 34 (.pointer (some a))=A.cell? a:=by kernel_rfl
theorem Yu(A:AW)(a:Addr):Ad Tryz.prog A 38 (.pointer (some a))=(match A.cells? a 7 with | some l=>some (.agg ⟨l⟩) | none=>none):=by kernel_rfl
theorem KY(A:AW)(a:Addr):Ad Tryz.prog A 52 (.pointer (some a))=A.cell? a:=by kernel_rfl
theorem MK(A:AW)(a:Addr):Ad Tryz.prog A 252 (.pointer (some a))=A.cell? a:=by kernel_rfl
theorem Y3(A:AW)(a:Addr)(v:Value):Am Tryz.prog A 4 (.pointer (some a)) v=(bif Nat.beq v.cells.toList.length 1 then A.setCells a v.cells.toList else none):=by kernel_rfl
theorem Y2(A:AW)(a:Addr)(v:Value):Am Tryz.prog A 5 (.pointer (some a)) v=(bif Nat.beq v.cells.toList.length 1 then A.setCells a v.cells.toList else none):=by kernel_rfl
theorem UT(A:AW)(a:Addr)(v:Value):Am Tryz.prog A 9 (.pointer (some a)) v=(bif Nat.beq v.cells.toList.length 1 then A.setCells a v.cells.toList else none):=by kernel_rfl
theorem HO(A:AW)(a:Addr)(v:Value):Am Tryz.prog A 24 (.pointer (some a)) v=(bif Nat.beq v.cells.toList.length 3 then A.setCells a v.cells.toList else none):=by kernel_rfl
theorem UX(A:AW)(a:Addr)(v:Value):Am Tryz.prog A 34 (.pointer (some a)) v=(bif Nat.beq v.cells.toList.length 1 then A.setCells a v.cells.toList else none):=by kernel_rfl
theorem AaN(A:AW)(a:Addr)(v:Value):Am Tryz.prog A 38 (.pointer (some a)) v=(bif Nat.beq v.cells.toList.length 7 then A.setCells a v.cells.toList else none):=by kernel_rfl
theorem PF(A:AW)(a:Addr)(v:Value):Am Tryz.prog A 52 (.pointer (some a)) v=(bif Nat.beq v.cells.toList.length 1 then A.setCells a v.cells.toList else none):=by kernel_rfl
theorem Abt(b o n c i:Nat)(k:IntKind):Aj Tryz.prog 34 (.slice (some ⟨b,o,none⟩) n c) (.int k (.ofNat i))=(bif Nat.blt i n then some (.pointer (some (DM ⟨b,o,none⟩ (i*3)))) else none):=by kernel_rfl
theorem Qi(b o n c i:Nat)(k:IntKind):Aj Tryz.prog 52 (.slice (some ⟨b,o,none⟩) n c) (.int k (.ofNat i))=(bif Nat.blt i n then some (.pointer (some (DM ⟨b,o,none⟩ (i*1)))) else none):=by kernel_rfl
theorem Zw(b o n c i:Nat)(k:IntKind):Aj Tryz.prog 261 (.slice (some ⟨b,o,none⟩) n c) (.int k (.ofNat i))=(bif Nat.blt i n then some (.pointer (some (DM ⟨b,o,none⟩ (i*1)))) else none):=by kernel_rfl
theorem Zv(b o i:Nat)(k:IntKind):Aj Tryz.prog 302 (.pointer (some ⟨b,o,none⟩)) (.int k (.ofNat i))=(bif Nat.blt i 16 then some (.pointer (some (DM ⟨b,o,none⟩ (i*1)))) else none):=by kernel_rfl
theorem OP(A:AW)(s:ByteArray):Br Tryz.prog A 9 (.string s)=some (.int .i64 s.data.toList.length):=by kernel_rfl
theorem Aa7(A:AW)(a:Option Addr)(n c:Nat):Br Tryz.prog A 34 (.slice a n c)=some (.int .i64 n):=by kernel_rfl
theorem JQ(A:AW)(a:Option Addr)(n c:Nat):Br Tryz.prog A 52 (.slice a n c)=some (.int .i64 n):=by kernel_rfl
theorem Vw(A:AW)(a:Option Addr)(n c:Nat):Br Tryz.prog A 261 (.slice a n c)=some (.int .i64 n):=by kernel_rfl
theorem tb:BT Tryz.prog 5 52 9 where
 sl:=by kernel_rfl
 sz:=by kernel_rfl
 by_:=by kernel_rfl
 hz:=by kernel_rfl
 us:=by kernel_rfl
 ub:=by kernel_rfl
 ust:=by kernel_rfl
 zt:=by kernel_rfl
 ln:=JQ
 ia:=fun b o n c i k=>Qi b o n c i k
 ld:=DV
 st:=Y2
theorem R8(A:AW)(n:Int)(k:IntKind):AK Tryz.prog A 3 5 (.int k n)=.ok (.int .u8 (IntKind.u8.wrap n)) A:=by kernel_rfl
theorem SZ(A:AW)(n:Int)(k:IntKind):AK Tryz.prog A 76 5 (.int k n)=.ok (.int .u8 (IntKind.u8.wrap n)) A:=by kernel_rfl
theorem Xv(A:AW)(n:Int)(k:IntKind):AK Tryz.prog A 36 5 (.int k n)=.ok (.int .u8 (IntKind.u8.wrap n)) A:=by kernel_rfl
theorem LM(A:AW)(n:Int)(k:IntKind):AK Tryz.prog A 22 5 (.int k n)=.ok (.int .u8 (IntKind.u8.wrap n)) A:=by kernel_rfl
theorem QC(A:AW)(n:Int)(k:IntKind):AK Tryz.prog A 22 76 (.int k n)=.ok (.int .u64 (IntKind.u64.wrap n)) A:=by kernel_rfl
theorem QB(A:AW)(n:Int)(k:IntKind):AK Tryz.prog A 36 76 (.int k n)=.ok (.int .u64 (IntKind.u64.wrap n)) A:=by kernel_rfl
theorem LL(A:AW)(n:Int)(k:IntKind):AK Tryz.prog A 3 76 (.int k n)=.ok (.int .u64 (IntKind.u64.wrap n)) A:=by kernel_rfl
theorem Xs(A:AW)(n:Int)(k:IntKind):AK Tryz.prog A 76 3 (.int k n)=.ok (.int .i64 (IntKind.i64.wrap n)) A:=by kernel_rfl
theorem V7(A:AW)(n:Int)(k:IntKind):AK Tryz.prog A 76 22 (.int k n)=.ok (.int .u32 (IntKind.u32.wrap n)) A:=by kernel_rfl
theorem S0(A:AW)(n:Int)(k:IntKind):AK Tryz.prog A 5 22 (.int k n)=.ok (.int .u32 (IntKind.u32.wrap n)) A:=by kernel_rfl
theorem Xu(A:AW)(n:Int)(k:IntKind):AK Tryz.prog A 5 36 (.int k n)=.ok (.int .u16 (IntKind.u16.wrap n)) A:=by kernel_rfl
theorem V8(A:AW)(n:Int)(k:IntKind):AK Tryz.prog A 5 3 (.int k n)=.ok (.int .i64 (IntKind.i64.wrap n)) A:=by kernel_rfl
theorem Xt(A:AW)(n:Int)(k:IntKind):AK Tryz.prog A 5 76 (.int k n)=.ok (.int .u64 (IntKind.u64.wrap n)) A:=by kernel_rfl
theorem EG:C2 Tryz.prog 24=some (.agg #[.int .u32 0,.string .empty,.string .empty]):=by kernel_rfl
theorem NR:Aw Tryz.prog 24 []=some (.agg ⟨[.int .u32 0,.string ⟨⟨[]⟩⟩,.string ⟨⟨[]⟩⟩]⟩):=by kernel_rfl
theorem ZR:Aw Tryz.prog 38 []=some (.agg ⟨[.int .u8 0,.int .u32 0,.string ⟨⟨[]⟩⟩,.string ⟨⟨[]⟩⟩,.int .u8 0,.int .u16 0,.slice none 0 0]⟩):=by kernel_rfl
theorem LW:C2 Tryz.prog 38=some (.agg #[.int .u8 0,.int .u32 0,.string .empty,.string .empty,.int .u8 0,.int .u16 0,.slice none 0 0]):=by kernel_rfl
theorem Afr(A:AW)(n:Int):Aq Tryz.prog A 52 1 [(0,.int .u8 n)]=(match A.newRow [.int .u8 n] 5 with | some (a,w')=>.ok (.slice (some a) 1 1) w' | none=>.fail "buildSlice new"):=by kernel_rfl
theorem ZP(A:AW)(n m:Int):Aq Tryz.prog A 52 2 [(0,.int .u8 n),(1,.int .u8 m)]=(match A.newRow [.int .u8 n,.int .u8 m] 5 with | some (a,w')=>.ok (.slice (some a) 2 2) w' | none=>.fail "buildSlice new"):=by kernel_rfl
theorem ZO(A:AW)(a b c d:Int):Aq Tryz.prog A 52 4 [(0,.int .u8 a),(1,.int .u8 b),(2,.int .u8 c),(3,.int .u8 d)]=(match A.newRow [.int .u8 a,.int .u8 b,.int .u8 c,.int .u8 d] 5 with | some (a,w')=>.ok (.slice (some a) 4 4) w' | none=>.fail "buildSlice new"):=by kernel_rfl
theorem AbN(A:AW)(a b:Option Addr)(n1 c1 n2 c2:Nat):Aq Tryz.prog A 261 2 [(0,.slice a n1 c1),(1,.slice b n2 c2)]=(match A.newRow [.slice a n1 c1,.slice b n2 c2] 52 with | some (a,w')=>.ok (.slice (some a) 2 2) w' | none=>.fail "buildSlice new"):=by kernel_rfl
theorem Aft(A:AW)(f:Int)(g b:ByteArray):Aq Tryz.prog A 34 1 [(0,.agg ⟨[.int .u32 f,.string g,.string b]⟩)]=(match A.newRow [.int .u32 f,.string g,.string b] 24 with | some (a,w')=>.ok (.slice (some a) 1 1) w' | none=>.fail "buildSlice new"):=by kernel_rfl
theorem TN(n m:Int):Bi Tryz.prog (BJ (Tm.fill ⟨2,.nil⟩ 0 [.int .u8 n,.int .u8 m])) (.buildSlice 52 2 #[(0,.tmp 0),(1,.tmp 1)])=some (.slice [.int .u8 n,.int .u8 m] 5 2):=by kernel_rfl
theorem VK(a b:Option Addr)(n1 c1 n2 c2:Nat):Bi Tryz.prog (BJ (Tm.fill ⟨2,.nil⟩ 0 [.slice a n1 c1,.slice b n2 c2])) (.buildSlice 261 2 #[(0,.tmp 0),(1,.tmp 1)])=some (.slice [.slice a n1 c1,.slice b n2 c2] 52 2):=by kernel_rfl
theorem Xb(f:Int)(g b:ByteArray):Bi Tryz.prog (BJ (Tm.fill ⟨1,.nil⟩ 0 [.agg ⟨[.int .u32 f,.string g,.string b]⟩])) (.buildSlice 34 1 #[(0,.tmp 0)])=some (.slice [.int .u32 f,.string g,.string b] 24 1):=by kernel_rfl
theorem Zz:quiet Tryz.prog (underlying 24)=some (.struct (Tryz.prog.fieldsOf 24)):=by kernel_rfl
noncomputable def F24(i:Nat):Field:=(Tryz.prog.fieldsOf 24).toList.getD i default
theorem ZA:(Tryz.prog.fieldsOf 24).toList=[F24 0,F24 1,F24 2]:=by kernel_rfl
def LX(f:Int)(g b:ByteArray):Value:=.agg ⟨[.int .u32 f,.string g,.string b]⟩
theorem Mq(f:Int)(g b:ByteArray):quiet Tryz.prog (part (F24 0).type ⟨[.int .u32 f,.string g,.string b]⟩ (F24 0).offset)=some (.int .u32 f):=by kernel_rfl
theorem Mp(f:Int)(g b:ByteArray):quiet Tryz.prog (part (F24 1).type ⟨[.int .u32 f,.string g,.string b]⟩ (F24 1).offset)=some (.string g):=by kernel_rfl
theorem Mo(f:Int)(g b:ByteArray):quiet Tryz.prog (part (F24 2).type ⟨[.int .u32 f,.string g,.string b]⟩ (F24 2).offset)=some (.string b):=by kernel_rfl
theorem Q2:(F24 0).type=22:=by kernel_rfl
theorem Q1:(F24 1).type=9:=by kernel_rfl
theorem QZ:(F24 2).type=9:=by kernel_rfl
theorem ut9:quiet Tryz.prog (underlying 9)=some .string:=by kernel_rfl
theorem YX:quiet Tryz.prog (underlying 22)=some (.int .u32):=by kernel_rfl
def E6(f f':Int)(g g' b b':ByteArray):Bool:=f==f'&&(g.data.toList==g'.data.toList&&b.data.toList==b'.data.toList)
theorem OF(f f':Int)(g g' b b':ByteArray):quiet Tryz.prog (Op.equal 24 (LX f g b) (LX f' g' b'))=some (E6 f f' g g' b b'):=by
 show quiet Tryz.prog (Op.equalIn (9999+1) 24 _ _)=_;unfold LX;rw [JG 9999 24 _ _ Zz (by kernel_rfl),ZA];rw [DR (by kernel_rfl) (Mq f g b) (Mq f' g' b') (by rw [Q2];exact He 9998 22 _ _ _ _ YX)];rw [DR (by kernel_rfl) (Mp f g b) (Mp f' g' b') (by rw [Q1];exact Is ut9)];rw [DR (by kernel_rfl) (Mo f g b) (Mo f' g' b') (by rw [QZ];exact Is ut9)];unfold E6;cases f==f'<;>cases g.data.toList==g'.data.toList<;>cases b.data.toList==b'.data.toList<;>rfl
variable {t:TypeId} {xo yo:Operand} {a b n f:Int} {A:AW} {K:Value→AW→Prop} {g:ByteArray}
theorem LR{P:Program}{k:IntKind}:Ah P .mul t xo yo (.int k a) (.int k b)=some (.int k (k.wrap (a*b))):=by simp [Ah,binOp,Op.intArith,quiet,Cx,AG,pure]
theorem II{P:Program}{k:IntKind}(hb:b≠0):Ah P .rem t xo yo (.int k a) (.int k b)=some (.int k (a.tmod b)):=by simp [Ah,binOp,Op.intDiv,hb,quiet,Cx,AG,pure]
theorem LQ{P:Program}{k:IntKind}(hb:b≠0):Ah P .quo t xo yo (.int k a) (.int k b)=some (.int k (k.wrap (a.tdiv b))):=by simp [Ah,binOp,Op.intDiv,hb,quiet,Cx,AG,pure]
theorem Gz{P:Program}{k k2:IntKind}(hb:¬ b<0):Ah P .shr t xo yo (.int k a) (.int k2 b)=some (.int k (a.fdiv (2^(min b.toNat k.bits)))):=by simp [Ah,binOp,Op.shift,hb,quiet,Cx,AG,pure]
theorem wrap_u8:IntKind.u8.wrap n=n%256:=by
 simp [IntKind.wrap,IntKind.bits,IntKind.signed]
theorem wrap_u64(h1:0≤n)(h2:n<18446744073709551616):IntKind.u64.wrap n=n:=by
 simp [IntKind.wrap,IntKind.bits,IntKind.signed];omega
theorem HV(n:Nat):((UInt8.ofNat n).toNat:Int)=(n:Int)%256:=by
 rw [UInt8.toNat_ofNat'];omega
def CW(s:ByteArray):Nat:=s.data.toList.length
def be(n:Nat):Nat→List UInt8
 |0=>[]
 |i+1=>UInt8.ofNat (n/256^i)::be n i
theorem BB(n:Nat):∀ i,(be n i).length=i
 |0=>rfl
 |i+1=>by rw [be,Lc,BB n i]
section
variable {W0:World} {m0:Inj Tryz.prog}
theorem Uv{w:Int}(hk:K (.bool (w==1 || (w==2 || (w==4 || w==8)))) A):Wc Tryz.prog Af W0 m0 200 [.int .i64 w] A K:=by
 refine Ad1 _ _ Bu ?_;rw [Ae1];simp only [Bh,Ab,Ay];refine ⟨fun h=>by subst h;exact hk,fun h1=>⟨fun h=>by subst h;exact hk,fun h2=>⟨fun h=>by subst h;exact hk,fun h3=>⟨fun h=>by subst h;exact hk,fun h4=>?_⟩⟩⟩⟩
 have:(w==1 || (w==2 || (w==4 || w==8)))=false:=by simp [h1,h2,h3,h4]
 rw [this] at hk;exact hk
def Ce(g b:ByteArray):Int:=if CW g=0∨64<CW g∨64<CW b then 40 else 0
theorem QU{b:ByteArray}(hf:AB A)(hA:A.next<Ak)(hk:∀ A',Grow A A' 1→K (.int .i64 (Ce g b)) A'):Wc Tryz.prog Af W0 m0 97 [LX f g b] A K:=by
 refine w97 _ _ Bu ?_;rw [e97];refine AH (cs:=(Value.cells (LX f g b)).toList) hf hA rfl fun A1 m1=>?_;have hg:A1.get A.next=some (.row [.int .u32 f,.string g,.string b] 24 A.next 0 false):=m1.row;have hr:=hk A1 (.made m1 hf);simp only [Es,Fu,Kq,OP,Ag hg,cellOf,isTuple,Cf,Ab,Oh,Cy,Ap,Nat.zero_add];refine Ai.2 ⟨fun h=>?_,fun h=>⟨fun h2=>?_,fun h2=>⟨fun h3=>?_,fun h3=>?_⟩⟩⟩
 ·have:CW g=0:=by unfold CW;rw [beq_iff_eq.1 h];rfl
  rw [show Ce g b=40 by unfold Ce;rw [if_pos (.inl this)]] at hr;exact hr
 ·rw [show Ce g b=40 by unfold Ce;rw [if_pos (.inr (.inl (by unfold CW;omega)))]] at hr;exact hr
 ·rw [show Ce g b=40 by unfold Ce;rw [if_pos (.inr (.inr (by unfold CW;omega)))]] at hr;exact hr
 ·have:CW g≠0:=by
   unfold CW;intro h0;rw [List.eq_nil_of_length_eq_zero h0] at h;simp at h
  rw [show Ce g b=0 by unfold Ce;rw [Ff (by unfold CW at *;omega)]] at hr;exact hr
theorem YI{b:ByteArray}(hf:AB A)(hA:A.next<Ak)(hk:∀ A',Grow A A' 1→K (.int .i64 (Ce g b)) A'):Wc Tryz.prog Af W0 m0 67 [LX f g b] A K:=by
 refine w67 _ _ Bu ?_;rw [e67];refine AH (cs:=(Value.cells (LX f g b)).toList) hf hA rfl fun A1 m1=>?_;have hg:A1.get A.next=some (.row [.int .u32 f,.string g,.string b] 24 A.next 0 false):=m1.row;have hr:=hk A1 (.made m1 hf);simp only [Es,Fu,Kq,OP,Ag hg,cellOf,isTuple,Cf,Ab,Bb,Cy,Ap,Nat.zero_add];refine ⟨fun h=>?_,fun h=>⟨fun h2=>?_,fun h2=>⟨fun h3=>?_,fun h3=>?_⟩⟩⟩
 ·rw [show Ce g b=40 by unfold Ce;rw [if_pos (.inl (by unfold CW;omega))]] at hr;exact hr
 ·rw [show Ce g b=40 by unfold Ce;rw [if_pos (.inr (.inl (by unfold CW;omega)))]] at hr;exact hr
 ·rw [show Ce g b=40 by unfold Ce;rw [if_pos (.inr (.inr (by unfold CW;omega)))]] at hr;exact hr
 ·rw [show Ce g b=0 by unfold Ce;rw [Ff (by unfold CW;omega)]] at hr;exact hr
theorem O8(hf:AB A)(h:A.next<Ak)(hk:∀ A',Made A A' [.int .u8 n] 5→K (.slice (some ⟨A.next,0,none⟩) 1 1) A'):Al (Aq Tryz.prog A 52 1 [(0,.int .u8 n)]) K:=by
 rw [Afr];unfold AW.newRow AW.new;simp only [show ([Value.int .u8 n].all AP)=true from rfl,Ct,Ax.2 h];exact AR.2 (hk (A.push (.row [.int .u8 n] 5 A.next 0 false)) ⟨AW.Cv _ h,rfl,by rw [AW.Cg _ h,if_pos rfl],hf.alone (Nl _),hf.push _ h⟩)
theorem ZM{b:Nat}{c:UInt8}(h:Go.Abs.AF A b [.int .u8 c.toNat] 5):Buf 5 A (.slice (some ⟨b,0,none⟩) 1 1) [c] [b]:=
 .inr (.inr ⟨b,1,[],rfl,by decide,by simpa [Az] using h,rfl,rfl,rfl⟩)
end
variable {w n:Nat} {A:AW} {K:Value→AW→Prop} {v:Value} {l:List UInt8} {F0:List Nat}
theorem Ht(n i:Nat):IntKind.u8.wrap ((n:Int).fdiv (2^(8*i)))=((UInt8.ofNat (n/256^i)).toNat:Int):=by
 rw [wrap_u8,HV,Int.fdiv_eq_ediv_of_nonneg _ (Int.pow_nonneg (by decide))];rw [show (2:Int)^(8*i)=((256^i:Nat):Int) by rw [Int.pow_mul,show (2:Int)^8=((256:Nat):Int) from by decide,Int.natCast_pow]];rfl
theorem Uj{i:Nat}(n:Nat)(h:i<w):Ee (List.replicate (w-i) (.int .u8 0)++Az (be n i)) (w-1-i) [.int .u8 ((UInt8.ofNat (n/256^i)).toNat:Int)]=List.replicate (w-(i+1)) (.int .u8 0)++Az (be n (i+1)):=by
 have e1:w-i=(w-1-i)+1:=by omega
 have e2:w-(i+1)=w-1-i:=by omega
 rw [e1,e2,List.replicate_succ',Mw];have h:=EZ (List.replicate (w-1-i) (Value.int .u8 0)) [.int .u8 0] [.int .u8 ((UInt8.ofNat (n/256^i)).toNat:Int)] (Az (be n i)) rfl;rw [List.length_replicate] at h;rw [h];rfl
section
variable {W0:World} {m0:Inj Tryz.prog}
theorem XV (hf:AB A) (hA:A.next+1<Ak) (hw:w≤8)
  (hk:∀ A' v F,Grow A A' 1→Buf 5 A' v (be n w) F→(∀ x∈F,A.next≤x)→K v A'):Wc Tryz.prog Af W0 m0 206 [.int .u64 (n:Int),.int .i64 (w:Int)] A K:=by
 let I:Nat→Nat→List Value→AW→Prop:=fun g id vals A'=>id=0∧∃ i:Nat,vals=[.int .u64 (n:Int),.int .i64 (w:Int),.slice (some ⟨A.next,0,none⟩) w w,.int .i64 (w:Int),.int .i64 (i:Int)]∧i≤w∧
  Go.Abs.AF A' A.next (List.replicate (w-i) (.int .u8 0)++Az (be n i)) 5∧Grow A A' 1∧A'.next=A.next+1∧g=w-i
 refine AdW _ _ _ (c206 (I:=I) ?_) ?_
 ·rintro g id vals A' d ⟨rfl,i,rfl,hi,hr,hg,hn,rfl⟩ hd;rw [Zp];have h0:d 0=.int .u64 (n:Int):=by simp [Pq] at hd;exact hd.1
  have h1:d 1=.int .i64 (w:Int):=by simp [Pq] at hd;exact hd.2.1
  have h5:d 5=.slice (some ⟨A.next,0,none⟩) w w:=by simp [Pq] at hd;exact hd.2.2.1
  have h10:d 10=.int .i64 (w:Int):=by simp [Pq] at hd;exact hd.2.2.2.1
  have h11:d 11=.int .i64 (i:Int):=by simp [Pq] at hd;exact hd.2.2.2.2
  simp only [h0,h1,h5,h10,h11,Bb,Gy,LR,Ab,Ap];refine ⟨fun hlt=>?_,fun hge=>?_⟩
  ·have hlt:i<w:=by omega
   rw [wrap_i64 (n:=(w:Int)-1) (by omega) (by omega),wrap_i64 (n:=(w:Int)-1-i) (by omega) (by omega),wrap_i64 (n:=8*(i:Int)) (by omega) (by omega)];have e2:(w:Int)-1-i=((w-1-i:Nat):Int):=by omega
   have e3:min (8*(i:Int)).toNat (IntKind.bits .u64)=8*i:=by show min _ 64=_;omega
   rw [Gz (by omega),e2,e3];simp only [Ab,SZ,AR,Ht];have hia:Aj Tryz.prog 52 (.slice (some ⟨A.next,0,none⟩) w w) (.int .i64 ((w-1-i:Nat):Int))=some (.pointer (some ⟨A.next,w-1-i,none⟩)):=by
    show Aj Tryz.prog 52 _ (.int .i64 (.ofNat (w-1-i)))=_;rw [Qi,Ax.2 (by omega),Ct];unfold DM;cases hb:Nat.beq ((w-1-i)*1) 0 with
    |true=>rw [Ct];have:=Nb hb;rw [Nat.mul_one] at this;rw [this]
    |false=>rw [Cf,Nat.mul_one,Nat.zero_add]
   rw [hia];simp only [Ab,Bw];refine hr.store hg.Ao (by omega) (Y2 _ _ _) rfl (by simp [Value.cells,BB];omega) rfl fun A2 r2 k2 n2 f2=>?_;have hs:Ee (List.replicate (w-i) (Value.int .u8 0)++Az (be n i)) (w-1-i) (Value.cells (.int .u8 ((UInt8.ofNat (n/256^i)).toNat:Int))).toList=_:=Uj n hlt;rw [hs] at r2;rw [wrap_i64 (by omega) (by omega)];refine AE.2 ⟨w-(i+1),by omega,rfl,i+1,rfl,by omega,r2,?_,by omega,rfl⟩;exact hg.own k2 (by simp) (m:=0) (by omega) f2
  ·have hi:i=w:=by omega
   subst hi;rw [Nat.sub_self] at hr;refine hk A' _ [A.next] hg ?_ (by simp);refine .inr (.inr ⟨A.next,i,[],?_,by have:room=68719476736:=rfl;omega,by simpa using hr,by rw [BB];rfl,rfl,rfl⟩);rw [BB]
 ·rw [AeW];refine GQ tb hf (by omega) (Nl w) (by have:room=68719476736:=rfl;omega) fun A1 m1=>?_;simp only [JQ,Ab];refine AE.2 ⟨w,rfl,0,rfl,by omega,?_,.made m1 hf,m1.next,rfl⟩
  simpa [be,Az] using m1.Bk
theorem Adz (hf:AB A) (hA:A.next+20<Ak) (hn:n<18446744073709551616) (hw:w≤8)
  (hk:∀ A' v F,Grow A A' 16→Buf 5 A' v (be n w) F→(∀ x∈F,A.next≤x)→K v A'):Wc Tryz.prog Af W0 m0 69 [.int .u64 (n:Int),.int .i64 (w:Int)] A K:=by
 let I:Nat→Nat→List Value→AW→Prop:=fun g id vals A'=>id=0∧∃ (i:Nat) (v:Value) (F:List Nat),vals=[.int .u64 ((n/256^i:Nat):Int),.int .i64 (w:Int),v,.int .i64 (i:Int)]∧i≤w∧
  Buf 5 A' v (be n i) F∧(∀ x∈F,A.next≤x)∧Grow A A' (2*i)∧g=w-i
 refine w69 _ _ _ (c69 (I:=I) ?_) ?_
 ·rintro g id vals A' d ⟨rfl,i,v,F,rfl,hi,hb,hF,hg,rfl⟩ hd;rw [Abk];simp only [L69,Mc,Mn,Li,and_true] at hd;obtain ⟨h0,h1,h5,h6⟩:=hd;have hnx:=hg.next;have hq:n/256^i<18446744073709551616:=Nat.lt_of_le_of_lt (Nat.div_le_self _ _) hn;obtain ⟨q,hqd⟩:∃ q,n/256^i=q:=⟨_,rfl⟩;rw [hqd] at h0 hq;simp only [h0,h1,h5,h6,Bb,Ab,Ap];refine ⟨fun hlt=>?_,fun hge=>?_⟩
  ·have hlt:i<w:=by omega
   rw [II (by decide),LQ (by decide)];simp only [Ab,SZ,AR];have hx:IntKind.u8.wrap ((q:Int).tmod 256)=((UInt8.ofNat q).toNat:Int):=by
    rw [wrap_u8,HV,Int.tmod_eq_emod_of_nonneg (by omega)];omega
   have hq2:IntKind.u64.wrap ((q:Int).tdiv 256)=((n/256^(i+1):Nat):Int):=by
    have e:n/256^(i+1)=q/256:=by rw [Nat.pow_succ,← Nat.div_div_eq_div_mul,hqd]
    rw [Int.tdiv_eq_ediv_of_nonneg (by omega),wrap_u64 (by omega) (by omega),e];omega
   rw [hx,hq2];refine O8 hg.Ao (by omega) fun A2 m2=>?_;have n2:=m2.next;have hb2:=hb.keeps (m2.keeps hg.Ao) (by simp);refine Cz tb (ZM m2.Bk) (CU tb hb2.rd) m2.Ao (by omega) (by rw [BB];have:room=68719476736:=rfl;simp;omega) fun v3 A3 F3 hb3 k3 hF3 n3 f3=>?_;simp only [Bw,Ab];rw [wrap_i64 (by omega) (by omega)];have hnx2:=hg.le;refine AE.2 ⟨w-(i+1),by omega,rfl,i+1,v3,F3,rfl,by omega,by rw [be,hqd];exact hb3,fun x hx=>?_,?_,rfl⟩
   ·rcases hF3 x hx with h | h
    ·simp at h;omega
    ·omega
   ·exact ((hg.trans (.made m2 hg.Ao)).own k3 (by simp;omega) (m:=1) (by omega) f3).more (by omega)
  ·have hi:i=w:=by omega
   subst hi;exact hk A' v F (hg.more (by omega)) hb hF
 ·rw [e69];refine AE.2 ⟨w,rfl,0,.slice none 0 0,[],by simp,by omega,.nil _ _,by simp,.refl hf,rfl⟩
theorem XW {v1 v2:Value} {l1 l2:List UInt8} {F1 F2:List Nat} (hf:AB A) (hA:A.next+3<Ak) (h1:RdB A v1 l1 F1) (h2:RdB A v2 l2 F2) (hr:l1.length+l2.length<1000000)
  (hk:∀ A' v F,Grow A A' 3→Buf 5 A' v (l1++l2) F→(∀ x∈F,A.next≤x)→K v A'):Wc Tryz.prog Af W0 m0 205 [v1,v2] A K:=by
 have hroom:room=68719476736:=rfl;have lt1:=h1.lt;have lt2:=h2.lt;refine AdX _ _ _ Bu ?_;rw [AeX];simp only [h1.len tb,h2.len tb,Bw,Ab];rw [wrap_i64 (by omega) (by omega)];have e:((l1.length:Nat):Int)+((l2.length:Nat):Int)=((l1.length+l2.length:Nat):Int):=by omega
 rw [e];refine GQ (n:=0) (k:=.i64) tb hf (by omega) (Nat.zero_le _) (by omega) fun A1 m1=>?_;have n1:=m1.next;refine Cz tb (m1.ZN (by omega)) (CU tb (h1.keeps (m1.keeps hf) (by simp))) m1.Ao (by omega) (by simp;omega) fun v3 A3 F3 hb3 k3 hF3 n3 f3=>?_;have g3:Grow A A3 2:=(Grow.made m1 hf).own k3 (by simp) (m:=1) (by omega) f3;have hF3':∀ x∈F3,A.next≤x:=fun x hx=>by
  rcases hF3 x hx with h | h
  ·simp at h;omega
  ·omega
 refine Cz tb hb3 (CU tb (h2.keeps g3.keeps (by simp))) f3 (by omega) (by simp;omega) fun v4 A4 F4 hb4 k4 hF4 n4 f4=>?_;rw [List.nil_append] at hb4;refine hk A4 v4 F4 ((g3.own k4 hF3' (m:=1) (by omega) f4).more (by omega)) hb4 fun x hx=>?_;rcases hF4 x hx with h | h
 ·exact hF3' x h
 ·have:=g3.le;omega
theorem UB (hf:AB A) (hA:A.next+5<Ak) (hv:RdB A v l F0) (hl:l.length<900000) (hw:w=1∨w=2∨w=4∨w=8)
  (hk:∀ A' v F,Grow A A' 4→Buf 5 A' v (l++be n w) F→(∀ x∈F,A.next≤x)→K v A'):Wc Tryz.prog Af W0 m0 135 [v,.int .u64 (n:Int),.int .i64 (w:Int)] A K:=by
 refine Aeg _ _ _ _ Bu ?_;rw [Afg];refine Uv ?_;have hb:((w:Int)==1 || ((w:Int)==2 || ((w:Int)==4 || (w:Int)==8)))=true:=by rcases hw with rfl | rfl | rfl | rfl<;>rfl
 rw [hb];simp only [BC,Ab];refine Ai.2 ⟨fun h=>by simp at h,fun _=>?_⟩;refine XV hf (by omega) (by omega) fun A1 v1 F1 g1 b1 _=>?_;have n1:=g1.next;have l1:=g1.le;refine XW g1.Ao (by omega) (hv.keeps g1.keeps (by simp)) b1.rd (by rw [BB];omega) fun A2 v2 F2 g2 b2 hF2=>?_;exact hk A2 v2 F2 ((g1.trans g2).more (by omega)) b2 fun x hx=>Nat.le_trans l1 (hF2 x hx)
theorem XU {s:ByteArray} (hf:AB A) (hA:A.next+6<Ak) (hv:RdB A v l F0) (hl:l.length<900000) (hs:CW s<256)
  (hk:∀ A' v F,Grow A A' 5→Buf 5 A' v (l++(be (CW s) 1++s.data.toList)) F→(∀ x∈F,A.next≤x)→K (.tuple ⟨[v,.int .i64 0]⟩) A'):Wc Tryz.prog Af W0 m0 211 [v,.string s,.int .i64 1] A K:=by
 have hroom:room=68719476736:=rfl;have hsl:s.data.toList.length=CW s:=rfl;refine AdS _ _ _ _ Bu ?_;rw [AeS];simp only [Bh,Ab,Ay];refine ⟨fun h=>by omega,fun _=>?_⟩;refine Uv ?_;simp only [BC,Ab];refine Ai.2 ⟨fun h=>by simp at h,fun _=>?_⟩;simp only [OP,hsl,Ab,LL,AR,LR];rw [wrap_u64 (by omega) (by omega),wrap_i64 (by omega) (by omega),Gz (by omega)];have hz:((CW s:Nat):Int).fdiv (2^(min ((8:Int)*1).toNat (IntKind.bits .u64)))=0:=by
  show ((CW s:Nat):Int).fdiv (2^8)=0;rw [Int.fdiv_eq_ediv_of_nonneg _ (by decide)];omega
 rw [hz];simp only [Ab,Bn,AU];refine ⟨fun h=>by omega,fun _=>?_⟩;refine XV (n:=CW s) (w:=1) hf (by omega) (by omega) fun A1 v1 F1 g1 b1 hF1=>?_;have n1:=g1.next;have l1:=g1.le;refine Cz tb b1 (L6 tb) g1.Ao (by omega) (by rw [BB];omega) fun v2 A2 F2 b2 k2 hF2 n2 f2=>?_;have g2:=g1.own k2 hF1 (m:=1) (by omega) f2;have n2:=g2.next;have l2:=g2.le;refine XW g2.Ao (by omega) (hv.keeps g2.keeps (by simp)) b2.rd (by rw [Lq,BB];omega) fun A3 v3 F3 g3 b3 hF3=>?_;exact hk A3 v3 F3 ((g2.trans g3).more (by omega)) b3 fun x hx=>Nat.le_trans l2 (hF3 x hx)
end
variable {g b:ByteArray} {f:Nat} {A:AW} {K:Value→AW→Prop}
def tx(s:ByteArray):List UInt8:=be (CW s) 1++s.data.toList
def xb(f:Nat)(g b:ByteArray):List UInt8:=be f 4++tx g++tx b
theorem FA(s:ByteArray):(tx s).length=1+CW s:=by unfold tx;rw [Lq,BB];rfl
theorem S9(f:Nat)(g b:ByteArray):(xb f g b).length=6+CW g+CW b:=by unfold xb;rw [Lq,Lq,FA,FA,BB];omega
theorem Fz(h:Ce g b=0):0<CW g∧CW g≤64∧CW b≤64:=by
 unfold Ce at h;split at h
 ·cases h
 ·omega
theorem Vg(n:Nat):be n 1=[UInt8.ofNat n]:=by simp [be]
theorem Wf(n:Nat):Value.int .u8 (IntKind.u8.wrap (n:Int))=.int .u8 ((UInt8.ofNat n).toNat:Int):=by rw [wrap_u8,HV]
section
variable {W0:World} {m0:Inj Tryz.prog}
theorem X8 (hf:AB A) (hA:A.next+20<Ak) (hfl:f<4294967296) (hx:Ce g b=0)
  (hk:∀ A' v F,Grow A A' 16→Buf 5 A' v (xb f g b) F→(∀ x∈F,A.next≤x)→K (.tuple ⟨[v,.int .i64 0]⟩) A'):Wc Tryz.prog Af W0 m0 145 [LX f g b] A K:=by
 obtain ⟨hx1,hx2,hx3⟩:=Fz hx;refine Ad9 _ _ Bu ?_;rw [Ae9];refine AH (cs:=(Value.cells (LX f g b)).toList) hf (by omega) rfl fun A1 m1=>?_;have n1:=m1.next;have r1:Go.Abs.AF A1 A.next [.int .u32 (f:Int),.string g,.string b] 24:=m1.Bk;have hld:A1.cells? ⟨A.next,0,none⟩ 3=some [.int .u32 (f:Int),.string g,.string b]:=by rw [BH r1.row];rfl
 simp only [Ec,hld,Ab];refine QU (f:=(f:Int)) (g:=g) (b:=b) m1.Ao (by omega) fun A2 g2=>?_;rw [hx];have n2:=g2.next;have l2:=g2.le;have r2:=r1.keeps g2.keeps (by simp);simp only [Bn,Ab,AU];refine ⟨fun h=>absurd rfl h,fun _=>?_⟩;simp only [Et,Es,Fu,E9,Ag r2.row,cellOf,isTuple,Cf,Ab,QC,AR,Nat.zero_add];rw [wrap_u64 (by omega) (by omega)];refine UB (n:=f) (w:=4) g2.Ao (by omega) (Buf.nil 5 _).rd (by simp) (by simp) fun A3 v3 F3 g3 b3 hF3=>?_;have n3:=g3.next;have l3:=g3.le;have r3:=r2.keeps g3.keeps (by simp);simp only [Kq,Ag r3.row,cellOf,isTuple,Cf,Ab];rw [List.nil_append] at b3;refine XU g3.Ao (by omega) b3.rd (by rw [BB];omega) (by omega) fun A4 v4 F4 g4 b4 hF4=>?_;have n4:=g4.next;have l4:=g4.le;have r4:=r3.keeps g4.keeps (by simp);have b4:Buf 5 A4 v4 (be f 4++tx g) F4:=b4;simp only [Ar,List.getElem?_cons_zero,List.getElem?_cons_succ,Ab,Ag r4.row,cellOf,isTuple,Cf];refine XU g4.Ao (by omega) b4.rd (by rw [Lq,BB,FA];omega) (by omega) fun A5 v5 F5 g5 b5 hF5=>?_;have b5:Buf 5 A5 v5 (xb f g b) F5:=b5;simp only [Ar,List.getElem?_cons_zero,List.getElem?_cons_succ,Ab];exact hk A5 v5 F5 (((((Grow.made m1 hf).trans g2).trans g3).trans g4).trans g5) b5 fun x hx=>by have:=hF5 x hx;omega
theorem Aac (hf:AB A) (hA:A.next+40<Ak) (hfl:f<4294967296) (hx:Ce g b=0)
  (hk:∀ A' v F,Grow A A' 30→Buf 5 A' v (xb f g b) F→(∀ x∈F,A.next≤x)→K (.tuple ⟨[v,.int .i64 0]⟩) A'):Wc Tryz.prog Af W0 m0 29 [LX f g b] A K:=by
 have hroom:room=68719476736:=rfl;obtain ⟨hx1,hx2,hx3⟩:=Fz hx;refine w29 _ _ Bu ?_;rw [e29];refine AH (cs:=(Value.cells (LX f g b)).toList) hf (by omega) rfl fun A1 m1=>?_;have n1:=m1.next;have r1:Go.Abs.AF A1 A.next [.int .u32 (f:Int),.string g,.string b] 24:=m1.Bk;have hld:A1.cells? ⟨A.next,0,none⟩ 3=some [.int .u32 (f:Int),.string g,.string b]:=by rw [BH r1.row];rfl
 simp only [Ec,hld,Ab];refine YI (f:=(f:Int)) (g:=g) (b:=b) m1.Ao (by omega) fun A2 g2=>?_;rw [hx];have n2:=g2.next;have l2:=g2.le;have r2:=r1.keeps g2.keeps (by simp);simp only [Bn,Ab,AU];refine ⟨fun h=>absurd rfl h,fun _=>?_⟩;simp only [Et,Es,Fu,E9,Ag r2.row,cellOf,isTuple,Cf,Ab,QC,AR,Nat.zero_add];rw [wrap_u64 (by omega) (by omega)];refine Adz (n:=f) (w:=4) g2.Ao (by omega) (by omega) (by omega) fun A3 v3 F3 g3 b3 hF3=>?_;have n3:=g3.next;have l3:=g3.le;have g03:=((Grow.made m1 hf).trans g2).trans g3;have r3:=r2.keeps g3.keeps (by simp);simp only [Kq,Ag r3.row,cellOf,isTuple,Cf,Ab,OP,R8,AR];rw [show (g.data.toList.length:Int)=((CW g:Nat):Int) from rfl,Wf];refine O8 g3.Ao (by omega) fun A4 m4=>?_;have n4:=m4.next;have g04:=g03.trans (.made m4 g3.Ao);refine Cz tb (b3.keeps (m4.keeps g3.Ao) (by simp)) (CU tb (ZM m4.Bk).rd) m4.Ao (by omega) (by rw [BB];simp;omega) fun v5 A5 F5 b5 k5 hF5 n5 f5=>?_;have g05:=g04.own k5 (fun x hx=>by have:=hF3 x hx;omega) (m:=1) (by omega) f5;have hF5':∀ x∈F5,A.next≤x:=fun x hx=>by
  rcases hF5 x hx with h | h
  ·have:=hF3 x h;omega
  ·omega
 have hne:A.next∉F3:=fun h=>by have:=hF3 _ h;omega
 have r5:=(r3.keeps (m4.keeps g3.Ao) (by simp)).keeps k5 hne;simp only [Ag r5.row,cellOf,isTuple,Cf,Ab];refine Cz tb b5 (L6 tb) f5 (by omega) (by simp only [Lq,BB,Lc,Ln];unfold CW at *;omega) fun v6 A6 F6 b6 k6 hF6 n6 f6=>?_;have hne5:A.next∉F5:=fun h=>by
  rcases hF5 _ h with h | h
  ·exact hne h
  ·omega
 have g06:=g05.own k6 hF5' (m:=1) (by omega) f6;have hF6':∀ x∈F6,A.next≤x:=fun x hx=>by
  rcases hF6 x hx with h | h
  ·exact hF5' x h
  ·have:=g05.le;omega
 have r6:=r5.keeps k6 hne5;have hne6:A.next∉F6:=fun h=>by
  rcases hF6 _ h with h | h
  ·exact hne5 h
  ·have:=k5.next;omega
 simp only [Ag r6.row,cellOf,isTuple,Cf,Ab,OP,R8,AR];rw [show (b.data.toList.length:Int)=((CW b:Nat):Int) from rfl,Wf];refine O8 f6 (by omega) fun A7 m7=>?_;have n7:=m7.next;have g07:=g06.trans (.made m7 f6);have e6:be f 4++[UInt8.ofNat (CW g)]++g.data.toList=be f 4++tx g:=by unfold tx;rw [Vg,Mw]
 rw [e6] at b6;have lx:(be f 4++tx g).length=5+CW g:=by rw [Lq,BB,FA];omega
 refine Cz tb (b6.keeps (m7.keeps f6) (by simp)) (CU tb (ZM m7.Bk).rd) m7.Ao (by omega) (by rw [lx];simp;omega) fun v8 A8 F8 b8 k8 hF8 n76 f8=>?_;have g08:=g07.own k8 hF6' (m:=1) (by omega) f8;have hF8':∀ x∈F8,A.next≤x:=fun x hx=>by
  rcases hF8 x hx with h | h
  ·exact hF6' x h
  ·have:=g07.le;omega
 have r8:=(r6.keeps (m7.keeps f6) (by simp)).keeps k8 hne6;simp only [Ag r8.row,cellOf,isTuple,Cf,Ab];refine Cz tb b8 (L6 tb) f8 (by omega) (by rw [Lq,lx];simp only [Lc,Ln];unfold CW at *;omega) fun v9 A9 F9 b9 k9 hF9 n9 f9=>?_;have g09:=g08.own k9 hF8' (m:=1) (by omega) f9;have e9:be f 4++tx g++[UInt8.ofNat (CW b)]++b.data.toList=xb f g b:=by unfold xb;rw [show tx b=[UInt8.ofNat (CW b)]++b.data.toList by unfold tx;rw [Vg],← Mw (be f 4++tx g)]
 rw [e9] at b9;refine hk A9 v9 F9 (g09.more (by omega)) b9 fun x hx=>?_;rcases hF9 x hx with h | h
 ·exact hF8' x h
 ·have:=g08.le;omega
end
variable {A A':AW} {v:Value} {F S:List Nat} {K:Value→AW→Prop}
def RdN(A:AW)(v:Value)(l:List Nm)(F:List Nat):Prop:=
 (l=[]∧F=[]∧∃ o c,v=.slice o 0 c)∨∃ r o c cs e f b ro,v=.slice (some ⟨r,o,none⟩) l.length c∧A.get r=some (.row cs e f b ro)∧f<A.next∧F=[f]∧∀ (i:Nat) p,l[i]? =some p→∃ rest,cs.drop (o+i*3)=p.cells++rest
theorem RdN.keeps{l:List Nm}(h:RdN A v l F)(k:AA A A' S)(hd:∀ x∈F,x∉S):RdN A' v l F:=by
 rcases h with h | ⟨r,o,c,cs,e,f,b,ro,h1,h2,h3,rfl,h4⟩
 ·exact .inl h
 ·exact .inr ⟨r,o,c,cs,e,f,b,ro,h1,k.get r _ h2 h3 (hd f (by simp)),Nat.lt_of_lt_of_le h3 k.next,rfl,h4⟩
theorem RdN.one{l:List Nm}(h:RdN A v l F):AP v=true∧isTuple v=false:=by
 rcases h with ⟨_,_,o,c,rfl⟩ | ⟨r,o,c,cs,e,f,b,ro,rfl,_⟩<;>exact ⟨rfl,rfl⟩
theorem RdN.slice{l:List Nm}(h:RdN A v l F):∃ o c,v=.slice o l.length c:=by
 rcases h with ⟨rfl,_,o,c,rfl⟩ | ⟨r,o,c,cs,e,f,b,ro,rfl,_⟩<;>exact ⟨_,_,rfl⟩
theorem RdN.len{B:AW}{l:List Nm}(h:RdN A v l F):Br Tryz.prog B 34 v=some (.int .i64 (l.length:Int)):=by
 rcases h with ⟨rfl,_,o,c,rfl⟩ | ⟨r,o,c,cs,e,f,b,ro,rfl,_⟩<;>exact Aa7 _ _ _ _
theorem RdN.at{A:AW}{v:Value}{l:List Nm}{F:List Nat}(h:RdN A v l F){i:Nat}{p:Nm}(hi:l[i]? =some p):
  ∃ r o,Aj Tryz.prog 34 v (.int .i64 (i:Int))=some (.pointer (some ⟨r,o,none⟩))∧A.cells? ⟨r,o,none⟩ 3=some p.cells:=by
 rcases h with ⟨rfl,_⟩ | ⟨r,o,c,cs,e,f,b,ro,rfl,h2,h3,_,h4⟩
 ·simp at hi
 ·have hlt:i<l.length:=(Gs.1 hi).1;obtain ⟨rest,hr⟩:=h4 i p hi;refine ⟨r,o+i*3,?_,?_⟩
  ·show Aj Tryz.prog 34 _ (.int .i64 (.ofNat i))=_;rw [Abt,Ax.2 hlt,Ct];unfold DM;cases hb:Nat.beq (i*3) 0 with
   |true=>rw [Ct,Nb hb,Nat.add_zero]
   |false=>rfl
  ·rw [BH h2,hr];simp [Nm.cells,AZ,isTuple]
theorem RdN.fam{l:List Nm}(h:RdN A v l F):∀ x∈F,x<A.next:=by
 rcases h with ⟨_,rfl,_⟩ | ⟨r,o,c,cs,e,f,b,ro,_,_,h3,rfl,_⟩
 ·simp
 ·simpa using h3
theorem RdN.nil(A:AW)(o:Option Addr)(c:Nat):RdN A (.slice o 0 c) [] []:=.inl ⟨rfl,rfl,o,c,rfl⟩
def Nn(A:AW)(v:Value)(l:List Nm)(F:List Nat):Prop:=EA A 24 3 v l.length (flat Nm.cells l) F
theorem Y9(p:Nm):p.cells.length=3:=rfl
theorem VO(a b:List Nm):flat Nm.cells (a++b)=flat Nm.cells a++flat Nm.cells b:=by simp [flat]
theorem Nn.rd{l:List Nm}(h:Nn A v l F):RdN A v l F:=by
 rcases h with ⟨rfl,h2,_,rfl⟩ | ⟨b,f,rfl,h2,rfl⟩
 ·have:l=[]:=List.eq_nil_of_length_eq_zero h2
  subst this;exact .nil _ _ _
 ·exact .inr ⟨b,0,_,_,_,f,0,false,rfl,h2.row,h2.ltf,rfl,fun i p hi=>by rw [Nat.zero_add];exact GS Y9 l i p hi⟩
theorem Nn.keeps{l:List Nm}(h:Nn A v l F)(k:AA A A' S)(hd:∀ x∈F,x∉S):Nn A' v l F:=EA.keeps h k hd
theorem Nn.nil(A:AW):Nn A (.slice none 0 0) [] []:=EA.nil _ _ _
theorem Aeo:Bt Tryz.prog 34=some 24:=by kernel_rfl
theorem Aen:szT Tryz.prog 24=some 3:=by kernel_rfl
theorem Afq:Ex Tryz.prog 24=some 40:=by kernel_rfl
theorem AeF:CE Tryz.prog 24 3=true:=by kernel_rfl
theorem Aem:Tryz.prog.underlying 34=some (.slice 24):=by kernel_rfl
theorem Wi{p:Nm}(hf:AB A)(h:A.next<Ak)(hk:∀ A',Made A A' p.cells 24→K (.slice (some ⟨A.next,0,none⟩) 1 1) A'):Al (Aq Tryz.prog A 34 1 [(0,.agg ⟨p.cells⟩)]) K:=by
 show Al (Aq Tryz.prog A 34 1 [(0,.agg ⟨[.int .u32 (p.f:Int),.string p.g,.string p.b]⟩)]) K;rw [Aft];unfold AW.newRow AW.new;have hc:([Value.int .u32 (p.f:Int),.string p.g,.string p.b].all AP)=true:=rfl;simp only [hc,Ct,Ax.2 h];exact AR.2 (hk (A.push (.row p.cells 24 A.next 0 false)) ⟨AW.Cv _ h,rfl,by rw [AW.Cg _ h,if_pos rfl],hf.alone (Nl _),hf.push _ h⟩)
theorem Nn.append {l:List Nm} {p:Nm} {q:Nat} (h:Nn A v l F) (hq:Go.Abs.AF A q p.cells 24) (hf:AB A) (hA:A.next<Ak) (hl:l.length<1000000)
  (hk:∀ v' A' F',Nn A' v' (l++[p]) F'→AA A A' F→(∀ x∈F',x∈F∨x=A.next)→A'.next=A.next+1→AB A'→K v' A'):Al (AT Tryz.prog A 34 34 v (.slice (some ⟨q,0,none⟩) 1 1)) K:=by
 have hroom:room=68719476736:=rfl;have hx:BF Tryz.prog A 24 34 (2+1) (.slice (some ⟨q,0,none⟩) 1 1)=some (0+1,p.cells):=by
  unfold BF;rw [Aem];show DY A 3 (.slice (some ⟨q,0,none⟩) 1 1)=_;unfold DY;simp only [BH hq.row];simp [Nm.cells,AZ,isTuple]
 refine J6 (m:=0) (size:=2) Aeo Aen Afq AeF hx rfl rfl h hf hA (by omega) (by omega) fun v' A' F' h1 h2 h3 h4 h5=>?_;refine hk v' A' F' ?_ h2 h3 h4 h5;show EA A' 24 3 v' (l++[p]).length (flat Nm.cells (l++[p])) F';rw [Lq,VO];have e:flat Nm.cells [p]=p.cells:=by simp [flat]
 rw [e];exact h1
theorem Yr(f f':Int)(g g' b b':ByteArray)(xo yo:Operand):Ah Tryz.prog .neq 24 xo yo (.agg ⟨[.int .u32 f,.string g,.string b]⟩) (.agg ⟨[.int .u32 f',.string g',.string b']⟩)=some (.bool !(E6 f f' g g' b b')):=by
 have hg:Dt Tryz.prog 24 xo yo (.agg ⟨[.int .u32 f,.string g,.string b]⟩) (.agg ⟨[.int .u32 f',.string g',.string b']⟩)=true:=by
  show (!Tryz.prog.eqGuardType Tryz.prog.depth 24)=true
  kernel_rfl
 show (bif Dt Tryz.prog 24 xo yo (.agg ⟨[.int .u32 f,.string g,.string b]⟩) (.agg ⟨[.int .u32 f',.string g',.string b']⟩) then (match eqA Tryz.prog 24 (.agg ⟨[.int .u32 f,.string g,.string b]⟩) (.agg ⟨[.int .u32 f',.string g',.string b']⟩) with | some b=>some (Value.bool !b) | none=>none) else none)=_;rw [hg,Ct];have he:eqA Tryz.prog 24 (.agg ⟨[.int .u32 f,.string g,.string b]⟩) (.agg ⟨[.int .u32 f',.string g',.string b']⟩)=some (E6 f f' g g' b b'):=by
  unfold eqA;have hc:(AG 4 (.agg ⟨[.int .u32 f,.string g,.string b]⟩)&&AG 4 (.agg ⟨[.int .u32 f',.string g',.string b']⟩))=true:=rfl;rw [hc,Ct];exact OF f f' g g' b b'
 rw [he]
theorem Zb(p q:Nm)(xo yo:Operand):Ah Tryz.prog .neq 24 xo yo (.agg ⟨p.cells⟩) (.agg ⟨q.cells⟩)=some (.bool !(E6 (p.f:Int) (q.f:Int) p.g q.g p.b q.b)):=Yr _ _ _ _ _ _ _ _
theorem GO{p q:Nm}:E6 (p.f:Int) (q.f:Int) p.g q.g p.b q.b=true↔p=q:=by
 unfold E6;simp only [Bq,beq_iff_eq];constructor
 ·rintro ⟨h1,h2,h3⟩;have k1:p.f=q.f:=by omega
  have k2:=S6 h2;have k3:=S6 h3;clear h1 h2 h3;obtain ⟨f,g,b⟩:=p;obtain ⟨f',g',b'⟩:=q;simp only at k1 k2 k3;subst k1;subst k2;subst k3;rfl
 ·rintro rfl;exact ⟨rfl,rfl,rfl⟩
theorem Tl{p q:Nm}:E6 (p.f:Int) (q.f:Int) p.g q.g p.b q.b=false↔p≠q:=by
 rw [← Bool.not_eq_true,GO]
section
variable {W0:World} {m0:Inj Tryz.prog}
noncomputable def eqL(a b:List Nm):Bool:=@decide (a=b) (Classical.propDecidable _)
theorem Qv{a b:List Nm}(h:a=b):eqL a b=true:=by unfold eqL;simp [h]
theorem Kz{a b:List Nm}(h:a≠b):eqL a b=false:=by unfold eqL;simp [h]
theorem Aaj{v1 v2:Value}{l1 l2:List Nm}{F1 F2:List Nat}(h1:RdN A v1 l1 F1)(h2:RdN A v2 l2 F2)(hl:l1.length<1000000)(hk:K (.bool (eqL l1 l2)) A):Wc Tryz.prog Af W0 m0 218 [v1,v2] A K:=by
 let I:Nat→Nat→List Value→AW→Prop:=fun g id vals A'=>id=0∧A'=A∧∃ i:Nat,vals=[v1,v2,.int .i64 (l1.length:Int),.int .i64 (i:Int)]∧g=l1.length-i∧i≤l1.length∧l1.length=l2.length∧∀ j,j<i→l1[j]? =l2[j]?;refine AdQ _ _ _ (c218 (I:=I) ?_) ?_
 ·rintro g id vals A' d ⟨rfl,rfl,i,rfl,rfl,hi,hlen,hs⟩ hd;rw [Zl];simp only [Ws,Mc,Mn,Li,and_true] at hd;obtain ⟨h0,h1',h12,h13⟩:=hd;simp only [h0,h1',h12,h13,Bb,Ab,Ap];refine ⟨fun hlt=>?_,fun hge=>?_⟩
  ·have hlt:i<l1.length:=by omega
   have hp:=Ge hlt;have hq:=Ge (show i<l2.length by omega);obtain ⟨r,o,a1,a2⟩:=h1.at hp;obtain ⟨r',o',b1,b2⟩:=h2.at hq;simp only [a1,b1,Ec,a2,b2,Ab,Zb,Bw];rw [wrap_i64 (by omega) (by omega)];refine Ai.2 ⟨fun h=>?_,fun h=>?_⟩
   ·have hne:l1[i]≠l2[i]'(by omega):=Tl.1 (by simpa using h);rw [Kz (fun e=>hne (by simp [e]))] at hk;exact hk
   ·have he:l1[i]=l2[i]'(by omega):=GO.1 (by simpa using h);refine AE.2 ⟨l1.length-(i+1),by omega,rfl,rfl,i+1,rfl,rfl,by omega,hlen,fun j hj=>?_⟩;by_cases hji:j=i
    ·subst hji;rw [hp,hq,he]
    ·exact hs j (by omega)
  ·have:l1=l2:=List.ext_getElem? fun j=>by
    by_cases hj:j<i
    ·exact hs j hj
    ·rw [List.getElem?_eq_none (by omega),List.getElem?_eq_none (by omega)]
   rw [Qv this] at hk;exact hk
 ·rw [AeQ];simp only [h1.len,h2.len,Bn,Ab,AU];refine ⟨fun hne=>?_,fun he=>?_⟩
  ·rw [Kz (fun e=>hne (by rw [e]))] at hk;exact hk
  ·exact AE.2 ⟨l1.length,rfl,rfl,0,rfl,rfl,by omega,by omega,fun j hj=>by omega⟩
end
variable {A:AW} {K:Value→AW→Prop} {v:Value} {F:List Nat}
def okN(p:Nm):Bool:=decide (Ce p.g p.b=0)
def Good(l:List Nm):Prop:=(∀ p∈l,okN p=true)∧l.length≤1
noncomputable def JN(l:List Nm):Bool:=@decide (l.length≤200∧Good l) (Classical.propDecidable _)
theorem Iw{l:List Nm}:JN l=true↔l.length≤200∧Good l:=by unfold JN;exact @decide_eq_true_iff _ (Classical.propDecidable _)
section
variable {W0:World} {m0:Inj Tryz.prog}
theorem Ou {t:Nat} {p:Nm} {zs:List Value} {K:AW→Prop} (ht:Go.Abs.AF A t zs 24) (hz:zs.length=3) (hf:AB A) (hA:A.next≤Ak)
  (hk:∀ A',Go.Abs.AF A' t p.cells 24→AA A A' [t]→A'.next=A.next→AB A'→K A'):AQ (Am Tryz.prog A 24 (.pointer (some ⟨t,0,none⟩)) (.agg ⟨p.cells⟩)) K:=by
 refine ht.store hf hA (HO _ _ _) rfl (by rw [hz];exact Nl 3) rfl fun A3 t3 k3 n3 f3=>?_;have e:Ee zs 0 (Value.cells (.agg ⟨p.cells⟩)).toList=p.cells:=by
  match zs,hz with
  |[z0,z1,z2],_=>rfl
 rw [e] at t3;exact hk A3 t3 k3 n3 f3
theorem Sx(hv:RdN A v [] F)(hk:K (.tuple ⟨[]⟩) A):Wc Tryz.prog Af W0 m0 166 [v,.func (.func 95) #[] #[]] A K:=by
 obtain ⟨o,c,rfl⟩:=hv.slice;exact ⟨by kernel_rfl,LY (mg:=[]) (kn:=fun _=>[]) (n:=2000) gX gP (by kernel_rfl) hk⟩
theorem Aai {l:List Nm} (h:RdN A v l F) (hlen:l.length≤1) (hf:AB A) (hA:A.next+20<Ak)
  (hk:∀ A' v' F',Grow A A' 10→RdN A' v' (l.filter okN) F'→K v' A'):Wc Tryz.prog Af W0 m0 219 [v] A K:=by
 let I:Nat→Nat→List Value→AW→Prop:=fun g id vals A'=>id=0∧∃ (i:Nat) (out:Value) (Fo:List Nat),vals=[out,v,.int .i64 (l.length:Int),.int .i64 (i:Int)]∧i≤l.length∧C4 24 2 Nm.cells A' out ((l.take i).filter okN) Fo∧(∀ y∈Fo,A.next≤y)∧Grow A A' (6*i)∧g=l.length-i;refine AdP _ _ (Afn (I:=I) ?_) ?_
 ·rintro g id vals A' d ⟨rfl,i,out,Fo,rfl,hi,ho,hFo,gr,rfl⟩ hd;rw [Zk];simp only [Wr,Mc,Mn,Li,and_true] at hd;obtain ⟨d3,d6,d7,d8⟩:=hd;simp only [d3,d6,d7,d8,Bb,Ab,Ap];have gn:=gr.next;have gl:=gr.le;refine ⟨fun hlt=>?_,fun hge=>?_⟩
  ·have hlt:i<l.length:=by omega
   have hpi:=Ge hlt;generalize l[i]=p at hpi;obtain ⟨r,o,a1,a2⟩:=(h.keeps gr.keeps (by simp)).at hpi;simp only [a1,Ec,a2,Ab];refine AX Lt.EG gr.Ao (by omega) rfl fun A2 m2=>?_;have n2:=m2.next;have k2:=m2.keeps gr.Ao;refine m2.Bk.store m2.Ao (by omega) (HO _ _ _) rfl (by simp [Value.cells,Nm.cells]) rfl fun A3 r3 k3 n3 f3=>?_;have r3:Go.Abs.AF A3 A'.next p.cells 24:=r3;have K3:AA A' A3 []:=k2.trans k3 (by simp);have hx3:=Di r3;simp only [hx3,Ab];refine QU (f:=(p.f:Int)) (g:=p.g) (b:=p.b) f3 (by omega) fun A4 g4=>?_;have n4:=g4.next;have l4:=g4.le;have hx4:=Di (r3.keeps g4.keeps (by simp));simp only [Bh,Ab,hx4];have et:l.take (i+1)=l.take i++[p]:=by rw [List.take_add_one,hpi];rfl
   have ho4:=(ho.keeps K3 (by simp)).keeps g4.keeps (by simp);refine Ay.2 ⟨fun h0=>?_,fun h0=>?_⟩
   ·refine RB (p:=p) g4.Ao (by omega) fun A5 m5=>?_;have n5:=m5.next;have k5:=m5.keeps g4.Ao;refine C4.append etN (ho4.keeps k5 (by simp)) m5.Bk m5.Ao (by omega) (by have:=List.length_filter_le okN (l.take i);rw [List.length_take] at this;omega) fun out6 A6 F6 o6 k6 hF6 n6 f6=>?_;simp only [Bw,Ab];rw [wrap_i64 (n:=(i:Int)+1) (by omega) (by omega)];refine AE.2 ⟨l.length-(i+1),by omega,rfl,i+1,out6,F6,rfl,by omega,?_,fun y hy=>?_,⟨(((gr.keeps.trans K3 (by simp)).trans g4.keeps (by simp)).trans k5 (by simp)).trans k6 (fun x hx=>.inr (hFo x hx)),f6,by omega⟩,rfl⟩
    ·rw [et,List.filter_append]
     have:[p].filter okN=[p]:=by
      have hok:okN p=true:=by unfold okN;exact decide_eq_true h0
      simp [hok]
     rw [this];exact o6
    ·rcases hF6 y hy with h | h
     ·exact hFo y h
     ·omega
   ·simp only [Bw,Ab];rw [wrap_i64 (n:=(i:Int)+1) (by omega) (by omega)];refine AE.2 ⟨l.length-(i+1),by omega,rfl,i+1,out,Fo,rfl,by omega,?_,hFo,⟨(gr.keeps.trans K3 (by simp)).trans g4.keeps (by simp),g4.Ao,by omega⟩,rfl⟩;rw [et,List.filter_append]
    have:[p].filter okN=[]:=by
     have hok:okN p=false:=by unfold okN;exact decide_eq_false h0
     simp [hok]
    rw [this,List.append_nil];exact ho4
  ·have hil:i=l.length:=by omega
   subst hil;rw [List.take_length] at ho;have hrd:RdE 2 Nm.cells A' out (l.filter okN) Fo:=C4.rd (fun _=>rfl) ho;have hl2:(l.filter okN).length≤1:=Nat.le_trans (List.length_filter_le _ _) hlen;have hend:Wc Tryz.prog Af W0 m0 263 [out] A' K:=by
    refine AdJ _ _ Bu ?_;rw [AeJ];have hl:=hrd.len (B:=A') etN;simp only [hl,Ab,Bb];refine Ap.2 ⟨fun _=>?_,fun h=>absurd (by omega) h⟩;exact hk A' out Fo (gr.more (by omega)) hrd
   match hfl:l.filter okN,hl2 with
   |[],_=>rw [hfl] at hrd;exact Sx hrd hend
   |[x],_=>rw [hfl] at hrd;exact X1 hrd hend
   |_::_::_,h=>simp at h
 ·rw [AeP];simp only [h.len,Ab];exact AE.2 ⟨l.length,rfl,0,.slice none 0 0,[],rfl,by omega,.nil _,by simp,(Grow.refl hf).more (by omega),rfl⟩
theorem X6 {l:List Nm} (h:RdN A v l F) (hlen:l.length≤1) (hf:AB A) (hA:A.next+2000<Ak)
  (hk:∀ A',Grow A A' 1000→K (.bool (JN l)) A'):Wc Tryz.prog Af W0 m0 152 [v] A K:=by
 refine Ad6 _ _ Bu ?_;rw [Ae6];simp only [h.len,C6,Ab,Ap];refine ⟨fun hle=>?_,fun hgt=>absurd (by omega) hgt⟩;refine Aai h hlen hf (by omega) fun A2 v2 F2 g2 r2=>?_;refine Aaj (h.keeps g2.keeps (by simp)) r2 (by omega) ?_;have e:eqL l (l.filter okN)=JN l:=by
  by_cases hg:∀ p∈l,okN p=true
  ·rw [Qv (List.filter_eq_self.2 hg).symm];exact (Iw.2 ⟨by omega,hg,hlen⟩).symm
  ·rw [Kz (fun e=>hg (List.filter_eq_self.1 e.symm))];cases hn:JN l with
   |false=>rfl
   |true=>exact absurd (Iw.1 hn).2.1 hg
 rw [e];exact hk A2 (g2.more (by omega))
end
def zi(x:Nm):Int:=if E6 (x.f:Int) 0 x.g ⟨⟨[]⟩⟩ x.b ⟨⟨[]⟩⟩=true then 1 else 0
noncomputable def ni(l:List Nm):Int:=if JN l=true then 1 else 0
def Lok(kd xa no:Nat)(z c n:Int)(len:Nat):Prop:=
 ((1≤kd∧kd≤5)∨(17≤kd∧kd≤21))∧((kd=5∨kd=21)→z=1)∧((kd≠5∧kd≠21)→c=0)∧xa≤7∧no≤999∧(xa=0∨no=0)∧((kd≤5∨kd=21)→xa=0∧no=0)∧(kd=21∨len=0)∧n=1
noncomputable def Kr(kd xa no:Nat)(x:Nm)(l:List Nm):Int:=@ite _ (Lok kd xa no (zi x) (Ce x.g x.b) (ni l) l.length) (Classical.propDecidable _) 0 250
theorem Fj{kd xa no:Nat}{x:Nm}{l:List Nm}(h:Lok kd xa no (zi x) (Ce x.g x.b) (ni l) l.length):Kr kd xa no x l=0:=if_pos h
theorem Hn{kd xa no:Nat}{x:Nm}{l:List Nm}(h:¬ Lok kd xa no (zi x) (Ce x.g x.b) (ni l) l.length):Kr kd xa no x l=250:=Ff h
def Cl(kd xa no:Nat)(x:Nm)(sv:Value):List Value:=[.int .u8 (kd:Int),.int .u32 (x.f:Int),.string x.g,.string x.b,.int .u8 (xa:Int),.int .u16 (no:Int),sv]
def EB(kd xa no:Nat)(x:Nm)(sv:Value):Value:=.agg ⟨Cl kd xa no x sv⟩
theorem ZY(x:Nm)(xo yo:Operand):Ah Tryz.prog .neq 24 xo yo (.agg ⟨x.cells⟩) (.agg ⟨[.int .u32 0,.string ⟨⟨[]⟩⟩,.string ⟨⟨[]⟩⟩]⟩)=some (.bool (zi x != 1)):=by
 have h:=Yr (x.f:Int) 0 x.g ⟨⟨[]⟩⟩ x.b ⟨⟨[]⟩⟩ xo yo;refine h.trans ?_;unfold zi;cases E6 (x.f:Int) 0 x.g ⟨⟨[]⟩⟩ x.b ⟨⟨[]⟩⟩<;>rfl
section
variable {W0:World} {m0:Inj Tryz.prog}
theorem YH {kd:Nat} {A:AW} {K:Value→AW→Prop} (hkd:kd<256)
  (hk:∀ (k:Nat) (an:Bool),(an=false∧k=0∧¬ ((1≤kd∧kd≤5)∨(17≤kd∧kd≤21)))∨(an=false∧k=kd∧1≤kd∧kd≤5)∨(an=true∧k+16=kd∧17≤kd∧kd≤21)→K (.tuple ⟨[.int .u8 (k:Int),.bool an]⟩) A):Wc Tryz.prog Af W0 m0 75 [.int .u8 (kd:Int)] A K:=by
 refine w75 _ _ Bu ?_;rw [e75];simp only [Cy,Bb,Gy,wrap_u8,Ab,Ap];refine ⟨fun h=>?_,fun h=>?_⟩
 ·have e:((kd:Int)-16)%256=((kd-16:Nat):Int):=by omega
  rw [e];refine ⟨fun h1=>hk 0 false (.inl ⟨rfl,rfl,by omega⟩),fun h1=>⟨fun h2=>hk 0 false (.inl ⟨rfl,rfl,by omega⟩),fun h2=>?_⟩⟩
  have:=hk (kd-16) true (.inr (.inr ⟨rfl,by omega,by omega,by omega⟩))
  rw [decide_eq_true (by omega)];exact this
 ·refine ⟨fun h1=>hk 0 false (.inl ⟨rfl,rfl,by omega⟩),fun h1=>⟨fun h2=>hk 0 false (.inl ⟨rfl,rfl,by omega⟩),fun h2=>?_⟩⟩
  have:=hk kd false (.inr (.inl ⟨rfl,rfl,by omega,by omega⟩))
  rw [decide_eq_false (by omega)];exact this
end
section
variable {W0:World} {m0:Inj Tryz.prog}
theorem Kk{l:List Nm}:ni l=1↔l.length≤200∧Good l:=by
 unfold ni;by_cases h:JN l=true
 ·rw [if_pos h];exact ⟨fun _=>Iw.1 h,fun _=>rfl⟩
 ·rw [Ff h];exact ⟨fun h=>absurd h (by decide),fun h'=>absurd (Iw.2 h') h⟩
theorem Aa0{p:Nm}(h:Ce p.g p.b=0):okN p=true:=by unfold okN;exact decide_eq_true h
theorem Sw{p:Nm}(h:okN p=true):Ce p.g p.b=0:=by unfold okN at h;exact of_decide_eq_true h
theorem Aad {kd xa no : Nat} {x : Nm} {sv : Value} {l : List Nm} {F : List Nat} {A : AW} {K : Value → AW → Prop} (hf : AB A) (hA : A.next + 10000 < Ak) (hl : RdN A sv l F) (hlen1 : l.length ≤ 1)
    (hk : ∀ A', Grow A A' 5000 → K (.int .i64 (Kr kd xa no x l)) A') : Wc Tryz.prog Af W0 m0 28 [EB kd xa no x sv] A K := by
  have hF := hl.fam
  have hno : ∀ A', Grow A A' 5000 → ¬ Lok kd xa no (zi x) (Ce x.g x.b) (ni l) l.length → K (.int .i64 250) A' := fun A' g h => by have := hk A' g; rw [Hn h] at this; exact this
  have hyes : ∀ A', Grow A A' 5000 → Lok kd xa no (zi x) (Ce x.g x.b) (ni l) l.length → K (.int .i64 0) A' := fun A' g h => by have := hk A' g; rw [Fj h] at this; exact this
  let Pre : Prop := l.length ≤ 200 ∧ ∀ n : Int, (kd = 21 ∨ l.length = 0) → n = 1 → Lok kd xa no (zi x) (Ce x.g x.b) n l.length
  let I : Nat → Nat → List Value → AW → Prop := fun g' id vals A' => id = 0 ∧ ∃ i : Nat, vals = [.pointer (some ⟨A.next, 0, none⟩), .int .i64 (i : Int)] ∧ i ≤ l.length ∧ Pre ∧ (0 < i → kd = 21) ∧ (∀ p ∈ l.take i, okN p = true) ∧ True ∧ Go.Abs.AF A' A.next (Cl kd xa no x sv) 38 ∧ RdN A' sv l F ∧ Grow A A' (10 + 4 * i) ∧ g' = l.length - i
  refine w28 _ _ (c28 (I := I) ?_) ?_
  · rintro g' id vals A' d ⟨rfl, i, rfl, hi, ⟨h200, hpre⟩, h21, hall, hasc, hr, hl', hg, rfl⟩ hd
    rw [Abp]
    simp only [L28, Mc, Mn, Li, and_true] at hd
    obtain ⟨h1, h5⟩ := hd
    have hnx := hg.next
    simp only [h1, h5, Cw, DT, DV, E8, Ag hr.row, Cl, cellOf, Au, Av, hl'.one.2, Cf, hl'.len, Bb, Bn, Ab, Ap, AU, Nat.zero_add]
    refine ⟨fun hlt => ⟨fun hne => hno A' (hg.more (by omega)) fun h => ?_, fun h21' => ?_⟩, fun hge => hyes A' (hg.more (by omega)) ?_⟩
    · have := h.2.2.2.2.2.2.2.1; omega
    · have hlt : i < l.length := by omega
      obtain ⟨p, hp⟩ : ∃ p, l[i]? = some p := ⟨l[i], Ge hlt⟩
      have hpm : p ∈ l := List.mem_of_getElem? hp
      obtain ⟨r, o, a1, a2⟩ := hl'.at hp
      simp only [a1, Ec, a2, Ab]
      refine YI (f := (p.f : Int)) (g := p.g) (b := p.b) hg.Ao (by omega) fun A2 g2 => ?_
      have n2 := g2.next
      have g02 := hg.trans g2
      have r2 := hr.keeps g2.keeps (by simp)
      have hl2 := hl'.keeps g2.keeps (by simp)
      have et : l.take (i + 1) = l.take i ++ [p] := by rw [List.take_add_one, hp]; rfl
      simp only [Bn, Cy, Gy, Bw, Ab, AU, Ap]
      refine ⟨fun hx => hno A2 (g02.more (by omega)) fun h => hx (Sw ((Kk.1 h.2.2.2.2.2.2.2.2).2.1 p hpm)), fun hx => ?_⟩
      have hall' : ∀ q ∈ l.take (i + 1), okN q = true := fun q hq => by
        rw [et] at hq
        rcases Mz.1 hq with hq | hq
        · exact hall q hq
        · rw [Ms.1 hq]; exact Aa0 hx
      refine ⟨fun hpos => ?_, fun hz => ?_⟩
      · exfalso; omega
      · rw [wrap_i64 (by omega) (by omega)]
        refine AE.2 ⟨l.length - (i + 1), by omega, rfl, i + 1, rfl, by omega, ⟨h200, hpre⟩, fun _ => by omega, hall', trivial, r2, hl2, g02.more (by omega), rfl⟩
    · have hi' : i = l.length := Nat.le_antisymm hi (by omega)
      rw [hi', List.take_length] at hall
      exact hpre _ (by omega) (Kk.2 ⟨h200, hall, hlen1⟩)
  · rw [e28]; unfold Rp Rq Rr Rs Rt Ru Mj Mm DI
    refine AH (cs := (Value.cells (EB kd xa no x sv)).toList) hf (by omega) (by simp [EB, Cl, Value.cells, Hi, D4, hl.one.1]) fun A1 m1 => ?_
    have n1 := m1.next
    have r1 : Go.Abs.AF A1 A.next (Cl kd xa no x sv) 38 := m1.Bk
    have hl1 := hl.keeps (m1.keeps hf) (by simp)
    have g1 := Grow.made m1 hf
    have ht : A1.cells? ⟨A.next, 1, none⟩ 3 = some [.int .u32 (x.f : Int), .string x.g, .string x.b] := by rw [BH r1.row]; rfl
    have hz := ZY x
    unfold Nm.cells at hz
    have hn1 : ∀ h : ¬ Lok kd xa no (zi x) (Ce x.g x.b) (ni l) l.length, K (.int .i64 250) A1 := hno A1 (g1.more (by omega))
    have h200 : ni l = 1 → l.length ≤ 200 := fun h => (Kk.1 h).1
    simp only [Cw, Er, EW, Ft, DT, DV, Ec, IT, JS, E8, ht, Ag r1.row, Cl, cellOf, Au, Av, hl.one.2, Cf, hl1.len, Bh, Dk, C6, Bb, Cy, Bn, BC, NR, hz, Ab, Ap, Ay, AU, Ai, Nat.zero_add, Bool.not_true, Bool.not_false, Bool.not_eq_true', Bool.not_eq_false', decide_eq_true_eq, decide_eq_false_iff_not, beq_iff_eq, beq_eq_false_iff_ne, bne_iff_ne, bne_eq_false_iff_eq, ne_eq, Bool.false_eq_true, Bool.true_eq_false, reduceCtorEq, false_implies, implies_true, forall_const, true_and, and_true]
    repeat' (first | intro _ | with_reducible apply And.intro)
    all_goals first
      | exact hn1 (by unfold Lok; omega)
      | exact AE.2 ⟨l.length, rfl, 0, rfl, by omega, ⟨by omega, fun n hn1 hn2 => by unfold Lok; omega⟩, fun h => absurd h (by decide), by simp, trivial, r1, hl1, g1.more (by omega), rfl⟩
      | (refine YI (f := (x.f : Int)) (g := x.g) (b := x.b) m1.Ao (by omega) fun A2 g2 => ?_
         have n2 := g2.next
         have r2 := r1.keeps g2.keeps (by simp)
         have hl2 := hl1.keeps g2.keeps (by simp)
         have g02 := g1.trans g2
         have hn2 : ∀ h : ¬ Lok kd xa no (zi x) (Ce x.g x.b) (ni l) l.length, K (.int .i64 250) A2 := hno A2 (g02.more (by omega))
         simp only [Cw, Er, EW, Ft, DT, DV, Ec, IT, JS, E8, Ag r2.row, Cl, cellOf, Au, Av, hl.one.2, Cf, hl2.len, Bh, Dk, C6, Bb, Cy, Bn, BC, NR, hz, Ab, Ap, Ay, AU, Ai, Nat.zero_add, Bool.not_true, Bool.not_false, Bool.not_eq_true', Bool.not_eq_false', decide_eq_true_eq, decide_eq_false_iff_not, beq_iff_eq, beq_eq_false_iff_ne, bne_iff_ne, bne_eq_false_iff_eq, ne_eq, Bool.false_eq_true, Bool.true_eq_false, reduceCtorEq, false_implies, implies_true, forall_const, true_and, and_true]
         repeat' (first | intro _ | with_reducible apply And.intro)
         all_goals first
           | exact hn2 (by unfold Lok; omega)
           | exact AE.2 ⟨l.length, rfl, 0, rfl, by omega, ⟨by omega, fun n hn1 hn2 => by unfold Lok; omega⟩, fun h => absurd h (by decide), by simp, trivial, r2, hl2, g02.more (by omega), rfl⟩)
end
end Go.Proofs.YtkjlldaddekegaaGreatDoor.Lt
