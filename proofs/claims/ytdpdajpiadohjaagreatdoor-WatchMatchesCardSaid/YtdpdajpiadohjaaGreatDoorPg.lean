/-
  This text prints what the functions reached ask of their memory, and shows what they answer. Conditions: none for the last theorem, those that each theorem states for the others.
-/
import Derived.Test.YtdpdajpiadohjaaGreatDoorPf
set_option maxRecDepth 100000
set_option maxHeartbeats 1000000
namespace Go.Proofs.YtdpdajpiadohjaaGreatDoor
open Go Go.Abs Go.Lib
theorem OS{P:Program}{t:TypeId}{xo yo:Operand}{a b:List UInt8}(h:(a++b).length<1099511627776):Af P .add t xo yo (.string ⟨⟨a⟩⟩) (.string ⟨⟨b⟩⟩)=some (.string ⟨⟨a++b⟩⟩):=by
 show (bif Nat.blt (a++b).length 1099511627776 then some (Value.string ⟨⟨a++b⟩⟩) else none)=_;rw [AF.2 h,Ct]
theorem W5(a b c:Bool):IntKind.u8.wrap (IntKind.u8.wrap ((if a=true then (1:Int) else 0)+(if b=true then 2 else 0))+(if c=true then 4 else 0))=((UInt8.ofNat (Eo [a,b,c] 0)).toNat:Int):=by
 cases a<;>cases b<;>cases c<;>rfl
theorem UQ(a b:Bool):IntKind.u8.wrap ((if a=true then (1:Int) else 0)+(if b=true then 2 else 0))=((UInt8.ofNat (Eo [a,b] 0)).toNat:Int):=by
 cases a<;>cases b<;>rfl
theorem Qt{n:Nat}(h:n<256):be n 2=[0,UInt8.ofNat n]:=by
 have:n/256=0:=by omega
 simp [be,this]
section
variable {W0:World} {m0:Inj Tp}
theorem RJ{b:Bool}{n:Int}{A:AW}{K:Value→AW→Prop}(hk:K (.int .u8 (if b=true then n else 0)) A):Wc Tp Ak W0 m0 147 [.bool b,.int .u8 n] A K:=by
 refine Ag9 _ _ _ (Au (S:=fun _ _ _=>False) fun _ _ _ h=>h) ?_;rw [Aiv];refine Aj.2 ⟨fun h=>?_,fun h=>?_⟩
 ·rw [if_pos h] at hk;exact hk
 ·rw [Ff (by rw [h];simp)] at hk;exact hk
theorem AaX{A:AW}{v:Value}{l:List UInt8}{F:List Nat}{s:ByteArray}{K:Value→AW→Prop}(hv:Buf 5 A v l F)(hl:l.length<1000)(hs:Bm s≤255)(hf:AH A)(hA:A.next+10<Ao)(hk:∀ A' v' F',Buf 5 A' v' (l++tx0 s) F'→Bs A A' F→(∀ y∈F',y∈F∨A.next≤y)→A'.next≤A.next+3→AH A'→K v' A'):Wc Tp Ak W0 m0 146 [v,.string s] A K:=by
 have hroom:room=68719476736:=rfl;have hsl:s.data.toList.length=Bm s:=rfl;refine Aha _ _ _ (Au (S:=fun _ _ _=>False) fun _ _ _ h=>h) ?_;rw [Aiw];simp only [Dz,Ab];refine Aj.2 ⟨fun h=>?_,fun h=>?_⟩
 ·exact hk A v F (by unfold tx0;rw [if_pos ((MO s).1 h),List.append_nil];exact hv) (.refl _ _) (fun y hy=>.inl hy) (by omega) hf
 ·have hne:s.size≠0:=fun h2=>by rw [(MO s).2 h2] at h;cases h
  simp only [Eb,hsl,Ab,Y8,AU,Vf];refine Jo hf (by omega) fun A1 m1=>?_;have n1:=m1.next;refine BH tb (hv.keeps (m1.keeps hf) (by simp)) (BY tb (Xi m1.AS).rd) m1.Ap (by omega) (by simp;omega) fun v2 A2 F2 b2 k2 hF2 n2 f2=>?_;have l2:=k2.next;have k02:Bs A A2 F:=((m1.keeps hf).more (T:=F) (by simp)).trans k2 fun y hy=>.inl hy;refine BH tb b2 (Ki tb) f2 (by omega) (by simp only [List.length_append,List.length_singleton];omega) fun v3 A3 F3 b3 k3 hF3 n3 f3=>?_;refine hk A3 v3 F3 ?_ (k02.trans k3 fun y hy=>?_) (fun y hy=>?_) (by omega) f3
  ·unfold tx0;rw [Ff hne,Ul,← Mw];exact b3
  ·rcases hF2 y hy with h | h
   ·exact .inl h
   ·exact .inr (by omega)
  ·rcases hF3 y hy with h | h
   ·rcases hF2 y h with h | h
    ·exact .inl h
    ·exact .inr (by omega)
   ·exact .inr (by omega)
theorem XE{A:AW}{v:Value}{l:List UInt8}{F:List Nat}{K:Value→AW→Prop}(hv:RdB A v l F)(hl:l.length<8000000)(hf:AH A)(hA:A.next+30<Ao)(hk:∀ A',Grow A A' 17→K (.string ⟨⟨be l.length 4++l⟩⟩) A'):Wc Tp Ak W0 m0 145 [v] A K:=by
 have hroom:room=68719476736:=rfl;refine Ahb _ _ (Au (S:=fun _ _ _=>False) fun _ _ _ h=>h) ?_;rw [Aix];simp only [hv.len tb,Ab,GL,AU];rw [wrap_u64 (by omega) (by omega)];refine RI (n:=l.length) (w:=4) hf (by omega) (by omega) (by omega) fun A1 v1 F1 g1 b1 hF1=>?_;have n1:=g1.next;refine BH tb b1 (BY tb (hv.keeps g1.keeps (by simp))) g1.Ap (by omega) (by rw [AP];omega) fun v2 A2 F2 b2 k2 hF2 n2 f2=>?_;simp only [b2.rd.str tb,AU];exact hk A2 ((g1.own k2 hF1 (m:=1) (by omega) f2).more (by omega))
theorem AdK {k:Nat} {t:DT (k+1)} {m:MV} {A:AW} {G:Nat} {K:Value→AW→Prop} (h:Du A G (k+1) m.app t) (hG:G<A.next) (hf:AH A) (hsz:Bl (k+1) t≤400) (hA:A.next+600<Ao)
  (hd:KC.Holds Tp W0 m0 ⟨87,[.agg ⟨fV m.app⟩,.int .i64 6],[.bool (GK (k+1) t 6)]⟩) (hl:KC.Holds Tp W0 m0 ⟨86,[.agg ⟨fV m.app⟩,.int .i64 200],[.int .i64 (Dd (k+1) (form (k+1) t) 200)]⟩)
  (hk:∀ A',Grow A A' 500→K (.int .i64 (NY m k t)) A'):Wc Tp Ak W0 m0 144 [.agg ⟨m.BM⟩] A K:=by
 have hkl:m.key.data.toList.length=m.key.size:=(size_eq _).symm;have hpl:m.pid.data.toList.length=m.pid.size:=(size_eq _).symm;have e1:m.app.kind=t.nd.kind:=h.1.1;have no:∀ A',Grow A A' 500→¬ Ju m k t→K (.int .i64 90) A':=fun A' g hn=>by have:=hk A' g;rw [Iu hn] at this;exact this
 have yes:∀ A',Grow A A' 500→Ju m k t→K (.int .i64 0) A':=fun A' g hn=>by have:=hk A' g;rw [G3 hn] at this;exact this
 refine Ahc _ _ (Au (S:=fun _ _ _=>False) fun _ _ _ h=>h) ?_;rw [Aiy];refine Am (cs:=m.BM) hf (by omega) rfl fun A1 m1=>?_;have n1:=m1.next;have g1:=Grow.made m1 hf;have r1:=m1.AS;simp only [K5,Jl,FE,Dm,B1,FZ,Hb r1,KI r1,QW r1,Qu r1,Nat.zero_add,Ab,Eb,hkl,hpl,Bc,AQ,Ah];have gg:=g1.more (m:=500) (by omega);refine ⟨fun h1=>no A1 gg fun ho=>by have:=ho.1;omega,fun h1=>⟨fun h2=>no A1 gg fun ho=>by have:=ho.2.1;omega,fun h2=>?_⟩⟩;have zero:∀ (A2:AW),Grow A A2 410→Go.Abs.Row1 A2 A.next m.BM 82→¬ (t.nd.kind=168∧JQ (k+1) t=0)→Nk W0 m0 K (pP A.next 0) A2:=by
  intro A2 g2 r2 hn;have n2:=g2.next;unfold Nk;simp only [FE,Nat.zero_add,Qu r2,AfF,Ab];refine Abx (h.keeps g2.keeps (by simp)) g2.Ap (by omega) fun A3 g3=>?_;have g23:=(g2.trans g3).more (m:=500) (by omega);refine Aj.2 ⟨fun hz=>yes A3 g23 ⟨by omega,by omega,.inl (GZ.1 hz)⟩,fun hz=>no A3 g23 fun ho=>?_⟩;rcases ho.2.2 with h | h
  ·rw [GZ.2 h] at hz;cases hz
  ·exact hn h
 refine Aq.2 ⟨fun hm=>?_,fun hm=>?_⟩
 ·refine AdG (h.keeps g1.keeps (by simp)) (by omega) m1.Ap hsz (by omega) hd hl fun A2 g2=>?_;have g12:=g1.trans g2;simp only [AQ,Ab];refine Aq.2 ⟨fun hv=>yes A2 (g12.more (by omega)) ⟨by omega,by omega,.inr ⟨by omega,hv⟩⟩,fun hv=>?_⟩;exact zero A2 (g12.more (by omega)) (r1.keeps g2.keeps (by simp)) fun h=>hv h.2
 ·exact zero A1 (g1.more (by omega)) r1 fun h=>by omega
theorem AdR {k:Nat} {t:DT (k+1)} {m:MV} {A:AW} {G:Nat} {K:Value→AW→Prop} (h:Du A G (k+1) m.app t) (hnum:QR (k+1) t) (hG:G<A.next) (hf:AH A) (hsz:Bl (k+1) t≤400) (hA:A.next+100000<Ao)
  (hd:KC.Holds Tp W0 m0 ⟨87,[.agg ⟨fV m.app⟩,.int .i64 6],[.bool (GK (k+1) t 6)]⟩) (hl:KC.Holds Tp W0 m0 ⟨86,[.agg ⟨fV m.app⟩,.int .i64 200],[.int .i64 (Dd (k+1) (form (k+1) t) 200)]⟩)
  (hk:∀ A',K (Gw m k t) A'):Wc Tp Ak W0 m0 128 [.agg ⟨m.BM⟩] A K:=by
 have hroom:room=68719476736:=rfl;have e1:m.app.kind=t.nd.kind:=h.1.1;refine Ahn _ _ (Au (S:=fun _ _ _=>False) fun _ _ _ h=>h) ?_;rw [AiJ];refine Am (cs:=m.BM) hf (by omega) rfl fun A1 m1=>?_;have n1:=m1.next;have g1:=Grow.made m1 hf;simp only [UD m1.AS,Ab];refine AdK (h.keeps g1.keeps (by simp)) (by omega) m1.Ap hsz (by omega) hd hl fun A2 g2=>?_;have g12:=g1.trans g2;have n2:=g12.next;have l2:=g2.le;have r2:=m1.AS.keeps g2.keeps (by simp);simp only [AR,Ab];refine AL.2 ⟨fun h1=>?_,fun h1=>?_⟩
 ·have hno:¬ Ju m k t:=fun h=>h1 (G3 h)
  have:=hk A2
  rw [VA hno] at this;exact this
 have hok:Ju m k t:=Classical.byContradiction fun hn=>by rw [Iu hn] at h1;omega
 have hks:Bm m.key≤255:=by rw [CB];exact hok.1
 have hps:Bm m.pid≤255:=by rw [CB];exact hok.2.1
 have hf3:=Qk m;have hf3l:=Ox m;have hf1l:=SO m;rw [R5 hok] at hk;have htxk:(tx0 m.key).length≤256:=by
  unfold tx0;split
  ·simp
  ·rw [List.length_append,AP];have:m.key.data.toList.length=Bm m.key:=rfl;omega
 have htxp:(tx0 m.pid).length≤256:=by
  unfold tx0;split
  ·simp
  ·rw [List.length_append,AP];have:m.pid.data.toList.length=Bm m.pid:=rfl;omega
 simp only [K5,V1,V0,KR,B1,ME r2,Mm r2,Hb r2,Nat.zero_add,Ab,BP];refine RJ ?_;simp only [KR,B1,ME r2,Mm r2,Hb r2,Nat.zero_add,Ab,BP,BA];refine RJ ?_;simp only [KR,B1,ME r2,Mm r2,Hb r2,Nat.zero_add,Ab,BP,BA,AA];refine RJ ?_;simp only [KR,B1,ME r2,Mm r2,Hb r2,Nat.zero_add,Ab,BP,BA,AA];rw [V8];refine HG g2.Ap (by omega) rfl fun A3 m3=>?_;have n3:=m3.next;have g13:=g12.trans (.made m3 g2.Ap);have r3:=r2.keeps (m3.keeps g2.Ap) (by simp);simp only [B1,Hb r3,Ab,BA];refine Ow m3.row ?_;simp only [KR,B1,ME r3,Mm r3,Hb r3,Ab,BA];have hfl:be (Hc m) 2=[0,UInt8.ofNat (Hc m)]:=Qt (by omega);have b3:Buf 5 A3 (.slice (some ⟨A2.next,0,none⟩) 4 4) ([4,UInt8.ofNat 1]++be (Hc m) 2) [A2.next]:=by
  refine .inr (.inr ⟨A2.next,4,[],by rw [hfl];rfl,by omega,?_,by rw [hfl];rfl,rfl,rfl⟩);rw [hfl,List.append_nil]
  have:=m3.AS
  rw [W5] at this;exact this
 refine AaX b3 (by simp [AP]) hks m3.Ap (by omega) fun A4 v4 F4 b4 k4 hF4 n4 f4=>?_;have hF3:∀ y∈[A2.next],A.next<y:=fun y hy=>by rw [Ms.1 hy];omega
 have l3:=k4.next;have hF4':∀ y∈F4,A.next<y:=fun y hy=>by
  rcases hF4 y hy with h | h
  ·exact hF3 y h
  ·omega
 have g14:=g13.own k4 (fun y hy=>by have:=hF3 y hy;omega) (m:=3) (by omega) f4;have r4:=r3.keeps k4 (fun hn=>by have:=hF3 _ hn;omega);have hb4l:([4,UInt8.ofNat 1]++be (Hc m) 2++tx0 m.key).length<1000:=by simp only [List.length_append,AP,Lc,Ln];omega
 refine XE b4.rd (by omega) f4 (by omega) fun A5 g5=>?_;have n5:=g5.next;have g15:=g14.trans g5;have r5:=r4.keeps g5.keeps (by simp);have h15:=h.keeps g15.keeps (by simp);simp only [Jl,FE,Dm,FZ,B1,QW r5,KI r5,Nat.zero_add,Ab,AQ,Dz,Bo];obtain ⟨p1,hp1⟩:∃ p1,p1=[4,UInt8.ofNat 1]++be (Hc m) 2++tx0 m.key:=⟨_,rfl⟩;rw [← hp1] at hb4l ⊢;have hP1:KJ [] ([4,UInt8.ofNat 1]++be (Hc m) 2++tx0 m.key++[])=be p1.length 4++p1:=by rw [List.append_nil,← hp1];rfl
 have hmap:((m.app.kind:Int)==168)=true↔t.nd.kind=168:=by rw [beq_iff_eq];omega
 /- with a second part -/
 have more:EE m≠0→No W0 m0 K (pP A.next 0) A5 (.bool ((m.app.kind:Int)==168)) (.string ⟨⟨be p1.length 4++p1⟩⟩):=by
  intro h0;have hout:QP m k t=be p1.length 4++p1++(be ([4,UInt8.ofNat 3]++be (EE m) 2++tx0 m.pid++(if t.nd.kind=168 then BG (k+1) t else [])).length 4++([4,UInt8.ofNat 3]++be (EE m) 2++tx0 m.pid++(if t.nd.kind=168 then BG (k+1) t else []))):=by
   unfold QP;rw [Ff h0,hP1];unfold KJ;rw [Mw]
  unfold No;simp only [Jl,FE,B1,KI r5,Nat.zero_add,Ab,BP];refine RJ ?_;simp only [B1,KI r5,Ab,BA];refine RJ ?_;simp only [B1,KI r5,Ab,BA,AA];rw [V8];refine HG g5.Ap (by omega) rfl fun A6 m6=>?_;have n6:=m6.next;have l5:=g15.le;have g16:=g15.trans (.made m6 g5.Ap);have r6:=r5.keeps (m6.keeps g5.Ap) (by simp);simp only [B1,KI r6,Ab,BA];refine Ow m6.row ?_;have hfl3:be (EE m) 2=[0,UInt8.ofNat (EE m)]:=Qt (by omega);have b6:Buf 5 A6 (.slice (some ⟨A5.next,0,none⟩) 4 4) ([4,UInt8.ofNat 3]++be (EE m) 2) [A5.next]:=by
   refine .inr (.inr ⟨A5.next,4,[],by rw [hfl3];rfl,by omega,?_,by rw [hfl3];rfl,rfl,rfl⟩);rw [hfl3,List.append_nil]
   have:=m6.AS
   rw [UQ] at this;exact this
  refine AaX b6 (by simp [AP]) hps m6.Ap (by omega) fun A7 v7 F7 b7 k7 hF7 n7 f7=>?_;have l6:=g5.le;have hF6:∀ y∈[A5.next],A.next<y:=fun y hy=>by rw [Ms.1 hy];omega
  have l7:=k7.next;have hF7':∀ y∈F7,A.next<y:=fun y hy=>by
   rcases hF7 y hy with h | h
   ·exact hF6 y h
   ·omega
  have g17:=g16.own k7 (fun y hy=>by have:=hF6 y hy;omega) (m:=3) (by omega) f7;have n7':=g17.next;have r7:=r6.keeps k7 (fun hn=>by have:=hF6 _ hn;omega);have hb7l:([4,UInt8.ofNat 3]++be (EE m) 2++tx0 m.pid).length<1000:=by simp only [List.length_append,AP,Lc,Ln];omega
  refine Aj.2 ⟨fun hm=>?_,fun hm=>?_⟩
  ·have hK:=hmap.1 hm;have hv:JQ (k+1) t=0:=by
    rcases hok.2.2 with hz | hz
    ·have:=hz.1;omega
    ·exact hz.2
   have hmay:=(Lu hv).2.2;have hbl:=DV (k+1) t hmay
   have:=g17.le
   simp only [Qu r7,Ab];refine AaW (k+1) (h.keeps g17.keeps (by simp)) hmay hnum (by omega) f7 hsz (by omega) fun A8 v8 F8 b8 hF8 g8=>?_;have n8:=g8.next;refine BH tb (b7.keeps g8.keeps (by simp)) (BY tb b8.rd) g8.Ap (by omega) (by omega) fun v9 A9 F9 b9 k9 hF9 n9 f9=>?_;refine XE b9.rd (by rw [List.length_append];omega) f9 (by omega) fun A10 g10=>?_;rw [OS (by simp only [List.length_append,AP];simp only [List.length_append,AP] at hb7l;omega)];simp only [Ab]
   have:=hk A10
   rw [hout,if_pos hK] at this;exact this
  ·have hK:t.nd.kind≠168:=fun h=>by rw [hmap.2 h] at hm;cases hm
   refine XE b7.rd (by omega) f7 (by omega) fun A10 g10=>?_;rw [OS (by simp only [List.length_append,AP];simp only [List.length_append,AP] at hb7l;omega)];simp only [Ab]
   have:=hk A10
   rw [hout,Ff hK,List.append_nil] at this;exact this
 refine Aj.2 ⟨fun hp=>Aj.2 ⟨fun hm=>?_,fun hm=>more fun h0=>?_⟩,fun hp=>more fun h0=>?_⟩
 ·have h0:EE m=0:=by
   unfold EE;have hm':((m.app.kind:Int)==168)=false:=by simpa using hm
   rw [hp,hm'];rfl
  have:=hk A5
  unfold QP at this;rw [if_pos h0,hP1] at this;exact this
 ·have hm':((m.app.kind:Int)==168)=true:=by simpa using hm
  have:=hf3.2 (by rw [beq_iff_eq] at hm';omega)
  omega
 ·unfold EE at h0;rw [hp] at h0;simp only [Eo] at h0;simp at h0
end
noncomputable def dP(p:Prop):Bool:=@decide p (Classical.propDecidable p)
theorem Bu{p:Prop}:dP p=true↔p:=by unfold dP;simp
theorem Abg{b:Bool}{p:Prop}(h:b=true↔p):b=dP p:=by rw [Bool.eq_iff_iff,h,Bu]
theorem IP{p:Prop}:dP p=false↔¬ p:=by unfold dP;simp
theorem kB{p:Prop}{K:Value→AW→Prop}{A:AW}(h:K (.bool (dP p)) A){b:Bool}(hb:b=true↔p):K (.bool b) A:=by rw [Abg hb];exact h
theorem kT{p:Prop}{K:Value→AW→Prop}{A:AW}(h:K (.bool (dP p)) A)(hp:p):K (.bool true) A:=kB h ⟨fun _=>hp,fun _=>rfl⟩
theorem kF{p:Prop}{K:Value→AW→Prop}{A:AW}(h:K (.bool (dP p)) A)(hp:¬ p):K (.bool false) A:=kB h ⟨fun h=>(by cases h),fun h=>absurd h hp⟩
def Ac0(c:UInt8):Prop:=33≤c.toNat∧c.toNat≤126
def H4(s:ByteArray):Prop:=1≤s.size∧s.size≤40∧∀ i,i<s.size→Ac0 (s.get! i)
def HO(n:Nat):Prop:=1≤n∧n≤1099511627776
def DA(g b:ByteArray):Int:=if Bm g=0∨64<Bm g∨64<Bm b then 40 else 0
theorem IZ{g b:ByteArray}(h:DA g b=0):0<Bm g∧Bm g≤64∧Bm b≤64:=by
 unfold DA at h;split at h
 ·cases h
 ·omega
def T5(R:MV→ByteArray × Int)(m:MV):Value:=.tuple ⟨[.string (R m).1,.int .i64 (R m).2]⟩
def JR(R:MV→ByteArray × Int)(m:MV):Prop:=(R m).2=0∧Bm (R m).1≤8192
structure PK (W0:World) (m0:Inj Tp) (R:MV→ByteArray × Int) (m:MV):Prop where
 p:KC.Holds Tp W0 m0 ⟨156,[.agg ⟨m.BM⟩],[T5 R m]⟩
 d:KC.Holds Tp W0 m0 ⟨128,[.agg ⟨m.BM⟩],[T5 R m]⟩
theorem Zl:∀ a b:List UInt8,Op.bytesLess a b=true↔Go.Lib.compareBytes a b<0
 |[],[]=>by simp [Op.bytesLess,Go.Lib.compareBytes]
 |_::_,[]=>by simp [Op.bytesLess,Go.Lib.compareBytes]
 |[],_::_=>by simp [Op.bytesLess,Go.Lib.compareBytes]
 |a::x,b::y=>by
  have ih:=Zl x y;simp only [Op.bytesLess,Go.Lib.compareBytes,Bool.or_eq_true,Bq,decide_eq_true_eq,beq_iff_eq,ih];by_cases h1:a<b
  ·simp [h1]
  ·by_cases h2:b<a
   ·have:a≠b:=fun h=>by subst h;exact h1 h2
    simp [h1,h2,this]
   ·have:a=b:=UInt8.le_antisymm (UInt8.not_lt.1 h2) (UInt8.not_lt.1 h1)
    subst this;simp [h1]
theorem Vi{P:Program}{t:TypeId}{xo yo:Operand}{a b:ByteArray}:Af P .geq t xo yo (.string a) (.string b)=some (.bool !(Op.bytesLess a.data.toList b.data.toList)):=rfl
theorem P4(a b:ByteArray):Op.bytesLess a.data.toList b.data.toList=true↔Db a b<0:=Zl _ _
theorem N1:(∀ (t:TypeId) (xo yo:Operand),Af Tp .or t xo yo (.int .i64 0) (.int .i64 4)=some (.int .i64 4))∧(∀ (t:TypeId) (xo yo:Operand),Af Tp .or t xo yo (.int .i64 4) (.int .i64 8)=some (.int .i64 12))∧∀ (t:TypeId) (xo yo:Operand),Af Tp .or t xo yo (.int .i64 0) (.int .i64 8)=some (.int .i64 8):=⟨fun _ _ _=>rfl,fun _ _ _=>rfl,fun _ _ _=>rfl⟩
section
variable {A:AW} {b:Nat} {x:Nm}
theorem g46(h:Go.Abs.Row1 A b x.cells 46):A.cell? ⟨b,1,none⟩=some (.string x.g):=by rw [Ax h.row];exact AK rfl rfl
theorem b46(h:Go.Abs.Row1 A b x.cells 46):A.cell? ⟨b,2,none⟩=some (.string x.b):=by rw [Ax h.row];exact AK rfl rfl
end
section
variable {W0:World} {m0:Inj Tp}
theorem Z1{x:Nm}{A:AW}{K:Value→AW→Prop}(hf:AH A)(hA:A.next<Ao)(hk:∀ A',Grow A A' 1→K (.int .i64 (DA x.g x.b)) A'):Wc Tp Ak W0 m0 67 [.agg ⟨x.cells⟩] A K:=by
 refine w67 _ _ (Au (S:=fun _ _ _=>False) fun _ _ _ h=>h) ?_;rw [e67];refine Am (cs:=x.cells) hf hA rfl fun A1 m1=>?_;have hr:=hk A1 (.made m1 hf);have r1:=m1.AS;have hg:x.g.data.toList.length=Bm x.g:=rfl;have hb:x.b.data.toList.length=Bm x.b:=rfl;simp only [K7,K6,B1,Eb,g46 r1,b46 r1,Ab,Dz,Bc,Ah,Nat.zero_add,hg,hb];refine Aj.2 ⟨fun h=>?_,fun h=>⟨fun h2=>?_,fun h2=>⟨fun h3=>?_,fun h3=>?_⟩⟩⟩
 ·have:Bm x.g=0:=by rw [CB];exact (MO _).1 h
  rw [show DA x.g x.b=40 by unfold DA;rw [if_pos (.inl this)]] at hr;exact hr
 ·rw [show DA x.g x.b=40 by unfold DA;rw [if_pos (.inr (.inl (by omega)))]] at hr;exact hr
 ·rw [show DA x.g x.b=40 by unfold DA;rw [if_pos (.inr (.inr (by omega)))]] at hr;exact hr
 ·have:Bm x.g≠0:=fun h0=>by rw [(MO x.g).2 (by rw [← CB];exact h0)] at h;cases h
  rw [show DA x.g x.b=0 by unfold DA;rw [Ff (by omega)]] at hr;exact hr
theorem Z0{x:Nm}{A:AW}{K:Value→AW→Prop}(hf:AH A)(hA:A.next<Ao)(hk:∀ A',Grow A A' 1→K (.int .i64 (DA x.g x.b)) A'):Wc Tp Ak W0 m0 76 [.agg ⟨x.cells⟩] A K:=by
 refine w76 _ _ (Au (S:=fun _ _ _=>False) fun _ _ _ h=>h) ?_;rw [e76];refine Am (cs:=x.cells) hf hA rfl fun A1 m1=>?_;have hr:=hk A1 (.made m1 hf);have r1:=m1.AS;have hg:x.g.data.toList.length=Bm x.g:=rfl;have hb:x.b.data.toList.length=Bm x.b:=rfl;simp only [K7,K6,B1,Eb,g46 r1,b46 r1,Ab,Ar,Bc,Ah,Nat.zero_add,hg,hb];refine ⟨fun h=>?_,fun h=>⟨fun h2=>?_,fun h2=>⟨fun h3=>?_,fun h3=>?_⟩⟩⟩
 ·rw [show DA x.g x.b=40 by unfold DA;rw [if_pos (.inl (by omega))]] at hr;exact hr
 ·rw [show DA x.g x.b=40 by unfold DA;rw [if_pos (.inr (.inl (by omega)))]] at hr;exact hr
 ·rw [show DA x.g x.b=40 by unfold DA;rw [if_pos (.inr (.inr (by omega)))]] at hr;exact hr
 ·rw [show DA x.g x.b=0 by unfold DA;rw [Ff (by omega)]] at hr;exact hr
theorem AaZ{n:Nat}{A:AW}{K:Value→AW→Prop}(hk:K (.bool (dP (HO n))) A):Wc Tp Ak W0 m0 119 [.int .u64 (n:Int)] A K:=by
 refine Ahw _ _ (Au (S:=fun _ _ _=>False) fun _ _ _ h=>h) ?_;rw [AiS];simp only [BL,CV,Ab,Ah];exact ⟨fun h=>kB hk (by rw [decide_eq_true_iff];unfold HO;omega),fun h=>kF hk (by unfold HO;omega)⟩
theorem XF{n:Nat}{A:AW}{K:Value→AW→Prop}(hk:K (.bool (dP (HO n))) A):Wc Tp Ak W0 m0 104 [.int .u64 (n:Int)] A K:=by
 refine AhA _ _ (Au (S:=fun _ _ _=>False) fun _ _ _ h=>h) ?_;rw [AiW];simp only [BL,CV,Ab,Ah];exact ⟨fun h=>kB hk (by rw [decide_eq_true_iff];unfold HO;omega),fun h=>kF hk (by unfold HO;omega)⟩
theorem Abt{s:ByteArray}{A:AW}{K:Value→AW→Prop}(hk:K (.bool (dP (H4 s))) A):Wc Tp Ak W0 m0 89 [.string s] A K:=by
 have hsz:s.data.toList.length=s.size:=(size_eq s).symm;let I:Nat→Nat→List Value→AW→Prop:=fun g id vals A'=>A'=A∧id=0∧1≤s.size∧s.size≤40∧∃ i:Nat,vals=[.string s,.int .i64 (s.size:Int),.int .i64 (i:Int)]∧i≤s.size∧(∀ j,j<i→Ac0 (s.get! j))∧g=s.size-i;refine w89 _ _ (c89 (I:=I) fun g id vals A' d hI hd=>?_) ?_
 ·obtain ⟨rfl,rfl,h1,h40,i,rfl,hi,hc,rfl⟩:=hI;rw [AeC];simp only [L89,Mc,Mn,Li,and_true] at hd;obtain ⟨d0,d12,d13⟩:=hd;simp only [d0,d12,d13,Ar,Ab,Ah];refine ⟨fun hlt=>?_,fun hge=>kT hk ⟨h1,h40,fun j hj=>hc j (by omega)⟩⟩;have hlt:i<s.size:=by omega
  simp only [MX hlt,Ab,Ar,Bc,AA,Ah];refine ⟨fun h=>kF hk fun hq=>by have:=(hq.2.2 i hlt).1;omega,fun h2=>⟨fun h=>kF hk fun hq=>by have:=(hq.2.2 i hlt).2;omega,fun h3=>?_⟩⟩;rw [wrap_i64 (by omega) (by omega)];refine Ai.2 ⟨s.size-(i+1),by omega,rfl,rfl,h1,h40,i+1,rfl,by omega,fun j hj=>?_,rfl⟩;by_cases hji:j=i
  ·subst hji;exact ⟨by omega,by omega⟩
  ·exact hc j (by omega)
 ·rw [e89];simp only [Dz,Eb,hsz,Bc,Ab,Ah];refine Aj.2 ⟨fun h=>kF hk fun hq=>by have:=hq.1;have:=(MO s).1 h;omega,fun h=>⟨fun h2=>kF hk fun hq=>by have:=hq.2.1;omega,fun h2=>?_⟩⟩;have h1:1≤s.size:=by
   have:s.size≠0:=fun h0=>by rw [(MO s).2 h0] at h;cases h
   omega
  exact Ai.2 ⟨s.size,rfl,rfl,h1,by omega,0,rfl,Nat.zero_le _,fun j hj=>by omega,rfl⟩
theorem XG{s:ByteArray}{A:AW}{K:Value→AW→Prop}(hs:s.size<9223372036854775808)(hk:K (.bool (dP (H4 s))) A):Wc Tp Ak W0 m0 103 [.string s] A K:=by
 have hsz:s.data.toList.length=s.size:=(size_eq s).symm;let I:Nat→Nat→List Value→AW→Prop:=fun g id vals A'=>A'=A∧id=0∧∃ i:Nat,vals=[.string s,.int .i64 (i:Int)]∧i≤s.size∧(∀ j,j<i→Ac0 (s.get! j))∧g=s.size-i;refine AhB _ _ (Ajr (I:=I) fun g id vals A' d hI hd=>?_) ?_
 ·obtain ⟨rfl,rfl,i,rfl,hi,hc,rfl⟩:=hI;rw [AcF];simp only [ZQ,Mc,Mn,Li,and_true] at hd;obtain ⟨d0,d3⟩:=hd;simp only [d0,d3,Eb,hsz,Ar,BL,CV,Ab,Ah];refine ⟨fun hlt=>?_,fun hge=>⟨fun h1=>kB hk ?_,fun h1=>kF hk fun hq=>by have:=hq.1;omega⟩⟩
  ·have hlt:i<s.size:=by omega
   simp only [MX hlt,Ab,CV,BL,AA,Ah];refine ⟨fun h=>kF hk fun hq=>by have:=(hq.2.2 i hlt).1;omega,fun h2=>⟨fun h=>kF hk fun hq=>by have:=(hq.2.2 i hlt).2;omega,fun h3=>?_⟩⟩;rw [wrap_i64 (by omega) (by omega)];refine Ai.2 ⟨s.size-(i+1),by omega,rfl,rfl,i+1,rfl,by omega,fun j hj=>?_,rfl⟩;by_cases hji:j=i
   ·subst hji;exact ⟨by omega,by omega⟩
   ·exact hc j (by omega)
  ·rw [decide_eq_true_iff];exact ⟨fun h=>⟨by omega,by omega,fun j hj=>hc j (by omega)⟩,fun h=>by have:=h.2.1;omega⟩
 ·rw [AiX];exact Ai.2 ⟨s.size,rfl,rfl,0,rfl,Nat.zero_le _,fun j hj=>by omega,rfl⟩
end
def KE(R:MV→ByteArray × Int)(numbered:Bool)(u:UV):Prop:=H4 u.queue∧(if numbered=true then HO u.m.id else u.m.id=0)∧Bm u.m.body≤4096∧JR R u.m
def R8(r:FV):Prop:=H4 r.queue∧HO r.id
def XC(R:MV→ByteArray × Int)(numbered:Bool)(us:List UV)(fs:List FV):Prop:=(∀ u∈us,KE R numbered u)∧∀ r∈fs,R8 r
def Eg(R:MV→ByteArray × Int)(numbered:Bool)(x:Nm)(us:List UV)(fs:List FV):Prop:=(numbered=false→DA x.g x.b=0)∧XC R numbered us fs
noncomputable def eI(n:Int)(p:Prop):Int:=@ite _ p (Classical.propDecidable p) 0 n
theorem Gj{n:Int}{p:Prop}(h:p):eI n p=0:=if_pos h
theorem Abe{n:Int}{p:Prop}(h:¬ p):eI n p=n:=Ff h
theorem FG{n:Int}{p:Prop}(hn:n≠0):eI n p=0↔p:=by
 constructor
 ·intro h;refine Classical.byContradiction fun hp=>?_;rw [Abe hp] at h;exact hn h
 ·exact Gj
theorem kE{n:Int}{p:Prop}{K:Value→AW→Prop}{A:AW}(h:K (.int .i64 (eI n p)) A):(p→K (.int .i64 0) A)∧(¬ p→K (.int .i64 n) A):=⟨fun hp=>by rw [Gj hp] at h;exact h,fun hp=>by rw [Abe hp] at h;exact h⟩
theorem Ajx:Ch Tp 46 []=some (.agg ⟨nm0.cells⟩):=by kernel_rfl
def fEn(kind:Nat)(x:Nm)(ps ts:SL):List Value:=[.int .u8 (kind:Int),.string ⟨⟨[]⟩⟩,.int .u64 0,.int .u32 (x.f:Int),.string x.g,.string x.b,ps.val,ts.val]
theorem ED{p q:Prop}:Ae (.bool true) p q↔p:=by rw [Aj];simp
theorem DS{p q:Prop}:Ae (.bool false) p q↔q:=by rw [Aj];simp
theorem AfI(t:TypeId)(xo yo:Operand):Af Tp .and t xo yo (.int .i64 8) (.int .i64 1)=some (.int .i64 0)∧Af Tp .and t xo yo (.int .i64 8) (.int .i64 2)=some (.int .i64 0)∧Af Tp .and t xo yo (.int .i64 8) (.int .i64 4)=some (.int .i64 0)∧Af Tp .and t xo yo (.int .i64 8) (.int .i64 8)=some (.int .i64 8):=⟨rfl,rfl,rfl,rfl⟩
theorem Ac8(t:TypeId)(xo yo:Operand):Af Tp .and t xo yo (.int .i64 12) (.int .i64 1)=some (.int .i64 0)∧Af Tp .and t xo yo (.int .i64 12) (.int .i64 2)=some (.int .i64 0)∧Af Tp .and t xo yo (.int .i64 12) (.int .i64 4)=some (.int .i64 4)∧Af Tp .and t xo yo (.int .i64 12) (.int .i64 8)=some (.int .i64 8):=⟨rfl,rfl,rfl,rfl⟩
theorem Wa{xo yo:Operand}{a b:Bool}:Af Tp .eql 4 xo yo (.bool a) (.bool b)=some (.bool (a==b)):=by cases a<;>cases b<;>kernel_rfl
theorem AaD{xo yo:Operand}{a b:Bool}:Af Tp .neq 4 xo yo (.bool a) (.bool b)=some (.bool (a != b)):=by cases a<;>cases b<;>kernel_rfl
theorem AcV(A:AW)(v:Value)(a:Addr):Cu Tp Ak A (.func (.func 135) ⟨[]⟩ ⟨[.pointer (some a)]⟩) [v]=.ok (.enter 135 [v,.pointer (some a)]) A:=by kernel_rfl
theorem AcU(A:AW)(v:Value):Cu Tp Ak A (.func (.func 138) #[] #[]) [v]=.ok (.enter 138 [v]) A:=by kernel_rfl
section
variable {A:AW} {b:Nat} {u:UV}
theorem Sh(h:Go.Abs.Row1 A b (fU u) 134):Ad Tp A 82 (pP b 2)=some (.agg ⟨u.m.BM⟩):=by
 have:A.cells? ⟨b,2,none⟩ 9=some u.m.BM:=by rw [Bd h.row];rfl
 rw [Sv,this]
theorem VO(h:Go.Abs.Row1 A b (fU u) 134):Ad Tp A 134 (pP b 0)=some (.agg ⟨fU u⟩):=by
 have:A.cells? ⟨b,0,none⟩ 12=some (fU u):=by rw [Bd h.row];rfl
 rw [Acb,this]
theorem AbV(h:Go.Abs.Row1 A b (fU u) 134):A.cell? ⟨b,0,none⟩=some (.string u.queue):=by rw [Ax h.row];exact AK rfl rfl
theorem i134(h:Go.Abs.Row1 A b (fU u) 134):A.cell? ⟨b,1,none⟩=some (.int .u64 (u.m.id:Int)):=by rw [Ax h.row];exact AK rfl rfl
theorem Adl(h:Go.Abs.Row1 A b (fU u) 134):A.cell? ⟨b,11,none⟩=some (.string u.m.body):=by rw [Ax h.row];exact AK rfl rfl
end
section
variable {A:AW} {b kind:Nat} {x:Nm} {ps ts:SL}
theorem YB(h:Go.Abs.Row1 A b (fEn kind x ps ts) 92):Ad Tp A 92 (pP b 0)=some (.agg ⟨fEn kind x ps ts⟩):=by
 have:A.cells? ⟨b,0,none⟩ 8=some (fEn kind x ps ts):=by rw [Bd h.row];rfl
 rw [YG,this]
theorem x92(h:Go.Abs.Row1 A b (fEn kind x ps ts) 92):Ad Tp A 46 (pP b 3)=some (.agg ⟨x.cells⟩):=by
 have:A.cells? ⟨b,3,none⟩ 3=some x.cells:=by rw [Bd h.row];rfl
 rw [D0,this]
theorem k92(h:Go.Abs.Row1 A b (fEn kind x ps ts) 92):A.cell? ⟨b,0,none⟩=some (.int .u8 (kind:Int)):=by rw [Ax h.row];exact AK rfl rfl
theorem s92(h:Go.Abs.Row1 A b (fEn kind x ps ts) 92):A.cell? ⟨b,1,none⟩=some (.string ⟨⟨[]⟩⟩):=by rw [Ax h.row];exact AK rfl rfl
theorem AbZ(h:Go.Abs.Row1 A b (fEn kind x ps ts) 92):A.cell? ⟨b,2,none⟩=some (.int .u64 0):=by rw [Ax h.row];exact AK rfl rfl
theorem p92(h:Go.Abs.Row1 A b (fEn kind x ps ts) 92):A.cell? ⟨b,6,none⟩=some ps.val:=by rw [Ax h.row];exact AK rfl rfl
theorem t92(h:Go.Abs.Row1 A b (fEn kind x ps ts) 92):A.cell? ⟨b,7,none⟩=some ts.val:=by rw [Ax h.row];exact AK rfl rfl
end
section
variable {W0:World} {m0:Inj Tp}
theorem AdJ {A:AW} {v fn:Value} {l:List UV} {F:List Nat} {K:Value→AW→Prop} (hl:RdE 11 fU A v l F) (hf:AH A) (p:Nat→Bool) (c:Nat→Nat) (hc:∀ i j,i≤j→c i≤c j) (hlen:l.length<1000000)
  (hd:∀ (i:Nat) x (A1:AW) (K1:Value→AW→Prop),l[i]? =some x→Grow A A1 (c i)→(∀ A',Grow A A' (c (i+1))→K1 (.bool (p i)) A')→anW Tp Ak W0 m0 (Cu Tp Ak A1 fn [.agg ⟨fU x⟩]) K1)
  (hk:∀ (r:Int) A',Grow A A' (c l.length)→(0≤r↔∃ i,i<l.length∧p i=true)→K (.int .i64 r) A'):Wc Tp Ak W0 m0 150 [v,fn] A K:=by
 let I:Nat→Nat→List Value→AW→Prop:=fun g id vals A'=>id=0∧∃ i:Nat,vals=[v,fn,.int .i64 (l.length:Int),.int .i64 (i:Int)]∧i≤l.length∧(∀ j,j<i→p j=false)∧g=l.length-i∧Grow A A' (c i);refine Ag7 _ _ _ (Ajm (I:=I) fun g id vals A' d hI hd'=>?_) ?_
 ·obtain ⟨rfl,i,rfl,hi,hp,rfl,hg⟩:=hI;rw [AcA];simp only [ZL,Mc,Mn,Li,and_true] at hd';obtain ⟨d0,d1,d7,d8⟩:=hd';simp only [d0,d1,d7,d8,Ar,Ab,Ah];refine ⟨fun hlt=>?_,fun hge=>?_⟩
  ·have hlt:i<l.length:=by omega
   obtain ⟨x,hx⟩:∃ x,l[i]? =some x:=⟨_,Ge hlt⟩;obtain ⟨r,o,a1,a2,a3⟩:=(hl.keeps hg.keeps (by simp)).at etU hx;simp only [a1,a3,Ab];refine hd i x A' _ hx hg fun A2 g2=>?_;refine Aj.2 ⟨fun ht=>?_,fun hfl=>?_⟩
   ·refine hk _ A2 (g2.more (hc _ _ (by omega))) ⟨fun _=>⟨i,hlt,ht⟩,fun _=>by omega⟩
   ·simp only [AA,Ab];rw [wrap_i64 (by omega) (by omega)];refine Ai.2 ⟨l.length-(i+1),by omega,rfl,i+1,rfl,by omega,fun j hj=>?_,rfl,g2⟩;by_cases hji:j=i
    ·subst hji;exact hfl
    ·exact hp j (by omega)
  ·have hi':i=l.length:=by omega
   subst hi';exact hk _ A' hg ⟨fun h=>by omega,fun ⟨j,hj,hpj⟩=>by rw [hp j hj] at hpj;cases hpj⟩
 ·rw [Ait];simp only [hl.len etU,Ab];exact Ai.2 ⟨l.length,rfl,0,rfl,Nat.zero_le _,fun j hj=>by omega,rfl,(Grow.refl hf).more (Nat.zero_le _)⟩
theorem AdQ {A:AW} {v fn:Value} {l:List UV} {F:List Nat} {K:Value→AW→Prop} (hl:RdE 11 fU A v l F) (hf:AH A) (p:Nat→Bool) (c:Nat→Nat) (hc:∀ i j,i≤j→c i≤c j) (hlen:l.length<1000000)
  (hd:∀ (i:Nat) x (A1:AW) (K1:Value→AW→Prop),l[i]? =some x→Grow A A1 (c i)→(∀ A',Grow A A' (c (i+1))→K1 (.bool (p i)) A')→anW Tp Ak W0 m0 (Cu Tp Ak A1 fn [.agg ⟨fU x⟩]) K1)
  (hk:∀ (b:Bool) A',Grow A A' (c l.length)→(b=true↔∃ i,i<l.length∧p i=true)→K (.bool b) A'):Wc Tp Ak W0 m0 134 [v,fn] A K:=by
 refine Ahm _ _ _ (Au (S:=fun _ _ _=>False) fun _ _ _ h=>h) ?_;rw [AiI];refine AdJ hl hf p c hc hlen hd fun r A' hg hr=>?_;simp only [BL,Ab];exact hk _ A' hg (by rw [decide_eq_true_iff];exact hr)
theorem AdH {A:AW} {v fn:Value} {l:List FV} {F:List Nat} {K:Value→AW→Prop} (hl:RdE 1 fF A v l F) (hf:AH A) (p:Nat→Bool) (c:Nat→Nat) (hc:∀ i j,i≤j→c i≤c j) (hlen:l.length<1000000)
  (hd:∀ (i:Nat) x (A1:AW) (K1:Value→AW→Prop),l[i]? =some x→Grow A A1 (c i)→(∀ A',Grow A A' (c (i+1))→K1 (.bool (p i)) A')→anW Tp Ak W0 m0 (Cu Tp Ak A1 fn [.agg ⟨fF x⟩]) K1)
  (hk:∀ (r:Int) A',Grow A A' (c l.length)→(0≤r↔∃ i,i<l.length∧p i=true)→K (.int .i64 r) A'):Wc Tp Ak W0 m0 152 [v,fn] A K:=by
 let I:Nat→Nat→List Value→AW→Prop:=fun g id vals A'=>id=0∧∃ i:Nat,vals=[v,fn,.int .i64 (l.length:Int),.int .i64 (i:Int)]∧i≤l.length∧(∀ j,j<i→p j=false)∧g=l.length-i∧Grow A A' (c i);refine Ag5 _ _ _ (Ajl (I:=I) fun g id vals A' d hI hd'=>?_) ?_
 ·obtain ⟨rfl,i,rfl,hi,hp,rfl,hg⟩:=hI;rw [Acz];simp only [ZK,Mc,Mn,Li,and_true] at hd';obtain ⟨d0,d1,d7,d8⟩:=hd';simp only [d0,d1,d7,d8,Ar,Ab,Ah];refine ⟨fun hlt=>?_,fun hge=>?_⟩
  ·have hlt:i<l.length:=by omega
   obtain ⟨x,hx⟩:∃ x,l[i]? =some x:=⟨_,Ge hlt⟩;obtain ⟨r,o,a1,a2,a3⟩:=(hl.keeps hg.keeps (by simp)).at etF hx;simp only [a1,a3,Ab];refine hd i x A' _ hx hg fun A2 g2=>?_;refine Aj.2 ⟨fun ht=>?_,fun hfl=>?_⟩
   ·refine hk _ A2 (g2.more (hc _ _ (by omega))) ⟨fun _=>⟨i,hlt,ht⟩,fun _=>by omega⟩
   ·simp only [AA,Ab];rw [wrap_i64 (by omega) (by omega)];refine Ai.2 ⟨l.length-(i+1),by omega,rfl,i+1,rfl,by omega,fun j hj=>?_,rfl,g2⟩;by_cases hji:j=i
    ·subst hji;exact hfl
    ·exact hp j (by omega)
  ·have hi':i=l.length:=by omega
   subst hi';exact hk _ A' hg ⟨fun h=>by omega,fun ⟨j,hj,hpj⟩=>by rw [hp j hj] at hpj;cases hpj⟩
 ·rw [Air];simp only [hl.len etF,Ab];exact Ai.2 ⟨l.length,rfl,0,rfl,Nat.zero_le _,fun j hj=>by omega,rfl,(Grow.refl hf).more (Nat.zero_le _)⟩
theorem AdO {A:AW} {v fn:Value} {l:List FV} {F:List Nat} {K:Value→AW→Prop} (hl:RdE 1 fF A v l F) (hf:AH A) (p:Nat→Bool) (c:Nat→Nat) (hc:∀ i j,i≤j→c i≤c j) (hlen:l.length<1000000)
  (hd:∀ (i:Nat) x (A1:AW) (K1:Value→AW→Prop),l[i]? =some x→Grow A A1 (c i)→(∀ A',Grow A A' (c (i+1))→K1 (.bool (p i)) A')→anW Tp Ak W0 m0 (Cu Tp Ak A1 fn [.agg ⟨fF x⟩]) K1)
  (hk:∀ (b:Bool) A',Grow A A' (c l.length)→(b=true↔∃ i,i<l.length∧p i=true)→K (.bool b) A'):Wc Tp Ak W0 m0 137 [v,fn] A K:=by
 refine Ahj _ _ _ (Au (S:=fun _ _ _=>False) fun _ _ _ h=>h) ?_;rw [AiF];refine AdH hl hf p c hc hlen hd fun r A' hg hr=>?_;simp only [BL,Ab];exact hk _ A' hg (by rw [decide_eq_true_iff];exact hr)
theorem AdI{R:MV→ByteArray × Int}{m:MV}{A:AW}{K:Value→AW→Prop}(hp:PK W0 m0 R m)(hf:AH A)(hA:A.next+1<Ao)(hk:∀ A',Grow A A' 1→K (.bool (dP (JR R m))) A'):Wc Tp Ak W0 m0 151 [.agg ⟨m.BM⟩] A K:=by
 refine Ag6 _ _ (Au (S:=fun _ _ _=>False) fun _ _ _ h=>h) ?_;rw [Ais];refine Am (cs:=m.BM) hf (by omega) rfl fun A1 m1=>?_;have hk:=hk A1 (.made m1 hf);have hl:(R m).1.data.toList.length=Bm (R m).1:=rfl;simp only [UD m1.AS,Ab];refine knL (by decide) hp.p rfl fun v hv=>?_;obtain rfl:=Ms.1 hv;simp only [T5,Aw,List.getElem?_cons_zero,List.getElem?_cons_succ,Ab,AQ];refine Aq.2 ⟨fun h=>?_,fun h=>kF hk fun hs=>h hs.1⟩;simp only [Eb,hl,CV,Ab];exact kB hk (by rw [decide_eq_true_iff];exact ⟨fun h2=>⟨h,by omega⟩,fun h2=>by have:=h2.2;omega⟩)
theorem AdP{R:MV→ByteArray × Int}{u:UV}{n:Bool}{A:AW}{K:Value→AW→Prop}(hp:PK W0 m0 R u.m)(hf:AH A)(hA:A.next+2<Ao)(hk:∀ A',Grow A A' 2→K (.bool (dP (KE R n u))) A'):Wc Tp Ak W0 m0 136 [.agg ⟨fU u⟩,.bool n] A K:=by
 have hbl:u.m.body.data.toList.length=Bm u.m.body:=rfl;refine Ahk _ _ _ (Au (S:=fun _ _ _=>False) fun _ _ _ h=>h) ?_;rw [AiG];refine Am (cs:=fU u) hf (by omega) rfl fun A1 m1=>?_;have n1:=m1.next;have g1:=Grow.made m1 hf;have r1:=m1.AS;have hk1:=hk A1 (g1.more (by omega));simp only [IJ,OE,B1,Cl,AbV r1,i134 r1,Ab,Nat.zero_add];have q:H4 u.queue→(if n=true then HO u.m.id else u.m.id=0)→Nn W0 m0 K (pP A.next 0) A1:=by
  intro hq hi;unfold Nn;simp only [OC,OD,B1,Adl r1,Sh r1,Nat.zero_add,Ab,Eb,hbl,CV,Ah];refine ⟨fun h=>AdI hp m1.Ap (by omega) fun A2 g2=>?_,fun h=>kF hk1 fun ho=>by have:=ho.2.2.1;omega⟩;exact kB (hk A2 ((g1.trans g2).more (by omega))) (by rw [Bu];exact ⟨fun h2=>⟨hq,hi,by omega,h2⟩,fun h2=>h2.2.2.2⟩)
 refine Abt ?_;refine Aj.2 ⟨fun hq=>?_,fun hq=>kF hk1 fun ho=>IP.1 hq ho.1⟩;have hq:=Bu.1 hq;simp only [i134 r1,Ab];refine AaZ ?_;rw [Wa];simp only [Ab];cases n with
 |true=>
  refine Aj.2 ⟨fun hi=>Aj.2 ⟨fun _=>q hq (by rw [if_pos rfl];exact Bu.1 (by simpa using hi)),fun h=>by cases h⟩,fun hi=>kF hk1 fun ho=>?_⟩
  have:=ho.2.1
  rw [if_pos rfl] at this;rw [Bu.2 this] at hi;cases hi
 |false=>
  refine Aj.2 ⟨fun hi=>Aj.2 ⟨fun h=>(by cases h),fun _=>?_⟩,fun hi=>kF hk1 fun ho=>?_⟩
  ·simp only [i134 r1,AQ,Ab];refine Aq.2 ⟨fun h0=>q hq (by rw [Ff (by simp)];omega),fun h0=>kF hk1 fun ho=>?_⟩
   have:=ho.2.1
   rw [Ff (by simp)] at this;omega
  ·have:=ho.2.1
   rw [Ff (by simp)] at this;have hn:¬ HO u.m.id:=by unfold HO;omega
   rw [IP.2 hn] at hi;cases hi
theorem AdN{r:FV}{A:AW}{K:Value→AW→Prop}(hf:AH A)(hA:A.next+1<Ao)(hk:∀ A',Grow A A' 1→K (.bool (!dP (R8 r))) A'):Wc Tp Ak W0 m0 138 [.agg ⟨fF r⟩] A K:=by
 refine Ahi _ _ (Au (S:=fun _ _ _=>False) fun _ _ _ h=>h) ?_;rw [AiE];refine Am (cs:=fF r) hf (by omega) rfl fun A1 m1=>?_;have hk:=hk A1 (.made m1 hf);have r1:Go.Abs.Row1 A1 A.next [.string r.queue,.int .u64 (r.id:Int)] 120:=m1.AS;simp only [IK,K9,B1,Cl,Ax r1.row,cellOf,BX,B7,Cf,Ab,Nat.zero_add];refine Abt ?_;simp only [Bo,Ab];refine Aj.2 ⟨fun hq=>?_,fun hq=>?_⟩
 ·rw [IP.2 fun ho=>IP.1 (by simpa using hq) ho.1] at hk;exact hk
 ·have hq:=Bu.1 (show dP (H4 r.queue)=true by simpa using hq);simp only [Ax r1.row,cellOf,B7,Cf,Ab];refine AaZ ?_
  have:dP (HO r.id)=dP (R8 r):=Abg (by rw [Bu];exact ⟨fun h=>⟨hq,h⟩,fun h=>h.2⟩)
  rw [this];simp only [Bo,Ab];exact hk
theorem AdY {R:MV→ByteArray × Int} {kind:Nat} {x:Nm} {ps ts:SL} {us:List UV} {fs:List FV} {F F':List Nat} {A:AW} {K:Value→AW→Prop} (hu:RdE 11 fU A ps.val us F) (hul:us.length≤100) (hfl:RdE 1 fF A ts.val fs F') (hfs:fs.length≤100) (hp:∀ u∈us,PK W0 m0 R u.m) (hf:AH A) (hA:A.next+1000<Ao)
  (hk:∀ A',Grow A A' 500→K (.bool (dP (XC R (decide (kind=3)) us fs))) A'):Wc Tp Ak W0 m0 120 [.agg ⟨fEn kind x ps ts⟩] A K:=by
 refine Ahv _ _ (Au (S:=fun _ _ _=>False) fun _ _ _ h=>h) ?_;rw [AiR];refine Am (cs:=fEn kind x ps ts) hf (by omega) rfl fun A1 m1=>?_;have n1:=m1.next;have g1:=Grow.made m1 hf;have r1:=m1.AS;have hu1:=hu.keeps g1.keeps (by simp);simp only [Nv,K0,KQ,G6,p92 r1,t92 r1,Nat.zero_add,Ab,hu1.len etU,hfl.len etF,Bc,Ah];refine ⟨fun h=>by omega,fun _=>⟨fun h=>by omega,fun _=>?_⟩⟩;refine AdQ hu1 m1.Ap (fun i=>match us[i]? with | some u=>!dP (KE R (decide (kind=3)) u) | none=>false) (fun i=>3*i) (fun i j h=>by show 3*i≤3*j;omega) (by omega) (fun i u A2 K2 hi g2 hk2=>?_) fun b A2 g2 hb=>?_
 ·have hil:=(Gs.1 hi).1;have n2:=g2.next;refine .inr (.inl ⟨135,_,_,AcV _ _ _,?_⟩);refine Ahl _ _ _ (Au (S:=fun _ _ _=>False) fun _ _ _ h=>h) ?_;rw [AiH];refine Am (cs:=fU u) g2.Ap (by omega) rfl fun A3 m3=>?_;have n3:=m3.next;have g3:=Grow.made m3 g2.Ap;have r3:=(r1.keeps g2.keeps (by simp)).keeps g3.keeps (by simp);simp only [VO m3.AS,Nx,UH,k92 r3,Ab,AQ];refine AdP (n:=((kind:Int)==3)) (hp u (List.mem_of_getElem? hi)) m3.Ap (by omega) fun A4 g4=>?_;simp only [Bo,Ab]
  have:=hk2 A4 (((g2.trans g3).trans g4).more (by omega))
  simp only [hi] at this;have e:((kind:Int)==3)=decide (kind=3):=by rw [Bool.eq_iff_iff,beq_iff_eq,decide_eq_true_iff];omega
  rw [e];exact this
 ·have n2:=g2.next;have g12:=g1.trans g2;simp only [Bo,Ab];have hall:b=false↔∀ u∈us,KE R (decide (kind=3)) u:=by
   constructor
   ·intro h u hu;obtain ⟨i,hi⟩:=List.mem_iff_getElem?.1 hu;refine Classical.byContradiction fun hn=>?_
    have:b=true:=hb.2 ⟨i,(Gs.1 hi).1,by rw [hi];show (!dP _)=true;rw [IP.2 hn];rfl⟩
    rw [this] at h;cases h
   ·intro h;cases b with
    |false=>rfl
    |true=>
     obtain ⟨i,_,hi⟩:=hb.1 rfl;cases hq:us[i]? with
     |none=>rw [hq] at hi;cases hi
     |some u=>
      rw [hq] at hi
      have:=Bu.2 (h u (List.mem_of_getElem? hq))
      simp only [this] at hi;cases hi
  refine Aj.2 ⟨fun hb1=>?_,fun hb1=>kF (hk A2 (g12.more (by omega))) fun hw=>?_⟩
  ·have hb0:=hall.1 (by simpa using hb1);have r2:=r1.keeps g2.keeps (by simp);simp only [G6,t92 r2,Ab];refine AdO (hfl.keeps g12.keeps (by simp)) g2.Ap (fun i=>match fs[i]? with | some u=>!dP (R8 u) | none=>false) (fun i=>i) (fun i j h=>h) (by omega) (fun i u A3 K3 hi g3 hk3=>?_) fun b A3 g3 hb=>?_
   ·have hil:=(Gs.1 hi).1;have n3:=g3.next;refine .inr (.inl ⟨138,_,_,AcU _ _,?_⟩);refine AdN g3.Ap (by omega) fun A4 g4=>?_
    have:=hk3 A4 (g3.trans g4)
    simp only [hi] at this;exact this
   ·simp only [Bo,Ab];refine kB (hk A3 ((g12.trans g3).more (by omega))) ?_;constructor
    ·intro h;refine ⟨hb0,fun r hr=>?_⟩;obtain ⟨i,hi⟩:=List.mem_iff_getElem?.1 hr;refine Classical.byContradiction fun hn=>?_
     have:b=true:=hb.2 ⟨i,(Gs.1 hi).1,by rw [hi];show (!dP _)=true;rw [IP.2 hn];rfl⟩
     rw [this] at h;cases h
    ·intro h;cases b with
     |false=>rfl
     |true=>
      obtain ⟨i,_,hi⟩:=hb.1 rfl;cases hq:fs[i]? with
      |none=>rw [hq] at hi;cases hi
      |some u=>
       rw [hq] at hi
       have:=Bu.2 (h.2 u (List.mem_of_getElem? hq))
       simp only [this] at hi;cases hi
  ·have:=hall.2 hw.1
   rw [this] at hb1;cases hb1
theorem Adn {R:MV→ByteArray × Int} {kind:Nat} {x:Nm} {ps ts:SL} {us:List UV} {fs:List FV} {F F':List Nat} {A:AW} {K:Value→AW→Prop} (hkd:(kind=3∧x=nm0)∨kind=4) (hu:RdE 11 fU A ps.val us F) (hul:us.length≤100) (hfl:RdE 1 fF A ts.val fs F') (hfs:fs.length≤100) (hp:∀ u∈us,PK W0 m0 R u.m) (hf:AH A) (hA:A.next+1100<Ao)
  (hk:∀ A',Grow A A' 600→K (.int .i64 (eI 130 (Eg R (decide (kind=3)) x us fs))) A'):Wc Tp Ak W0 m0 90 [.agg ⟨fEn kind x ps ts⟩] A K:=by
 refine w90 _ _ (Au (S:=fun _ _ _=>False) fun _ _ _ h=>h) ?_;rw [e90];refine Am (cs:=fEn kind x ps ts) hf (by omega) rfl fun A1 m1=>?_;have n1:=m1.next;have g1:=Grow.made m1 hf;have r1:=m1.AS;have hs0:((⟨⟨[]⟩⟩:ByteArray).data.toList==(⟨⟨[]⟩⟩:ByteArray).data.toList)=true:=rfl
 /- the work -/
 have work:∀ (A2:AW),Grow A A2 3→Go.Abs.Row1 A2 A.next (fEn kind x ps ts) 92→(decide (kind=3)=false→DA x.g x.b=0)→Wc Tp Ak W0 m0 120 [.agg ⟨fEn kind x ps ts⟩] A2 fun t At=>Aa (unA Tp .not t) fun t2=>Ae t2 (K (.int .i64 130) At) (K (.int .i64 0) At):=by
  intro A2 g2 r2 hx;have n2:=g2.next;refine AdY (hu.keeps g2.keeps (by simp)) hul (hfl.keeps g2.keeps (by simp)) hfs hp g2.Ap (by omega) fun A3 g3=>?_;have h3:=kE (hk A3 ((g2.trans g3).more (by omega)));simp only [Bo,Ab];refine Aj.2 ⟨fun h=>h3.2 fun he=>?_,fun h=>h3.1 ⟨hx,Bu.1 (by simpa using h)⟩⟩;rw [Bu.2 he.2] at h;cases h
 simp only [Nx,UH,k92 r1,Ab];refine Ahx _ _ (Au (S:=fun _ _ _=>False) fun _ _ _ h=>h) ?_;rw [AiT];have a8:=AfI;have a12:=Ac8;rcases hkd with ⟨rfl,rfl⟩ | rfl
 ·have hne:(nm0.cells=nm0.cells):=rfl;have b1:(((3:Nat):Int)==1)=false:=rfl;have b2:(((3:Nat):Int)==2)=false:=rfl;have b4:(((3:Nat):Int)==4)=false:=rfl;have b3:(((3:Nat):Int)==3)=true:=rfl;have c80:((8:Int)==0)=false:=rfl;have c00:((0:Int)==0)=true:=rfl;have d00:((0:Int) != 0)=false:=rfl;have hk0:QX nm0 nm0=true:=by rw [Dr]
  simp only [AQ,Ab,b1,b2,b3,b4,ED,DS,N1.1,N1.2.1,N1.2.2,c80,(a8 _ _ _).1,AR,d00];unfold QL;simp only [(a8 _ _ _).1,Ab,AQ,c00,ED,Nw,B1,s92 r1,Nat.zero_add,BP,hs0,Bool.not_true,DS];unfold QM;simp only [(a8 _ _ _).2.1,Ab,AQ,AR,c00,d00,ED,DS,Q6,Cl,AbZ r1,Nat.zero_add];unfold LG;simp only [(a8 _ _ _).2.2.1,(a8 _ _ _).2.2.2,Ab,AQ,AR,c00,d00,c80,ED,DS,Q5,x92 r1,Nat.zero_add,Ajx,AhL,hk0,Bool.not_true,YB r1];exact work A1 (g1.more (by omega)) r1 (by simp)
 ·have b1:(((4:Nat):Int)==1)=false:=rfl;have b2:(((4:Nat):Int)==2)=false:=rfl;have b4:(((4:Nat):Int)==4)=true:=rfl;have c12:((12:Int)==0)=false:=rfl;have c4:((4:Int)==0)=false:=rfl;have c8:((8:Int)==0)=false:=rfl;have d4:((4:Int) != 0)=true:=rfl;have c00:((0:Int)==0)=true:=rfl;have d00:((0:Int) != 0)=false:=rfl;simp only [AQ,Ab,b1,b2,b4,ED,DS];unfold KD;simp only [N1.1,N1.2.1,Ab,c12,DS,(a12 _ _ _).1,AR,AQ,d00];unfold QL;simp only [(a12 _ _ _).1,Ab,AQ,c00,ED,Nw,B1,s92 r1,Nat.zero_add,BP,hs0,Bool.not_true,DS];unfold QM;simp only [(a12 _ _ _).2.1,Ab,AQ,AR,c00,d00,ED,DS,Q6,Cl,AbZ r1,Nat.zero_add];unfold LG;simp only [(a12 _ _ _).2.2.1,Ab,AR,d4,ED,Q5,x92 r1,Nat.zero_add];refine Z1 m1.Ap (by omega) fun A2 g2=>?_;have g12:=g1.trans g2;have r2:=r1.keeps g2.keeps (by simp);have h2:=kE (hk A2 (g12.more (by omega)));simp only [AR,Ab];refine AL.2 ⟨fun h=>h2.2 fun he=>h (he.1 (by simp)),fun h=>?_⟩;simp only [(a12 _ _ _).2.2.1,(a12 _ _ _).2.2.2,Ab,AQ,c4,c8,DS,YB r2];exact work A2 (g12.more (by omega)) r2 fun _=>h
end
def WS(R:MV→ByteArray × Int)(u:UV):Prop:=H4 u.queue∧(u.m.id=0∨HO u.m.id)∧Bm u.m.body≤4096∧JR R u.m
section
variable {W0:World} {m0:Inj Tp}
theorem Aa0{R:MV→ByteArray × Int}{u:UV}{A:AW}{K:Value→AW→Prop}(hp:PK W0 m0 R u.m)(hq:u.queue.size<9223372036854775808)(hf:AH A)(hA:A.next+2<Ao)(hk:∀ A',Grow A A' 1→K (.bool (dP (WS R u))) A'):Wc Tp Ak W0 m0 105 [.agg ⟨fU u⟩] A K:=by
 have hbl:u.m.body.data.toList.length=Bm u.m.body:=rfl;have hl:(R u.m).1.data.toList.length=Bm (R u.m).1:=rfl;refine Ahz _ _ (Au (S:=fun _ _ _=>False) fun _ _ _ h=>h) ?_;rw [AiV];refine Am (cs:=fU u) hf (by omega) rfl fun A1 m1=>?_;have hk:=hk A1 (.made m1 hf);have r1:=m1.AS;simp only [OD,Nat.zero_add,Sh r1,Ab];refine knL (by decide) hp.d rfl fun v hv=>?_;obtain rfl:=Ms.1 hv;simp only [T5,Aw,List.getElem?_cons_zero,List.getElem?_cons_succ,Ab,IJ,B1,AbV r1];refine XG hq ?_;refine Aj.2 ⟨fun h1=>?_,fun h1=>kF hk fun ho=>IP.1 h1 ho.1⟩;have h1:=Bu.1 h1;have q:(u.m.id=0∨HO u.m.id)→Np K (.int .i64 (R u.m).2) A1 (.string (R u.m).1) (pP A.next 0):=by
  intro h2;unfold Np;simp only [AQ,Ab,Eb,hl,CV,Ah,OC,B1,Adl r1,hbl,Nat.zero_add];refine Aq.2 ⟨fun h3=>⟨fun h4=>kB hk ?_,fun h4=>kF hk fun ho=>by have:=ho.2.2.2.2;omega⟩,fun h3=>kF hk fun ho=>h3 ho.2.2.2.1⟩;rw [decide_eq_true_iff];exact ⟨fun h5=>⟨h1,h2,by omega,h3,by omega⟩,fun h5=>by have:=h5.2.2.1;omega⟩
 simp only [OE,Cl,i134 r1,Nat.zero_add,Ab,AQ];refine Aq.2 ⟨fun h2=>q (.inl (by omega)),fun h2=>?_⟩;refine XF ?_;exact Aj.2 ⟨fun h3=>q (.inr (Bu.1 h3)),fun h3=>kF hk fun ho=>by rcases ho.2.1 with h | h;omega;exact IP.1 h3 h⟩
theorem QS{R:MV→ByteArray × Int}{u:UV}:KE R false u↔WS R u∧u.m.id=0:=by
 unfold KE WS;rw [Ff (by simp)];exact ⟨fun h=>⟨⟨h.1,.inl h.2.1,h.2.2.1,h.2.2.2⟩,h.2.1⟩,fun h=>⟨h.1.1,h.2,h.1.2.2.1,h.1.2.2.2⟩⟩
theorem Agd {R:MV→ByteArray × Int} {x:Nm} {ps ts:SL} {us:List UV} {fs:List FV} {F F':List Nat} {A:AW} {K:Value→AW→Prop} (hu:RdE 11 fU A ps.val us F) (hul:us.length≤100) (hfl:RdE 1 fF A ts.val fs F') (hfs:fs.length≤100) (hp:∀ u∈us,PK W0 m0 R u.m) (hq:∀ u∈us,u.queue.size<9223372036854775808) (hq2:∀ r∈fs,r.queue.size<9223372036854775808) (hf:AH A) (hA:A.next+500<Ao)
  (hk:∀ A',Grow A A' 200→K (.int .i64 (eI 130 (Eg R false x us fs))) A'):Wc Tp Ak W0 m0 72 [.agg ⟨fEn 4 x ps ts⟩] A K:=by
 let I:Nat→Nat→List Value→AW→Prop:=fun g id vals A'=>Go.Abs.Row1 A' A.next (fEn 4 x ps ts) 92∧DA x.g x.b=0∧
  ((id=0∧∃ i:Nat,vals=[pP A.next 0,.int .i64 (i:Int)]∧i≤us.length∧(∀ (j:Nat) u,j<i→us[j]? =some u→KE R false u)∧g=1000-i∧Grow A A' (2+i))∨
  (id=2∧∃ i:Nat,vals=[pP A.next 0,.int .i64 (i:Int)]∧i≤fs.length∧(∀ u∈us,KE R false u)∧(∀ (j:Nat) u,j<i→fs[j]? =some u→R8 u)∧g=500-i∧Grow A A' 110))
 refine w72 _ _ (c72 (I:=I) fun g id vals A' d hI hd=>?_) ?_
 ·obtain ⟨hr,hx,hI⟩:=hI;rcases hI with ⟨rfl,i,rfl,hi,hall,rfl,hg⟩ | ⟨rfl,i,rfl,hi,hus,hall,rfl,hg⟩
  ·have ng:=hg.next;rw [AeP];simp only [L72,Mc,Mn,Li,and_true] at hd;obtain ⟨d1,d8⟩:=hd;simp only [d1,d8,Nv,KQ,p92 hr,Nat.zero_add,Ab,hu.len etU,Ar,Ah];refine ⟨fun hlt=>?_,fun hge=>?_⟩
   ·have hlt:i<us.length:=by omega
    obtain ⟨u,hx1⟩:∃ u,us[i]? =some u:=⟨_,Ge hlt⟩;have hum:=List.mem_of_getElem? hx1;obtain ⟨r,o,a1,a2,a3⟩:=(hu.keeps hg.keeps (by simp)).at etU hx1;simp only [a1,a3,Ab];refine Aa0 (hp u hum) (hq u hum) hg.Ap (by omega) fun A2 g2=>?_;have g02:=hg.trans g2;have h2:=kE (hk A2 (g02.more (by omega)));have r2:=hr.keeps g2.keeps (by simp);simp only [Bo,Ab];refine Aj.2 ⟨fun hb=>h2.2 fun he=>?_,fun hb=>?_⟩
    ·rw [Bu.2 (QS.1 (he.2.1 u hum)).1] at hb;cases hb
    ·have hmr:=Bu.1 (show dP (WS R u)=true by simpa using hb);obtain ⟨r',o',b1,b2,b3⟩:=(hu.keeps g02.keeps (by simp)).at etU hx1;have hid:A2.cell? ⟨r',o'+1,none⟩=some (.int .u64 (u.m.id:Int)):=cell_of b2 (k:=1) rfl;simp only [p92 r2,b1,Ab,OE,Cl,hid,AQ,Nx,UH,k92 r2,AaD];have b4:(((4:Nat):Int)==4)=true:=rfl;rw [b4];refine Aj.2 ⟨fun h3=>h2.2 fun he=>?_,fun h3=>?_⟩
     ·have:=(QS.1 (he.2.1 u hum)).2
      rw [show ((u.m.id:Int)==0)=true by rw [beq_iff_eq];omega] at h3;cases h3
     ·have h0:u.m.id=0:=by
       have:((u.m.id:Int)==0)=true:=by simpa using h3
       rw [beq_iff_eq] at this;omega
      simp only [AA,Ab];rw [wrap_i64 (by omega) (by omega)];refine Ai.2 ⟨1000-(i+1),by omega,r2,hx,.inl ⟨rfl,i+1,rfl,by omega,fun j u' hj hu'=>?_,rfl,g02⟩⟩;by_cases hji:j=i
      ·subst hji;rw [hx1] at hu';obtain rfl:=Option.some.inj hu';exact QS.2 ⟨hmr,h0⟩
      ·exact hall j u' (by omega) hu'
   ·refine Ai.2 ⟨500-0,by omega,hr,hx,.inr ⟨rfl,0,rfl,Nat.zero_le _,fun u hu=>?_,fun j u hj=>by omega,rfl,hg.more (by omega)⟩⟩;obtain ⟨j,hj⟩:=List.mem_iff_getElem?.1 hu;exact hall j u (by have:=(Gs.1 hj).1;omega) hj
  ·have ng:=hg.next;have h2:=kE (hk A' (hg.more (by omega)));rw [AeO];simp only [L72,Mc,Mn,Li,and_true] at hd;obtain ⟨d1,d9⟩:=hd;simp only [d1,d9,K0,G6,t92 hr,Nat.zero_add,Ab,hfl.len etF,Ar,Ah];refine ⟨fun hlt=>?_,fun hge=>h2.1 ⟨fun _=>hx,hus,fun r hr=>?_⟩⟩
   ·have hlt:i<fs.length:=by omega
    obtain ⟨u,hx1⟩:∃ u,fs[i]? =some u:=⟨_,Ge hlt⟩;have hum:=List.mem_of_getElem? hx1;obtain ⟨r,o,a1,a2,a3⟩:=(hfl.keeps hg.keeps (by simp)).at etF hx1;have hqc:A'.cell? ⟨r,o,none⟩=some (.string u.queue):=cell_of a2 (k:=0) rfl;have hic:A'.cell? ⟨r,o+1,none⟩=some (.int .u64 (u.id:Int)):=cell_of a2 (k:=1) rfl;simp only [a1,Ab,IK,B1,hqc];refine XG (hq2 u hum) ?_;simp only [Bo,Ab];refine Aj.2 ⟨fun hb=>h2.2 fun he=>?_,fun hb=>?_⟩
    ·rw [Bu.2 (he.2.2 u hum).1] at hb;cases hb
    ·have hqn:=Bu.1 (show dP (H4 u.queue)=true by simpa using hb);simp only [t92 hr,a1,Ab,K9,Cl,hic];refine XF ?_;simp only [Bo,Ab];refine Aj.2 ⟨fun hb=>h2.2 fun he=>?_,fun hb=>?_⟩
     ·rw [Bu.2 (he.2.2 u hum).2] at hb;cases hb
     ·have hid:=Bu.1 (show dP (HO u.id)=true by simpa using hb);simp only [AA,Ab];rw [wrap_i64 (by omega) (by omega)];refine Ai.2 ⟨500-(i+1),by omega,hr,hx,.inr ⟨rfl,i+1,rfl,by omega,hus,fun j u' hj hu'=>?_,rfl,hg⟩⟩;by_cases hji:j=i
      ·subst hji;rw [hx1] at hu';obtain rfl:=Option.some.inj hu';exact ⟨hqn,hid⟩
      ·exact hall j u' (by omega) hu'
   ·obtain ⟨j,hj⟩:=List.mem_iff_getElem?.1 hr;exact hall j r (by have:=(Gs.1 hj).1;omega) hj
 ·rw [e72];refine Am (cs:=fEn 4 x ps ts) hf (by omega) rfl fun A1 m1=>?_;have n1:=m1.next;have g1:=Grow.made m1 hf;have r1:=m1.AS;have hs0:((⟨⟨[]⟩⟩:ByteArray).data.toList==(⟨⟨[]⟩⟩:ByteArray).data.toList)=true:=rfl;have b1:(((4:Nat):Int)==1)=false:=rfl;have b2:(((4:Nat):Int)==2)=false:=rfl;have b3:(((4:Nat):Int)==3)=false:=rfl;have b4:(((4:Nat):Int)==4)=true:=rfl;have d00:((0:Int) != 0)=false:=rfl;simp only [Nx,UH,k92 r1,Ab];refine Ahy _ _ (Au (S:=fun _ _ _=>False) fun _ _ _ h=>h) ?_;rw [AiU];simp only [AQ,Ab,b1,b2,b3,b4,ED,DS,Aw,List.getElem?_cons_zero,List.getElem?_cons_succ,Bo,Bool.not_true,Nv,K0,KQ,G6,p92 r1,t92 r1,Nat.zero_add,hu.len etU,hfl.len etF,Bc,Ah];refine ⟨fun h=>by omega,fun _=>⟨fun h=>by omega,fun _=>?_⟩⟩;unfold Ui;simp only [Bo,Ab,Bool.not_false,ED,Nw,B1,s92 r1,Nat.zero_add,BP,hs0,Bool.not_true,DS];simp only [DS,ED,Bo,Ab,Bool.not_false,Q6,Q5,Cl,AbZ r1,x92 r1,Nat.zero_add,AR,d00];refine Z0 m1.Ap (by omega) fun A2 g2=>?_;have g12:=g1.trans g2;have h2:=kE (hk A2 (g12.more (by omega)));simp only [AR,Ab];refine AL.2 ⟨fun h=>h2.2 fun he=>h (he.1 rfl),fun h=>?_⟩;exact Ai.2 ⟨1000-0,r1.keeps g2.keeps (by simp),h,.inl ⟨rfl,0,rfl,Nat.zero_le _,fun j u hj=>by omega,rfl,g12⟩⟩
end
structure TR where
 x:Nm
 state:Nat
 why:Nat
 timeout:Nat
 left:Nat
def fR(r:TR):List Value:=[.int .u32 (r.x.f:Int),.string r.x.g,.string r.x.b,.int .u8 (r.state:Int),.int .u8 (r.why:Int),.int .u32 (r.timeout:Int),.int .u32 (r.left:Int)]
theorem etR:ET Tp 38 100 6 fR:=⟨by kernel_rfl,by kernel_rfl,by kernel_rfl,⟨56,by kernel_rfl,by decide⟩,by kernel_rfl,fun _=>rfl,fun _=>rfl,fun _=>rfl⟩
theorem Le(A:AW)(n:Int)(k:IntKind):AI Tp A 3 142 (.int k n)=.ok (.int .u64 (IntKind.u64.wrap n)) A:=by kernel_rfl
theorem Lf(A:AW)(n:Int)(k:IntKind):AI Tp A 142 3 (.int k n)=.ok (.int .i64 (IntKind.i64.wrap n)) A:=by kernel_rfl
theorem Dk{A:AW}{b:Nat}{x:Nm}(h:Go.Abs.Row1 A b x.cells 46):Ad Tp A 46 (pP b 0)=some (.agg ⟨x.cells⟩):=by
 have:A.cells? ⟨b,0,none⟩ 3=some x.cells:=by rw [Bd h.row];rfl
 rw [D0,this]
section
variable {W0:World} {m0:Inj Tp}
theorem AdT {A:AW} {v fn:Value} {l:List BV} {F:List Nat} {cmp:Nat→Int} {c:Nat} {K:Value→AW→Prop} (hl:RdE 4 fB A v l F) (hlen:l.length≤60) (hf:AH A) (hA:A.next+2<Ao)
  (hmon:∀ i j,i<j→j<l.length→cmp j≤0→cmp i<0)
  (hd:∀ (i:Nat) x (A1:AW) (K1:Value→AW→Prop),l[i]? =some x→Grow A A1 (1+c*61)→(∀ A',Grow A1 A' c→K1 (.int .i64 (cmp i)) A')→anW Tp Ak W0 m0 (Cu Tp Ak A1 fn [.agg ⟨fB x⟩,.agg ⟨[]⟩]) K1)
  (hk:∀ (r:Nat) (b:Bool) A',Grow A A' (1+c*62)→r≤l.length→(b=true↔∃ i,i<l.length∧cmp i=0)→(b=true→r<l.length∧cmp r=0)→K (.tuple ⟨[.int .i64 (r:Int),.bool b]⟩) A'):Wc Tp Ak W0 m0 125 [v,.agg ⟨[]⟩,fn] A K:=by
 let I:Nat→Nat→List Value→AW→Prop:=fun g id vals A'=>id=0∧∃ i j:Nat,vals=[v,fn,pP A.next 0,.int .i64 (l.length:Int),.int .i64 (i:Int),.int .i64 (j:Int)]∧i≤j∧j≤l.length∧(∀ k,k<i→cmp k<0)∧(∀ k,j≤k→k<l.length→0≤cmp k)∧g=j-i∧Grow A A' (1+c*(l.length-(j-i)));refine Ahq _ _ _ _ (Ajq (I:=I) fun g id vals A' d hI hd'=>?_) ?_
 ·obtain ⟨rfl,i,j,rfl,hij,hj,hlo,hhi,rfl,hg⟩:=hI;rw [AcE];simp only [ZP,Mc,Mn,Li,and_true] at hd';obtain ⟨d0,d2,d4,d8,d9,d10⟩:=hd';have hcm:c*(l.length-(j-i))≤c*60:=Nat.mul_le_mul_left c (by omega);simp only [d0,d2,d4,d8,d9,d10,Ar,Ab,Ah];refine ⟨fun hlt=>?_,fun hge=>?_⟩
  ·have hlt:i<j:=by omega
   simp only [AA,Ab,Le,AU];rw [wrap_i64 (by omega) (by omega),wrap_u64 (by omega) (by omega),HZ (by decide)];have hsh:((i:Int)+(j:Int)).fdiv (2^(min (1:Int).toNat (IntKind.bits .u64)))=(((i+j)/2:Nat):Int):=by
    show ((i:Int)+(j:Int)).fdiv 2=_;rw [Int.fdiv_eq_ediv_of_nonneg _ (by decide)];omega
   rw [hsh];simp only [Ab,Lf,AU];rw [wrap_i64 (by omega) (by omega)];obtain ⟨h,hh⟩:∃ h,h=(i+j)/2:=⟨_,rfl⟩;rw [← hh];have hb1:i≤h:=by omega
   have hb2:h<j:=by omega
   obtain ⟨x,hx⟩:∃ x,l[h]? =some x:=⟨_,Ge (by omega)⟩;obtain ⟨r,o,a1,a2,a3⟩:=(hl.keeps hg.keeps (by simp)).at etB hx;simp only [a1,a3,Ab,LP,L2];refine hd h x A' _ hx (hg.more (by omega)) fun A2 g2=>?_;have hstep:∀ d':Nat,d'<j-i→1+c*(l.length-(j-i))+c≤1+c*(l.length-d'):=fun d' hd2=>by
    have:c*(l.length-(j-i))+c=c*(l.length-(j-i)+1):=by rw [Nat.mul_succ]
    have h2:c*(l.length-(j-i)+1)≤c*(l.length-d'):=Nat.mul_le_mul_left c (by omega);omega
   have g02:=hg.trans g2;simp only [Ar,Ab,Ah];refine ⟨fun hneg=>?_,fun hpos=>?_⟩
   ·simp only [AA,Ab];rw [wrap_i64 (by omega) (by omega)];refine Ai.2 ⟨j-(h+1),by omega,rfl,h+1,j,rfl,by omega,hj,fun k hk=>?_,hhi,rfl,g02.more (hstep _ (by omega))⟩;by_cases hkh:k=h
    ·subst hkh;exact hneg
    ·exact hmon k h (by omega) (by omega) (by omega)
   ·refine Ai.2 ⟨h-i,by omega,rfl,i,h,rfl,hb1,by omega,hlo,fun k hk hkl=>?_,rfl,g02.more (hstep _ (by omega))⟩;by_cases hkh:k=h
    ·subst hkh;omega
    ·refine Int.not_lt.1 fun hn=>?_;exact hpos (hmon h k (by omega) hkl (by omega))
  ·have hij':j=i:=by omega
   subst hij';refine ⟨fun hlt=>?_,fun hge=>?_⟩
   ·have hlt:j<l.length:=by omega
    obtain ⟨x,hx⟩:∃ x,l[j]? =some x:=⟨_,Ge hlt⟩;obtain ⟨r,o,a1,a2,a3⟩:=(hl.keeps hg.keeps (by simp)).at etB hx;simp only [a1,a3,Ab,LP,L2];refine hd j x A' _ hx (hg.more (by omega)) fun A2 g2=>?_;have hj0:=hhi j (Nl _) hlt;simp only [AQ,Ab,BA];refine hk j _ A2 ((hg.trans g2).more (by omega)) hj ?_ fun hb=>⟨hlt,by simpa using hb⟩;rw [beq_iff_eq];constructor
    ·exact fun h=>⟨j,hlt,h⟩
    ·rintro ⟨k,hk,h0⟩;by_cases h1:k<j
     ·have:=hlo k h1;omega
     ·by_cases h2:k=j
      ·subst h2;exact h0
      ·have:=hmon j k (by omega) hk (by omega)
       omega
   ·simp only [BA];refine hk j false A' (hg.more (by omega)) hj ⟨fun h=>(by cases h),fun ⟨k,hk,h0⟩=>?_⟩ (fun h=>by cases h)
    have:=hlo k (by omega)
    omega
 ·rw [AiM];refine Am (cs:=([]:List Value)) hf (by omega) rfl fun A1 m1=>?_;simp only [hl.len etB,Ab];exact Ai.2 ⟨l.length-0,rfl,0,l.length,rfl,Nat.zero_le _,Nl _,fun k hk=>by omega,fun k hk hkl=>by omega,rfl,(Grow.made m1 hf).more (by omega)⟩
theorem AdM {A:AW} {v fn:Value} {l:List QV} {F:List Nat} {cmp:Nat→Int} {c:Nat} {K:Value→AW→Prop} (hl:RdE 2 fQ A v l F) (hlen:l.length≤60) (hf:AH A) (hA:A.next+2<Ao)
  (hmon:∀ i j,i<j→j<l.length→cmp j≤0→cmp i<0)
  (hd:∀ (i:Nat) x (A1:AW) (K1:Value→AW→Prop),l[i]? =some x→Grow A A1 (1+c*61)→(∀ A',Grow A1 A' c→K1 (.int .i64 (cmp i)) A')→anW Tp Ak W0 m0 (Cu Tp Ak A1 fn [.agg ⟨fQ x⟩,.agg ⟨[]⟩]) K1)
  (hk:∀ (r:Nat) (b:Bool) A',Grow A A' (1+c*62)→r≤l.length→(b=true↔∃ i,i<l.length∧cmp i=0)→(b=true→r<l.length∧cmp r=0)→K (.tuple ⟨[.int .i64 (r:Int),.bool b]⟩) A'):Wc Tp Ak W0 m0 139 [v,.agg ⟨[]⟩,fn] A K:=by
 let I:Nat→Nat→List Value→AW→Prop:=fun g id vals A'=>id=0∧∃ i j:Nat,vals=[v,fn,pP A.next 0,.int .i64 (l.length:Int),.int .i64 (i:Int),.int .i64 (j:Int)]∧i≤j∧j≤l.length∧(∀ k,k<i→cmp k<0)∧(∀ k,j≤k→k<l.length→0≤cmp k)∧g=j-i∧Grow A A' (1+c*(l.length-(j-i)));refine Ahh _ _ _ _ (Ajp (I:=I) fun g id vals A' d hI hd'=>?_) ?_
 ·obtain ⟨rfl,i,j,rfl,hij,hj,hlo,hhi,rfl,hg⟩:=hI;rw [AcD];simp only [ZO,Mc,Mn,Li,and_true] at hd';obtain ⟨d0,d2,d4,d8,d9,d10⟩:=hd';have hcm:c*(l.length-(j-i))≤c*60:=Nat.mul_le_mul_left c (by omega);simp only [d0,d2,d4,d8,d9,d10,Ar,Ab,Ah];refine ⟨fun hlt=>?_,fun hge=>?_⟩
  ·have hlt:i<j:=by omega
   simp only [AA,Ab,Le,AU];rw [wrap_i64 (by omega) (by omega),wrap_u64 (by omega) (by omega),HZ (by decide)];have hsh:((i:Int)+(j:Int)).fdiv (2^(min (1:Int).toNat (IntKind.bits .u64)))=(((i+j)/2:Nat):Int):=by
    show ((i:Int)+(j:Int)).fdiv 2=_;rw [Int.fdiv_eq_ediv_of_nonneg _ (by decide)];omega
   rw [hsh];simp only [Ab,Lf,AU];rw [wrap_i64 (by omega) (by omega)];obtain ⟨h,hh⟩:∃ h,h=(i+j)/2:=⟨_,rfl⟩;rw [← hh];have hb1:i≤h:=by omega
   have hb2:h<j:=by omega
   obtain ⟨x,hx⟩:∃ x,l[h]? =some x:=⟨_,Ge (by omega)⟩;obtain ⟨r,o,a1,a2,a3⟩:=(hl.keeps hg.keeps (by simp)).at etQ hx;simp only [a1,a3,Ab,LP,L2];refine hd h x A' _ hx (hg.more (by omega)) fun A2 g2=>?_;have hstep:∀ d':Nat,d'<j-i→1+c*(l.length-(j-i))+c≤1+c*(l.length-d'):=fun d' hd2=>by
    have:c*(l.length-(j-i))+c=c*(l.length-(j-i)+1):=by rw [Nat.mul_succ]
    have h2:c*(l.length-(j-i)+1)≤c*(l.length-d'):=Nat.mul_le_mul_left c (by omega);omega
   have g02:=hg.trans g2;simp only [Ar,Ab,Ah];refine ⟨fun hneg=>?_,fun hpos=>?_⟩
   ·simp only [AA,Ab];rw [wrap_i64 (by omega) (by omega)];refine Ai.2 ⟨j-(h+1),by omega,rfl,h+1,j,rfl,by omega,hj,fun k hk=>?_,hhi,rfl,g02.more (hstep _ (by omega))⟩;by_cases hkh:k=h
    ·subst hkh;exact hneg
    ·exact hmon k h (by omega) (by omega) (by omega)
   ·refine Ai.2 ⟨h-i,by omega,rfl,i,h,rfl,hb1,by omega,hlo,fun k hk hkl=>?_,rfl,g02.more (hstep _ (by omega))⟩;by_cases hkh:k=h
    ·subst hkh;omega
    ·refine Int.not_lt.1 fun hn=>?_;exact hpos (hmon h k (by omega) hkl (by omega))
  ·have hij':j=i:=by omega
   subst hij';refine ⟨fun hlt=>?_,fun hge=>?_⟩
   ·have hlt:j<l.length:=by omega
    obtain ⟨x,hx⟩:∃ x,l[j]? =some x:=⟨_,Ge hlt⟩;obtain ⟨r,o,a1,a2,a3⟩:=(hl.keeps hg.keeps (by simp)).at etQ hx;simp only [a1,a3,Ab,LP,L2];refine hd j x A' _ hx (hg.more (by omega)) fun A2 g2=>?_;have hj0:=hhi j (Nl _) hlt;simp only [AQ,Ab,BA];refine hk j _ A2 ((hg.trans g2).more (by omega)) hj ?_ fun hb=>⟨hlt,by simpa using hb⟩;rw [beq_iff_eq];constructor
    ·exact fun h=>⟨j,hlt,h⟩
    ·rintro ⟨k,hk,h0⟩;by_cases h1:k<j
     ·have:=hlo k h1;omega
     ·by_cases h2:k=j
      ·subst h2;exact h0
      ·have:=hmon j k (by omega) hk (by omega)
       omega
   ·simp only [BA];refine hk j false A' (hg.more (by omega)) hj ⟨fun h=>(by cases h),fun ⟨k,hk,h0⟩=>?_⟩ (fun h=>by cases h)
    have:=hlo k (by omega)
    omega
 ·rw [AiD];refine Am (cs:=([]:List Value)) hf (by omega) rfl fun A1 m1=>?_;simp only [hl.len etQ,Ab];exact Ai.2 ⟨l.length-0,rfl,0,l.length,rfl,Nat.zero_le _,Nl _,fun k hk=>by omega,fun k hk hkl=>by omega,rfl,(Grow.made m1 hf).more (by omega)⟩
theorem AdL {A:AW} {v fn:Value} {l:List MV} {F:List Nat} {cmp:Nat→Int} {c:Nat} {K:Value→AW→Prop} (hl:RdE 10 fM A v l F) (hlen:l.length≤60) (hf:AH A) (hA:A.next+2<Ao)
  (hmon:∀ i j,i<j→j<l.length→cmp j≤0→cmp i<0)
  (hd:∀ (i:Nat) x (A1:AW) (K1:Value→AW→Prop),l[i]? =some x→Grow A A1 (1+c*61)→(∀ A',Grow A1 A' c→K1 (.int .i64 (cmp i)) A')→anW Tp Ak W0 m0 (Cu Tp Ak A1 fn [.agg ⟨fM x⟩,.agg ⟨[]⟩]) K1)
  (hk:∀ (r:Nat) (b:Bool) A',Grow A A' (1+c*62)→r≤l.length→(b=true↔∃ i,i<l.length∧cmp i=0)→(b=true→r<l.length∧cmp r=0)→K (.tuple ⟨[.int .i64 (r:Int),.bool b]⟩) A'):Wc Tp Ak W0 m0 141 [v,.agg ⟨[]⟩,fn] A K:=by
 let I:Nat→Nat→List Value→AW→Prop:=fun g id vals A'=>id=0∧∃ i j:Nat,vals=[v,fn,pP A.next 0,.int .i64 (l.length:Int),.int .i64 (i:Int),.int .i64 (j:Int)]∧i≤j∧j≤l.length∧(∀ k,k<i→cmp k<0)∧(∀ k,j≤k→k<l.length→0≤cmp k)∧g=j-i∧Grow A A' (1+c*(l.length-(j-i)));refine Ahf _ _ _ _ (Ajo (I:=I) fun g id vals A' d hI hd'=>?_) ?_
 ·obtain ⟨rfl,i,j,rfl,hij,hj,hlo,hhi,rfl,hg⟩:=hI;rw [AcC];simp only [ZN,Mc,Mn,Li,and_true] at hd';obtain ⟨d0,d2,d4,d8,d9,d10⟩:=hd';have hcm:c*(l.length-(j-i))≤c*60:=Nat.mul_le_mul_left c (by omega);simp only [d0,d2,d4,d8,d9,d10,Ar,Ab,Ah];refine ⟨fun hlt=>?_,fun hge=>?_⟩
  ·have hlt:i<j:=by omega
   simp only [AA,Ab,Le,AU];rw [wrap_i64 (by omega) (by omega),wrap_u64 (by omega) (by omega),HZ (by decide)];have hsh:((i:Int)+(j:Int)).fdiv (2^(min (1:Int).toNat (IntKind.bits .u64)))=(((i+j)/2:Nat):Int):=by
    show ((i:Int)+(j:Int)).fdiv 2=_;rw [Int.fdiv_eq_ediv_of_nonneg _ (by decide)];omega
   rw [hsh];simp only [Ab,Lf,AU];rw [wrap_i64 (by omega) (by omega)];obtain ⟨h,hh⟩:∃ h,h=(i+j)/2:=⟨_,rfl⟩;rw [← hh];have hb1:i≤h:=by omega
   have hb2:h<j:=by omega
   obtain ⟨x,hx⟩:∃ x,l[h]? =some x:=⟨_,Ge (by omega)⟩;obtain ⟨r,o,a1,a2,a3⟩:=(hl.keeps hg.keeps (by simp)).at etM hx;simp only [a1,a3,Ab,LP,L2];refine hd h x A' _ hx (hg.more (by omega)) fun A2 g2=>?_;have hstep:∀ d':Nat,d'<j-i→1+c*(l.length-(j-i))+c≤1+c*(l.length-d'):=fun d' hd2=>by
    have:c*(l.length-(j-i))+c=c*(l.length-(j-i)+1):=by rw [Nat.mul_succ]
    have h2:c*(l.length-(j-i)+1)≤c*(l.length-d'):=Nat.mul_le_mul_left c (by omega);omega
   have g02:=hg.trans g2;simp only [Ar,Ab,Ah];refine ⟨fun hneg=>?_,fun hpos=>?_⟩
   ·simp only [AA,Ab];rw [wrap_i64 (by omega) (by omega)];refine Ai.2 ⟨j-(h+1),by omega,rfl,h+1,j,rfl,by omega,hj,fun k hk=>?_,hhi,rfl,g02.more (hstep _ (by omega))⟩;by_cases hkh:k=h
    ·subst hkh;exact hneg
    ·exact hmon k h (by omega) (by omega) (by omega)
   ·refine Ai.2 ⟨h-i,by omega,rfl,i,h,rfl,hb1,by omega,hlo,fun k hk hkl=>?_,rfl,g02.more (hstep _ (by omega))⟩;by_cases hkh:k=h
    ·subst hkh;omega
    ·refine Int.not_lt.1 fun hn=>?_;exact hpos (hmon h k (by omega) hkl (by omega))
  ·have hij':j=i:=by omega
   subst hij';refine ⟨fun hlt=>?_,fun hge=>?_⟩
   ·have hlt:j<l.length:=by omega
    obtain ⟨x,hx⟩:∃ x,l[j]? =some x:=⟨_,Ge hlt⟩;obtain ⟨r,o,a1,a2,a3⟩:=(hl.keeps hg.keeps (by simp)).at etM hx;simp only [a1,a3,Ab,LP,L2];refine hd j x A' _ hx (hg.more (by omega)) fun A2 g2=>?_;have hj0:=hhi j (Nl _) hlt;simp only [AQ,Ab,BA];refine hk j _ A2 ((hg.trans g2).more (by omega)) hj ?_ fun hb=>⟨hlt,by simpa using hb⟩;rw [beq_iff_eq];constructor
    ·exact fun h=>⟨j,hlt,h⟩
    ·rintro ⟨k,hk,h0⟩;by_cases h1:k<j
     ·have:=hlo k h1;omega
     ·by_cases h2:k=j
      ·subst h2;exact h0
      ·have:=hmon j k (by omega) hk (by omega)
       omega
   ·simp only [BA];refine hk j false A' (hg.more (by omega)) hj ⟨fun h=>(by cases h),fun ⟨k,hk,h0⟩=>?_⟩ (fun h=>by cases h)
    have:=hlo k (by omega)
    omega
 ·rw [AiB];refine Am (cs:=([]:List Value)) hf (by omega) rfl fun A1 m1=>?_;simp only [hl.len etM,Ab];exact Ai.2 ⟨l.length-0,rfl,0,l.length,rfl,Nat.zero_le _,Nl _,fun k hk=>by omega,fun k hk hkl=>by omega,rfl,(Grow.made m1 hf).more (by omega)⟩
theorem Ad0 {A:AW} {v fn:Value} {y:Nm} {l:List TR} {F:List Nat} {cmp:Nat→Int} {c:Nat} {K:Value→AW→Prop} (hl:RdE 6 fR A v l F) (hlen:l.length≤60) (hf:AH A) (hA:A.next+2<Ao)
  (hmon:∀ i j,i<j→j<l.length→cmp j≤0→cmp i<0)
  (hd:∀ (i:Nat) x (A1:AW) (K1:Value→AW→Prop),l[i]? =some x→Grow A A1 (1+c*61)→(∀ A',Grow A1 A' c→K1 (.int .i64 (cmp i)) A')→anW Tp Ak W0 m0 (Cu Tp Ak A1 fn [.agg ⟨fR x⟩,.agg ⟨y.cells⟩]) K1)
  (hk:∀ (r:Nat) (b:Bool) A',Grow A A' (1+c*62)→r≤l.length→(b=true↔∃ i,i<l.length∧cmp i=0)→(b=true→r<l.length∧cmp r=0)→K (.tuple ⟨[.int .i64 (r:Int),.bool b]⟩) A'):Wc Tp Ak W0 m0 101 [v,.agg ⟨y.cells⟩,fn] A K:=by
 let I:Nat→Nat→List Value→AW→Prop:=fun g id vals A'=>id=0∧∃ i j:Nat,vals=[v,fn,pP A.next 0,.int .i64 (l.length:Int),.int .i64 (i:Int),.int .i64 (j:Int)]∧i≤j∧j≤l.length∧(∀ k,k<i→cmp k<0)∧(∀ k,j≤k→k<l.length→0≤cmp k)∧g=j-i∧Go.Abs.Row1 A' A.next y.cells 46∧Grow A A' (1+c*(l.length-(j-i)));refine AhD _ _ _ _ (Ajs (I:=I) fun g id vals A' d hI hd'=>?_) ?_
 ·obtain ⟨rfl,i,j,rfl,hij,hj,hlo,hhi,rfl,hr,hg⟩:=hI;rw [AcG];simp only [ZR,Mc,Mn,Li,and_true] at hd';obtain ⟨d0,d2,d4,d8,d9,d10⟩:=hd';have hcm:c*(l.length-(j-i))≤c*60:=Nat.mul_le_mul_left c (by omega);simp only [d0,d2,d4,d8,d9,d10,Ar,Ab,Ah];refine ⟨fun hlt=>?_,fun hge=>?_⟩
  ·have hlt:i<j:=by omega
   simp only [AA,Ab,Le,AU];rw [wrap_i64 (by omega) (by omega),wrap_u64 (by omega) (by omega),HZ (by decide)];have hsh:((i:Int)+(j:Int)).fdiv (2^(min (1:Int).toNat (IntKind.bits .u64)))=(((i+j)/2:Nat):Int):=by
    show ((i:Int)+(j:Int)).fdiv 2=_;rw [Int.fdiv_eq_ediv_of_nonneg _ (by decide)];omega
   rw [hsh];simp only [Ab,Lf,AU];rw [wrap_i64 (by omega) (by omega)];obtain ⟨h,hh⟩:∃ h,h=(i+j)/2:=⟨_,rfl⟩;rw [← hh];have hb1:i≤h:=by omega
   have hb2:h<j:=by omega
   obtain ⟨x,hx⟩:∃ x,l[h]? =some x:=⟨_,Ge (by omega)⟩;obtain ⟨r,o,a1,a2,a3⟩:=(hl.keeps hg.keeps (by simp)).at etR hx;simp only [a1,a3,Ab,Dk hr];refine hd h x A' _ hx (hg.more (by omega)) fun A2 g2=>?_;have hstep:∀ d':Nat,d'<j-i→1+c*(l.length-(j-i))+c≤1+c*(l.length-d'):=fun d' hd2=>by
    have:c*(l.length-(j-i))+c=c*(l.length-(j-i)+1):=by rw [Nat.mul_succ]
    have h2:c*(l.length-(j-i)+1)≤c*(l.length-d'):=Nat.mul_le_mul_left c (by omega);omega
   have g02:=hg.trans g2;simp only [Ar,Ab,Ah];refine ⟨fun hneg=>?_,fun hpos=>?_⟩
   ·simp only [AA,Ab];rw [wrap_i64 (by omega) (by omega)];refine Ai.2 ⟨j-(h+1),by omega,rfl,h+1,j,rfl,by omega,hj,fun k hk=>?_,hhi,rfl,hr.keeps g2.keeps (by simp),g02.more (hstep _ (by omega))⟩;by_cases hkh:k=h
    ·subst hkh;exact hneg
    ·exact hmon k h (by omega) (by omega) (by omega)
   ·refine Ai.2 ⟨h-i,by omega,rfl,i,h,rfl,hb1,by omega,hlo,fun k hk hkl=>?_,rfl,hr.keeps g2.keeps (by simp),g02.more (hstep _ (by omega))⟩;by_cases hkh:k=h
    ·subst hkh;omega
    ·refine Int.not_lt.1 fun hn=>?_;exact hpos (hmon h k (by omega) hkl (by omega))
  ·have hij':j=i:=by omega
   subst hij';refine ⟨fun hlt=>?_,fun hge=>?_⟩
   ·have hlt:j<l.length:=by omega
    obtain ⟨x,hx⟩:∃ x,l[j]? =some x:=⟨_,Ge hlt⟩;obtain ⟨r,o,a1,a2,a3⟩:=(hl.keeps hg.keeps (by simp)).at etR hx;simp only [a1,a3,Ab,Dk hr];refine hd j x A' _ hx (hg.more (by omega)) fun A2 g2=>?_;have hj0:=hhi j (Nl _) hlt;simp only [AQ,Ab,BA];refine hk j _ A2 ((hg.trans g2).more (by omega)) hj ?_ fun hb=>⟨hlt,by simpa using hb⟩;rw [beq_iff_eq];constructor
    ·exact fun h=>⟨j,hlt,h⟩
    ·rintro ⟨k,hk,h0⟩;by_cases h1:k<j
     ·have:=hlo k h1;omega
     ·by_cases h2:k=j
      ·subst h2;exact h0
      ·have:=hmon j k (by omega) hk (by omega)
       omega
   ·simp only [BA];refine hk j false A' (hg.more (by omega)) hj ⟨fun h=>(by cases h),fun ⟨k,hk,h0⟩=>?_⟩ (fun h=>by cases h)
    have:=hlo k (by omega)
    omega
 ·rw [AiZ];refine Am (cs:=y.cells) hf (by omega) rfl fun A1 m1=>?_;simp only [hl.len etR,Ab];exact Ai.2 ⟨l.length-0,rfl,0,l.length,rfl,Nat.zero_le _,Nl _,fun k hk=>by omega,fun k hk hkl=>by omega,rfl,m1.AS,(Grow.made m1 hf).more (by omega)⟩
end
structure HV where
 x:Nm
 c:Bool
def fH(h:HV):List Value:=[.int .u32 (h.x.f:Int),.string h.x.g,.string h.x.b,.bool h.c]
theorem etH:ET Tp 35 102 3 fH:=⟨by kernel_rfl,by kernel_rfl,by kernel_rfl,⟨48,by kernel_rfl,by decide⟩,by kernel_rfl,fun _=>rfl,fun _=>rfl,fun _=>rfl⟩
def Adj{α:Type}(c:α→α→Int)(l:List α):Prop:=∀ (i:Nat) a b,l[i]? =some a→l[i+1]? =some b→c a b<0
theorem Wg{α:Type}{c:α→α→Int}(ht:∀ x y z,c x y<0→c y z<0→c x z<0){l:List α}(h:Adj c l):∀ (d i:Nat) a b,l[i]? =some a→l[i+d+1]? =some b→c a b<0
 |0,i,a,b,h1,h2=>h i a b h1 h2
 |d+1,i,a,b,h1,h2=>by
  have hlt:i+d+1<l.length:=by have:=(Gs.1 h2).1;omega
  have hx:l[i+d+1]? =some l[i+d+1]:=Ge hlt;exact ht _ _ _ (Wg ht h d i a _ h1 hx) (h (i+d+1) _ b hx h2)
theorem E5{α:Type}{c:α→α→Int}(ht:∀ x y z,c x y<0→c y z<0→c x z<0){l:List α}(h:Adj c l){i j:Nat}{a b:α}(hij:i<j)(h1:l[i]? =some a)(h2:l[j]? =some b):c a b<0:=
 Wg ht h (j-i-1) i a b h1 (by rw [show i+(j-i-1)+1=j by omega];exact h2)
theorem Aav{a b c:ByteArray}(h1:Db a b<0)(h2:Db b c≤0):Db a c<0:=by
 by_cases h:Db b c=0
 ·rw [← Cg.1 h];exact h1
 ·exact E1 h1 (by omega)
theorem Vu{a b c:Nm}(h1:B6 a b<0)(h2:B6 b c≤0):B6 a c<0:=by
 by_cases h:B6 b c=0
 ·rw [← C2.1 h];exact h1
 ·exact Cb h1 (by omega)
theorem Zq:Ch Tp 182 []=some (.agg ⟨[]⟩):=by kernel_rfl
theorem Nr{A:AW}{r:Nat}{x:BV}(h:Go.Abs.Row1 A r (fB x) 89):Ad Tp A 89 (pP r 0)=some (.agg ⟨fB x⟩):=by
 have:A.cells? ⟨r,0,none⟩ 5=some (fB x):=by rw [Bd h.row];rfl
 rw [Aeu,this]
theorem Aam{A:AW}{r:Nat}{x:QV}(h:Go.Abs.Row1 A r (fQ x) 75):Ad Tp A 75 (pP r 0)=some (.agg ⟨fQ x⟩):=by
 have:A.cells? ⟨r,0,none⟩ 3=some (fQ x):=by rw [Bd h.row];rfl
 rw [Aew,this]
theorem Aal{A:AW}{r:Nat}{x:MV}(h:Go.Abs.Row1 A r (fM x) 84):Ad Tp A 84 (pP r 0)=some (.agg ⟨fM x⟩):=by
 have:A.cells? ⟨r,0,none⟩ 11=some (fM x):=by rw [Bd h.row];rfl
 rw [Aev,this]
theorem FY{A:AW}{r:Nat}{x:TR}(h:Go.Abs.Row1 A r (fR x) 100):Ad Tp A 46 (pP r 0)=some (.agg ⟨x.x.cells⟩):=by
 have:A.cells? ⟨r,0,none⟩ 3=some x.x.cells:=by rw [Bd h.row];rfl
 rw [D0,this]
theorem x89{A:AW}{r:Nat}{x:BV}(h:Go.Abs.Row1 A r (fB x) 89):Ad Tp A 46 (pP r 0)=some (.agg ⟨x.x.cells⟩):=by
 have:A.cells? ⟨r,0,none⟩ 3=some x.x.cells:=by rw [Bd h.row];rfl
 rw [D0,this]
theorem ZZ{A:AW}{r:Nat}{x:HV}(h:Go.Abs.Row1 A r (fH x) 102):Ad Tp A 46 (pP r 0)=some (.agg ⟨x.x.cells⟩):=by
 have:A.cells? ⟨r,0,none⟩ 3=some x.x.cells:=by rw [Bd h.row];rfl
 rw [D0,this]
theorem Uq{A:AW}{r:Nat}{x:QV}(h:Go.Abs.Row1 A r (fQ x) 75):A.cell? ⟨r,0,none⟩=some (.string x.name):=by rw [Ax h.row];exact AK rfl rfl
theorem i84{A:AW}{r:Nat}{x:MV}(h:Go.Abs.Row1 A r (fM x) 84):A.cell? ⟨r,0,none⟩=some (.int .u64 (x.id:Int)):=by rw [Ax h.row];exact AK rfl rfl
theorem i120{A:AW}{r:Nat}{x:FV}(h:Go.Abs.Row1 A r (fF x) 120):A.cell? ⟨r,1,none⟩=some (.int .u64 (x.id:Int)):=by rw [Ax h.row];exact AK rfl rfl
theorem Aed{A:AW}{r:Nat}{x:FV}(h:Go.Abs.Row1 A r (fF x) 120):A.cell? ⟨r,0,none⟩=some (.string x.queue):=by rw [Ax h.row];exact AK rfl rfl
theorem s9{A:AW}{r:Nat}{s:ByteArray}(h:Go.Abs.Row1 A r [.string s] 9):A.cell? ⟨r,0,none⟩=some (.string s):=by rw [Ax h.row];exact AK rfl rfl
section
variable {W0:World} {m0:Inj Tp}
theorem AfX{x:BV}{n:Nm}{p:Nat}{A:AW}{K:Value→AW→Prop}(h:Go.Abs.Row1 A p n.cells 46)(hf:AH A)(hA:A.next+9<Ao)(hk:∀ A',Grow A A' 4→K (.int .i64 (B6 x.x n)) A'):Wc Tp Ak W0 m0 99 [.agg ⟨fB x⟩,pP p 0] A K:=by
 refine w99 _ _ _ (Au (S:=fun _ _ _=>False) fun _ _ _ h=>h) ?_;rw [e99];refine Am (cs:=fB x) hf (by omega) rfl fun A1 m1=>?_;have g1:=Grow.made m1 hf;have n1:=m1.next;simp only [HS,x89 m1.AS,Dk (h.keeps g1.keeps (by simp)),Ab];exact Wi m1.Ap (by omega) fun A2 g2=>hk A2 ((g1.trans g2).more (by omega))
theorem AdW{x:QV}{n:ByteArray}{p:Nat}{A:AW}{K:Value→AW→Prop}(h:Go.Abs.Row1 A p [.string n] 9)(hf:AH A)(hA:A.next+9<Ao)(hk:∀ A',Grow A A' 4→K (.int .i64 (Db x.name n)) A'):Wc Tp Ak W0 m0 122 [.agg ⟨fQ x⟩,pP p 0] A K:=by
 refine Aht _ _ _ (Au (S:=fun _ _ _=>False) fun _ _ _ h=>h) ?_;rw [AiP];refine Am (cs:=fQ x) hf (by omega) rfl fun A1 m1=>?_;have g1:=Grow.made m1 hf;simp only [GI,B1,Uq m1.AS,s9 (h.keeps g1.keeps (by simp)),Ab];exact Z3 (hk A1 (g1.more (by omega)))
theorem AdU{x:MV}{n:FV}{p:Nat}{A:AW}{K:Value→AW→Prop}(h:Go.Abs.Row1 A p (fF n) 120)(hf:AH A)(hA:A.next+9<Ao)(hk:∀ A',Grow A A' 4→K (.int .i64 (Ep (x.id:Int) (n.id:Int))) A'):Wc Tp Ak W0 m0 124 [.agg ⟨fM x⟩,pP p 0] A K:=by
 refine Ahr _ _ _ (Au (S:=fun _ _ _=>False) fun _ _ _ h=>h) ?_;rw [AiN];refine Am (cs:=fM x) hf (by omega) rfl fun A1 m1=>?_;have g1:=Grow.made m1 hf;have hk:=hk A1 (g1.more (by omega));unfold Ep at hk;simp only [HT,K9,Cl,i84 m1.AS,i120 (h.keeps g1.keeps (by simp)),Ab,Ar,Bc,Ah,Nat.zero_add];refine ⟨fun h1=>?_,fun h1=>⟨fun h2=>?_,fun h2=>?_⟩⟩
 ·rw [if_pos h1] at hk;exact hk
 ·rw [Ff h1,if_pos h2] at hk;exact hk
 ·rw [Ff h1,Ff h2] at hk;exact hk
theorem AdZ{x:TR}{n:Nm}{A:AW}{K:Value→AW→Prop}(hf:AH A)(hA:A.next+9<Ao)(hk:∀ A',Grow A A' 6→K (.int .i64 (B6 x.x n)) A'):Wc Tp Ak W0 m0 102 [.agg ⟨fR x⟩,.agg ⟨n.cells⟩] A K:=by
 refine AhC _ _ _ (Au (S:=fun _ _ _=>False) fun _ _ _ h=>h) ?_;rw [AiY];refine Am (cs:=fR x) hf (by omega) rfl fun A1 m1=>?_;have g1:=Grow.made m1 hf;have n1:=m1.next;refine Am (cs:=n.cells) m1.Ap (by omega) rfl fun A2 m2=>?_;have g2:=Grow.made m2 m1.Ap;have n2:=m2.next;simp only [EH,FY (m1.AS.keeps g2.keeps (by simp)),Dk m2.AS,Ab];exact Wi m2.Ap (by omega) fun A3 g3=>hk A3 (((g1.trans g2).trans g3).more (by omega))
theorem NB{a b:Nat}:Ep (a:Int) (b:Int)<0↔a<b:=by
 unfold Ep;split
 ·omega
 ·split<;>omega
theorem FK{a b:Nat}:Ep (a:Int) (b:Int)=0↔a=b:=by
 unfold Ep;split
 ·omega
 ·split<;>omega
theorem ON{a b c:Nat}(h1:Ep (a:Int) (b:Int)<0)(h2:Ep (b:Int) (c:Int)<0):Ep (a:Int) (c:Int)<0:=by rw [NB] at *;omega
theorem Aaw{a b c:Nat}(h1:Ep (a:Int) (b:Int)<0)(h2:Ep (b:Int) (c:Int)≤0):Ep (a:Int) (c:Int)<0:=by
 by_cases h:Ep (b:Int) (c:Int)=0
 ·rw [← FK.1 h];exact h1
 ·exact ON h1 (by omega)
theorem AcW(A:AW)(v w:Value)(a:Addr):Cu Tp Ak A (.func (.func 126) ⟨[]⟩ ⟨[.pointer (some a)]⟩) [v,w]=.ok (.enter 126 [v,w,.pointer (some a)]) A:=by kernel_rfl
theorem Afv(A:AW)(v:Value)(a:Addr):Cu Tp Ak A (.func (.func 99) ⟨[]⟩ ⟨[.pointer (some a)]⟩) [v]=.ok (.enter 99 [v,.pointer (some a)]) A:=by kernel_rfl
theorem AfY {A:AW} {v:Value} {p:Nat} {n:Nm} {l:List BV} {F:List Nat} {K:Value→AW→Prop} (hl:RdE 4 fB A v l F) (hlen:l.length≤60) (hp:Go.Abs.Row1 A p n.cells 46) (hs:Adj (fun a b:BV=>B6 a.x b.x) l) (hf:AH A) (hA:A.next+480<Ao)
  (hk:∀ (r:Nat) (b:Bool) A',Grow A A' 440→(b=true↔∃ x∈l,x.x=n)→(b=true→∃ x,l[r]? =some x∧x.x=n)→K (.tuple ⟨[.int .i64 (r:Int),.bool b]⟩) A'):Wc Tp Ak W0 m0 98 [v,.func (.func 99) ⟨[]⟩ ⟨[pP p 0]⟩] A K:=by
 refine w98 _ _ _ (Au (S:=fun _ _ _=>False) fun _ _ _ h=>h) ?_;rw [e98];refine Am (cs:=[.func (.func 99) ⟨[]⟩ ⟨[pP p 0]⟩]) hf (by omega) rfl fun A1 m1=>?_;have g1:=Grow.made m1 hf;have n1:=m1.next;simp only [Zq,Ab];let cmp:Nat→Int:=fun i=>match l[i]? with | some x=>B6 x.x n | none=>0
 have hget:∀ {i:Nat} {x:BV},l[i]? =some x→cmp i=B6 x.x n:=fun {i x} h=>by simp only [cmp,h]
 refine AdT (hl.keeps g1.keeps (by simp)) hlen m1.Ap (by omega) (cmp:=cmp) (c:=7) (fun i j hij hj h0=>?_) (fun i x A2 K2 hx g2 hk2=>?_) fun r b A2 g2 hr hb hb2=>?_
 ·have hi:l[i]? =some l[i]:=Ge (by omega);have hj:l[j]? =some l[j]:=Ge hj;rw [hget hj] at h0;rw [hget hi];exact Vu (E5 (c:=fun a b:BV=>B6 a.x b.x) (fun x y z=>Cb) hs hij hi hj) h0
 ·have n2:=g2.next;refine .inr (.inl ⟨126,_,_,AcW _ _ _ _,?_⟩);refine Ahp _ _ _ _ (Au (S:=fun _ _ _=>False) fun _ _ _ h=>h) ?_;rw [AiL];refine Am (cs:=fB x) g2.Ap (by omega) rfl fun A3 m3=>?_;have g3:=Grow.made m3 g2.Ap;have n3:=m3.next;refine Am (cs:=([]:List Value)) m3.Ap (by omega) rfl fun A4 m4=>?_;have g4:=Grow.made m4 m3.Ap;have n4:=m4.next;have hq:=((m1.AS.keeps g2.keeps (by simp)).keeps g3.keeps (by simp)).keeps g4.keeps (by simp);have hc:A4.cell? ⟨A.next,0,none⟩=some (.func (.func 99) ⟨[]⟩ ⟨[pP p 0]⟩):=by rw [Ax hq.row];exact AK rfl rfl
  simp only [Aca,hc,Nr (m3.AS.keeps g4.keeps (by simp)),Ab];refine .inr (.inl ⟨99,_,_,Afv _ _ _,?_⟩);refine AfX ((((hp.keeps g1.keeps (by simp)).keeps g2.keeps (by simp)).keeps g3.keeps (by simp)).keeps g4.keeps (by simp)) m4.Ap (by omega) fun A5 g5=>?_
  have:=hk2 A5 (((g3.trans g4).trans g5).more (by omega))
  rw [hget hx] at this;exact this
 ·simp only [Aw,List.getElem?_cons_zero,List.getElem?_cons_succ,Ab];refine hk r b A2 ((g1.trans g2).more (by omega)) ?_ fun h=>?_
  ·rw [hb];constructor
   ·rintro ⟨i,hi,h0⟩;have hi:l[i]? =some l[i]:=Ge hi;rw [hget hi] at h0;exact ⟨_,List.mem_of_getElem? hi,C2.1 h0⟩
   ·rintro ⟨x,hx,h0⟩;obtain ⟨i,hi⟩:=List.mem_iff_getElem?.1 hx;exact ⟨i,(Gs.1 hi).1,by rw [hget hi];exact C2.2 h0⟩
  ·obtain ⟨h1,h2⟩:=hb2 h;have hi:l[r]? =some l[r]:=Ge h1;rw [hget hi] at h2;exact ⟨_,hi,C2.1 h2⟩
theorem AcT(A:AW)(v w:Value)(a:Addr):Cu Tp Ak A (.func (.func 140) ⟨[]⟩ ⟨[.pointer (some a)]⟩) [v,w]=.ok (.enter 140 [v,w,.pointer (some a)]) A:=by kernel_rfl
theorem AcY(A:AW)(v:Value)(a:Addr):Cu Tp Ak A (.func (.func 122) ⟨[]⟩ ⟨[.pointer (some a)]⟩) [v]=.ok (.enter 122 [v,.pointer (some a)]) A:=by kernel_rfl
theorem AdX {A:AW} {v:Value} {p:Nat} {n:ByteArray} {l:List QV} {F:List Nat} {K:Value→AW→Prop} (hl:RdE 2 fQ A v l F) (hlen:l.length≤60) (hp:Go.Abs.Row1 A p [.string n] 9) (hs:Adj (fun a b:QV=>Db a.name b.name) l) (hf:AH A) (hA:A.next+480<Ao)
  (hk:∀ (r:Nat) (b:Bool) A',Grow A A' 440→(b=true↔∃ x∈l,x.name=n)→(b=true→∃ x,l[r]? =some x∧x.name=n)→K (.tuple ⟨[.int .i64 (r:Int),.bool b]⟩) A'):Wc Tp Ak W0 m0 121 [v,.func (.func 122) ⟨[]⟩ ⟨[pP p 0]⟩] A K:=by
 refine Ahu _ _ _ (Au (S:=fun _ _ _=>False) fun _ _ _ h=>h) ?_;rw [AiQ];refine Am (cs:=[.func (.func 122) ⟨[]⟩ ⟨[pP p 0]⟩]) hf (by omega) rfl fun A1 m1=>?_;have g1:=Grow.made m1 hf;have n1:=m1.next;simp only [Zq,Ab];let cmp:Nat→Int:=fun i=>match l[i]? with | some x=>Db x.name n | none=>0
 have hget:∀ {i:Nat} {x:QV},l[i]? =some x→cmp i=Db x.name n:=fun {i x} h=>by simp only [cmp,h]
 refine AdM (hl.keeps g1.keeps (by simp)) hlen m1.Ap (by omega) (cmp:=cmp) (c:=7) (fun i j hij hj h0=>?_) (fun i x A2 K2 hx g2 hk2=>?_) fun r b A2 g2 hr hb hb2=>?_
 ·have hi:l[i]? =some l[i]:=Ge (by omega);have hj:l[j]? =some l[j]:=Ge hj;rw [hget hj] at h0;rw [hget hi];exact Aav (E5 (c:=fun a b:QV=>Db a.name b.name) (fun x y z=>E1) hs hij hi hj) h0
 ·have n2:=g2.next;refine .inr (.inl ⟨140,_,_,AcT _ _ _ _,?_⟩);refine Ahg _ _ _ _ (Au (S:=fun _ _ _=>False) fun _ _ _ h=>h) ?_;rw [AiC];refine Am (cs:=fQ x) g2.Ap (by omega) rfl fun A3 m3=>?_;have g3:=Grow.made m3 g2.Ap;have n3:=m3.next;refine Am (cs:=([]:List Value)) m3.Ap (by omega) rfl fun A4 m4=>?_;have g4:=Grow.made m4 m3.Ap;have n4:=m4.next;have hq:=((m1.AS.keeps g2.keeps (by simp)).keeps g3.keeps (by simp)).keeps g4.keeps (by simp);have hc:A4.cell? ⟨A.next,0,none⟩=some (.func (.func 122) ⟨[]⟩ ⟨[pP p 0]⟩):=by rw [Ax hq.row];exact AK rfl rfl
  simp only [Ab9,hc,Aam (m3.AS.keeps g4.keeps (by simp)),Ab];refine .inr (.inl ⟨122,_,_,AcY _ _ _,?_⟩);refine AdW ((((hp.keeps g1.keeps (by simp)).keeps g2.keeps (by simp)).keeps g3.keeps (by simp)).keeps g4.keeps (by simp)) m4.Ap (by omega) fun A5 g5=>?_
  have:=hk2 A5 (((g3.trans g4).trans g5).more (by omega))
  rw [hget hx] at this;exact this
 ·simp only [Aw,List.getElem?_cons_zero,List.getElem?_cons_succ,Ab];refine hk r b A2 ((g1.trans g2).more (by omega)) ?_ fun h=>?_
  ·rw [hb];constructor
   ·rintro ⟨i,hi,h0⟩;have hi:l[i]? =some l[i]:=Ge hi;rw [hget hi] at h0;exact ⟨_,List.mem_of_getElem? hi,Cg.1 h0⟩
   ·rintro ⟨x,hx,h0⟩;obtain ⟨i,hi⟩:=List.mem_iff_getElem?.1 hx;exact ⟨i,(Gs.1 hi).1,by rw [hget hi];exact Cg.2 h0⟩
  ·obtain ⟨h1,h2⟩:=hb2 h;have hi:l[r]? =some l[r]:=Ge h1;rw [hget hi] at h2;exact ⟨_,hi,Cg.1 h2⟩
theorem AcS(A:AW)(v w:Value)(a:Addr):Cu Tp Ak A (.func (.func 142) ⟨[]⟩ ⟨[.pointer (some a)]⟩) [v,w]=.ok (.enter 142 [v,w,.pointer (some a)]) A:=by kernel_rfl
theorem AcX(A:AW)(v:Value)(a:Addr):Cu Tp Ak A (.func (.func 124) ⟨[]⟩ ⟨[.pointer (some a)]⟩) [v]=.ok (.enter 124 [v,.pointer (some a)]) A:=by kernel_rfl
theorem AdV {A:AW} {v:Value} {p:Nat} {n:FV} {l:List MV} {F:List Nat} {K:Value→AW→Prop} (hl:RdE 10 fM A v l F) (hlen:l.length≤60) (hp:Go.Abs.Row1 A p (fF n) 120) (hs:Adj (fun a b:MV=>Ep (a.id:Int) (b.id:Int)) l) (hf:AH A) (hA:A.next+480<Ao)
  (hk:∀ (r:Nat) (b:Bool) A',Grow A A' 440→(b=true↔∃ x∈l,x.id=n.id)→(b=true→∃ x,l[r]? =some x∧x.id=n.id)→K (.tuple ⟨[.int .i64 (r:Int),.bool b]⟩) A'):Wc Tp Ak W0 m0 123 [v,.func (.func 124) ⟨[]⟩ ⟨[pP p 0]⟩] A K:=by
 refine Ahs _ _ _ (Au (S:=fun _ _ _=>False) fun _ _ _ h=>h) ?_;rw [AiO];refine Am (cs:=[.func (.func 124) ⟨[]⟩ ⟨[pP p 0]⟩]) hf (by omega) rfl fun A1 m1=>?_;have g1:=Grow.made m1 hf;have n1:=m1.next;simp only [Zq,Ab];let cmp:Nat→Int:=fun i=>match l[i]? with | some x=>Ep (x.id:Int) (n.id:Int) | none=>0
 have hget:∀ {i:Nat} {x:MV},l[i]? =some x→cmp i=Ep (x.id:Int) (n.id:Int):=fun {i x} h=>by simp only [cmp,h]
 refine AdL (hl.keeps g1.keeps (by simp)) hlen m1.Ap (by omega) (cmp:=cmp) (c:=7) (fun i j hij hj h0=>?_) (fun i x A2 K2 hx g2 hk2=>?_) fun r b A2 g2 hr hb hb2=>?_
 ·have hi:l[i]? =some l[i]:=Ge (by omega);have hj:l[j]? =some l[j]:=Ge hj;rw [hget hj] at h0;rw [hget hi];exact Aaw (E5 (c:=fun a b:MV=>Ep (a.id:Int) (b.id:Int)) (fun x y z=>ON) hs hij hi hj) h0
 ·have n2:=g2.next;refine .inr (.inl ⟨142,_,_,AcS _ _ _ _,?_⟩);refine Ahe _ _ _ _ (Au (S:=fun _ _ _=>False) fun _ _ _ h=>h) ?_;rw [AiA];refine Am (cs:=fM x) g2.Ap (by omega) rfl fun A3 m3=>?_;have g3:=Grow.made m3 g2.Ap;have n3:=m3.next;refine Am (cs:=([]:List Value)) m3.Ap (by omega) rfl fun A4 m4=>?_;have g4:=Grow.made m4 m3.Ap;have n4:=m4.next;have hq:=((m1.AS.keeps g2.keeps (by simp)).keeps g3.keeps (by simp)).keeps g4.keeps (by simp);have hc:A4.cell? ⟨A.next,0,none⟩=some (.func (.func 124) ⟨[]⟩ ⟨[pP p 0]⟩):=by rw [Ax hq.row];exact AK rfl rfl
  simp only [Ab8,hc,Aal (m3.AS.keeps g4.keeps (by simp)),Ab];refine .inr (.inl ⟨124,_,_,AcX _ _ _,?_⟩);refine AdU ((((hp.keeps g1.keeps (by simp)).keeps g2.keeps (by simp)).keeps g3.keeps (by simp)).keeps g4.keeps (by simp)) m4.Ap (by omega) fun A5 g5=>?_
  have:=hk2 A5 (((g3.trans g4).trans g5).more (by omega))
  rw [hget hx] at this;exact this
 ·simp only [Aw,List.getElem?_cons_zero,List.getElem?_cons_succ,Ab];refine hk r b A2 ((g1.trans g2).more (by omega)) ?_ fun h=>?_
  ·rw [hb];constructor
   ·rintro ⟨i,hi,h0⟩;have hi:l[i]? =some l[i]:=Ge hi;rw [hget hi] at h0;exact ⟨_,List.mem_of_getElem? hi,FK.1 h0⟩
   ·rintro ⟨x,hx,h0⟩;obtain ⟨i,hi⟩:=List.mem_iff_getElem?.1 hx;exact ⟨i,(Gs.1 hi).1,by rw [hget hi];exact FK.2 h0⟩
  ·obtain ⟨h1,h2⟩:=hb2 h;have hi:l[r]? =some l[r]:=Ge h1;rw [hget hi] at h2;exact ⟨_,hi,FK.1 h2⟩
theorem Afw(A:AW)(v w:Value):Cu Tp Ak A (.func (.func 97) #[] #[]) [v,w]=.ok (.enter 97 [v,w]) A:=by kernel_rfl
theorem AfZ{x y:BV}{A:AW}{K:Value→AW→Prop}(hf:AH A)(hA:A.next+9<Ao)(hk:∀ A',Grow A A' 6→K (.int .i64 (B6 x.x y.x)) A'):Wc Tp Ak W0 m0 97 [.agg ⟨fB x⟩,.agg ⟨fB y⟩] A K:=by
 refine w97 _ _ _ (Au (S:=fun _ _ _=>False) fun _ _ _ h=>h) ?_;rw [e97];refine Am (cs:=fB x) hf (by omega) rfl fun A1 m1=>?_;have g1:=Grow.made m1 hf;have n1:=m1.next;refine Am (cs:=fB y) m1.Ap (by omega) rfl fun A2 m2=>?_;have g2:=Grow.made m2 m1.Ap;have n2:=m2.next;simp only [HS,x89 (m1.AS.keeps g2.keeps (by simp)),x89 m2.AS,Ab];exact Wi m2.Ap (by omega) fun A3 g3=>hk A3 (((g1.trans g2).trans g3).more (by omega))
theorem Af0 {A:AW} {v:Value} {l:List BV} {F:List Nat} {K:Value→AW→Prop} (hl:RdE 4 fB A v l F) (hlen:l.length≤60) (hf:AH A) (hA:A.next+480<Ao)
  (hk:∀ A',Grow A A' 440→K (.bool (dP (Adj (fun x y:BV=>B6 x.x y.x) l))) A'):Wc Tp Ak W0 m0 96 [v,.func (.func 97) #[] #[]] A K:=by
 let I:Nat→Nat→List Value→AW→Prop:=fun g id vals A'=>id=0∧∃ i:Nat,vals=[v,.func (.func 97) #[] #[],.int .i64 (i:Int)]∧1≤i∧(∀ j a b,j+1<i→l[j]? =some a→l[j+1]? =some b→(fun x y:BV=>B6 x.x y.x) a b<0)∧(i≤l.length∨i=1)∧g=100-i∧Grow A A' (6*i);refine w96 _ _ _ (c96 (I:=I) fun g id vals A' d hI hd=>?_) ?_
 ·obtain ⟨rfl,i,rfl,hi,hall,hle,rfl,hg⟩:=hI;have ng:=hg.next;rw [AeA];simp only [L96,Mc,Mn,Li,and_true] at hd;obtain ⟨d0,d1,d5⟩:=hd;have h':=hl.keeps hg.keeps (by simp);simp only [d0,d1,d5,h'.len etB,Ab,Ar,Ah];refine ⟨fun hlt=>?_,fun hge=>?_⟩
  ·have hlt:i<l.length:=by omega
   obtain ⟨a,ha⟩:∃ a,l[i-1]? =some a:=⟨_,Ge (by omega)⟩;obtain ⟨b,hb⟩:∃ b,l[i]? =some b:=⟨_,Ge hlt⟩;obtain ⟨r,o,a1,_,a3⟩:=h'.at etB ha;obtain ⟨r2,o2,b1,_,b3⟩:=h'.at etB hb;simp only [Cp,Ab];rw [wrap_i64 (by omega) (by omega),show (i:Int)-1=((i-1:Nat):Int) by omega];simp only [a1,a3,b1,b3,Ab];refine .inr (.inl ⟨97,_,_,Afw _ _ _,?_⟩);refine AfZ hg.Ap (by omega) fun A2 g2=>?_;have g02:=hg.trans g2;simp only [BL,Ab,Ah];refine ⟨fun h0=>kF (hk A2 (g02.more (by omega))) fun had=>?_,fun h0=>?_⟩
   ·have:=had (i-1) a b ha (by rw [show i-1+1=i by omega];exact hb)
    simp only at this;omega
   ·simp only [AA,Ab];rw [wrap_i64 (by omega) (by omega)];refine Ai.2 ⟨100-(i+1),by omega,rfl,i+1,rfl,by omega,fun j x y hj hx hy=>?_,by omega,rfl,g02.more (by omega)⟩;by_cases hji:j+1=i
    ·rw [show j=i-1 by omega] at hx;rw [hji] at hy;rw [ha] at hx;rw [hb] at hy;cases hx;cases hy;simp only;omega
    ·exact hall j x y (by omega) hx hy
  ·refine kT (hk A' (hg.more (by omega))) fun j x y hx hy=>hall j x y ?_ hx hy
   have:=(Gs.1 hy).1
   omega
 ·rw [e96];exact Ai.2 ⟨100-1,rfl,1,rfl,by omega,fun j a b hj=>by omega,by omega,rfl,(Grow.refl hf).more (by omega)⟩
theorem Afy(A:AW)(v w:Value):Cu Tp Ak A (.func (.func 65) #[] #[]) [v,w]=.ok (.enter 65 [v,w]) A:=by kernel_rfl
theorem Agj{x y:HV}{A:AW}{K:Value→AW→Prop}(hf:AH A)(hA:A.next+9<Ao)(hk:∀ A',Grow A A' 6→K (.int .i64 (B6 x.x y.x)) A'):Wc Tp Ak W0 m0 65 [.agg ⟨fH x⟩,.agg ⟨fH y⟩] A K:=by
 refine w65 _ _ _ (Au (S:=fun _ _ _=>False) fun _ _ _ h=>h) ?_;rw [e65];refine Am (cs:=fH x) hf (by omega) rfl fun A1 m1=>?_;have g1:=Grow.made m1 hf;have n1:=m1.next;refine Am (cs:=fH y) m1.Ap (by omega) rfl fun A2 m2=>?_;have g2:=Grow.made m2 m1.Ap;have n2:=m2.next;simp only [Hf,ZZ (m1.AS.keeps g2.keeps (by simp)),ZZ m2.AS,Ab];exact Wi m2.Ap (by omega) fun A3 g3=>hk A3 (((g1.trans g2).trans g3).more (by omega))
theorem Agk {A:AW} {v:Value} {l:List HV} {F:List Nat} {K:Value→AW→Prop} (hl:RdE 3 fH A v l F) (hlen:l.length≤60) (hf:AH A) (hA:A.next+480<Ao)
  (hk:∀ A',Grow A A' 440→K (.bool (dP (Adj (fun x y:HV=>B6 x.x y.x) l))) A'):Wc Tp Ak W0 m0 64 [v,.func (.func 65) #[] #[]] A K:=by
 let I:Nat→Nat→List Value→AW→Prop:=fun g id vals A'=>id=0∧∃ i:Nat,vals=[v,.func (.func 65) #[] #[],.int .i64 (i:Int)]∧1≤i∧(∀ j a b,j+1<i→l[j]? =some a→l[j+1]? =some b→(fun x y:HV=>B6 x.x y.x) a b<0)∧(i≤l.length∨i=1)∧g=100-i∧Grow A A' (6*i);refine w64 _ _ _ (c64 (I:=I) fun g id vals A' d hI hd=>?_) ?_
 ·obtain ⟨rfl,i,rfl,hi,hall,hle,rfl,hg⟩:=hI;have ng:=hg.next;rw [AeT];simp only [L64,Mc,Mn,Li,and_true] at hd;obtain ⟨d0,d1,d5⟩:=hd;have h':=hl.keeps hg.keeps (by simp);simp only [d0,d1,d5,h'.len etH,Ab,Ar,Ah];refine ⟨fun hlt=>?_,fun hge=>?_⟩
  ·have hlt:i<l.length:=by omega
   obtain ⟨a,ha⟩:∃ a,l[i-1]? =some a:=⟨_,Ge (by omega)⟩;obtain ⟨b,hb⟩:∃ b,l[i]? =some b:=⟨_,Ge hlt⟩;obtain ⟨r,o,a1,_,a3⟩:=h'.at etH ha;obtain ⟨r2,o2,b1,_,b3⟩:=h'.at etH hb;simp only [Cp,Ab];rw [wrap_i64 (by omega) (by omega),show (i:Int)-1=((i-1:Nat):Int) by omega];simp only [a1,a3,b1,b3,Ab];refine .inr (.inl ⟨65,_,_,Afy _ _ _,?_⟩);refine Agj hg.Ap (by omega) fun A2 g2=>?_;have g02:=hg.trans g2;simp only [BL,Ab,Ah];refine ⟨fun h0=>kF (hk A2 (g02.more (by omega))) fun had=>?_,fun h0=>?_⟩
   ·have:=had (i-1) a b ha (by rw [show i-1+1=i by omega];exact hb)
    simp only at this;omega
   ·simp only [AA,Ab];rw [wrap_i64 (by omega) (by omega)];refine Ai.2 ⟨100-(i+1),by omega,rfl,i+1,rfl,by omega,fun j x y hj hx hy=>?_,by omega,rfl,g02.more (by omega)⟩;by_cases hji:j+1=i
    ·rw [show j=i-1 by omega] at hx;rw [hji] at hy;rw [ha] at hx;rw [hb] at hy;cases hx;cases hy;simp only;omega
    ·exact hall j x y (by omega) hx hy
  ·refine kT (hk A' (hg.more (by omega))) fun j x y hx hy=>hall j x y ?_ hx hy
   have:=(Gs.1 hy).1
   omega
 ·rw [e64];exact Ai.2 ⟨100-1,rfl,1,rfl,by omega,fun j a b hj=>by omega,by omega,rfl,(Grow.refl hf).more (by omega)⟩
theorem Afx(A:AW)(v w:Value):Cu Tp Ak A (.func (.func 92) #[] #[]) [v,w]=.ok (.enter 92 [v,w]) A:=by kernel_rfl
theorem Af3{x y:QV}{A:AW}{K:Value→AW→Prop}(hf:AH A)(hA:A.next+9<Ao)(hk:∀ A',Grow A A' 6→K (.int .i64 (Db x.name y.name)) A'):Wc Tp Ak W0 m0 92 [.agg ⟨fQ x⟩,.agg ⟨fQ y⟩] A K:=by
 refine w92 _ _ _ (Au (S:=fun _ _ _=>False) fun _ _ _ h=>h) ?_;rw [e92];refine Am (cs:=fQ x) hf (by omega) rfl fun A1 m1=>?_;have g1:=Grow.made m1 hf;have n1:=m1.next;refine Am (cs:=fQ y) m1.Ap (by omega) rfl fun A2 m2=>?_;have g2:=Grow.made m2 m1.Ap;have n2:=m2.next;simp only [GI,B1,Uq (m1.AS.keeps g2.keeps (by simp)),Uq m2.AS,Ab];exact Z3 (hk A2 ((g1.trans g2).more (by omega)))
theorem Af4 {A:AW} {v:Value} {l:List QV} {F:List Nat} {K:Value→AW→Prop} (hl:RdE 2 fQ A v l F) (hlen:l.length≤60) (hf:AH A) (hA:A.next+480<Ao)
  (hk:∀ A',Grow A A' 440→K (.bool (dP (Adj (fun x y:QV=>Db x.name y.name) l))) A'):Wc Tp Ak W0 m0 91 [v,.func (.func 92) #[] #[]] A K:=by
 let I:Nat→Nat→List Value→AW→Prop:=fun g id vals A'=>id=0∧∃ i:Nat,vals=[v,.func (.func 92) #[] #[],.int .i64 (i:Int)]∧1≤i∧(∀ j a b,j+1<i→l[j]? =some a→l[j+1]? =some b→(fun x y:QV=>Db x.name y.name) a b<0)∧(i≤l.length∨i=1)∧g=100-i∧Grow A A' (6*i);refine w91 _ _ _ (c91 (I:=I) fun g id vals A' d hI hd=>?_) ?_
 ·obtain ⟨rfl,i,rfl,hi,hall,hle,rfl,hg⟩:=hI;have ng:=hg.next;rw [AeB];simp only [L91,Mc,Mn,Li,and_true] at hd;obtain ⟨d0,d1,d5⟩:=hd;have h':=hl.keeps hg.keeps (by simp);simp only [d0,d1,d5,h'.len etQ,Ab,Ar,Ah];refine ⟨fun hlt=>?_,fun hge=>?_⟩
  ·have hlt:i<l.length:=by omega
   obtain ⟨a,ha⟩:∃ a,l[i-1]? =some a:=⟨_,Ge (by omega)⟩;obtain ⟨b,hb⟩:∃ b,l[i]? =some b:=⟨_,Ge hlt⟩;obtain ⟨r,o,a1,_,a3⟩:=h'.at etQ ha;obtain ⟨r2,o2,b1,_,b3⟩:=h'.at etQ hb;simp only [Cp,Ab];rw [wrap_i64 (by omega) (by omega),show (i:Int)-1=((i-1:Nat):Int) by omega];simp only [a1,a3,b1,b3,Ab];refine .inr (.inl ⟨92,_,_,Afx _ _ _,?_⟩);refine Af3 hg.Ap (by omega) fun A2 g2=>?_;have g02:=hg.trans g2;simp only [BL,Ab,Ah];refine ⟨fun h0=>kF (hk A2 (g02.more (by omega))) fun had=>?_,fun h0=>?_⟩
   ·have:=had (i-1) a b ha (by rw [show i-1+1=i by omega];exact hb)
    simp only at this;omega
   ·simp only [AA,Ab];rw [wrap_i64 (by omega) (by omega)];refine Ai.2 ⟨100-(i+1),by omega,rfl,i+1,rfl,by omega,fun j x y hj hx hy=>?_,by omega,rfl,g02.more (by omega)⟩;by_cases hji:j+1=i
    ·rw [show j=i-1 by omega] at hx;rw [hji] at hy;rw [ha] at hx;rw [hb] at hy;cases hx;cases hy;simp only;omega
    ·exact hall j x y (by omega) hx hy
  ·refine kT (hk A' (hg.more (by omega))) fun j x y hx hy=>hall j x y ?_ hx hy
   have:=(Gs.1 hy).1
   omega
 ·rw [e91];exact Ai.2 ⟨100-1,rfl,1,rfl,by omega,fun j a b hj=>by omega,by omega,rfl,(Grow.refl hf).more (by omega)⟩
end
theorem Lg {A:AW} {e:TypeId} {z:Value} {cs:List Value} {n:Nat} {K:Value→AW→Prop} (hz:Ci Tp e=some z) (hzo:z.cells.toList.all AT=true) (hzl:z.cells.toList.length=n) (hcl:cs.length=n)
  (hst:∀ A a v,Bg Tp A e (.pointer (some a)) v=(bif Nat.beq v.cells.toList.length n then A.setCells a v.cells.toList else none)) (ho:cs.all AT=true) (hf:AH A) (hA:A.next<Ao)
  (hk:∀ A',Grow A A' 1→Go.Abs.Row1 A' A.next cs e→K (pP A.next 0) A'):Al (BB Tp A e) fun t A1=>B5 (Bg Tp A1 e t (.agg ⟨cs⟩)) fun A2=>K t A2:=by
 refine Df hz hf hA hzo fun A1 m1=>?_;have n1:=m1.next;refine m1.AS.store m1.Ap (by omega) (hst _ _ _) hcl (by omega) ho fun A2 r2 k2 n2 f2=>?_;refine hk A2 ((Grow.made m1 hf).own k2 (by simp) (m:=0) (by omega) f2) ?_
 have:NO z.cells.toList 0 cs=cs:=by
  have h3:=Kk [] z.cells.toList cs [] (by omega)
  simpa using h3
 have h2:(Value.agg ⟨cs⟩).cells.toList=cs:=rfl;rw [h2,this] at r2;exact r2
theorem ZW:Ci Tp 120=some (.agg ⟨[.string ⟨⟨[]⟩⟩,.int .u64 0]⟩):=by kernel_rfl
theorem ZU:Ci Tp 134=some (.agg ⟨[.string ⟨⟨[]⟩⟩,.int .u64 0,.string ⟨⟨[]⟩⟩,.bool false,.bool false,.string ⟨⟨[]⟩⟩,.int .u8 0,.int .u64 0,.string ⟨⟨[]⟩⟩,.slice none 0 0,.slice none 0 0,.string ⟨⟨[]⟩⟩]⟩):=by kernel_rfl
theorem ZX:Ci Tp 102=some (.agg ⟨[.int .u32 0,.string ⟨⟨[]⟩⟩,.string ⟨⟨[]⟩⟩,.bool false]⟩):=by kernel_rfl
theorem Zb{A:AW}{x:QV}{K:Value→AW→Prop}(hf:AH A)(hA:A.next<Ao)(hk:∀ A',Grow A A' 1→Go.Abs.Row1 A' A.next (fQ x) 75→K (pP A.next 0) A'):Al (BB Tp A 75) fun t A1=>B5 (Bg Tp A1 75 t (.agg ⟨fQ x⟩)) fun A2=>K t A2:=Lg Abn rfl (n:=3) rfl rfl Ad9 rfl hf hA hk
theorem Za{A:AW}{x:MV}{K:Value→AW→Prop}(hf:AH A)(hA:A.next<Ao)(hk:∀ A',Grow A A' 1→Go.Abs.Row1 A' A.next (fM x) 84→K (pP A.next 0) A'):Al (BB Tp A 84) fun t A1=>B5 (Bg Tp A1 84 t (.agg ⟨fM x⟩)) fun A2=>K t A2:=Lg Abm rfl (n:=11) rfl rfl Ad7 rfl hf hA hk
theorem Va{A:AW}{x:BV}{K:Value→AW→Prop}(hf:AH A)(hA:A.next<Ao)(hk:∀ A',Grow A A' 1→Go.Abs.Row1 A' A.next (fB x) 89→K (pP A.next 0) A'):Al (BB Tp A 89) fun t A1=>B5 (Bg Tp A1 89 t (.agg ⟨fB x⟩)) fun A2=>K t A2:=Lg Abl rfl (n:=5) rfl rfl Ad6 rfl hf hA hk
theorem Aas{A:AW}{x:FV}{K:Value→AW→Prop}(hf:AH A)(hA:A.next<Ao)(hk:∀ A',Grow A A' 1→Go.Abs.Row1 A' A.next (fF x) 120→K (pP A.next 0) A'):Al (BB Tp A 120) fun t A1=>B5 (Bg Tp A1 120 t (.agg ⟨fF x⟩)) fun A2=>K t A2:=Lg ZW rfl (n:=2) rfl rfl AbN rfl hf hA hk
theorem V4{A:AW}{x:UV}{K:Value→AW→Prop}(hf:AH A)(hA:A.next<Ao)(hk:∀ A',Grow A A' 1→Go.Abs.Row1 A' A.next (fU x) 134→K (pP A.next 0) A'):Al (BB Tp A 134) fun t A1=>B5 (Bg Tp A1 134 t (.agg ⟨fU x⟩)) fun A2=>K t A2:=Lg ZU rfl (n:=12) rfl rfl AbL rfl hf hA hk
theorem Aat{A:AW}{x:HV}{K:Value→AW→Prop}(hf:AH A)(hA:A.next<Ao)(hk:∀ A',Grow A A' 1→Go.Abs.Row1 A' A.next (fH x) 102→K (pP A.next 0) A'):Al (BB Tp A 102) fun t A1=>B5 (Bg Tp A1 102 t (.agg ⟨fH x⟩)) fun A2=>K t A2:=Lg ZX rfl (n:=4) rfl rfl AbO rfl hf hA hk
structure QD where
 q:QV
 ms:List MV
structure BD where
 b:BV
 us:List UV
 fs:List FV
structure ST (A:AW) (s:SV) (qs:List QD) (bs:List BD) (hs:List HV):Prop where
 q:∃ F,RdE 2 fQ A s.qs.val (qs.map (·.q)) F
 m:∀ q∈qs,∃ F,RdE 10 fM A q.q.ms.val q.ms F
 b:∃ F,RdE 4 fB A s.bs.val (bs.map (·.b)) F
 u:∀ b∈bs,∃ F,RdE 11 fU A b.b.ps.val b.us F
 f:∀ b∈bs,∃ F,RdE 1 fF A b.b.ts.val b.fs F
 h:∃ F,RdE 3 fH A s.hs.val hs F
structure SZ (qs:List QD) (bs:List BD) (hs:List HV):Prop where
 q:qs.length≤12
 m:∀ q∈qs,q.ms.length≤40
 b:bs.length≤12
 u:∀ b∈bs,b.us.length≤20
 f:∀ b∈bs,b.fs.length≤20
 h:hs.length≤40
theorem ST.keeps{A A':AW}{s:SV}{qs:List QD}{bs:List BD}{hs:List HV}(h:ST A s qs bs hs)(k:Bs A A' []):ST A' s qs bs hs where
 q:=by obtain ⟨F,h⟩:=h.q;exact ⟨F,h.keeps k (by simp)⟩
 m:=fun q hq=>by obtain ⟨F,h⟩:=h.m q hq;exact ⟨F,h.keeps k (by simp)⟩
 b:=by obtain ⟨F,h⟩:=h.b;exact ⟨F,h.keeps k (by simp)⟩
 u:=fun q hq=>by obtain ⟨F,h⟩:=h.u q hq;exact ⟨F,h.keeps k (by simp)⟩
 f:=fun q hq=>by obtain ⟨F,h⟩:=h.f q hq;exact ⟨F,h.keeps k (by simp)⟩
 h:=by obtain ⟨F,h⟩:=h.h;exact ⟨F,h.keeps k (by simp)⟩
def Xo(qs:List QD):Prop:=Adj (fun a b:QD=>Db a.q.name b.q.name) qs
def Zx(ms:List MV):Prop:=Adj (fun a b:MV=>Ep (a.id:Int) (b.id:Int)) ms
def AfN(bs:List BD):Prop:=Adj (fun a b:BD=>B6 a.b.x b.b.x) bs
theorem NG{α β:Type}{f:α→β}{c:β→β→Int}{l:List α}:Adj c (l.map f)↔Adj (fun a b=>c (f a) (f b)) l:=by
 constructor
 ·exact fun h i a b h1 h2=>h i (f a) (f b) (by simp [h1]) (by simp [h2])
 ·intro h i a b h1 h2;simp only [List.getElem?_map,Option.map_eq_some_iff] at h1 h2;obtain ⟨a,h1,rfl⟩:=h1;obtain ⟨b,h2,rfl⟩:=h2;exact h i a b h1 h2
def N7(qs:List QD)(r:FV):Prop:=∃ q∈qs,q.q.name=r.queue∧∃ m∈q.ms,m.id=r.id
theorem Yg{qs:List QD}(h:Xo qs){a b:QD}(ha:a∈qs)(hb:b∈qs)(he:a.q.name=b.q.name):a=b:=by
 obtain ⟨i,hi⟩:=List.mem_iff_getElem?.1 ha;obtain ⟨j,hj⟩:=List.mem_iff_getElem?.1 hb;rcases Nat.lt_trichotomy i j with h1 | h1 | h1
 ·have:=E5 (c:=fun a b:QD=>Db a.q.name b.q.name) (fun x y z=>E1) h h1 hi hj
  simp only [he,Cg.2] at this;exact absurd this (by decide)
 ·subst h1;rw [hi] at hj;cases hj;rfl
 ·have:=E5 (c:=fun a b:QD=>Db a.q.name b.q.name) (fun x y z=>E1) h h1 hj hi
  simp only [he,Cg.2] at this;exact absurd this (by decide)
section
variable {W0:World} {m0:Inj Tp} {s:SV} {qs:List QD} {bs:List BD} {hs:List HV}
theorem BK{A:AW}{r:Nat}{s:SV}(h:Go.Abs.Row1 A r (fS s) 37):A.cell? ⟨r,0,none⟩=some (.int .u64 (s.next:Int))∧A.cell? ⟨r,1,none⟩=some s.qs.val∧A.cell? ⟨r,2,none⟩=some s.bs.val∧A.cell? ⟨r,3,none⟩=some s.hs.val∧Ad Tp A 37 (pP r 0)=some (.agg ⟨fS s⟩):=by
 have:A.cells? ⟨r,0,none⟩ 4=some (fS s):=by rw [Bd h.row];rfl
 refine ⟨?_,?_,?_,?_,by rw [Aez,this]⟩<;>(rw [Ax h.row];exact AK rfl rfl)
theorem Adm {n:ByteArray} {A:AW} {K:Value→AW→Prop} (h:ST A s qs bs hs) (hz:SZ qs bs hs) (hq:Xo qs) (hf:AH A) (hA:A.next+500<Ao)
  (hk:∀ (r:Nat) (b:Bool) A',Grow A A' 442→(b=true↔∃ q∈qs,q.q.name=n)→(b=true→∃ q,qs[r]? =some q∧q.q.name=n)→K (.tuple ⟨[.int .i64 (r:Int),.bool b]⟩) A'):Wc Tp Ak W0 m0 94 [.agg ⟨fS s⟩,.string n] A K:=by
 refine w94 _ _ _ (Au (S:=fun _ _ _=>False) fun _ _ _ h=>h) ?_;rw [e94];refine Am (cs:=fS s) hf (by omega) rfl fun A1 m1=>?_;have g1:=Grow.made m1 hf;have n1:=m1.next;refine Am (cs:=[.string n]) m1.Ap (by omega) rfl fun A2 m2=>?_;have g2:=Grow.made m2 m1.Ap;have n2:=m2.next;obtain ⟨F,hq1⟩:=h.q;simp only [EG,IB,Nat.zero_add,(BK (m1.AS.keeps g2.keeps (by simp))).2.1,Ab];refine AdX ((hq1.keeps g1.keeps (by simp)).keeps g2.keeps (by simp)) (by rw [List.length_map];have:=hz.q;omega) m2.AS (NG.2 hq) m2.Ap (by omega) fun r b A3 g3 hb hb2=>?_;simp only [Aw,List.getElem?_cons_zero,List.getElem?_cons_succ,Ab];refine hk r b A3 (((g1.trans g2).trans g3).more (by omega)) ?_ fun h1=>?_
 ·rw [hb];constructor
  ·rintro ⟨x,hx,h0⟩;obtain ⟨q,hq,rfl⟩:=List.mem_map.1 hx;exact ⟨q,hq,h0⟩
  ·rintro ⟨q,hq,h0⟩;exact ⟨q.q,List.mem_map_of_mem hq,h0⟩
 ·obtain ⟨x,hx,h0⟩:=hb2 h1;simp only [List.getElem?_map,Option.map_eq_some_iff] at hx;obtain ⟨q,hq,rfl⟩:=hx;exact ⟨q,hq,h0⟩
theorem Agi {n:Nm} {A:AW} {K:Value→AW→Prop} (h:ST A s qs bs hs) (hz:SZ qs bs hs) (hq:AfN bs) (hf:AH A) (hA:A.next+500<Ao)
  (hk:∀ (r:Nat) (b:Bool) A',Grow A A' 442→(b=true↔∃ q∈bs,q.b.x=n)→K (.tuple ⟨[.int .i64 (r:Int),.bool b]⟩) A'):Wc Tp Ak W0 m0 66 [.agg ⟨fS s⟩,.agg ⟨n.cells⟩] A K:=by
 refine w66 _ _ _ (Au (S:=fun _ _ _=>False) fun _ _ _ h=>h) ?_;rw [e66];refine Am (cs:=fS s) hf (by omega) rfl fun A1 m1=>?_;have g1:=Grow.made m1 hf;have n1:=m1.next;refine Am (cs:=n.cells) m1.Ap (by omega) rfl fun A2 m2=>?_;have g2:=Grow.made m2 m1.Ap;have n2:=m2.next;obtain ⟨F,hq1⟩:=h.b;simp only [D7,H7,Nat.zero_add,(BK (m1.AS.keeps g2.keeps (by simp))).2.2.1,Ab];refine AfY ((hq1.keeps g1.keeps (by simp)).keeps g2.keeps (by simp)) (by rw [List.length_map];have:=hz.b;omega) m2.AS (NG.2 hq) m2.Ap (by omega) fun r b A3 g3 hb hb2=>?_;simp only [Aw,List.getElem?_cons_zero,List.getElem?_cons_succ,Ab];refine hk r b A3 (((g1.trans g2).trans g3).more (by omega)) ?_;rw [hb];constructor
 ·rintro ⟨x,hx,h0⟩;obtain ⟨q,hq,rfl⟩:=List.mem_map.1 hx;exact ⟨q,hq,h0⟩
 ·rintro ⟨q,hq,h0⟩;exact ⟨q.b,List.mem_map_of_mem hq,h0⟩
theorem Af1 {n:FV} {A:AW} {K:Value→AW→Prop} (h:ST A s qs bs hs) (hz:SZ qs bs hs) (hq:Xo qs) (hm:∀ q∈qs,Zx q.ms) (hf:AH A) (hA:A.next+1000<Ao)
  (hk:∀ (r k:Nat) (b:Bool) A',Grow A A' 890→(b=true↔N7 qs n)→K (.tuple ⟨[.int .i64 (r:Int),.int .i64 (k:Int),.bool b]⟩) A'):Wc Tp Ak W0 m0 95 [.agg ⟨fS s⟩,.agg ⟨fF n⟩] A K:=by
 refine w95 _ _ _ (Au (S:=fun _ _ _=>False) fun _ _ _ h=>h) ?_;rw [e95];refine Am (cs:=fS s) hf (by omega) rfl fun A1 m1=>?_;have g1:=Grow.made m1 hf;have n1:=m1.next;refine Am (cs:=fF n) m1.Ap (by omega) rfl fun A2 m2=>?_;have g2:=Grow.made m2 m1.Ap;have n2:=m2.next;have r1:=m1.AS.keeps g2.keeps (by simp);have h2:=(h.keeps g1.keeps).keeps g2.keeps;simp only [(BK r1).2.2.2.2,IK,B1,Aed m2.AS,Ab];refine Adm h2 hz hq m2.Ap (by omega) fun r b A3 g3 hb hb2=>?_;have n3:=g3.next;simp only [Aw,List.getElem?_cons_zero,List.getElem?_cons_succ,Bo,Ab];refine Aj.2 ⟨fun h0=>?_,fun h0=>?_⟩
 ·refine hk 0 0 false A3 (((g1.trans g2).trans g3).more (by omega)) ⟨fun h=>(by cases h),fun ⟨q,hq1,h1,_⟩=>?_⟩;rw [hb.2 ⟨q,hq1,h1⟩] at h0;cases h0
 ·have hbt:b=true:=by simpa using h0
  obtain ⟨q,hqr,hqn⟩:=hb2 hbt;have hqm:=List.mem_of_getElem? hqr;have h3:=h2.keeps g3.keeps;obtain ⟨F,hq1⟩:=h3.q;obtain ⟨F2,hm1⟩:=h3.m q hqm;obtain ⟨r2,o,a1,a2,a3⟩:=hq1.at etQ (i:=r) (p:=q.q) (by simp [hqr]);have c2:A3.cell? ⟨r2,o+2,none⟩=some q.q.ms.val:=cell_of a2 (k:=2) rfl;simp only [EG,IB,Nat.zero_add,(BK (r1.keeps g3.keeps (by simp))).2.1,a1,GH,Mx,c2,Ab];refine AdV hm1 (by have:=hz.m q hqm;omega) (m2.AS.keeps g3.keeps (by simp)) (hm q hqm) g3.Ap (by omega) fun k b4 A4 g4 hb4 _=>?_;simp only [Aw,List.getElem?_cons_zero,List.getElem?_cons_succ,Ab];refine hk r k b4 A4 ((((g1.trans g2).trans g3).trans g4).more (by omega)) ?_;rw [hb4];constructor
  ·exact fun ⟨x,hx,h1⟩=>⟨q,hqm,hqn,x,hx,h1⟩
  ·rintro ⟨q',hq',h1,x,hx,h2⟩;rw [Yg hq hq' hqm (by rw [h1,hqn])] at hx;exact ⟨x,hx,h2⟩
end
def N6(R:MV→ByteArray × Int)(next:Nat)(m:MV):Prop:=1≤m.id∧m.id<next∧Bm m.body≤4096∧JR R m
def qOk(R:MV→ByteArray × Int)(next:Nat)(q:QD):Prop:=H4 q.q.name∧HO q.q.limit∧(∀ m∈q.ms,N6 R next m)∧Zx q.ms
def Uh(R:MV→ByteArray × Int)(next:Nat)(qs:List QD):Prop:=(∀ q∈qs,qOk R next q)∧Xo qs
def EZ(ms:List MV)(k:Nat):Nat:=if k=0 then 0 else ((ms[k-1]?).map (·.id)).getD 0
theorem Ji{ms:List MV}{k:Nat}{m:MV}(h:ms[k]? =some m):EZ ms (k+1)=m.id:=by
 unfold EZ;rw [Ff (by omega),show k+1-1=k by omega,h];rfl
theorem VQ{ms:List MV}(ha:Zx ms)(h1:∀ m∈ms,1≤m.id){k:Nat}{m:MV}(h:ms[k]? =some m):EZ ms k<m.id:=by
 cases k with
 |zero=>exact h1 m (List.mem_of_getElem? h)
 |succ k=>
  obtain ⟨y,hk⟩:∃ y,ms[k]? =some y:=⟨_,Ge (by have:=(Gs.1 h).1;omega)⟩;rw [Ji hk];exact NB.1 (ha k _ _ hk h)
theorem Tq{ms:List MV}(h:∀ (j:Nat) m,ms[j]? =some m→EZ ms j<m.id):Zx ms:=fun i a b ha hb=>by
 have:=h (i+1) b hb
 rw [Ji ha] at this;exact NB.2 this
theorem AfG(q:ByteArray)(m:MV):Ch Tp 134 [(0,.string q),(1,.int .u64 (m.id:Int)),(2,.agg ⟨m.BM⟩),(3,.string m.body)]=some (.agg ⟨fU ⟨q,m⟩⟩):=by kernel_rfl
theorem AfD(o:Option Addr)(n c:Nat):Ch Tp 92 [(0,.int .u8 3),(4,.slice o n c)]=some (.agg ⟨fEn 3 nm0 ⟨o,n,c⟩ ⟨none,0,0⟩⟩):=by kernel_rfl
theorem Aju(A:AW)(u:UV):AG Tp A 86 1 [(0,.agg ⟨fU u⟩)]=(match A.newRow (fU u) 134 with | some (a,w')=>.ok (.slice (some a) 1 1) w' | none=>.fail "buildSlice new"):=by kernel_rfl
theorem Zf{A:AW}{u:UV}{K:Value→AW→Prop}(hf:AH A)(h:A.next<Ao)(hk:∀ A',Made A A' (fU u) 134→K (.slice (some ⟨A.next,0,none⟩) 1 1) A'):Al (AG Tp A 86 1 [(0,.agg ⟨fU u⟩)]) K:=by
 rw [Aju];unfold AW.newRow AW.new;have hc:(fU u).all AT=true:=rfl;simp only [hc,Ct,AF.2 h];exact AU.2 (hk (A.push (.row (fU u) 134 A.next 0 false)) ⟨AW.C6 _ h,rfl,by rw [AW.B8 _ h,if_pos rfl],hf.alone (Nl _),hf.push _ h⟩)
theorem AbU{β:Type}{n:Nat}{f:β→List Value}{A:AW}{b:Nat}{x:β}{e:TypeId}(h:Go.Abs.Row1 A b (f x) e):RdE n f A (.slice (some ⟨b,0,none⟩) 1 1) [x] [b]:=by
 refine .inr ⟨b,0,1,f x,e,b,0,false,rfl,h.row,h.lt,rfl,fun i p hp=>?_⟩;cases i with
 |zero=>simp only [List.getElem?_cons_zero,Oi] at hp;subst hp;exact ⟨[],by simp⟩
 |succ i=>simp at hp
theorem b84{A:AW}{r:Nat}{x:MV}(h:Go.Abs.Row1 A r (fM x) 84):A.cell? ⟨r,10,none⟩=some (.string x.body):=by rw [Ax h.row];exact AK rfl rfl
theorem VJ{A:AW}{r:Nat}{x:MV}(h:Go.Abs.Row1 A r (fM x) 84):Ad Tp A 82 (pP r 1)=some (.agg ⟨x.BM⟩):=by
 have:A.cells? ⟨r,1,none⟩ 9=some x.BM:=by rw [Bd h.row];rfl
 rw [Sv,this]
theorem q75{A:AW}{r:Nat}{x:QV}(h:Go.Abs.Row1 A r (fQ x) 75):A.cell? ⟨r,1,none⟩=some (.int .u64 (x.limit:Int))∧A.cell? ⟨r,2,none⟩=some x.ms.val:=by
 constructor<;>(rw [Ax h.row];exact AK rfl rfl)
section
variable {W0:World} {m0:Inj Tp} {s:SV} {qs:List QD} {bs:List BD} {hs:List HV} {R:MV→ByteArray × Int}
theorem Agm {A:AW} {K:Value→AW→Prop} (h:ST A s qs bs hs) (hz:SZ qs bs hs) (hn:s.next≤1099511627777) (hp:∀ q∈qs,∀ m∈q.ms,PK W0 m0 R m) (hf:AH A) (hA:A.next+310000<Ao)
  (hk:∀ A',Grow A A' 301000→K (.bool (dP (Uh R s.next qs))) A'):Wc Tp Ak W0 m0 62 [.agg ⟨fS s⟩] A K:=by
 have hql:=hz.q;let I:Nat→Nat→List Value→AW→Prop:=fun g id vals A'=>
  (id=0∧∃ i:Nat,vals=[pP A.next 0,s.qs.val,.int .i64 (qs.length:Int),.int .i64 (i:Int)]∧i≤qs.length∧(∀ (j:Nat) q,j<i→qs[j]? =some q→qOk R s.next q)∧g=1000000-i*1000∧Go.Abs.Row1 A' A.next (fS s) 37∧Grow A A' (1+25000*i))∨
  (id=2∧∃ (i k rq:Nat) (q:QD),vals=[pP A.next 0,pP rq 0,.int .u64 (EZ q.ms k:Int),s.qs.val,.int .i64 (qs.length:Int),.int .i64 (i:Int),q.q.ms.val,.int .i64 (q.ms.length:Int),.int .i64 (k:Int)]∧qs[i]? =some q∧(∀ (j:Nat) q,j<i→qs[j]? =some q→qOk R s.next q)∧H4 q.q.name∧HO q.q.limit∧k≤q.ms.length∧(∀ (j:Nat) m,j<k→q.ms[j]? =some m→N6 R s.next m∧EZ q.ms j<m.id)∧g=1000000-i*1000-1-k∧Go.Abs.Row1 A' A.next (fS s) 37∧Go.Abs.Row1 A' rq (fQ q.q) 75∧Grow A A' (1+25000*i+1+610*k))
 refine w62 _ _ (c62 (I:=I) fun g id vals A' d hI hd=>?_) ?_
 ·rcases hI with ⟨rfl,i,rfl,hi,hall,rfl,hr,hg⟩ | ⟨rfl,i,k,rq,q,rfl,hq,hall,hqn,hql2,hkl,hms,rfl,hr,hrq,hg⟩
  ·have ng:=hg.next;rw [AeY];simp only [L62,Mc,Mn,Li,and_true] at hd;obtain ⟨d1,d10,d11,d12⟩:=hd;obtain ⟨F,hqs⟩:=(h.keeps hg.keeps).q;simp only [d1,d10,d11,d12,Ar,Ab,Ah];refine ⟨fun hlt=>?_,fun hge=>?_⟩
   ·have hlt:i<qs.length:=by omega
    obtain ⟨q,hq⟩:∃ q,qs[i]? =some q:=⟨_,Ge hlt⟩;have hqm:=List.mem_of_getElem? hq;obtain ⟨r,o,a1,a2,a3⟩:=hqs.at etQ (i:=i) (p:=q.q) (by simp [hq]);simp only [a1,a3,Ab];refine Zb hg.Ap (by omega) fun A2 g2 r2=>?_;have g02:=hg.trans g2;have n2:=g2.next;simp only [GI,Q9,GH,B1,Cl,Mx,Nat.zero_add,Uq r2,(q75 r2).1,(q75 r2).2,Ab];refine Abt ?_;simp only [Bo,Ab];refine Aj.2 ⟨fun h1=>kF (hk A2 (g02.more (by omega))) fun ok=>?_,fun h1=>?_⟩
    ·rw [Bu.2 (ok.1 q hqm).1] at h1;cases h1
    ·have h1:=Bu.1 (by simpa using h1);simp only [Q9,GH,Cl,Mx,Nat.zero_add,(q75 r2).1,(q75 r2).2,Ar,Bc,Ab,Ah];refine ⟨fun h2=>kF (hk A2 (g02.more (by omega))) fun ok=>?_,fun h2=>⟨fun h3=>kF (hk A2 (g02.more (by omega))) fun ok=>?_,fun h3=>?_⟩⟩
     ·have:=(ok.1 q hqm).2.1.1;omega
     ·have:=(ok.1 q hqm).2.1.2;omega
     ·obtain ⟨F2,hm⟩:=(h.keeps g02.keeps).m q hqm;simp only [hm.len etM,Ab];refine Ai.2 ⟨1000000-i*1000-1-0,by omega,.inr ⟨rfl,i,0,A'.next,q,rfl,hq,hall,h1,⟨by omega,by omega⟩,Nat.zero_le _,fun j m hj=>by omega,rfl,hr.keeps g2.keeps (by simp),r2,g02⟩⟩
   ·obtain ⟨F,hqs⟩:=(h.keeps hg.keeps).q;simp only [EG,IB,Nat.zero_add,(BK hr).2.1,Ab];refine Af4 hqs (by rw [List.length_map];omega) hg.Ap (by omega) fun A2 g2=>?_;have hk2:=hk A2 ((hg.trans g2).more (by omega));refine kB hk2 ?_;rw [Bu,NG];exact ⟨fun ha=>⟨fun q hq=>by obtain ⟨j,hj⟩:=List.mem_iff_getElem?.1 hq;exact hall j q (by have:=(Gs.1 hj).1;omega) hj,ha⟩,fun ok=>ok.2⟩
  ·have ng:=hg.next;have hqm:=List.mem_of_getElem? hq;have hi:=(Gs.1 hq).1;have hml:=hz.m q hqm;rw [AeX];simp only [L62,Mc,Mn,Li,and_true] at hd;obtain ⟨d1,d4,d5,d10,d11,d12,d31,d32,d33⟩:=hd;obtain ⟨F,hm⟩:=(h.keeps hg.keeps).m q hqm;simp only [d1,d4,d5,d10,d11,d12,d31,d32,d33,Ar,Ab,Ah];refine ⟨fun hlt=>?_,fun hge=>?_⟩
   ·have hlt:k<q.ms.length:=by omega
    obtain ⟨m,hmk⟩:∃ m,q.ms[k]? =some m:=⟨_,Ge hlt⟩;have hmm:=List.mem_of_getElem? hmk;obtain ⟨r,o,a1,a2,a3⟩:=hm.at etM hmk;simp only [a1,a3,Ab];refine Za hg.Ap (by omega) fun A2 g2 r2=>?_;have g02:=hg.trans g2;have n2:=g2.next;simp only [GI,HT,Q8,Q7,B1,Cl,Nat.zero_add,Uq (hrq.keeps g2.keeps (by simp)),i84 r2,VJ r2,b84 r2,Ab,AfG];refine V4 g2.Ap (by omega) fun A3 g3 r3=>?_;have g03:=g02.trans g3;have n3:=g3.next;have r2:=r2.keeps g3.keeps (by simp);have hr3:=(hr.keeps g2.keeps (by simp)).keeps g3.keeps (by simp);have bad:¬ (N6 R s.next m∧EZ q.ms k<m.id)→K (.bool false) A3:=fun hb=>kF (hk A3 (g03.more (by omega))) fun ok=>hb ⟨(ok.1 q hqm).2.2.1 m hmm,VQ (ok.1 q hqm).2.2.2 (fun m hm=>((ok.1 q hqm).2.2.1 m hm).1) hmk⟩;simp only [HT,Nz,Cl,i84 r2,(BK hr3).1,CV,BL,Ab,Ah];refine ⟨fun h1=>bad fun hb=>by have:=hb.2;omega,fun h1=>⟨fun h2=>bad fun hb=>by have:=hb.1.2.1;omega,fun h2=>?_⟩⟩;simp only [VO r3,Ab];refine Zf g3.Ap (by omega) fun A4 m4=>?_;have g4:=Grow.made m4 g3.Ap;have g04:=g03.trans g4;have n4:=g4.next;simp only [AfD,Ab];refine Adn (R:=R) (us:=[⟨q.q.name,m⟩]) (fs:=[]) (.inl ⟨rfl,rfl⟩) (AbU m4.AS) (by simp) (RdE.nil _ _ _) (by simp) (fun u hu=>by obtain rfl:=Ms.1 hu;exact hp q hqm m hmm) g4.Ap (by omega) fun A5 g5=>?_;have g05:=g04.trans g5;have n5:=g5.next;simp only [AR,Ab];have hen:Eg R (decide True) nm0 [⟨q.q.name,m⟩] []↔HO m.id∧Bm m.body≤4096∧JR R m:=by
     unfold Eg XC KE;simp only [decide_true,if_true,Ms,forall_eq,List.not_mem_nil,false_implies,implies_true,and_true,Bool.true_eq_false,true_and,reduceCtorEq];exact ⟨fun h=>h.2,fun h=>⟨hqn,h⟩⟩
    refine Aj.2 ⟨fun h3=>kF (hk A5 (g05.more (by omega))) fun ok=>?_,fun h3=>?_⟩
    ·have hm1:=(ok.1 q hqm).2.2.1 m hmm;rw [Gj (hen.2 ⟨⟨hm1.1,by have:=hm1.2.1;omega⟩,hm1.2.2⟩)] at h3;cases h3
    ·have h3:Eg R (decide True) nm0 [⟨q.q.name,m⟩] []:=(FG (n:=130) (by decide)).1 (by simpa using h3);have h3:=hen.1 h3;simp only [HT,Cl,i84 ((r2.keeps g4.keeps (by simp)).keeps g5.keeps (by simp)),AA,Ab];rw [wrap_i64 (by omega) (by omega)];rw [← Ji hmk];refine Ai.2 ⟨1000000-i*1000-1-(k+1),by omega,.inr ⟨rfl,i,k+1,rq,q,rfl,hq,hall,hqn,hql2,by omega,fun j m' hj hm'=>?_,rfl,(hr3.keeps g4.keeps (by simp)).keeps g5.keeps (by simp),(((hrq.keeps g2.keeps (by simp)).keeps g3.keeps (by simp)).keeps g4.keeps (by simp)).keeps g5.keeps (by simp),g05.more (by omega)⟩⟩;by_cases hjk:j=k
     ·subst hjk;rw [hmk] at hm';cases hm';exact ⟨⟨h3.1.1,by omega,h3.2⟩,by omega⟩
     ·exact hms j m' (by omega) hm'
   ·simp only [AA,Ab];rw [wrap_i64 (by omega) (by omega)];refine Ai.2 ⟨1000000-(i+1)*1000,by omega,.inl ⟨rfl,i+1,rfl,by omega,fun j q' hj hq'=>?_,rfl,hr,hg.more (by omega)⟩⟩;by_cases hji:j=i
    ·subst hji;rw [hq] at hq';cases hq';refine ⟨hqn,hql2,fun m hm=>?_,Tq fun j m hm=>(hms j m (by have:=(Gs.1 hm).1;omega) hm).2⟩;obtain ⟨j,hj⟩:=List.mem_iff_getElem?.1 hm;exact (hms j m (by have:=(Gs.1 hj).1;omega) hj).1
    ·exact hall j q' (by omega) hq'
 ·rw [e62];refine Am (cs:=fS s) hf (by omega) rfl fun A1 m1=>?_;have g1:=Grow.made m1 hf;obtain ⟨F,hqs⟩:=(h.keeps g1.keeps).q;simp only [EG,IB,Nat.zero_add,(BK m1.AS).2.1,hqs.len etQ,List.length_map,Ab];exact Ai.2 ⟨1000000-0*1000,.inl ⟨rfl,0,rfl,Nat.zero_le _,fun j q hj=>by omega,rfl,m1.AS,g1⟩⟩
end
end Go.Proofs.YtdpdajpiadohjaaGreatDoor
namespace Go.Abs
section
variable {P:Program} {α β:Type} {ke:α→Value} {ve:β→Value} {keq:α→α→Bool} {t kt et:TypeId}
theorem find_born{es:List (En α β)}{e:En α β}(hn:(es.map En.b).Nodup)(he:e∈es):∀ (i:Nat),∃ j,Dt e.b (es.map (En.entry ke ve)) i=some (i+j)∧es[j]? =some e:=by
 induction es with
 |nil=>cases he
 |cons x es ih=>
  intro i;simp only [Mc,List.nodup_cons] at hn;show ∃ j,(bif Nat.beq x.b e.b then some i else Dt e.b (es.map (En.entry ke ve)) (i+1))=_∧_;rcases Mk.1 he with rfl | he
  ·exact ⟨0,by rw [show Nat.beq e.b e.b=true from Nat.beq_refl _];rfl,rfl⟩
  ·have hne:Nat.beq x.b e.b=false:=by
    cases h:Nat.beq x.b e.b
    ·rfl
    ·exact absurd (List.mem_map.2 ⟨e,he,(Nb h).symm⟩) hn.1
   obtain ⟨j,h1,h2⟩:=ih hn.2 he (i+1);exact ⟨j+1,by rw [hne,Cf,h1];congr 1;omega,h2⟩
theorem Sn{γ δ:Type}{f:γ→δ}:∀ {l:List γ} {i j:Nat} {x y:γ},(l.map f).Nodup→l[i]? =some x→l[j]? =some y→f x=f y→i=j
 |[],i,j,x,y,_,h,_,_=>by simp at h
 |a::l,i,j,x,y,hn,hi,hj,he=>by
  simp only [Mc,List.nodup_cons] at hn;cases i with
  |zero=>
   cases j with
   |zero=>rfl
   |succ j=>
    simp only [List.getElem?_cons_zero,Oi,List.getElem?_cons_succ] at hi hj;subst hi;exact absurd (List.mem_map.2 ⟨y,List.mem_of_getElem? hj,he.symm⟩) hn.1
  |succ i=>
   cases j with
   |zero=>
    simp only [List.getElem?_cons_zero,Oi,List.getElem?_cons_succ] at hi hj;subst hj;exact absurd (List.mem_map.2 ⟨x,List.mem_of_getElem? hi,he⟩) hn.1
   |succ j=>
    simp only [List.getElem?_cons_succ] at hi hj;rw [Sn hn.2 hi hj he]
theorem AbW(hd:∀ {a b},keq a b=true↔a=b){es:List (En α β)}{k:α}{v:β}{c:Nat}:∀ {i j:Nat} {e:En α β},atE keq es k i=some j→es[j-i]? =some e→(⟨k,v,e.b⟩:En α β)∈Fp keq es k v c:=by
 induction es with
 |nil=>intro i j e h;cases h
 |cons x es ih=>
  intro i j e h he;unfold atE at h;unfold Fp;split at h
  ·rename_i hk;cases h;rw [if_pos hk];rw [Nat.sub_self] at he;simp only [List.getElem?_cons_zero,Oi] at he;subst he;exact List.mem_cons_self
  ·rename_i hk;rw [Ff hk]
   have:=(Jq h).1
   rw [show j-i=(j-(i+1))+1 by omega] at he;exact List.mem_cons_of_mem _ (ih h (by simpa using he))
theorem Gu.Eg (T:MT P t kt et ke keq) {A:AW} {r:Nat} {es:List (En α β)} {c:Nat} (h:Gu ke ve A r es c) (hf:AH A) (hb:A.next≤Ao) {k:α} {z v:β} (hz:Ci P et=some (ve z)) (hv:v=(Ej keq es k).getD z) {K:Value→AW→Prop}
  (hk:∀ A' c' (e:En α β),Gu ke ve A' r (Fp keq es k v c) c'→e∈Fp keq es k v c→e.k=k→Bs A A' [r]→A'.next=A.next→AH A'→K (.tuple #[ve v,.int .i64 e.b]) A'):Al (G4 P A t (.map (some r)) (ke k)) K:=by
 obtain ⟨A',hA',c',h1,h2,h3,h4⟩:B5 (Cd P A t (.map (some r)) (ke k) (ve v)) (fun A'=>∃ c',Gu ke ve A' r (Fp keq es k v c) c'∧Bs A A' [r]∧A'.next=A.next∧AH A'):=h.put T hf hb fun A' c' a b d e=>⟨c',a,b,d,e⟩;unfold Cd at hA';unfold G4 G5;simp only [GD T,h.row.row,T.q,Ct,KY T] at hA' ⊢;cases ha:atE keq es k 0 with
 |none=>
  obtain ⟨g1,g2⟩:=NF ha;rw [ha] at hA';simp only [Oi] at hA';rw [g2] at hv;have hv:v=z:=hv;subst hv;simp only [hz,hA'];exact ⟨_,_,rfl,hk A' c' ⟨k,v,c⟩ h1 (by rw [It g1];simp) rfl h2 h3 h4⟩
 |some i=>
  obtain ⟨_,_,e,g3,g4,g5⟩:=Jq ha;rw [Nat.sub_zero] at g3;have hke:k=e.k:=T.dec.1 g4;rw [ha] at hA';rw [g5] at hv;have hv:v=e.v:=hv;have hs:(Av 4 (e.entry ke ve).key&&Instr.sameBits 10000 (e.entry ke ve).key (ke k))=true:=by
   show (Av 4 (ke e.k)&&Instr.sameBits 10000 (ke e.k) (ke k))=true;rw [hke];exact T.same _
  simp only [List.getElem?_map,g3,Option.map_some,hs,Ct,Oi] at hA' ⊢;have he:(e.entry ke ve).val=ve v:=by rw [hv];rfl
  rw [he,hA'];exact ⟨_,_,rfl,hk A' c' ⟨k,v,e.b⟩ h1 (AbW T.dec ha (by rw [Nat.sub_zero];exact g3)) rfl h2 h3 h4⟩
theorem Gu.AcP (T:MT P t kt et ke keq) {A:AW} {r:Nat} {es:List (En α β)} {c:Nat} (h:Gu ke ve A r es c) (hf:AH A) (hb:A.next≤Ao) {e:En α β} {v:β} (he:e∈es) {K:AW→Prop}
  (hk:∀ A' c',Gu ke ve A' r (Fp keq es e.k v c) c'→Bs A A' [r]→A'.next=A.next→AH A'→K A'):B5 (El A (.map (some r)) (.int .i64 (e.b:Int)) (ve v)) K:=by
 obtain ⟨A',hA',c',h1,h2,h3,h4⟩:B5 (Cd P A t (.map (some r)) (ke e.k) (ve v)) (fun A'=>∃ c',Gu ke ve A' r (Fp keq es e.k v c) c'∧Bs A A' [r]∧A'.next=A.next∧AH A'):=h.put T hf hb fun A' c' a b d e=>⟨c',a,b,d,e⟩;unfold Cd at hA';simp only [GD T,h.row.row,T.q,Ct,KY T] at hA';cases ha:atE keq es e.k 0 with
 |none=>
  have:=(NF ha).1 e he
  rw [T.dec.2 rfl] at this;cases this
 |some i=>
  obtain ⟨_,_,x,g3,g4,g5⟩:=Jq ha;rw [Nat.sub_zero] at g3;have hke:e.k=x.k:=T.dec.1 g4;rw [ha] at hA';have hs:(Av 4 (x.entry ke ve).key&&Instr.sameBits 10000 (x.entry ke ve).key (ke e.k))=true:=by
   show (Av 4 (ke x.k)&&Instr.sameBits 10000 (ke x.k) (ke e.k))=true;rw [hke];exact T.same _
  simp only [List.getElem?_map,g3,Option.map_some,hs,Ct,Oi] at hA';obtain ⟨j,f1,f2⟩:=find_born (ke:=ke) (ve:=ve) h.nb he 0;have hij:i=j:=Sn h.nk g3 f2 hke.symm;subst hij;rw [Nat.zero_add] at f1;have hr:A.get r=some (.map (es.map (En.entry ke ve)) c false):=h.row.row;show B5 (match A.get r with
   |some (.map es clock false)=>(match Dt e.b es 0 with
    |some i=>(match es[i]? with
     |some e=>some (A.put r (.map (DB es i e.key (ve v)) clock false))
     |none=>none)
    |none=>none)
   |_=>none) K
  simp only [hr,f1,List.getElem?_map,f2,Option.map_some];have hkk:(e.entry ke ve).key=ke e.k:=rfl;rw [hkk,hA'];exact ⟨_,rfl,hk A' c' h1 h2 h3 h4⟩
end
end Go.Abs
namespace Go.Proofs.YtdpdajpiadohjaaGreatDoor
open Go Go.Abs Go.Lib
theorem Afm:quiet Tp (underlying 120)=some (.struct (Tp.fieldsOf 120)):=by kernel_rfl
noncomputable def TG(i:Nat):Field:=(Tp.fieldsOf 120).toList.getD i default
theorem Afo:(Tp.fieldsOf 120).toList=[TG 0,TG 1]:=by kernel_rfl
theorem VG(q:ByteArray)(n:Int):quiet Tp (part (TG 0).type ⟨[.string q,.int .u64 n]⟩ (TG 0).offset)=some (.string q):=by kernel_rfl
theorem VF(q:ByteArray)(n:Int):quiet Tp (part (TG 1).type ⟨[.string q,.int .u64 n]⟩ (TG 1).offset)=some (.int .u64 n):=by kernel_rfl
theorem Aaa:(TG 0).type=9:=by kernel_rfl
theorem Z9:(TG 1).type=32:=by kernel_rfl
theorem AhG:quiet Tp (underlying 32)=some (.int .u64):=by kernel_rfl
def RX(q q':ByteArray)(n n':Int):Bool:=q.data.toList==q'.data.toList&&n==n'
theorem Yc(k:Nat)(n n':Int)(q q':ByteArray):quiet Tp (Op.equalIn (k+1+1) 120 (.agg ⟨[.string q,.int .u64 n]⟩) (.agg ⟨[.string q',.int .u64 n']⟩))=some (RX q q' n n'):=by
 rw [HD (k+1) 120 _ _ Afm (by kernel_rfl),Afo];rw [Dh (by kernel_rfl) (VG q n) (VG q' n') (by rw [Aaa];exact I6 ut9)];rw [Dh (by kernel_rfl) (VF q n) (VF q' n') (by rw [Z9];exact Kt k 32 _ _ _ _ AhG)];unfold RX;cases q.data.toList==q'.data.toList<;>cases n==n'<;>rfl
theorem Abd{p q:FV}:RX p.queue q.queue (p.id:Int) (q.id:Int)=true↔p=q:=by
 unfold RX;simp only [Bq,beq_iff_eq];constructor
 ·rintro ⟨h1,h2⟩;have h1:=OW h1;obtain ⟨f,g⟩:=p;obtain ⟨f',g'⟩:=q;simp only at h1 h2
  have:g=g':=by omega
  rw [this,h1]
 ·rintro rfl;exact ⟨rfl,rfl⟩
def kR(p:FV):Value:=.agg ⟨fF p⟩
def HM(p q:FV):Bool:=RX p.queue q.queue (p.id:Int) (q.id:Int)
theorem Afs(p q:FV):eqA Tp 120 (kR p) (kR q)=some (HM p q):=by
 unfold eqA;have hc:(Av 4 (kR p)&&Av 4 (kR q))=true:=rfl;rw [hc,Ct];exact Yc 9998 _ _ _ _
theorem eqR(p q:FV)(xo yo:Operand):Af Tp .eql 120 xo yo (.agg ⟨fF p⟩) (.agg ⟨fF q⟩)=some (.bool (HM p q)):=by
 have hg:CT Tp 120 xo yo (kR p) (kR q)=true:=by
  show (!Tp.eqGuardType Tp.depth 120)=true
  kernel_rfl
 show (bif CT Tp 120 xo yo (kR p) (kR q) then (match eqA Tp 120 (kR p) (kR q) with | some b=>some (Value.bool b) | none=>none) else none)=_;rw [hg,Ct,Afs]
theorem AhP(e:Bool)(p:FV):IC Tp e 120 (kR p)=true:=by cases e<;>kernel_rfl
theorem AbS(p:FV):(Av 4 (kR p)&&Instr.sameBits 10000 (kR p) (kR p))=true:=by
 have hs:Instr.sameBits 10000 (kR p) (kR p)=true:=by
  show Instr.sameBits (9999+1) (.agg ⟨fF p⟩) (.agg ⟨fF p⟩)=true;simp only [fF,Instr.sameBits,beq_self_eq_true,Bool.true_and];simp [Instr.sameBits,beq_toListBytes]
 rw [hs];rfl
theorem mtR:MT Tp 152 120 3 kR HM:=⟨by kernel_rfl,Afs,Abd,AhP,AbS⟩
def vC(n:Nat):Value:=.int .i64 (n:Int)
theorem Xs:Ci Tp 3=some (vC 0):=by kernel_rfl
section
variable {W0:World} {m0:Inj Tp}
theorem Af2{A:AW}{b:BV}{K:Value→AW→Prop}(hf:AH A)(hA:A.next+5<Ao)(hk:∀ A',Grow A A' 2→K (.agg ⟨fEn 4 b.x b.ps b.ts⟩) A'):Wc Tp Ak W0 m0 93 [.agg ⟨fB b⟩] A K:=by
 refine w93 _ _ (Au (S:=fun _ _ _=>False) fun _ _ _ h=>h) ?_;rw [e93];refine Am (cs:=fB b) hf (by omega) rfl fun A1 m1=>?_;have n1:=m1.next;refine Df Xq m1.Ap (by omega) rfl fun A2 m2=>?_;have n2:=m2.next;have k2:=m2.keeps m1.Ap;have hr:Go.Abs.Row1 A2 A.next [.int .u32 (b.x.f:Int),.string b.x.g,.string b.x.b,.slice b.ps.o b.ps.len b.ps.cap,.slice b.ts.o b.ts.len b.ts.cap] 89:=m1.AS.keeps k2 (by simp);have hc:A2.cells? ⟨A.next,0,none⟩ 3=some [.int .u32 (b.x.f:Int),.string b.x.g,.string b.x.b]:=by rw [Bd hr.row];rfl
 simp only [HS,K4,HR,D0,KQ,G6,hc,Ax hr.row,cellOf,CC,BX,B7,Cf,Ab,AfE,Nat.zero_add];refine m2.AS.store m2.Ap (by omega) (Aa3 _ _ _) rfl (by show 0+8≤8;omega) rfl fun A3 r3 k3 n3 f3=>?_;have r3:Go.Abs.Row1 A3 A1.next (fEn 4 b.x b.ps b.ts) 92:=r3;have hc3:A3.cells? ⟨A1.next,0,none⟩ 8=some (fEn 4 b.x b.ps b.ts):=by rw [Bd r3.row];rfl
 simp only [YG,hc3,Ab];exact hk A3 (((Grow.made m1 hf).trans (.made m2 m1.Ap)).own k3 (by simp;omega) (m:=0) (by omega) f3)
end
def refsOf(bs:List BD):List FV:=bs.flatMap (·.fs)
def bOk(R:MV→ByteArray × Int)(qs:List QD)(b:BD):Prop:=Eg R false b.b.x b.us b.fs∧(∀ u∈b.us,∃ q∈qs,q.q.name=u.queue)∧∀ r∈b.fs,N7 qs r
def Zh(R:MV→ByteArray × Int)(qs:List QD)(bs:List BD):Prop:=(∀ b∈bs,bOk R qs b)∧(refsOf bs).Nodup∧AfN bs
theorem T7{bs:List BD}{i k:Nat}{b:BD}{r:FV}(hb:bs[i]? =some b)(hr:b.fs[k]? =some r):∃ rest,refsOf bs=(refsOf (bs.take i)++b.fs.take k)++r::rest:=by
 have h1:bs=bs.take i++b::bs.drop (i+1):=by
  conv=>lhs;rw [← List.take_append_drop i bs]
  rw [List.drop_eq_getElem_cons (Gs.1 hb).1];rw [(Gs.1 hb).2]
 have h2:b.fs=b.fs.take k++r::b.fs.drop (k+1):=by
  conv=>lhs;rw [← List.take_append_drop k b.fs]
  rw [List.drop_eq_getElem_cons (Gs.1 hr).1];rw [(Gs.1 hr).2]
 refine ⟨b.fs.drop (k+1)++refsOf (bs.drop (i+1)),?_⟩
 conv=>lhs;rw [h1]
 unfold refsOf;rw [List.flatMap_append,List.flatMap_cons]
 conv=>lhs;rw [h2]
 simp
theorem PV{bs:List BD}{i:Nat}{b:BD}(hb:bs[i]? =some b):refsOf (bs.take (i+1))=refsOf (bs.take i)++b.fs:=by
 unfold refsOf;rw [List.take_add_one,hb]
 simp
structure LK (es:List (En FV Nat)) (L:List FV):Prop where
 i:∀ x∈L,Ej HM es x=some 1
 o:∀ x,x∉L→Ej HM es x=none
 n:L.Nodup
theorem CS{a b:FV}:HM a b=true↔a=b:=Abd
theorem LK.snoc{es:List (En FV Nat)}{L:List FV}{r:FV}{c c':Nat}(h:LK es L)(hr:r∉L)(v:Nat):LK (Go.Abs.Fp HM (Go.Abs.Fp HM es r v c) r 1 c') (L++[r]) where
 i:=fun x hx=>by
  rw [EX CS,EX CS];split
  ·rfl
  ·rename_i hn;rcases Mz.1 hx with hx | hx
   ·exact h.i x hx
   ·exact absurd (CS.2 (Ms.1 hx)) hn
 o:=fun x hx=>by
  rw [EX CS,EX CS];split
  ·rename_i hn;exact absurd (by rw [CS.1 hn];simp) hx
  ·exact h.o x fun h=>hx (by simp [h])
 n:=by
  rw [List.nodup_append];exact ⟨h.n,by simp,fun a ha b hb=>by obtain rfl:=Ms.1 hb;exact fun h=>hr (h▸ha)⟩
theorem R1{A:AW}{r:Nat}{b:BV}(h:Go.Abs.Row1 A r (fB b) 89):A.cell? ⟨r,3,none⟩=some b.ps.val∧A.cell? ⟨r,4,none⟩=some b.ts.val:=by
 constructor<;>(rw [Ax h.row];exact AK rfl rfl)
theorem KO{A:AW}{r:Nat}{x:FV}(h:Go.Abs.Row1 A r (fF x) 120):Ad Tp A 120 (pP r 0)=some (.agg ⟨fF x⟩):=by
 have:A.cells? ⟨r,0,none⟩ 2=some (fF x):=by rw [Bd h.row];rfl
 rw [Ace,this]
section
variable {W0:World} {m0:Inj Tp} {s:SV} {qs:List QD} {bs:List BD} {hs:List HV} {R:MV→ByteArray × Int}
theorem Agl {A:AW} {K:Value→AW→Prop} (h:ST A s qs bs hs) (hz:SZ qs bs hs) (hq:Xo qs) (hm:∀ q∈qs,Zx q.ms) (hp:∀ b∈bs,∀ u∈b.us,PK W0 m0 R u.m) (hf:AH A) (hA:A.next+340000<Ao)
  (hk:∀ A',Grow A A' 329000→K (.bool (dP (Zh R qs bs))) A'):Wc Tp Ak W0 m0 63 [.agg ⟨fS s⟩] A K:=by
 have hbl:=hz.b;let S0:Nat→Nat→List FV→AW→Nat→Prop:=fun i mp L A' n=>(∀ (j:Nat) b,j<i→bs[j]? =some b→bOk R qs b)∧A.next<mp∧Go.Abs.Row1 A' A.next (fS s) 37∧(∃ es c,Gu kR vC A' mp es c∧LK es L)∧Grow A A' n;let I:Nat→Nat→List Value→AW→Prop:=fun g id vals A'=>
  (id=0∧∃ i mp:Nat,vals=[pP A.next 0,.map (some mp),s.bs.val,.int .i64 (bs.length:Int),.int .i64 (i:Int)]∧i≤bs.length∧g=1000000-i*1000∧S0 i mp (refsOf (bs.take i)) A' (2+27300*i))∨
  (id=2∧∃ (i k mp rb:Nat) (b:BD),vals=[pP A.next 0,.map (some mp),pP rb 0,s.bs.val,.int .i64 (bs.length:Int),.int .i64 (i:Int),b.b.ps.val,.int .i64 (b.us.length:Int),.int .i64 (k:Int)]∧bs[i]? =some b∧k≤b.us.length∧Eg R false b.b.x b.us b.fs∧(∀ (j:Nat) u,j<k→b.us[j]? =some u→∃ q∈qs,q.q.name=u.queue)∧Go.Abs.Row1 A' rb (fB b.b) 89∧g=1000000-i*1000-1-k∧S0 i mp (refsOf (bs.take i)) A' (2+27300*i+603+443*k))∨
  (id=4∧∃ (i k mp:Nat) (b:BD),vals=[pP A.next 0,.map (some mp),s.bs.val,.int .i64 (bs.length:Int),.int .i64 (i:Int),b.b.ts.val,.int .i64 (b.fs.length:Int),.int .i64 (k:Int)]∧bs[i]? =some b∧k≤b.fs.length∧Eg R false b.b.x b.us b.fs∧(∀ u∈b.us,∃ q∈qs,q.q.name=u.queue)∧(∀ (j:Nat) r,j<k→b.fs[j]? =some r→N7 qs r)∧g=1000000-i*1000-100-k∧S0 i mp (refsOf (bs.take i)++b.fs.take k) A' (2+27300*i+9463+891*k))
 refine w63 _ _ (c63 (I:=I) fun g id vals A' d hI hd=>?_) ?_
 ·rcases hI with ⟨rfl,i,mp,rfl,hi,rfl,hall,hmp,hr,⟨es,c,hM,hL⟩,hg⟩ | ⟨rfl,i,k,mp,rb,b,rfl,hb,hkl,he,hus,hrb,rfl,hall,hmp,hr,⟨es,c,hM,hL⟩,hg⟩ | ⟨rfl,i,k,mp,b,rfl,hb,hkl,he,hus,hfs,rfl,hall,hmp,hr,⟨es,c,hM,hL⟩,hg⟩
  ·have ng:=hg.next;rw [AeW];simp only [L63,Mc,Mn,Li,and_true] at hd;obtain ⟨d1,d3,d17,d18,d19⟩:=hd;obtain ⟨F,hbs⟩:=(h.keeps hg.keeps).b;simp only [d1,d3,d17,d18,d19,Ar,Ab,Ah];refine ⟨fun hlt=>?_,fun hge=>?_⟩
   ·have hlt:i<bs.length:=by omega
    obtain ⟨b,hb⟩:∃ b,bs[i]? =some b:=⟨_,Ge hlt⟩;have hbm:=List.mem_of_getElem? hb;obtain ⟨r,o,a1,a2,a3⟩:=hbs.at etB (i:=i) (p:=b.b) (by simp [hb]);simp only [a1,a3,Ab];refine Va hg.Ap (by omega) fun A2 g2 r2=>?_;have g02:=hg.trans g2;have n2:=g2.next;simp only [Nr r2,Ab];refine Af2 g2.Ap (by omega) fun A3 g3=>?_;have g03:=g02.trans g3;have n3:=g3.next;obtain ⟨F2,hu⟩:=(h.keeps g03.keeps).u b hbm;obtain ⟨F3,hff⟩:=(h.keeps g03.keeps).f b hbm;have hul:=hz.u b hbm;have hfl:=hz.f b hbm;refine Adn (R:=R) (.inr rfl) hu (by omega) hff (by omega) (hp b hbm) g3.Ap (by omega) fun A4 g4=>?_;have g04:=g03.trans g4;have n4:=g4.next;have h43:decide ((4:Nat)=3)=false:=rfl;simp only [AR,Ab];rw [h43];refine Aj.2 ⟨fun h3=>kF (hk A4 (g04.more (by omega))) fun ok=>?_,fun h3=>?_⟩
    ·rw [Gj (show Eg R _ b.b.x b.us b.fs from (ok.1 b hbm).1)] at h3;cases h3
    ·have h3:Eg R false b.b.x b.us b.fs:=(FG (n:=130) (by decide)).1 (by simpa using h3);have r4:=(r2.keeps g3.keeps (by simp)).keeps g4.keeps (by simp);simp only [K4,KQ,Nat.zero_add,(R1 r4).1,(hu.keeps g4.keeps (by simp)).len etU,Ab];exact Ai.2 ⟨1000000-i*1000-1-0,by omega,.inr (.inl ⟨rfl,i,0,mp,A'.next,b,rfl,hb,Nat.zero_le _,h3,fun j u hj=>by omega,r4,rfl,hall,hmp,((hr.keeps g2.keeps (by simp)).keeps g3.keeps (by simp)).keeps g4.keeps (by simp),⟨es,c,((hM.keeps g2.keeps (by simp)).keeps g3.keeps (by simp)).keeps g4.keeps (by simp),hL⟩,g04.more (by omega)⟩)⟩
   ·have hib:i=bs.length:=by omega
    simp only [D7,H7,Nat.zero_add,(BK hr).2.2.1,Ab];refine Af0 hbs (by rw [List.length_map];omega) hg.Ap (by omega) fun A2 g2=>?_;have hk2:=hk A2 ((hg.trans g2).more (by omega));refine kB hk2 ?_;rw [Bu,NG];refine ⟨fun ha=>⟨fun b hb=>?_,?_,ha⟩,fun ok=>ok.2.2⟩
    ·obtain ⟨j,hj⟩:=List.mem_iff_getElem?.1 hb;exact hall j b (by have:=(Gs.1 hj).1;omega) hj
    ·have:=hL.n
     rw [List.take_of_length_le (by omega)] at this;exact this
  ·have ng:=hg.next;have hbm:=List.mem_of_getElem? hb;have hi:=(Gs.1 hb).1;have hul:=hz.u b hbm;rw [AeV];simp only [L63,Mc,Mn,Li,and_true] at hd;obtain ⟨d1,d3,d5,d17,d18,d19,d28,d29,d30⟩:=hd;obtain ⟨F,hu⟩:=(h.keeps hg.keeps).u b hbm;simp only [d1,d3,d5,d17,d18,d19,d28,d29,d30,Ar,Ab,Ah];refine ⟨fun hlt=>?_,fun hge=>?_⟩
   ·have hlt:k<b.us.length:=by omega
    obtain ⟨u,huk⟩:∃ u,b.us[k]? =some u:=⟨_,Ge hlt⟩;have hum:=List.mem_of_getElem? huk;obtain ⟨r,o,a1,a2,a3⟩:=hu.at etU huk;simp only [a1,a3,Ab];refine V4 hg.Ap (by omega) fun A2 g2 r2=>?_;have g02:=hg.trans g2;have n2:=g2.next;have hr2:=hr.keeps g2.keeps (by simp);simp only [(BK hr2).2.2.2.2,IJ,B1,AbV r2,Ab];refine Adm (h.keeps g02.keeps) hz hq g2.Ap (by omega) fun rq bb A3 g3 hb3 _=>?_;have g03:=g02.trans g3;have n3:=g3.next;simp only [Aw,List.getElem?_cons_zero,List.getElem?_cons_succ,Bo,Ab];refine Aj.2 ⟨fun h3=>kF (hk A3 (g03.more (by omega))) fun ok=>?_,fun h3=>?_⟩
    ·rw [hb3.2 ((ok.1 b hbm).2.1 u hum)] at h3;cases h3
    ·simp only [AA,Ab];rw [wrap_i64 (by omega) (by omega)];refine Ai.2 ⟨1000000-i*1000-1-(k+1),by omega,.inr (.inl ⟨rfl,i,k+1,mp,rb,b,rfl,hb,by omega,he,fun j u' hj hu'=>?_,(hrb.keeps g2.keeps (by simp)).keeps g3.keeps (by simp),rfl,hall,hmp,hr2.keeps g3.keeps (by simp),⟨es,c,(hM.keeps g2.keeps (by simp)).keeps g3.keeps (by simp),hL⟩,g03.more (by omega)⟩)⟩;by_cases hjk:j=k
     ·subst hjk;rw [huk] at hu';cases hu';exact hb3.1 (by simpa using h3)
     ·exact hus j u' (by omega) hu'
   ·obtain ⟨F3,hff⟩:=(h.keeps hg.keeps).f b hbm;simp only [HR,G6,Nat.zero_add,(R1 hrb).2,hff.len etF,Ab];refine Ai.2 ⟨1000000-i*1000-100-0,by omega,.inr (.inr ⟨rfl,i,0,mp,b,rfl,hb,Nat.zero_le _,he,fun u hu=>?_,fun j r hj=>by omega,rfl,hall,hmp,hr,⟨es,c,hM,by simpa using hL⟩,hg.more (by omega)⟩)⟩;obtain ⟨j,hj⟩:=List.mem_iff_getElem?.1 hu;exact hus j u (by have:=(Gs.1 hj).1;omega) hj
  ·have ng:=hg.next;have hbm:=List.mem_of_getElem? hb;have hi:=(Gs.1 hb).1;have hfl:=hz.f b hbm;rw [AeU];simp only [L63,Mc,Mn,Li,and_true] at hd;obtain ⟨d1,d3,d17,d18,d19,d45,d46,d47⟩:=hd;obtain ⟨F,hff⟩:=(h.keeps hg.keeps).f b hbm;simp only [d1,d3,d17,d18,d19,d45,d46,d47,Ar,Ab,Ah];refine ⟨fun hlt=>?_,fun hge=>?_⟩
   ·have hlt:k<b.fs.length:=by omega
    obtain ⟨x,hxk⟩:∃ x,b.fs[k]? =some x:=⟨_,Ge hlt⟩;have hxm:=List.mem_of_getElem? hxk;obtain ⟨r,o,a1,a2,a3⟩:=hff.at etF hxk;simp only [a1,a3,Ab];refine Aas hg.Ap (by omega) fun A2 g2 r2=>?_;have g02:=hg.trans g2;have n2:=g2.next;have hM2:=hM.keeps g2.keeps (by simp);have hmpl:=hM.ltA;have hr2:=hr.keeps g2.keeps (by simp);obtain ⟨v0,hv0⟩:∃ v0,v0=(Ej HM es x).getD 0:=⟨_,rfl⟩;have hlk:∀ {B:AW} {es':List (En FV Nat)} {c' v:Nat},Gu kR vC B mp es' c'→v=(Ej HM es' x).getD 0→DH Tp B 152 (.map (some mp)) (.agg ⟨fF x⟩) false=some (.int .i64 (v:Int)):=by
     intro B es' c' v hB hv
     have:=hB.look mtR Xs x false
     cases hl:Ej HM es' x with
     |none=>rw [hl] at this hv;subst hv;exact this
     |some y=>rw [hl] at this hv;subst hv;exact this
    have hv1:v0≤1∧(v0=1↔x∈refsOf (bs.take i)++b.fs.take k):=by
     by_cases hx:x∈refsOf (bs.take i)++b.fs.take k
     ·rw [hL.i x hx] at hv0;simp only [Option.getD_some] at hv0;exact ⟨by omega,by simp [hv0,hx]⟩
     ·rw [hL.o x hx] at hv0;simp only [Option.getD_none] at hv0;exact ⟨by omega,by simp [hv0,hx]⟩
    simp only [KO r2,hlk hM2 hv0,AA,Ab];rw [wrap_i64 (by omega) (by omega)];refine hM2.Eg mtR (k:=x) g2.Ap (by omega) Xs hv0 fun A3 c3 e hM3 hem hek k3 n3 f3=>?_;have hv3:v0=(Ej HM (Go.Abs.Fp HM es x v0 c) x).getD 0:=by rw [EX CS,if_pos (CS.2 rfl)];rfl
    have g03:=g02.own k3 (by simp;omega) (m:=0) (by omega) f3;simp only [BA,hlk hM3 hv3,Aw,List.getElem?_cons_zero,List.getElem?_cons_succ,Ab];have hs2:(v0:Int)+1=((v0+1:Nat):Int):=by omega
    rw [hs2];refine hM3.AcP mtR (v:=v0+1) f3 (by omega) hem fun A4 c4 hM4 k4 n4 f4=>?_;rw [hek] at hM4;have g04:=g03.own k4 (by simp;omega) (m:=0) (by omega) f4;have hr4:=(hr2.keeps k3 (by simp;omega)).keeps k4 (by simp;omega);have r4:=(r2.keeps k3 (by simp;omega)).keeps k4 (by simp;omega);simp only [(BK hr4).2.2.2.2,KO r4,Ab];refine Af1 (h.keeps g04.keeps) hz hq hm f4 (by omega) fun i5 k5 b5 A5 g5 hb5=>?_;have g05:=g04.trans g5;have n5:=g5.next;have hM5:=hM4.keeps g5.keeps (by simp);have hv5:v0+1=(Ej HM (Go.Abs.Fp HM (Go.Abs.Fp HM es x v0 c) x (v0+1) c3) x).getD 0:=by rw [EX CS,if_pos (CS.2 rfl)];rfl
    simp only [Aw,List.getElem?_cons_zero,List.getElem?_cons_succ,Bo,Ab];refine Aj.2 ⟨fun h3=>kF (hk A5 (g05.more (by omega))) fun ok=>?_,fun h3=>?_⟩
    ·rw [hb5.2 ((ok.1 b hbm).2.2 x hxm)] at h3;cases h3
    ·simp only [KO (r4.keeps g5.keeps (by simp)),hlk hM5 hv5,Bc,AA,Ab,Ah];refine ⟨fun h4=>kF (hk A5 (g05.more (by omega))) fun ok=>?_,fun h4=>?_⟩
     ·have hx:=hv1.2.1 (by omega);obtain ⟨rest,hsp⟩:=T7 hb hxk;have hn:=ok.2.1;rw [hsp,List.nodup_append] at hn;exact hn.2.2 x hx x List.mem_cons_self rfl
     ·have h0:v0=0:=by omega
      have hx:x∉refsOf (bs.take i)++b.fs.take k:=fun hx=>by have:=hv1.2.2 hx;omega
      rw [wrap_i64 (by omega) (by omega)];have hL':=hL.snoc hx (c:=c) (c':=c3) v0;rw [Mw] at hL';have htk:b.fs.take k++[x]=b.fs.take (k+1):=by rw [List.take_add_one,hxk];rfl
      rw [htk] at hL';rw [h0] at hM5 hL';refine Ai.2 ⟨1000000-i*1000-100-(k+1),by omega,.inr (.inr ⟨rfl,i,k+1,mp,b,rfl,hb,by omega,he,hus,fun j r' hj hr'=>?_,rfl,hall,hmp,hr4.keeps g5.keeps (by simp),⟨_,_,hM5,hL'⟩,g05.more (by omega)⟩)⟩;by_cases hjk:j=k
      ·subst hjk;rw [hxk] at hr';cases hr';exact hb5.1 (by simpa using h3)
      ·exact hfs j r' (by omega) hr'
   ·simp only [AA,Ab];rw [wrap_i64 (by omega) (by omega)];refine Ai.2 ⟨1000000-(i+1)*1000,by omega,.inl ⟨rfl,i+1,mp,rfl,by omega,rfl,fun j b' hj hb'=>?_,hmp,hr,⟨es,c,hM,?_⟩,hg.more (by omega)⟩⟩
    ·by_cases hji:j=i
     ·subst hji;rw [hb] at hb';cases hb';refine ⟨he,hus,fun r hr=>?_⟩;obtain ⟨j,hj⟩:=List.mem_iff_getElem?.1 hr;exact hfs j r (by have:=(Gs.1 hj).1;omega) hj
     ·exact hall j b' (by omega) hb'
    ·rw [PV hb];have htk:b.fs.take k=b.fs:=List.take_of_length_le (by omega);rw [htk] at hL;exact hL
 ·rw [e63];refine Am (cs:=fS s) hf (by omega) rfl fun A1 m1=>?_;have g1:=Grow.made m1 hf;have n1:=m1.next;refine Aem (ke:=kR) (ve:=vC) m1.Ap (by omega) fun A2 hM k2 n2 f2=>?_;have g2:Grow A1 A2 1:=⟨k2,f2,by omega⟩;obtain ⟨F,hbs⟩:=(h.keeps (g1.trans g2).keeps).b;have r2:=m1.AS.keeps k2 (by simp);simp only [D7,H7,Nat.zero_add,(BK r2).2.2.1,hbs.len etB,List.length_map,Ab];exact Ai.2 ⟨1000000-0*1000,.inl ⟨rfl,0,A1.next,rfl,Nat.zero_le _,rfl,fun j q hj=>by omega,by omega,r2,⟨[],0,hM,⟨fun x hx=>by simp [refsOf] at hx,fun _ _=>rfl,by simp [refsOf]⟩⟩,g1.trans g2⟩⟩
end
def AhR(bs:List BD)(hs:List HV):Prop:=Adj (fun x y:HV=>B6 x.x y.x) hs∧∀ h∈hs,(¬ ∃ b∈bs,b.b.x=h.x)∧DA h.x.g h.x.b=0
def Eu(R:MV→ByteArray × Int)(next:Nat)(qs:List QD)(bs:List BD)(hs:List HV):Prop:=1≤next∧next≤1099511627777∧Uh R next qs∧Zh R qs bs∧AhR bs hs
section
variable {W0:World} {m0:Inj Tp} {s:SV} {qs:List QD} {bs:List BD} {hs:List HV} {R:MV→ByteArray × Int}
theorem Agx {A:AW} {K:Value→AW→Prop} (h:ST A s qs bs hs) (hz:SZ qs bs hs) (hpm:∀ q∈qs,∀ m∈q.ms,PK W0 m0 R m) (hp:∀ b∈bs,∀ u∈b.us,PK W0 m0 R u.m) (hf:AH A) (hA:A.next+700000<Ao)
  (hk:∀ A',Grow A A' 660000→K (.int .i64 (eI 140 (Eu R s.next qs bs hs))) A'):Wc Tp Ak W0 m0 37 [.agg ⟨fS s⟩] A K:=by
 have hhl:=hz.h;let I:Nat→Nat→List Value→AW→Prop:=fun g id vals A'=>id=0∧∃ i:Nat,vals=[pP A.next 0,s.hs.val,.int .i64 (hs.length:Int),.int .i64 (i:Int)]∧i≤hs.length∧(1≤s.next∧s.next≤1099511627777∧Uh R s.next qs∧Zh R qs bs∧Adj (fun x y:HV=>B6 x.x y.x) hs)∧(∀ (j:Nat) h,j<i→hs[j]? =some h→(¬ ∃ b∈bs,b.b.x=h.x)∧DA h.x.g h.x.b=0)∧g=100-i∧Go.Abs.Row1 A' A.next (fS s) 37∧Grow A A' (630900+450*i);refine w37 _ _ (c37 (I:=I) fun g id vals A' d hI hd=>?_) ?_
 ·obtain ⟨rfl,i,rfl,hi,hok,hall,rfl,hr,hg⟩:=hI;have ng:=hg.next;rw [Afc];simp only [L37,Mc,Mn,Li,and_true] at hd;obtain ⟨d1,d32,d33,d34⟩:=hd;obtain ⟨F,hh⟩:=(h.keeps hg.keeps).h;simp only [d1,d32,d33,d34,Ar,Ab,Ah];refine ⟨fun hlt=>?_,fun hge=>?_⟩
  ·have hlt:i<hs.length:=by omega
   obtain ⟨x,hx⟩:∃ x,hs[i]? =some x:=⟨_,Ge hlt⟩;have hxm:=List.mem_of_getElem? hx;obtain ⟨r,o,a1,a2,a3⟩:=hh.at etH hx;simp only [a1,a3,Ab];refine Aat hg.Ap (by omega) fun A2 g2 r2=>?_;have g02:=hg.trans g2;have n2:=g2.next;simp only [(BK (hr.keeps g2.keeps (by simp))).2.2.2.2,Hf,ZZ r2,Ab];refine Agi (h.keeps g02.keeps) hz hok.2.2.2.1.2.2 g2.Ap (by omega) fun r3 b3 A3 g3 hb3=>?_;have g03:=g02.trans g3;have n3:=g3.next;simp only [Aw,List.getElem?_cons_zero,List.getElem?_cons_succ,Ab];refine Aj.2 ⟨fun h3=>(kE (hk A3 (g03.more (by omega)))).2 fun ok=>(ok.2.2.2.2.2 x hxm).1 (hb3.1 h3),fun h3=>?_⟩;simp only [Hf,ZZ (r2.keeps g3.keeps (by simp)),Ab];refine Z1 g3.Ap (by omega) fun A4 g4=>?_;have g04:=g03.trans g4;simp only [AR,Ab];refine Aj.2 ⟨fun h4=>(kE (hk A4 (g04.more (by omega)))).2 fun ok=>?_,fun h4=>?_⟩
   ·rw [(ok.2.2.2.2.2 x hxm).2] at h4;cases h4
   ·simp only [AA,Ab];rw [wrap_i64 (by omega) (by omega)];refine Ai.2 ⟨100-(i+1),by omega,rfl,i+1,rfl,by omega,hok,fun j y hj hy=>?_,rfl,((hr.keeps g2.keeps (by simp)).keeps g3.keeps (by simp)).keeps g4.keeps (by simp),g04.more (by omega)⟩;by_cases hji:j=i
    ·subst hji;rw [hx] at hy;cases hy;exact ⟨fun he=>(by rw [hb3.2 he] at h3;cases h3),by simpa using h4⟩
    ·exact hall j y (by omega) hy
  ·refine (kE (hk A' (hg.more (by omega)))).1 ⟨hok.1,hok.2.1,hok.2.2.1,hok.2.2.2.1,hok.2.2.2.2,fun y hy=>?_⟩;obtain ⟨j,hj⟩:=List.mem_iff_getElem?.1 hy;exact hall j y (by have:=(Gs.1 hj).1;omega) hj
 ·rw [e37];refine Am (cs:=fS s) hf (by omega) rfl fun A1 m1=>?_;have g1:=Grow.made m1 hf;have n1:=m1.next;have r1:=m1.AS;simp only [Nz,Cl,(BK r1).1,(BK r1).2.2.2.2,Ar,Bc,Ab,Ah];have bad:∀ {A'},Grow A A' 660000→¬ Eu R s.next qs bs hs→K (.int .i64 140) A':=fun g hn=>(kE (hk _ g)).2 hn;refine ⟨fun h1=>bad (g1.more (by omega)) fun ok=>by have:=ok.1;omega,fun h1=>⟨fun h2=>bad (g1.more (by omega)) fun ok=>by have:=ok.2.1;omega,fun h2=>?_⟩⟩;refine Agm (R:=R) (h.keeps g1.keeps) hz (by omega) hpm m1.Ap (by omega) fun A2 g2=>?_;have g02:=g1.trans g2;have n2:=g2.next;simp only [Bo,Ab];refine Aj.2 ⟨fun h3=>bad (g02.more (by omega)) fun ok=>?_,fun h3=>?_⟩
  ·rw [Bu.2 ok.2.2.1] at h3;cases h3
  ·have h3:=Bu.1 (by simpa using h3);have r2:=r1.keeps g2.keeps (by simp);simp only [(BK r2).2.2.2.2,Ab];refine Agl (R:=R) (h.keeps g02.keeps) hz h3.2 (fun q hq=>(h3.1 q hq).2.2.2) hp g2.Ap (by omega) fun A3 g3=>?_;have g03:=g02.trans g3;have n3:=g3.next;simp only [Bo,Ab];refine Aj.2 ⟨fun h4=>bad (g03.more (by omega)) fun ok=>?_,fun h4=>?_⟩
   ·rw [Bu.2 ok.2.2.2.1] at h4;cases h4
   ·have h4:=Bu.1 (by simpa using h4);have r3:=r2.keeps g3.keeps (by simp);obtain ⟨F,hh⟩:=(h.keeps g03.keeps).h;simp only [FF,KS,Nat.zero_add,(BK r3).2.2.2.1,Ab];refine Agk hh (by omega) g3.Ap (by omega) fun A4 g4=>?_;have g04:=g03.trans g4;simp only [Bo,Ab];refine Aj.2 ⟨fun h5=>bad (g04.more (by omega)) fun ok=>?_,fun h5=>?_⟩
    ·rw [Bu.2 ok.2.2.2.2.1] at h5;cases h5
    ·have h5:=Bu.1 (by simpa using h5);have r4:=r3.keeps g4.keeps (by simp);simp only [FF,KS,Nat.zero_add,(BK r4).2.2.2.1,(hh.keeps g4.keeps (by simp)).len etH,Ab];exact Ai.2 ⟨100-0,rfl,0,rfl,Nat.zero_le _,⟨by omega,by omega,h3,h4,h5⟩,fun j q hj=>by omega,rfl,r4,g04.more (by omega)⟩
end
theorem XR{a b:ByteArray}:(a.data.toList==b.data.toList)=true↔a=b:=by
 rw [beq_iff_eq];exact ⟨OW,fun h=>by rw [h]⟩
def GW(x:FV)(L:List FV):Nat:=L.countP fun y=>HM y x
theorem Qr{x y:FV}{L:List FV}:GW x (L++[y])=GW x L+if HM y x=true then 1 else 0:=by
 unfold GW;rw [List.countP_append];simp [List.countP_cons]
theorem LZ{x:FV}{L:List FV}:GW x L=0↔x∉L:=by
 unfold GW;rw [List.countP_eq_zero];constructor
 ·exact fun h hx=>absurd (CS.2 rfl) (h x hx)
 ·exact fun h y hy hk=>h (by rw [← CS.1 hk];exact hy)
theorem Aau(x:FV)(L:List FV):GW x L≤L.length:=List.countP_le_length
theorem Qq:∀ {L:List FV},(∀ x∈L,GW x L≤1)↔L.Nodup
 |[]=>by simp
 |a::l=>by
  have hc:∀ x,GW x (a::l)=GW x l+if HM a x=true then 1 else 0:=fun x=>by unfold GW;rw [List.countP_cons]
  rw [List.nodup_cons,← Qq];constructor
  ·intro h;have h1:=h a List.mem_cons_self;rw [hc,if_pos (CS.2 rfl)] at h1;refine ⟨LZ.1 (by omega),fun x hx=>?_⟩
   have:=h x (List.mem_cons_of_mem _ hx)
   rw [hc] at this;omega
  ·rintro ⟨h1,h2⟩ x hx;rw [hc];rcases Mk.1 hx with rfl | hx
   ·rw [LZ.2 h1];split<;>omega
   ·have:=h2 x hx
    rw [Ff (fun h=>h1 (by rw [CS.1 h];exact hx))];omega
theorem Tb{L:List FV}:(∀ x∈L,GW x L=1)↔L.Nodup:=by
 rw [← Qq];refine ⟨fun h x hx=>by rw [h x hx];exact Nl _,fun h x hx=>?_⟩;have h1:=h x hx;have h2:GW x L≠0:=fun h0=>LZ.1 h0 hx;omega
theorem X6{bs:List BD}(h:∀ b∈bs,b.fs.length≤20):(refsOf bs).length≤20*bs.length:=by
 induction bs with
 |nil=>simp [refsOf]
 |cons b bs ih=>
  have h1:=h b List.mem_cons_self;have h2:=ih fun b hb=>h b (List.mem_cons_of_mem _ hb);unfold refsOf at h2 ⊢;rw [List.flatMap_cons,List.length_append,Lc];omega
section
variable {W0:World} {m0:Inj Tp} {s:SV} {qs:List QD} {bs:List BD} {hs:List HV}
theorem Adr {n:ByteArray} {A:AW} {K:Value→AW→Prop} (h:ST A s qs bs hs) (hz:SZ qs bs hs) (hf:AH A) (hA:A.next+5<Ao)
  (hk:∀ (r:Int) A',Grow A A' 1→((r= -1∧∀ q∈qs,q.q.name≠n)∨∃ (i:Nat) (q:QD),r=i∧qs[i]? =some q∧q.q.name=n)→K (.int .i64 r) A'):Wc Tp Ak W0 m0 73 [.agg ⟨fS s⟩,.string n] A K:=by
 have hql:=hz.q;let I:Nat→Nat→List Value→AW→Prop:=fun g id vals A'=>id=0∧∃ i:Nat,vals=[.string n,pP A.next 0,.int .i64 (i:Int)]∧i≤qs.length∧(∀ (j:Nat) q,j<i→qs[j]? =some q→q.q.name≠n)∧g=100-i∧Go.Abs.Row1 A' A.next (fS s) 37∧Grow A A' 1;refine w73 _ _ _ (c73 (I:=I) fun g id vals A' d hI hd=>?_) ?_
 ·obtain ⟨rfl,i,rfl,hi,hall,rfl,hr,hg⟩:=hI;rw [AeN];simp only [L73,Mc,Mn,Li,and_true] at hd;obtain ⟨d1,d2,d5⟩:=hd;obtain ⟨F,hq⟩:=(h.keeps hg.keeps).q;simp only [d1,d2,d5,EG,IB,Nat.zero_add,(BK hr).2.1,hq.len etQ,List.length_map,Ar,Ab,Ah];refine ⟨fun hlt=>?_,fun hge=>?_⟩
  ·have hlt:i<qs.length:=by omega
   obtain ⟨q,hqi⟩:∃ q,qs[i]? =some q:=⟨_,Ge hlt⟩;obtain ⟨r,o,a1,a2,a3⟩:=hq.at etQ (i:=i) (p:=q.q) (by simp [hqi]);have c0:A'.cell? ⟨r,o,none⟩=some (.string q.q.name):=cell_of a2 (k:=0) rfl;simp only [a1,GI,B1,c0,Dz,AA,Ab];refine Aj.2 ⟨fun h1=>hk _ _ hg (.inr ⟨i,q,rfl,hqi,XR.1 h1⟩),fun h1=>?_⟩;rw [wrap_i64 (by omega) (by omega)];refine Ai.2 ⟨100-(i+1),by omega,rfl,i+1,rfl,by omega,fun j q' hj hq'=>?_,rfl,hr,hg⟩;by_cases hji:j=i
   ·subst hji;rw [hqi] at hq';cases hq';exact fun he=>by rw [XR.2 he] at h1;cases h1
   ·exact hall j q' (by omega) hq'
  ·refine hk _ _ hg (.inl ⟨rfl,fun q hq=>?_⟩);obtain ⟨j,hj⟩:=List.mem_iff_getElem?.1 hq;exact hall j q (by have:=(Gs.1 hj).1;omega) hj
 ·rw [e73];refine Am (cs:=fS s) hf (by omega) rfl fun A1 m1=>?_;exact Ai.2 ⟨100-0,rfl,0,rfl,Nat.zero_le _,fun j q hj=>by omega,rfl,m1.AS,.made m1 hf⟩
theorem Agc {n:FV} {A:AW} {K:Value→AW→Prop} (h:ST A s qs bs hs) (hz:SZ qs bs hs) (hqa:Xo qs) (hf:AH A) (hA:A.next+9<Ao)
  (hk:∀ (r:Int) A',Grow A A' 3→(r<0↔¬ N7 qs n)→K (.int .i64 r) A'):Wc Tp Ak W0 m0 74 [.agg ⟨fS s⟩,.agg ⟨fF n⟩] A K:=by
 let I:Nat→Nat→List Value→AW→Prop:=fun g id vals A'=>id=0∧∃ (i k:Nat) (q:QD),vals=[pP A.next 0,pP (A.next+1) 0,.int .i64 (i:Int),.int .i64 (k:Int)]∧qs[i]? =some q∧q.q.name=n.queue∧k≤q.ms.length∧(∀ (j:Nat) m,j<k→q.ms[j]? =some m→m.id≠n.id)∧g=100-k∧Go.Abs.Row1 A' A.next (fS s) 37∧Go.Abs.Row1 A' (A.next+1) (fF n) 120∧Grow A A' 3;refine w74 _ _ _ (c74 (I:=I) fun g id vals A' d hI hd=>?_) ?_
 ·obtain ⟨rfl,i,k,q,rfl,hq,hqn,hkl,hall,rfl,hr,hr2,hg⟩:=hI;have hqm:=List.mem_of_getElem? hq;have hml:=hz.m q hqm;rw [AeM];simp only [L74,Mc,Mn,Li,and_true] at hd;obtain ⟨d2,d3,d5,d6⟩:=hd;obtain ⟨F,hqs⟩:=(h.keeps hg.keeps).q;obtain ⟨F2,hm⟩:=(h.keeps hg.keeps).m q hqm;obtain ⟨r,o,a1,a2,a3⟩:=hqs.at etQ (i:=i) (p:=q.q) (by simp [hq]);have c2:A'.cell? ⟨r,o+2,none⟩=some q.q.ms.val:=cell_of a2 (k:=2) rfl;simp only [d2,d3,d5,d6,EG,IB,Nat.zero_add,(BK hr).2.1,a1,GH,Mx,c2,hm.len etM,Ar,Ab,Ah];refine ⟨fun hlt=>?_,fun hge=>?_⟩
  ·have hlt:k<q.ms.length:=by omega
   obtain ⟨m,hmk⟩:∃ m,q.ms[k]? =some m:=⟨_,Ge hlt⟩;have hmm:=List.mem_of_getElem? hmk;obtain ⟨r2,o2,b1,b2,b3⟩:=hm.at etM hmk;have c0:A'.cell? ⟨r2,o2,none⟩=some (.int .u64 (m.id:Int)):=cell_of b2 (k:=0) rfl;simp only [b1,HT,K9,Cl,c0,Nat.zero_add,i120 hr2,AQ,AA,Ab];refine Aq.2 ⟨fun h1=>hk _ _ hg ⟨fun h=>by omega,fun h=>absurd ⟨q,hqm,hqn,m,hmm,by omega⟩ h⟩,fun h1=>?_⟩;rw [wrap_i64 (by omega) (by omega)];refine Ai.2 ⟨100-(k+1),by omega,rfl,i,k+1,q,rfl,hq,hqn,by omega,fun j m' hj hm'=>?_,rfl,hr,hr2,hg⟩;by_cases hjk:j=k
   ·subst hjk;rw [hmk] at hm';cases hm';omega
   ·exact hall j m' (by omega) hm'
  ·refine hk _ _ hg ⟨fun _=>?_,fun _=>by omega⟩;rintro ⟨q',hq',h1,m,hm,h2⟩;rw [Yg hqa hq' hqm (by rw [h1,hqn])] at hm;obtain ⟨j,hj⟩:=List.mem_iff_getElem?.1 hm;exact hall j m (by have:=(Gs.1 hj).1;omega) hj h2
 ·rw [e74];refine Am (cs:=fS s) hf (by omega) rfl fun A1 m1=>?_;have g1:=Grow.made m1 hf;have n1:=m1.next;refine Am (cs:=fF n) m1.Ap (by omega) rfl fun A2 m2=>?_;have g2:=Grow.made m2 m1.Ap;have g02:=g1.trans g2;have n2:=m2.next;have r1:=m1.AS.keeps g2.keeps (by simp);have r2:=m2.AS;simp only [(BK r1).2.2.2.2,IK,B1,Aed r2,Ab];refine Adr (h.keeps g02.keeps) hz m2.Ap (by omega) fun r A3 g3 hr=>?_;have g03:=g02.trans g3;simp only [Ar,Ab,Ah];rcases hr with ⟨rfl,hno⟩ | ⟨i,q,rfl,hq,hqn⟩
  ·refine ⟨fun _=>hk _ _ (g03.more (by omega)) ⟨fun _=>fun ⟨q,hq,h1,_⟩=>hno q hq h1,fun _=>by omega⟩,fun h=>absurd (by decide) h⟩
  ·refine ⟨fun h=>by omega,fun _=>?_⟩;rw [n1] at r2;have hn1:(.pointer (some ⟨A1.next,0,none⟩):Value)=.pointer (some ⟨A.next+1,0,none⟩):=by rw [n1]
   rw [hn1];exact Ai.2 ⟨100-0,rfl,i,0,q,rfl,hq,hqn,Nat.zero_le _,fun j m hj=>by omega,rfl,r1.keeps g3.keeps (by simp),r2.keeps g3.keeps (by simp),g03.more (by omega)⟩
theorem Agb {n:FV} {A:AW} {K:Value→AW→Prop} (h:ST A s qs bs hs) (hz:SZ qs bs hs) (hf:AH A) (hA:A.next+9<Ao)
  (hk:∀ A',Grow A A' 2→K (.int .i64 (GW n (refsOf bs):Int)) A'):Wc Tp Ak W0 m0 75 [.agg ⟨fS s⟩,.agg ⟨fF n⟩] A K:=by
 have hbl:=hz.b;have hB:∀ (i k:Nat) b,bs[i]? =some b→GW n (refsOf (bs.take i)++b.fs.take k)≤20*i+k:=fun i k b hb=>by
  refine Nat.le_trans (Aau _ _) ?_;rw [List.length_append];have h1:=X6 (bs:=bs.take i) fun b hb=>hz.f b (List.mem_of_mem_take hb);rw [List.length_take] at h1 ⊢;omega
 let I:Nat→Nat→List Value→AW→Prop:=fun g id vals A'=>Go.Abs.Row1 A' A.next (fS s) 37∧Go.Abs.Row1 A' (A.next+1) (fF n) 120∧Grow A A' 2∧
  ((id=0∧∃ i:Nat,vals=[pP A.next 0,pP (A.next+1) 0,.int .i64 (GW n (refsOf (bs.take i)):Int),.int .i64 (i:Int)]∧i≤bs.length∧g=100000-i*100)∨
  (id=2∧∃ (i k:Nat) (b:BD),vals=[pP A.next 0,pP (A.next+1) 0,.int .i64 (GW n (refsOf (bs.take i)++b.fs.take k):Int),.int .i64 (i:Int),.int .i64 (k:Int)]∧bs[i]? =some b∧k≤b.fs.length∧g=100000-i*100-1-k))
 refine w75 _ _ _ (c75 (I:=I) fun g id vals A' d hI hd=>?_) ?_
 ·obtain ⟨hr,hr2,hg,hI⟩:=hI;rcases hI with ⟨rfl,i,rfl,hi,rfl⟩ | ⟨rfl,i,k,b,rfl,hb,hkl,rfl⟩
  ·rw [AeL];simp only [L75,Mc,Mn,Li,and_true] at hd;obtain ⟨d2,d3,d5,d6⟩:=hd;obtain ⟨F,hbs⟩:=(h.keeps hg.keeps).b;simp only [d2,d3,d5,d6,D7,H7,Nat.zero_add,(BK hr).2.2.1,hbs.len etB,List.length_map,Ar,Ab,Ah];refine ⟨fun hlt=>?_,fun hge=>?_⟩
   ·obtain ⟨b,hb⟩:∃ b,bs[i]? =some b:=⟨_,Ge (by omega)⟩;exact Ai.2 ⟨100000-i*100-1-0,by omega,hr,hr2,hg,.inr ⟨rfl,i,0,b,by simp,hb,Nat.zero_le _,rfl⟩⟩
   ·have ht:bs.take i=bs:=List.take_of_length_le (by omega);rw [ht];exact hk _ hg
  ·have hbm:=List.mem_of_getElem? hb;have hfl:=hz.f b hbm;have hi:=(Gs.1 hb).1;rw [AeK];simp only [L75,Mc,Mn,Li,and_true] at hd;obtain ⟨d2,d3,d5,d6,d7⟩:=hd;obtain ⟨F,hbs⟩:=(h.keeps hg.keeps).b;obtain ⟨F2,hff⟩:=(h.keeps hg.keeps).f b hbm;obtain ⟨r,o,a1,a2,a3⟩:=hbs.at etB (i:=i) (p:=b.b) (by simp [hb]);have c4:A'.cell? ⟨r,o+4,none⟩=some b.b.ts.val:=cell_of a2 (k:=4) rfl;simp only [d2,d3,d5,d6,d7,D7,H7,Nat.zero_add,(BK hr).2.2.1,a1,HR,G6,c4,hff.len etF,Ar,Ab,Ah];refine ⟨fun hlt=>?_,fun hge=>?_⟩
   ·have hlt:k<b.fs.length:=by omega
    obtain ⟨x,hx⟩:∃ x,b.fs[k]? =some x:=⟨_,Ge hlt⟩;obtain ⟨r2,o2,b1,b2,b3⟩:=hff.at etF hx;have hc:=hB i k b hb;have htk:refsOf (bs.take i)++b.fs.take (k+1)=(refsOf (bs.take i)++b.fs.take k)++[x]:=by rw [Mw,List.take_add_one,hx];rfl
    simp only [b1,b3,KO hr2,eqR,AA,Ab];rw [wrap_i64 (by omega) (by omega),wrap_i64 (by omega) (by omega)];refine Aj.2 ⟨fun h1=>?_,fun h1=>?_⟩
    ·refine Ai.2 ⟨100000-i*100-1-(k+1),by omega,hr,hr2,hg,.inr ⟨rfl,i,k+1,b,?_,hb,by omega,rfl⟩⟩;rw [htk,Qr,if_pos h1];rfl
    ·refine Ai.2 ⟨100000-i*100-1-(k+1),by omega,hr,hr2,hg,.inr ⟨rfl,i,k+1,b,?_,hb,by omega,rfl⟩⟩;rw [htk,Qr,Ff (by rw [h1];simp)];rfl
   ·simp only [AA,Ab];rw [wrap_i64 (by omega) (by omega)];refine Ai.2 ⟨100000-(i+1)*100,by omega,hr,hr2,hg,.inl ⟨rfl,i+1,?_,by omega,rfl⟩⟩;have ht:b.fs.take k=b.fs:=List.take_of_length_le (by omega);rw [PV hb,ht];rfl
 ·rw [e75];refine Am (cs:=fS s) hf (by omega) rfl fun A1 m1=>?_;have g1:=Grow.made m1 hf;have n1:=m1.next;refine Am (cs:=fF n) m1.Ap (by omega) rfl fun A2 m2=>?_;have g2:=Grow.made m2 m1.Ap;have r2:=m2.AS;rw [n1] at r2;have hn1:(.pointer (some ⟨A1.next,0,none⟩):Value)=.pointer (some ⟨A.next+1,0,none⟩):=by rw [n1]
  rw [hn1];exact Ai.2 ⟨100000-0*100,m1.AS.keeps g2.keeps (by simp),r2,(g1.trans g2).more (by omega),.inl ⟨rfl,0,rfl,Nat.zero_le _,rfl⟩⟩
theorem Adv {n:Nm} {A:AW} {K:Value→AW→Prop} (h:ST A s qs bs hs) (hz:SZ qs bs hs) (hf:AH A) (hA:A.next+9<Ao)
  (hk:∀ (r:Int) A',Grow A A' 2→((r= -1∧∀ b∈bs,b.b.x≠n)∨∃ (i:Nat) (b:BD),r=i∧bs[i]? =some b∧b.b.x=n)→K (.int .i64 r) A'):Wc Tp Ak W0 m0 45 [.agg ⟨fS s⟩,.agg ⟨n.cells⟩] A K:=by
 have hbl:=hz.b;let I:Nat→Nat→List Value→AW→Prop:=fun g id vals A'=>id=0∧∃ i:Nat,vals=[pP A.next 0,pP (A.next+1) 0,.int .i64 (i:Int)]∧i≤bs.length∧(∀ (j:Nat) b,j<i→bs[j]? =some b→b.b.x≠n)∧g=100-i∧Go.Abs.Row1 A' A.next (fS s) 37∧Go.Abs.Row1 A' (A.next+1) n.cells 46∧Grow A A' 2;refine w45 _ _ _ (c45 (I:=I) fun g id vals A' d hI hd=>?_) ?_
 ·obtain ⟨rfl,i,rfl,hi,hall,rfl,hr,hr2,hg⟩:=hI;rw [Ae0];simp only [L45,Mc,Mn,Li,and_true] at hd;obtain ⟨d2,d3,d5⟩:=hd;obtain ⟨F,hbs⟩:=(h.keeps hg.keeps).b;simp only [d2,d3,d5,D7,H7,Nat.zero_add,(BK hr).2.2.1,hbs.len etB,List.length_map,Ar,Ab,Ah];refine ⟨fun hlt=>?_,fun hge=>?_⟩
  ·have hlt:i<bs.length:=by omega
   obtain ⟨b,hb⟩:∃ b,bs[i]? =some b:=⟨_,Ge hlt⟩;obtain ⟨r,o,a1,a2,a3⟩:=hbs.at etB (i:=i) (p:=b.b) (by simp [hb]);have cc:Ad Tp A' 46 (pP r o)=some (.agg ⟨b.b.x.cells⟩):=by
    have:=CY a2 (k:=0) (m:=2) (by omega) rfl
    rw [D0,Nat.add_zero] at *;rw [this];rfl
   simp only [a1,HS,cc,Dk hr2,eqN,AA,Ab];refine Aj.2 ⟨fun h1=>hk _ _ hg (.inr ⟨i,b,rfl,hb,Dr.1 h1⟩),fun h1=>?_⟩;rw [wrap_i64 (by omega) (by omega)];refine Ai.2 ⟨100-(i+1),by omega,rfl,i+1,rfl,by omega,fun j b' hj hb'=>?_,rfl,hr,hr2,hg⟩;by_cases hji:j=i
   ·subst hji;rw [hb] at hb';cases hb';exact fun he=>by rw [Dr.2 he] at h1;cases h1
   ·exact hall j b' (by omega) hb'
  ·refine hk _ _ hg (.inl ⟨rfl,fun b hb=>?_⟩);obtain ⟨j,hj⟩:=List.mem_iff_getElem?.1 hb;exact hall j b (by have:=(Gs.1 hj).1;omega) hj
 ·rw [e45];refine Am (cs:=fS s) hf (by omega) rfl fun A1 m1=>?_;have g1:=Grow.made m1 hf;have n1:=m1.next;refine Am (cs:=n.cells) m1.Ap (by omega) rfl fun A2 m2=>?_;have g2:=Grow.made m2 m1.Ap;have r2:=m2.AS;rw [n1] at r2;have hn1:(.pointer (some ⟨A1.next,0,none⟩):Value)=.pointer (some ⟨A.next+1,0,none⟩):=by rw [n1]
  rw [hn1];exact Ai.2 ⟨100-0,rfl,0,rfl,Nat.zero_le _,fun j q hj=>by omega,rfl,m1.AS.keeps g2.keeps (by simp),r2,g1.trans g2⟩
theorem Agq {n:Nm} {A:AW} {K:Value→AW→Prop} (h:ST A s qs bs hs) (hz:SZ qs bs hs) (hf:AH A) (hA:A.next+9<Ao)
  (hk:∀ (r:Int) A',Grow A A' 2→((r= -1∧∀ b∈hs,b.x≠n)∨∃ (i:Nat) (b:HV),r=i∧hs[i]? =some b∧b.x=n)→K (.int .i64 r) A'):Wc Tp Ak W0 m0 44 [.agg ⟨fS s⟩,.agg ⟨n.cells⟩] A K:=by
 have hbl:=hz.h;let I:Nat→Nat→List Value→AW→Prop:=fun g id vals A'=>id=0∧∃ i:Nat,vals=[pP A.next 0,pP (A.next+1) 0,.int .i64 (i:Int)]∧i≤hs.length∧(∀ (j:Nat) b,j<i→hs[j]? =some b→b.x≠n)∧g=100-i∧Go.Abs.Row1 A' A.next (fS s) 37∧Go.Abs.Row1 A' (A.next+1) n.cells 46∧Grow A A' 2;refine w44 _ _ _ (c44 (I:=I) fun g id vals A' d hI hd=>?_) ?_
 ·obtain ⟨rfl,i,rfl,hi,hall,rfl,hr,hr2,hg⟩:=hI;rw [Ae1];simp only [L44,Mc,Mn,Li,and_true] at hd;obtain ⟨d2,d3,d5⟩:=hd;obtain ⟨F,hbs⟩:=(h.keeps hg.keeps).h;simp only [d2,d3,d5,FF,KS,Nat.zero_add,(BK hr).2.2.2.1,hbs.len etH,Ar,Ab,Ah];refine ⟨fun hlt=>?_,fun hge=>?_⟩
  ·have hlt:i<hs.length:=by omega
   obtain ⟨b,hb⟩:∃ b,hs[i]? =some b:=⟨_,Ge hlt⟩;obtain ⟨r,o,a1,a2,a3⟩:=hbs.at etH (i:=i) (p:=b) (by simp [hb]);have cc:Ad Tp A' 46 (pP r o)=some (.agg ⟨b.x.cells⟩):=by
    have:=CY a2 (k:=0) (m:=2) (by omega) rfl
    rw [D0,Nat.add_zero] at *;rw [this];rfl
   simp only [a1,Hf,cc,Dk hr2,eqN,AA,Ab];refine Aj.2 ⟨fun h1=>hk _ _ hg (.inr ⟨i,b,rfl,hb,Dr.1 h1⟩),fun h1=>?_⟩;rw [wrap_i64 (by omega) (by omega)];refine Ai.2 ⟨100-(i+1),by omega,rfl,i+1,rfl,by omega,fun j b' hj hb'=>?_,rfl,hr,hr2,hg⟩;by_cases hji:j=i
   ·subst hji;rw [hb] at hb';cases hb';exact fun he=>by rw [Dr.2 he] at h1;cases h1
   ·exact hall j b' (by omega) hb'
  ·refine hk _ _ hg (.inl ⟨rfl,fun b hb=>?_⟩);obtain ⟨j,hj⟩:=List.mem_iff_getElem?.1 hb;exact hall j b (by have:=(Gs.1 hj).1;omega) hj
 ·rw [e44];refine Am (cs:=fS s) hf (by omega) rfl fun A1 m1=>?_;have g1:=Grow.made m1 hf;have n1:=m1.next;refine Am (cs:=n.cells) m1.Ap (by omega) rfl fun A2 m2=>?_;have g2:=Grow.made m2 m1.Ap;have r2:=m2.AS;rw [n1] at r2;have hn1:(.pointer (some ⟨A1.next,0,none⟩):Value)=.pointer (some ⟨A.next+1,0,none⟩):=by rw [n1]
  rw [hn1];exact Ai.2 ⟨100-0,rfl,0,rfl,Nat.zero_le _,fun j q hj=>by omega,rfl,m1.AS.keeps g2.keeps (by simp),r2,g1.trans g2⟩
end
def nq:ByteArray:=⟨⟨[113]⟩⟩
theorem Ye:H4 nq:=by
 refine ⟨by decide,by decide,fun i hi=>?_⟩;have h1:nq.size=1:=rfl;obtain rfl:i=0:=by omega
 exact ⟨by decide,by decide⟩
theorem Ac6(m:MV):Ch Tp 134 [(0,.string ⟨⟨[113]⟩⟩),(2,.agg ⟨m.BM⟩),(3,.string m.body)]=some (.agg ⟨fU ⟨nq,{ m with id:=0 }⟩⟩):=by kernel_rfl
theorem PK.zero{W0:World}{m0:Inj Tp}{R:MV→ByteArray × Int}{m:MV}(hR:∀ (m:MV) i,R { m with id:=i }=R m)(h:PK W0 m0 R m):PK W0 m0 R { m with id:=0 } where
 p:=by
  have h:=h.p;unfold T5 at h ⊢;rw [hR];exact h
 d:=by
  have h:=h.d;unfold T5 at h ⊢;rw [hR];exact h
section
variable {W0:World} {m0:Inj Tp} {s:SV} {qs:List QD} {bs:List BD} {hs:List HV} {R:MV→ByteArray × Int}
theorem Age {A:AW} {K:Value→AW→Prop} (h:ST A s qs bs hs) (hz:SZ qs bs hs) (hn:s.next≤1099511627777) (hR:∀ (m:MV) i,R { m with id:=i }=R m) (hp:∀ q∈qs,∀ m∈q.ms,PK W0 m0 R m) (ht:∀ q∈qs,q.q.name.size<9223372036854775808) (hf:AH A) (hA:A.next+1100<Ao)
  (hk:∀ A',Grow A A' 1000→K (.bool (dP (Uh R s.next qs))) A'):Wc Tp Ak W0 m0 71 [.agg ⟨fS s⟩] A K:=by
 have hql:=hz.q;let S0:Nat→AW→Nat→Prop:=fun i A' n=>(∀ (j:Nat) q,j<i→qs[j]? =some q→qOk R s.next q)∧(∀ (j:Nat) a b,j+1<i→qs[j]? =some a→qs[j+1]? =some b→Db a.q.name b.q.name<0)∧Go.Abs.Row1 A' A.next (fS s) 37∧Grow A A' n;let I:Nat→Nat→List Value→AW→Prop:=fun g id vals A'=>
  (id=0∧∃ i:Nat,vals=[pP A.next 0,.int .i64 (i:Int)]∧i≤qs.length∧g=100000-i*100∧S0 i A' (1+81*i))∨
  (id=2∧∃ (i k rq:Nat) (q:QD),vals=[pP A.next 0,.int .i64 (i:Int),pP rq 0,.int .i64 (k:Int)]∧qs[i]? =some q∧k≤q.ms.length∧H4 q.q.name∧HO q.q.limit∧(∀ a,0<i→qs[i-1]? =some a→Db a.q.name q.q.name<0)∧(∀ (j:Nat) m,j<k→q.ms[j]? =some m→N6 R s.next m∧EZ q.ms j<m.id)∧Go.Abs.Row1 A' rq (fQ q.q) 75∧g=100000-i*100-1-k∧S0 i A' (1+81*i+1+2*k))
 refine w71 _ _ (c71 (I:=I) fun g id vals A' d hI hd=>?_) ?_
 ·rcases hI with ⟨rfl,i,rfl,hi,rfl,hall,hadj,hr,hg⟩ | ⟨rfl,i,k,rq,q,rfl,hq,hkl,hqn,hql2,hprev,hms,hrq,rfl,hall,hadj,hr,hg⟩
  ·have ng:=hg.next;rw [AeR];simp only [L71,Mc,Mn,Li,and_true] at hd;obtain ⟨d1,d3⟩:=hd;obtain ⟨F,hqs⟩:=(h.keeps hg.keeps).q;simp only [d1,d3,EG,IB,Nat.zero_add,(BK hr).2.1,hqs.len etQ,List.length_map,Ar,Ab,Ah];refine ⟨fun hlt=>?_,fun hge=>?_⟩
   ·have hlt:i<qs.length:=by omega
    obtain ⟨q,hq⟩:∃ q,qs[i]? =some q:=⟨_,Ge hlt⟩;have hqm:=List.mem_of_getElem? hq;obtain ⟨r,o,a1,a2,a3⟩:=hqs.at etQ (i:=i) (p:=q.q) (by simp [hq]);simp only [a1,a3,Ab];refine Zb hg.Ap (by omega) fun A2 g2 r2=>?_;have g02:=hg.trans g2;have n2:=g2.next;have hr2:=hr.keeps g2.keeps (by simp);have bad:¬ Uh R s.next qs→K (.bool false) A2:=fun hb=>kF (hk A2 (g02.more (by omega))) hb;simp only [GI,B1,Uq r2,Ab];refine XG (ht q hqm) ?_;simp only [Bo,Ab];refine Aj.2 ⟨fun h1=>bad fun ok=>?_,fun h1=>?_⟩
    ·rw [Bu.2 (ok.1 q hqm).1] at h1;cases h1
    ·have h1:=Bu.1 (by simpa using h1);simp only [Q9,Cl,Nat.zero_add,(q75 r2).1,Ab];refine XF ?_;simp only [Bo,Ab];refine Aj.2 ⟨fun h2=>bad fun ok=>?_,fun h2=>?_⟩
     ·rw [Bu.2 (ok.1 q hqm).2.1] at h2;cases h2
     ·have h2:=Bu.1 (by simpa using h2);have go:(∀ a,0<i→qs[i-1]? =some a→Db a.q.name q.q.name<0)→AE (T71 2) (T71 2) (∃ g',g'<100000-i*100∧I g' 2 [pP A.next 0,.int .i64 (i:Int),pP A'.next 0,.int .i64 0] A2):=fun hprev=>
       Ai.2 ⟨100000-i*100-1-0,by omega,.inr ⟨rfl,i,0,A'.next,q,rfl,hq,Nat.zero_le _,h1,h2,hprev,fun j m hj=>by omega,r2,rfl,hall,hadj,hr2,g02⟩⟩
      simp only [Bc,Ab,Ah];refine ⟨fun h3=>?_,fun h3=>?_⟩
      ·obtain ⟨a,ha⟩:∃ a,qs[i-1]? =some a:=⟨_,Ge (by omega)⟩;obtain ⟨F,hqs2⟩:=(h.keeps g02.keeps).q;obtain ⟨r4,o4,b1,b2,b3⟩:=hqs2.at etQ (i:=i-1) (p:=a.q) (by simp [ha]);have c0:A2.cell? ⟨r4,o4,none⟩=some (.string a.q.name):=cell_of b2 (k:=0) rfl;simp only [EG,IB,Nat.zero_add,(BK hr2).2.1,Cp,Ab];rw [wrap_i64 (by omega) (by omega),show (i:Int)-1=((i-1:Nat):Int) by omega];simp only [b1,GI,B1,c0,Uq r2,Vi,Ab];refine Aj.2 ⟨fun h4=>bad fun ok=>?_,fun h4=>go fun a' _ ha'=>?_⟩
       ·have:=ok.2 (i-1) a q ha (by rw [show i-1+1=i by omega];exact hq)
        rw [(P4 _ _).2 this] at h4;cases h4
       ·rw [ha] at ha';cases ha';exact (P4 _ _).1 (by simpa using h4)
      ·exact go fun a h0=>by omega
   ·refine kT (hk A' (hg.more (by omega))) ⟨fun q hq=>?_,fun j a b ha hb=>?_⟩
    ·obtain ⟨j,hj⟩:=List.mem_iff_getElem?.1 hq;exact hall j q (by have:=(Gs.1 hj).1;omega) hj
    ·exact hadj j a b (by have:=(Gs.1 hb).1;omega) ha hb
  ·have ng:=hg.next;have hqm:=List.mem_of_getElem? hq;have hi:=(Gs.1 hq).1;have hml:=hz.m q hqm;rw [AeQ];simp only [L71,Mc,Mn,Li,and_true] at hd;obtain ⟨d1,d3,d4,d5⟩:=hd;obtain ⟨F,hm⟩:=(h.keeps hg.keeps).m q hqm;simp only [d1,d3,d4,d5,GH,Mx,Nat.zero_add,(q75 hrq).2,hm.len etM,Ar,Ab,Ah];refine ⟨fun hlt=>?_,fun hge=>?_⟩
   ·have hlt:k<q.ms.length:=by omega
    obtain ⟨m,hmk⟩:∃ m,q.ms[k]? =some m:=⟨_,Ge hlt⟩;have hmm:=List.mem_of_getElem? hmk;obtain ⟨r,o,a1,a2,a3⟩:=hm.at etM hmk;simp only [a1,a3,Ab];refine Za hg.Ap (by omega) fun A2 g2 r2=>?_;have g02:=hg.trans g2;have n2:=g2.next;have hr2:=hr.keeps g2.keeps (by simp);have hrq2:=hrq.keeps g2.keeps (by simp);have okm:Uh R s.next qs→N6 R s.next m∧EZ q.ms k<m.id:=fun ok=>⟨(ok.1 q hqm).2.2.1 m hmm,VQ (ok.1 q hqm).2.2.2 (fun m hm=>((ok.1 q hqm).2.2.1 m hm).1) hmk⟩;have bad:∀ {B},Grow A2 B 1→¬ (N6 R s.next m∧EZ q.ms k<m.id)→K (.bool false) B:=fun {B} gb hb=>kF (hk B ((g02.trans gb).more (by omega))) fun ok=>hb (okm ok);have bad2:¬ (N6 R s.next m∧EZ q.ms k<m.id)→K (.bool false) A2:=fun hb=>kF (hk A2 (g02.more (by omega))) fun ok=>hb (okm ok);simp only [HT,Nz,Cl,i84 r2,(BK hr2).1,Ar,BL,Bc,Ab,Ah];refine ⟨fun h1=>bad2 fun hb=>by have:=hb.1.1;omega,fun h1=>⟨fun h2=>bad2 fun hb=>by have:=hb.1.2.1;omega,fun h2=>?_⟩⟩;have go:EZ q.ms k<m.id→Ku W0 m0 (fun id vals A'=>∃ g',g'<100000-i*100-1-k∧I g' id vals A') K (pP A'.next 0) A2 (.int .i64 (k:Int)) (pP A.next 0) (.int .i64 (i:Int)) (pP rq 0):=by
     intro hlast;unfold Ku;simp only [Q8,Q7,B1,Nat.zero_add,VJ r2,b84 r2,Ac6,Ab];refine Aa0 (R:=R) (PK.zero hR (hp q hqm m hmm)) (show nq.size<9223372036854775808 by decide) g2.Ap (by omega) fun A3 g3=>?_;have g03:=g02.trans g3;have n3:=g3.next;have hmr:WS R ⟨nq,{ m with id:=0 }⟩↔Bm m.body≤4096∧JR R m:=by
      unfold WS JR;rw [hR];exact ⟨fun h=>h.2.2,fun h=>⟨Ye,.inl rfl,h⟩⟩
     simp only [Bo,Ab];refine Aj.2 ⟨fun h3=>bad g3 fun hb=>?_,fun h3=>?_⟩
     ·rw [Bu.2 (hmr.2 hb.1.2.2)] at h3;cases h3
     ·have h3:=hmr.1 (Bu.1 (by simpa using h3));simp only [AA,Ab];rw [wrap_i64 (by omega) (by omega)];refine Ai.2 ⟨100000-i*100-1-(k+1),by omega,.inr ⟨rfl,i,k+1,rq,q,rfl,hq,by omega,hqn,hql2,hprev,fun j m' hj hm'=>?_,hrq2.keeps g3.keeps (by simp),rfl,hall,hadj,hr2.keeps g3.keeps (by simp),g03.more (by omega)⟩⟩;by_cases hjk:j=k
      ·subst hjk;rw [hmk] at hm';cases hm';exact ⟨⟨by omega,by omega,h3⟩,hlast⟩
      ·exact hms j m' (by omega) hm'
    refine ⟨fun h3=>?_,fun h3=>?_⟩
    ·obtain ⟨a,ha⟩:∃ a,q.ms[k-1]? =some a:=⟨_,Ge (by omega)⟩;obtain ⟨F,hm2⟩:=(h.keeps g02.keeps).m q hqm;obtain ⟨r4,o4,b1,b2,b3⟩:=hm2.at etM ha;have c0:A2.cell? ⟨r4,o4,none⟩=some (.int .u64 (a.id:Int)):=cell_of b2 (k:=0) rfl;have hl:EZ q.ms k=a.id:=by
      have:=Ji ha
      rw [show k-1+1=k by omega] at this;exact this
     simp only [GH,Mx,Nat.zero_add,(q75 hrq2).2,Cp,Ab];rw [wrap_i64 (by omega) (by omega),show (k:Int)-1=((k-1:Nat):Int) by omega];simp only [b1,HT,Cl,c0,i84 r2,BL,Ab,Ah];exact ⟨fun h4=>bad2 fun hb=>by have:=hb.2;omega,fun h4=>go (by omega)⟩
    ·have hk0:k=0:=by omega
     exact go (by rw [hk0];show 0<m.id;omega)
   ·simp only [AA,Ab];rw [wrap_i64 (by omega) (by omega)];refine Ai.2 ⟨100000-(i+1)*100,by omega,.inl ⟨rfl,i+1,rfl,by omega,rfl,fun j q' hj hq'=>?_,fun j a b hj ha hb=>?_,hr,hg.more (by omega)⟩⟩
    ·by_cases hji:j=i
     ·subst hji;rw [hq] at hq';cases hq';refine ⟨hqn,hql2,fun m hm=>?_,Tq fun j m hm=>(hms j m (by have:=(Gs.1 hm).1;omega) hm).2⟩;obtain ⟨j,hj⟩:=List.mem_iff_getElem?.1 hm;exact (hms j m (by have:=(Gs.1 hj).1;omega) hj).1
     ·exact hall j q' (by omega) hq'
    ·by_cases hji:j+1=i
     ·rw [hji] at hb;rw [hq] at hb;cases hb;exact hprev a (by omega) (by rw [show i-1=j by omega];exact ha)
     ·exact hadj j a b (by omega) ha hb
 ·rw [e71];refine Am (cs:=fS s) hf (by omega) rfl fun A1 m1=>?_;exact Ai.2 ⟨100000-0*100,.inl ⟨rfl,0,rfl,Nat.zero_le _,rfl,fun j q hj=>by omega,fun j a b hj=>by omega,m1.AS,.made m1 hf⟩⟩
end
structure TZ (qs:List QD) (bs:List BD):Prop where
 q:∀ q∈qs,q.q.name.size<9223372036854775808
 u:∀ b∈bs,∀ u∈b.us,u.queue.size<9223372036854775808
 f:∀ b∈bs,∀ r∈b.fs,r.queue.size<9223372036854775808
theorem Vb{A:AW}{x:Nm}{K:Value→AW→Prop}(hf:AH A)(hA:A.next<Ao)(hk:∀ A',Grow A A' 1→Go.Abs.Row1 A' A.next x.cells 46→K (pP A.next 0) A'):Al (BB Tp A 46) fun t A1=>B5 (Bg Tp A1 46 t (.agg ⟨x.cells⟩)) fun A2=>K t A2:=Lg Abo rfl (n:=3) rfl rfl Aea rfl hf hA hk
section
variable {W0:World} {m0:Inj Tp} {s:SV} {qs:List QD} {bs:List BD} {hs:List HV} {R:MV→ByteArray × Int}
theorem Ags {A:AW} {K:Value→AW→Prop} (h:ST A s qs bs hs) (hz:SZ qs bs hs) (ht:TZ qs bs) (hR:∀ (m:MV) i,R { m with id:=i }=R m) (hpm:∀ q∈qs,∀ m∈q.ms,PK W0 m0 R m) (hp:∀ b∈bs,∀ u∈b.us,PK W0 m0 R u.m) (hf:AH A) (hA:A.next+11000<Ao)
  (hk:∀ A',Grow A A' 10000→K (.int .i64 (eI 140 (Eu R s.next qs bs hs))) A'):Wc Tp Ak W0 m0 42 [.agg ⟨fS s⟩] A K:=by
 have hbl:=hz.b;have hhl:=hz.h;have kN:∀ {B},Grow A B 10000→¬ Eu R s.next qs bs hs→K (.int .i64 140) B:=fun {B} g hn=>(kE (hk B g)).2 hn;let OKB:BD→Prop:=fun b=>bOk R qs b∧∀ r∈b.fs,GW r (refsOf bs)=1;have okB:Eu R s.next qs bs hs→∀ b∈bs,OKB b:=fun ok b hb=>⟨ok.2.2.2.1.1 b hb,fun r hr=>Tb.2 ok.2.2.2.1.2.1 r (List.mem_flatMap.2 ⟨b,hb,hr⟩)⟩;let S0:Nat→AW→Nat→Prop:=fun i A' n=>(1≤s.next∧s.next≤1099511627777∧Uh R s.next qs)∧(∀ (j:Nat) b,j<i→bs[j]? =some b→OKB b)∧(∀ (j:Nat) a b,j+1<i→bs[j]? =some a→bs[j+1]? =some b→B6 a.b.x b.b.x<0)∧Go.Abs.Row1 A' A.next (fS s) 37∧Grow A A' n;let I:Nat→Nat→List Value→AW→Prop:=fun g id vals A'=>
  (id=0∧∃ i:Nat,vals=[pP A.next 0,.int .i64 (i:Int)]∧i≤bs.length∧g=1000000-i*100∧S0 i A' (1010+400*i))∨
  (id=2∧∃ (i k rb:Nat) (b:BD),vals=[pP A.next 0,.int .i64 (i:Int),pP rb 0,.int .i64 (k:Int)]∧bs[i]? =some b∧k≤b.us.length∧Eg R false b.b.x b.us b.fs∧(∀ a,0<i→bs[i-1]? =some a→B6 a.b.x b.b.x<0)∧(∀ (j:Nat) u,j<k→b.us[j]? =some u→∃ q∈qs,q.q.name=u.queue)∧Go.Abs.Row1 A' rb (fB b.b) 89∧g=1000000-i*100-1-k∧S0 i A' (1010+400*i+205+k))∨
  (id=4∧∃ (i k rb:Nat) (b:BD),vals=[pP A.next 0,.int .i64 (i:Int),pP rb 0,.int .i64 (k:Int)]∧bs[i]? =some b∧k≤b.fs.length∧Eg R false b.b.x b.us b.fs∧(∀ a,0<i→bs[i-1]? =some a→B6 a.b.x b.b.x<0)∧(∀ u∈b.us,∃ q∈qs,q.q.name=u.queue)∧(∀ (j:Nat) r,j<k→b.fs[j]? =some r→N7 qs r∧GW r (refsOf bs)=1)∧Go.Abs.Row1 A' rb (fB b.b) 89∧g=1000000-i*100-30-k∧S0 i A' (1010+400*i+230+5*k))∨
  (id=6∧∃ i:Nat,vals=[pP A.next 0,.int .i64 (i:Int)]∧i≤hs.length∧g=1000-i∧Zh R qs bs∧(∀ (j:Nat) a b,j+1<i→hs[j]? =some a→hs[j+1]? =some b→B6 a.x b.x<0)∧(∀ (j:Nat) h,j<i→hs[j]? =some h→(¬ ∃ b∈bs,b.b.x=h.x)∧DA h.x.g h.x.b=0)∧S0 bs.length A' (5900+10*i))
 refine w42 _ _ (c42 (I:=I) fun g id vals A' d hI hd=>?_) ?_
 ·rcases hI with ⟨rfl,i,rfl,hi,rfl,hq0,hall,hadj,hr,hg⟩ | ⟨rfl,i,k,rb,b,rfl,hb,hkl,he,hprev,hus,hrb,rfl,hq0,hall,hadj,hr,hg⟩ | ⟨rfl,i,k,rb,b,rfl,hb,hkl,he,hprev,hus,hfs,hrb,rfl,hq0,hall,hadj,hr,hg⟩ | ⟨rfl,i,rfl,hi,rfl,hbok,hhadj,hhall,hq0,hall,hadj,hr,hg⟩
  ·have ng:=hg.next;rw [Ae7];simp only [L42,Mc,Mn,Li,and_true] at hd;obtain ⟨d1,d3⟩:=hd;obtain ⟨F,hbs⟩:=(h.keeps hg.keeps).b;simp only [d1,d3,D7,H7,Nat.zero_add,(BK hr).2.2.1,hbs.len etB,List.length_map,Ar,Ab,Ah];refine ⟨fun hlt=>?_,fun hge=>?_⟩
   ·have hlt:i<bs.length:=by omega
    obtain ⟨b,hb⟩:∃ b,bs[i]? =some b:=⟨_,Ge hlt⟩;have hbm:=List.mem_of_getElem? hb;obtain ⟨r,o,a1,a2,a3⟩:=hbs.at etB (i:=i) (p:=b.b) (by simp [hb]);simp only [a1,a3,Ab];refine Va hg.Ap (by omega) fun A2 g2 r2=>?_;have g02:=hg.trans g2;have n2:=g2.next;simp only [Nr r2,Ab];refine Adw g2.Ap (by omega) fun A3 g3=>?_;have g03:=g02.trans g3;have n3:=g3.next;obtain ⟨F2,hu⟩:=(h.keeps g03.keeps).u b hbm;obtain ⟨F3,hff⟩:=(h.keeps g03.keeps).f b hbm;have hul:=hz.u b hbm;have hfl:=hz.f b hbm;refine Agd (R:=R) (x:=b.b.x) (ps:=b.b.ps) (ts:=b.b.ts) hu (by omega) hff (by omega) (hp b hbm) (ht.u b hbm) (ht.f b hbm) g3.Ap (by omega) fun A4 g4=>?_;have g04:=g03.trans g4;have n4:=g4.next;have r4:=(r2.keeps g3.keeps (by simp)).keeps g4.keeps (by simp);have hr4:=((hr.keeps g2.keeps (by simp)).keeps g3.keeps (by simp)).keeps g4.keeps (by simp);simp only [AR,Bc,Ab,Ah];refine Aj.2 ⟨fun h3=>kN (g04.more (by omega)) fun ok=>?_,fun h3=>?_⟩
    ·rw [Gj (okB ok b hbm).1.1] at h3;cases h3
    ·have h3:Eg R false b.b.x b.us b.fs:=(FG (n:=130) (by decide)).1 (by simpa using h3);have go:∀ B,Grow A4 B 2→(∀ a,0<i→bs[i-1]? =some a→B6 a.b.x b.b.x<0)→AE (T42 2) (T42 2) (∃ g',g'<1000000-i*100∧I g' 2 [pP A.next 0,.int .i64 (i:Int),pP A'.next 0,.int .i64 0] B):=fun B gb hprev=>
      Ai.2 ⟨1000000-i*100-1-0,by omega,.inr (.inl ⟨rfl,i,0,A'.next,b,rfl,hb,Nat.zero_le _,h3,hprev,fun j u hj=>by omega,r4.keeps gb.keeps (by simp),rfl,hq0,hall,hadj,hr4.keeps gb.keeps (by simp),(g04.trans gb).more (by omega)⟩)⟩
     refine ⟨fun h4=>?_,fun h4=>go A4 ((Grow.refl g4.Ap).more (by omega)) fun a h0=>by omega⟩;obtain ⟨a,ha⟩:∃ a,bs[i-1]? =some a:=⟨_,Ge (by omega)⟩;obtain ⟨F,hbs2⟩:=(h.keeps g04.keeps).b;obtain ⟨r5,o5,b1,b2,b3⟩:=hbs2.at etB (i:=i-1) (p:=a.b) (by simp [ha]);have cc:Ad Tp A4 46 (pP r5 o5)=some (.agg ⟨a.b.x.cells⟩):=by
      have:=CY b2 (k:=0) (m:=2) (by omega) rfl
      rw [D0,Nat.add_zero] at *;rw [this];rfl
     simp only [D7,H7,Nat.zero_add,(BK hr4).2.2.1,Cp,Ab];rw [wrap_i64 (by omega) (by omega),show (i:Int)-1=((i-1:Nat):Int) by omega];simp only [b1,HS,cc,x89 r4,Ab];have hx:=IZ ((hall (i-1) a (by omega) ha).1.1.1 rfl);refine Z2 g4.Ap (by omega) (by omega) (by omega) fun A5 r6 g5 hr6=>?_;simp only [BL,Ab,Ah];refine ⟨fun h5=>kN ((g04.trans g5).more (by omega)) fun ok=>?_,fun h5=>go A5 g5 fun a' _ ha'=>?_⟩
     ·have:=ok.2.2.2.1.2.2 (i-1) a b ha (by rw [show i-1+1=i by omega];exact hb)
      have:=hr6.2 this
      omega
     ·rw [ha] at ha';cases ha';exact hr6.1 (by omega)
   ·have hib:i=bs.length:=by omega
    subst hib;have hbok:Zh R qs bs:=by
     refine ⟨fun b hb=>?_,Tb.1 fun r hr=>?_,fun j a b ha hb=>hadj j a b (Gs.1 hb).1 ha hb⟩
     ·obtain ⟨j,hj⟩:=List.mem_iff_getElem?.1 hb;exact (hall j b (Gs.1 hj).1 hj).1
     ·obtain ⟨b,hb,hr⟩:=List.mem_flatMap.1 hr;obtain ⟨j,hj⟩:=List.mem_iff_getElem?.1 hb;exact (hall j b (Gs.1 hj).1 hj).2 r hr
    exact Ai.2 ⟨1000-0,by omega,.inr (.inr (.inr ⟨rfl,0,rfl,Nat.zero_le _,rfl,hbok,fun j a b hj=>by omega,fun j h hj=>by omega,hq0,hall,hadj,hr,hg.more (by omega)⟩))⟩
  ·have ng:=hg.next;have hbm:=List.mem_of_getElem? hb;have hi:=(Gs.1 hb).1;have hul:=hz.u b hbm;rw [Ae6];simp only [L42,Mc,Mn,Li,and_true] at hd;obtain ⟨d1,d3,d4,d5⟩:=hd;obtain ⟨F,hu⟩:=(h.keeps hg.keeps).u b hbm;simp only [d1,d3,d4,d5,K4,KQ,Nat.zero_add,(R1 hrb).1,hu.len etU,Ar,Ab,Ah];refine ⟨fun hlt=>?_,fun hge=>?_⟩
   ·have hlt:k<b.us.length:=by omega
    obtain ⟨u,huk⟩:∃ u,b.us[k]? =some u:=⟨_,Ge hlt⟩;have hum:=List.mem_of_getElem? huk;obtain ⟨r,o,a1,a2,a3⟩:=hu.at etU huk;have c0:A'.cell? ⟨r,o,none⟩=some (.string u.queue):=cell_of a2 (k:=0) rfl;simp only [a1,IJ,B1,c0,(BK hr).2.2.2.2,Ab];refine Adr (h.keeps hg.keeps) hz hg.Ap (by omega) fun r3 A3 g3 hr3=>?_;have g03:=hg.trans g3;simp only [Ar,AA,Ab,Ah];rw [wrap_i64 (by omega) (by omega)];rcases hr3 with ⟨rfl,hno⟩ | ⟨i3,q3,rfl,hq3,hqn3⟩
    ·refine ⟨fun _=>kN (g03.more (by omega)) fun ok=>?_,fun h=>absurd (by decide) h⟩;obtain ⟨q,hq,hn⟩:=(okB ok b hbm).1.2.1 u hum;exact hno q hq hn
    ·refine ⟨fun h=>by omega,fun _=>?_⟩;refine Ai.2 ⟨1000000-i*100-1-(k+1),by omega,.inr (.inl ⟨rfl,i,k+1,rb,b,rfl,hb,by omega,he,hprev,fun j u' hj hu'=>?_,hrb.keeps g3.keeps (by simp),rfl,hq0,hall,hadj,hr.keeps g3.keeps (by simp),g03.more (by omega)⟩)⟩;by_cases hjk:j=k
     ·subst hjk;rw [huk] at hu';cases hu';exact ⟨q3,List.mem_of_getElem? hq3,hqn3⟩
     ·exact hus j u' (by omega) hu'
   ·refine Ai.2 ⟨1000000-i*100-30-0,by omega,.inr (.inr (.inl ⟨rfl,i,0,rb,b,rfl,hb,Nat.zero_le _,he,hprev,fun u hu=>?_,fun j r hj=>by omega,hrb,rfl,hq0,hall,hadj,hr,hg.more (by omega)⟩))⟩;obtain ⟨j,hj⟩:=List.mem_iff_getElem?.1 hu;exact hus j u (by have:=(Gs.1 hj).1;omega) hj
  ·have ng:=hg.next;have hbm:=List.mem_of_getElem? hb;have hi:=(Gs.1 hb).1;have hfl:=hz.f b hbm;rw [Ae5];simp only [L42,Mc,Mn,Li,and_true] at hd;obtain ⟨d1,d3,d4,d6⟩:=hd;obtain ⟨F,hff⟩:=(h.keeps hg.keeps).f b hbm;simp only [d1,d3,d4,d6,HR,G6,Nat.zero_add,(R1 hrb).2,hff.len etF,Ar,Ab,Ah];refine ⟨fun hlt=>?_,fun hge=>?_⟩
   ·have hlt:k<b.fs.length:=by omega
    obtain ⟨x,hxk⟩:∃ x,b.fs[k]? =some x:=⟨_,Ge hlt⟩;have hxm:=List.mem_of_getElem? hxk;obtain ⟨r,o,a1,a2,a3⟩:=hff.at etF hxk;simp only [a1,a3,(BK hr).2.2.2.2,Ab];refine Agc (h.keeps hg.keeps) hz hq0.2.2.2 hg.Ap (by omega) fun r3 A3 g3 hr3=>?_;have g03:=hg.trans g3;have n3:=g3.next;simp only [Ar,Ab,Ah];refine ⟨fun h3=>kN (g03.more (by omega)) fun ok=>(hr3.1 h3) ((okB ok b hbm).1.2.2 x hxm),fun h3=>?_⟩;have hin:N7 qs x:=Classical.byContradiction fun hn=>h3 (hr3.2 hn);obtain ⟨F3,hff3⟩:=(h.keeps g03.keeps).f b hbm;obtain ⟨r4,o4,b1,b2,b3⟩:=hff3.at etF hxk;have hr3':=hr.keeps g3.keeps (by simp);have hrb3:=hrb.keeps g3.keeps (by simp);simp only [(BK hr3').2.2.2.2,HR,G6,Nat.zero_add,(R1 hrb3).2,b1,b3,Ab];refine Agb (h.keeps g03.keeps) hz g3.Ap (by omega) fun A4 g4=>?_;have g04:=g03.trans g4;simp only [AR,AA,Ab];rw [wrap_i64 (by omega) (by omega)];refine Aj.2 ⟨fun h4=>kN (g04.more (by omega)) fun ok=>?_,fun h4=>?_⟩
    ·rw [(okB ok b hbm).2 x hxm] at h4;cases h4
    ·have h4:GW x (refsOf bs)=1:=by
      have:(GW x (refsOf bs):Int)=1:=by simpa using h4
      omega
     refine Ai.2 ⟨1000000-i*100-30-(k+1),by omega,.inr (.inr (.inl ⟨rfl,i,k+1,rb,b,rfl,hb,by omega,he,hprev,hus,fun j r' hj hr'=>?_,hrb3.keeps g4.keeps (by simp),rfl,hq0,hall,hadj,hr3'.keeps g4.keeps (by simp),g04.more (by omega)⟩))⟩;by_cases hjk:j=k
     ·subst hjk;rw [hxk] at hr';cases hr';exact ⟨hin,h4⟩
     ·exact hfs j r' (by omega) hr'
   ·simp only [AA,Ab];rw [wrap_i64 (by omega) (by omega)];refine Ai.2 ⟨1000000-(i+1)*100,by omega,.inl ⟨rfl,i+1,rfl,by omega,rfl,hq0,fun j b' hj hb'=>?_,fun j a b' hj ha hb'=>?_,hr,hg.more (by omega)⟩⟩
    ·by_cases hji:j=i
     ·subst hji;rw [hb] at hb';cases hb';have hx:∀ r∈b.fs,N7 qs r∧GW r (refsOf bs)=1:=fun r hr=>by
       obtain ⟨j,hj⟩:=List.mem_iff_getElem?.1 hr;exact hfs j r (by have:=(Gs.1 hj).1;omega) hj
      exact ⟨⟨he,hus,fun r hr=>(hx r hr).1⟩,fun r hr=>(hx r hr).2⟩
     ·exact hall j b' (by omega) hb'
    ·by_cases hji:j+1=i
     ·rw [hji] at hb';rw [hb] at hb';cases hb';exact hprev a (by omega) (by rw [show i-1=j by omega];exact ha)
     ·exact hadj j a b' (by omega) ha hb'
  ·have ng:=hg.next;rw [Ae4];simp only [L42,Mc,Mn,Li,and_true] at hd;obtain ⟨d1,d7⟩:=hd;obtain ⟨F,hh⟩:=(h.keeps hg.keeps).h;simp only [d1,d7,FF,KS,Nat.zero_add,(BK hr).2.2.2.1,hh.len etH,Ar,Ab,Ah];refine ⟨fun hlt=>?_,fun hge=>?_⟩
   ·have hlt:i<hs.length:=by omega
    obtain ⟨x,hx⟩:∃ x,hs[i]? =some x:=⟨_,Ge hlt⟩;have hxm:=List.mem_of_getElem? hx;obtain ⟨r,o,a1,a2,a3⟩:=hh.at etH hx;have cc:Ad Tp A' 46 (pP r o)=some (.agg ⟨x.x.cells⟩):=by
     have:=CY a2 (k:=0) (m:=2) (by omega) rfl
     rw [D0,Nat.add_zero] at *;rw [this];rfl
    simp only [a1,Hf,cc,Ab];refine Vb hg.Ap (by omega) fun A2 g2 r2=>?_;have g02:=hg.trans g2;have n2:=g2.next;simp only [Dk r2,Ab];refine Z0 g2.Ap (by omega) fun A3 g3=>?_;have g03:=g02.trans g3;have n3:=g3.next;have r3:=r2.keeps g3.keeps (by simp);have hr3:=(hr.keeps g2.keeps (by simp)).keeps g3.keeps (by simp);simp only [AR,(BK hr3).2.2.2.2,Dk r3,Ab];refine Aj.2 ⟨fun h3=>kN (g03.more (by omega)) fun ok=>?_,fun h3=>?_⟩
    ·rw [(ok.2.2.2.2.2 x hxm).2] at h3;cases h3
    ·have h3:DA x.x.g x.x.b=0:=by simpa using h3
     refine Adv (h.keeps g03.keeps) hz g3.Ap (by omega) fun r4 A4 g4 hr4=>?_;have g04:=g03.trans g4;have n4:=g4.next;have r4':=r3.keeps g4.keeps (by simp);have hr4':=hr3.keeps g4.keeps (by simp);simp only [BL,Bc,Ab,Ah];rcases hr4 with ⟨rfl,hno⟩ | ⟨i4,b4,rfl,hb4,hbn4⟩
     ·refine ⟨fun h=>by omega,fun _=>?_⟩;have hnb:¬ ∃ b∈bs,b.b.x=x.x:=fun ⟨b,hb,he⟩=>hno b hb he;have go:∀ B,Grow A4 B 2→(∀ a,0<i→hs[i-1]? =some a→B6 a.x x.x<0)→AE (T42 6) (T42 6) (∃ g',g'<1000-i∧I g' 6 [pP A.next 0,.int .i64 ((i+1:Nat):Int)] B):=fun B gb hprev=>by
       refine Ai.2 ⟨1000-(i+1),by omega,.inr (.inr (.inr ⟨rfl,i+1,rfl,by omega,rfl,hbok,fun j a b hj ha hb=>?_,fun j y hj hy=>?_,hq0,hall,hadj,hr4'.keeps gb.keeps (by simp),(g04.trans gb).more (by omega)⟩))⟩
       ·by_cases hji:j+1=i
        ·rw [hji] at hb;rw [hx] at hb;cases hb;exact hprev a (by omega) (by rw [show i-1=j by omega];exact ha)
        ·exact hhadj j a b (by omega) ha hb
       ·by_cases hji:j=i
        ·subst hji;rw [hx] at hy;cases hy;exact ⟨hnb,h3⟩
        ·exact hhall j y (by omega) hy
      have hs1:(i:Int)+1=((i+1:Nat):Int):=by omega
      refine ⟨fun h4=>?_,fun h4=>?_⟩
      ·obtain ⟨a,ha⟩:∃ a,hs[i-1]? =some a:=⟨_,Ge (by omega)⟩;obtain ⟨F,hh4⟩:=(h.keeps g04.keeps).h;obtain ⟨r5,o5,b1,b2,b3⟩:=hh4.at etH ha;have cc:Ad Tp A4 46 (pP r5 o5)=some (.agg ⟨a.x.cells⟩):=by
        have:=CY b2 (k:=0) (m:=2) (by omega) rfl
        rw [D0,Nat.add_zero] at *;rw [this];rfl
       simp only [FF,KS,Nat.zero_add,(BK hr4').2.2.2.1,Cp,Ab];rw [wrap_i64 (by omega) (by omega),show (i:Int)-1=((i-1:Nat):Int) by omega];simp only [b1,Hf,cc,Dk r4',Ab];have hx0:=IZ (hhall (i-1) a (by omega) ha).2;refine Z2 g4.Ap (by omega) (by omega) (by omega) fun A5 r6 g5 hr6=>?_;simp only [BL,AA,Ab,Ah];rw [wrap_i64 (by omega) (by omega),hs1];refine ⟨fun h5=>kN ((g04.trans g5).more (by omega)) fun ok=>?_,fun h5=>go A5 g5 fun a' _ ha'=>?_⟩
       ·have:=ok.2.2.2.2.1 (i-1) a x ha (by rw [show i-1+1=i by omega];exact hx)
        have:=hr6.2 this
        omega
       ·rw [ha] at ha';cases ha';exact hr6.1 (by omega)
      ·simp only [AA,Ab];rw [wrap_i64 (by omega) (by omega),hs1];exact go A4 ((Grow.refl g4.Ap).more (by omega)) fun a h0=>by omega
     ·refine ⟨fun _=>kN (g04.more (by omega)) fun ok=>(ok.2.2.2.2.2 x hxm).1 ⟨b4,List.mem_of_getElem? hb4,hbn4⟩,fun h=>absurd (by omega) h⟩
   ·refine (kE (hk A' (hg.more (by omega)))).1 ⟨hq0.1,hq0.2.1,hq0.2.2,hbok,fun j a b ha hb=>hhadj j a b (by have:=(Gs.1 hb).1;omega) ha hb,fun y hy=>?_⟩;obtain ⟨j,hj⟩:=List.mem_iff_getElem?.1 hy;exact hhall j y (by have:=(Gs.1 hj).1;omega) hj
 ·rw [e42];refine Am (cs:=fS s) hf (by omega) rfl fun A1 m1=>?_;have g1:=Grow.made m1 hf;have n1:=m1.next;have r1:=m1.AS;simp only [Nz,Cl,(BK r1).1,(BK r1).2.2.2.2,Ar,Bc,Ab,Ah];refine ⟨fun h1=>kN (g1.more (by omega)) fun ok=>by have:=ok.1;omega,fun h1=>⟨fun h2=>kN (g1.more (by omega)) fun ok=>by have:=ok.2.1;omega,fun h2=>?_⟩⟩;refine Age (R:=R) (h.keeps g1.keeps) hz (by omega) hR hpm ht.q m1.Ap (by omega) fun A2 g2=>?_;have g02:=g1.trans g2;simp only [Bo,Ab];refine Aj.2 ⟨fun h3=>kN (g02.more (by omega)) fun ok=>?_,fun h3=>?_⟩
  ·rw [Bu.2 ok.2.2.1] at h3;cases h3
  ·have h3:=Bu.1 (by simpa using h3);exact Ai.2 ⟨1000000-0*100,.inl ⟨rfl,0,rfl,Nat.zero_le _,rfl,⟨by omega,by omega,h3⟩,fun j q hj=>by omega,fun j a b hj=>by omega,r1.keeps g2.keeps (by simp),g02.more (by omega)⟩⟩
end
structure AV where
 s:Nat
 x:Nm
 susp:Bool
def fA(a:AV):List Value:=[.int .u64 (a.s:Int),.int .u32 (a.x.f:Int),.string a.x.g,.string a.x.b,.bool a.susp]
theorem etA:ET Tp 39 129 4 fA:=⟨by kernel_rfl,by kernel_rfl,by kernel_rfl,⟨56,by kernel_rfl,by decide⟩,by kernel_rfl,fun _=>rfl,fun _=>rfl,fun _=>rfl⟩
def Kd(a b:AV):Int:=orL [Ep (a.s:Int) (b.s:Int),B6 a.x b.x]
theorem Hn{a b:AV}:Kd a b<0↔a.s<b.s∨(a.s=b.s∧B6 a.x b.x<0):=by
 unfold Kd;simp only [orL];by_cases h:a.s=b.s
 ·rw [Ff (by rw [FK.2 h];simp)];by_cases h2:B6 a.x b.x=0
  ·rw [Ff (by rw [h2];simp)];omega
  ·rw [if_pos h2];omega
 ·rw [if_pos (fun h0=>h (FK.1 h0)),NB];omega
def H8(l:List AV):Nat:=l.foldl (fun act a=>if a.susp=true then act else a.s) 0
theorem Ts{l:List AV}{a:AV}:H8 (l++[a])=if a.susp=true then H8 l else a.s:=by unfold H8;rw [List.foldl_append];rfl
def asP(l:List AV):Prop:=(∀ a∈l,a.s≠0∧DA a.x.g a.x.b=0)∧Adj Kd l∧∀ (i:Nat) a,l[i]? =some a→a.susp=false→a.s≠H8 (l.take i)
theorem L7:∀ (n:Nat) (l:List AV),n≤l.length→(H8 (l.take n)=0∧∀ (j:Nat) a,j<n→l[j]? =some a→a.susp=true)∨∃ (j:Nat) (a:AV),j<n∧l[j]? =some a∧a.susp=false∧H8 (l.take n)=a.s∧∀ (k:Nat) b,j<k→k<n→l[k]? =some b→b.susp=true
 |0,l,_=>.inl ⟨rfl,fun j a hj=>by omega⟩
 |n+1,l,h=>by
  obtain ⟨a,ha⟩:∃ a,l[n]? =some a:=⟨_,Ge (by omega)⟩;have ht:l.take (n+1)=l.take n++[a]:=by rw [List.take_add_one,ha];rfl
  rw [ht,Ts];cases hs:a.susp with
  |false=>exact .inr ⟨n,a,by omega,ha,hs,by simp,fun k b h1 h2=>by omega⟩
  |true=>
   rw [if_pos rfl];rcases L7 n l (by omega) with ⟨h1,h2⟩ | ⟨j,x,h1,h2,h3,h4,h5⟩
   ·refine .inl ⟨h1,fun j b hj hb=>?_⟩;by_cases hjn:j=n
    ·subst hjn;rw [ha] at hb;cases hb;exact hs
    ·exact h2 j b (by omega) hb
   ·refine .inr ⟨j,x,by omega,h2,h3,h4,fun k b hk hkn hb=>?_⟩;by_cases hkn':k=n
    ·subst hkn';rw [ha] at hb;cases hb;exact hs
    ·exact h5 k b hk (by omega) hb
theorem O1{a b c:AV}(h1:Kd a b<0)(h2:Kd b c<0):Kd a c<0:=by
 rw [Hn] at *;rcases h1 with h1 | ⟨e1,h1⟩<;>rcases h2 with h2 | ⟨e2,h2⟩
 ·exact .inl (by omega)
 ·exact .inl (by omega)
 ·exact .inl (by omega)
 ·exact .inr ⟨by omega,Cb h1 h2⟩
theorem We{l:List AV}:asP l↔(∀ a∈l,a.s≠0∧DA a.x.g a.x.b=0)∧Adj Kd l∧∀ (k i:Nat) a b,k<i→l[k]? =some a→l[i]? =some b→a.susp=false→b.susp=false→a.s≠b.s:=by
 unfold asP;constructor
 ·rintro ⟨h1,h2,h3⟩;refine ⟨h1,h2,fun k i a b hki ha hb hsa hsb he=>?_⟩;have hi:=(Gs.1 hb).1;rcases L7 i l (by omega) with ⟨_,g2⟩ | ⟨j,x,g1,g2,g3,g4,g5⟩
  ·have:=g2 k a hki ha
   rw [hsa] at this;cases this
  ·refine h3 i b hb hsb ?_;rw [g4];by_cases hkj:k=j
   ·subst hkj;rw [ha] at g2;cases g2;exact he.symm
   ·by_cases hlt:k<j
    ·have a1:=E5 (c:=Kd) (fun x y z=>O1) h2 hlt ha g2;have a2:=E5 (c:=Kd) (fun x y z=>O1) h2 g1 g2 hb;rw [Hn] at a1 a2;omega
    ·have:=g5 k a (by omega) hki ha
     rw [hsa] at this;cases this
 ·rintro ⟨h1,h2,h3⟩;refine ⟨h1,h2,fun i a ha hs he=>?_⟩;have hi:=(Gs.1 ha).1;rcases L7 i l (by omega) with ⟨g1,_⟩ | ⟨j,x,g1,g2,g3,g4,_⟩
  ·exact (h1 a (List.mem_of_getElem? ha)).1 (by rw [he,g1])
  ·exact h3 j i x a g1 g2 ha g3 hs (by rw [he,g4])
theorem DC{A:AW}{r:Nat}{a:AV}(h:Go.Abs.Row1 A r (fA a) 129):A.cell? ⟨r,0,none⟩=some (.int .u64 (a.s:Int))∧A.cell? ⟨r,4,none⟩=some (.bool a.susp)∧Ad Tp A 46 (pP r 1)=some (.agg ⟨a.x.cells⟩)∧Ad Tp A 129 (pP r 0)=some (.agg ⟨fA a⟩):=by
 have h1:A.cells? ⟨r,1,none⟩ 3=some a.x.cells:=by rw [Bd h.row];rfl
 have h2:A.cells? ⟨r,0,none⟩ 5=some (fA a):=by rw [Bd h.row];rfl
 refine ⟨?_,?_,by rw [D0,h1],by rw [Acd,h2]⟩<;>(rw [Ax h.row];exact AK rfl rfl)
theorem ZV:Ci Tp 129=some (.agg ⟨[.int .u64 0,.int .u32 0,.string ⟨⟨[]⟩⟩,.string ⟨⟨[]⟩⟩,.bool false]⟩):=by kernel_rfl
theorem V5{A:AW}{x:AV}{K:Value→AW→Prop}(hf:AH A)(hA:A.next<Ao)(hk:∀ A',Grow A A' 1→Go.Abs.Row1 A' A.next (fA x) 129→K (pP A.next 0) A'):Al (BB Tp A 129) fun t A1=>B5 (Bg Tp A1 129 t (.agg ⟨fA x⟩)) fun A2=>K t A2:=Lg ZV rfl (n:=5) rfl rfl AbM rfl hf hA hk
theorem Ac4(A:AW)(a b:Int):AG Tp A 143 2 [(0,.int .i64 a),(1,.int .i64 b)]=(match A.newRow [.int .i64 a,.int .i64 b] 3 with | some (a,w')=>.ok (.slice (some a) 2 2) w' | none=>.fail "buildSlice new"):=by kernel_rfl
theorem W3(a b:Int):BS Tp (BI (Tm.fill ⟨2,.nil⟩ 0 [.int .i64 a,.int .i64 b])) (.buildSlice 143 2 #[(0,.tmp 0),(1,.tmp 1)])=some (.slice [.int .i64 a,.int .i64 b] 3 2):=by kernel_rfl
theorem YS{q i:Nat}(hi:i<2):Ag Tp 143 (.slice (some ⟨q,0,none⟩) 2 2) (.int .i64 (i:Int))=some (pP q i):=by
 show Ag Tp 143 _ (.int .i64 (.ofNat i))=_;rw [YR,AF.2 hi,Ct];unfold Eh;cases hb:Nat.beq (i*1) 0 with
 |true=>rw [Ct];have:=Nb hb;rw [Nat.mul_one] at this;rw [this]
 |false=>rw [Cf,Nat.mul_one,Nat.zero_add]
section
variable {W0:World} {m0:Inj Tp}
theorem AaY{n:Int}{A:AW}{K:Value→AW→Prop}(hk:K (.bool false) A):Wc Tp Ak W0 m0 143 [.int .u64 n] A K:=by
 refine Ahd _ _ (Au (S:=fun _ _ _=>False) fun _ _ _ h=>h) ?_;rw [Aiz];simp only [AR,bne_self_eq_false,Ab];exact hk
theorem AdS{a b:Int}{A:AW}{K:Value→AW→Prop}(hk:K (.int .i64 (Ep a b)) A):Wc Tp Ak W0 m0 127 [.int .u64 a,.int .u64 b] A K:=by
 refine Aho _ _ _ (Au (S:=fun _ _ _=>False) fun _ _ _ h=>h) ?_;rw [AiK];refine AaY ?_;refine AaY ?_;unfold Ep at hk;simp only [DS,Ar,Bc,Ab,Ah];refine ⟨fun h1=>?_,fun h1=>⟨fun h2=>?_,fun h2=>?_⟩⟩
 ·rw [if_pos h1] at hk;exact hk
 ·rw [Ff h1,if_pos h2] at hk;exact hk
 ·rw [Ff h1,Ff h2] at hk;exact hk
theorem Adu{q:Nat}{a b:Int}{A:AW}{K:Value→AW→Prop}(hr:Go.Abs.Row1 A q [.int .i64 a,.int .i64 b] 3)(hk:K (.int .i64 (orL [a,b])) A):Wc Tp Ak W0 m0 56 [.slice (some ⟨q,0,none⟩) 2 2] A K:=by
 let I:Nat→Nat→List Value→AW→Prop:=fun g id vals A'=>id=0∧A'=A∧∃ i:Nat,vals=[.int .i64 0,.slice (some ⟨q,0,none⟩) 2 2,.int .i64 2,.int .i64 (i:Int)]∧g=2-i∧i≤2∧orL [a,b]=orL ([a,b].drop i);refine w56 _ _ (c56 (I:=I) ?_) ?_
 ·rintro g id vals A' d ⟨rfl,rfl,i,rfl,rfl,hi,ho⟩ hd;rw [Abb];simp only [L56,Mc,Mn,Li,and_true] at hd;obtain ⟨h3,h6,h7,h8⟩:=hd;simp only [h3,h6,h7,h8,Ar,Ab,Ah];have hcase:i=0∨i=1∨i=2:=by omega
  have fin:∀ {x:Int} {r:List Int},[a,b].drop i=x::r→Ad Tp A' 3 (pP q i)=some (.int .i64 x)→i<2→
    Aa (Ad Tp A' 3 (pP q i)) fun t2=>Aa (Af Tp .neq 3 (.tmp 12) (.tmp 13) t2 (.int .i64 0)) fun t3=>Ae t3 (K t2 A') (Aa (Af Tp .add 3 (.tmp 8) (.const (.int .i64 1)) (.int .i64 (i:Int)) (.int .i64 1)) fun t4=>AE (T56 0) (T56 0) (∃ g',g'<2-i∧I g' 0 [.int .i64 0,.slice (some ⟨q,0,none⟩) 2 2,.int .i64 2,t4] A')):=by
   intro x r hdr hld hlt;rw [hld];simp only [Ab,AR,AL,AA];rw [hdr] at ho;refine ⟨fun hx=>?_,fun hx=>?_⟩
   ·rw [ho] at hk;simp only [orL] at hk;rw [if_pos hx] at hk;exact hk
   ·rw [wrap_i64 (by omega) (by omega)];refine Ai.2 ⟨2-(i+1),by omega,rfl,rfl,i+1,rfl,rfl,by omega,?_⟩
    have:[a,b].drop (i+1)=r:=by rw [← List.drop_drop,hdr];rfl
    rw [this,ho];simp only [orL];rw [Ff (by simp [hx])]
  rcases hcase with rfl | rfl | rfl
  ·refine ⟨fun _=>?_,fun h=>absurd (by decide) h⟩;rw [YS (by decide)];simp only [Ab];exact fin rfl (by rw [UI,Ax hr.row];rfl) (by decide)
  ·refine ⟨fun _=>?_,fun h=>absurd (by decide) h⟩;rw [YS (by decide)];simp only [Ab];exact fin rfl (by rw [UI,Ax hr.row];rfl) (by decide)
  ·refine ⟨fun h=>absurd h (by decide),fun _=>?_⟩;rw [ho] at hk;exact hk
 ·rw [e56];simp only [YE,Ab];exact Ai.2 ⟨2,rfl,rfl,0,rfl,rfl,by decide,rfl⟩
theorem WQ{A:AW}{a b:Int}{K:Value→AW→Prop}(hf:AH A)(h:A.next<Ao)(hk:∀ A',Made A A' [.int .i64 a,.int .i64 b] 3→K (.slice (some ⟨A.next,0,none⟩) 2 2) A'):Al (AG Tp A 143 2 [(0,.int .i64 a),(1,.int .i64 b)]) K:=by
 rw [Ac4];unfold AW.newRow AW.new;have hc:([Value.int .i64 a,.int .i64 b].all AT)=true:=rfl;simp only [hc,Ct,AF.2 h];exact AU.2 (hk (A.push (.row [.int .i64 a,.int .i64 b] 3 A.next 0 false)) ⟨AW.C6 _ h,rfl,by rw [AW.B8 _ h,if_pos rfl],hf.alone (Nl _),hf.push _ h⟩)
theorem SK{a b:Int}{A:AW}{q:Nat}{p:Prop}(h:A.get q=some (.row [.int .i64 a,.int .i64 b] 3 q 0 false))(hp:p):EC (BS Tp (BI (Tm.fill ⟨2,.nil⟩ 0 [.int .i64 a,.int .i64 b])) (.buildSlice 143 2 #[(0,.tmp 0),(1,.tmp 1)])) A (.slice (some ⟨q,0,none⟩) 2 2) p:=by
 refine ⟨⟨_,W3 a b,?_⟩,hp⟩;simp only [Cq,HC,h,Fu,NP,Bool.and_self,Option.isNone_none,Bool.true_and,Nat.beq_refl]
theorem Ad1{p q:AV}{A:AW}{K:Value→AW→Prop}(hf:AH A)(hA:A.next+9<Ao)(hk:∀ A',Grow A A' 6→K (.int .i64 (Kd p q)) A'):Wc Tp Ak W0 m0 100 [.agg ⟨fA p⟩,.agg ⟨fA q⟩] A K:=by
 refine AhE _ _ _ (Au (S:=fun _ _ _=>False) fun _ _ _ h=>h) ?_;rw [Ai0];refine Am (cs:=fA p) hf (by omega) rfl fun A1 m1=>?_;have n1:=m1.next;have g1:=Grow.made m1 hf;refine Am (cs:=fA q) m1.Ap (by omega) rfl fun A2 m2=>?_;have n2:=m2.next;have g2:=Grow.made m2 m1.Ap;have r1:=m1.AS.keeps g2.keeps (by simp);have r2:=m2.AS;simp only [Fj,Gf,Cl,Nat.zero_add,(DC r1).1,(DC r2).1,(DC r1).2.2.1,(DC r2).2.2.1,Ab];refine AdS ?_;simp only [Nat.zero_add,(DC r1).2.2.1,(DC r2).2.2.1,Ab,BA];refine Wi m2.Ap (by omega) fun A3 g3=>?_;have n3:=g3.next;refine WQ g3.Ap (by omega) fun A4 m4=>?_;have g4:=Grow.made m4 g3.Ap;have q1:=(r1.keeps g3.keeps (by simp)).keeps g4.keeps (by simp);have q2:=(r2.keeps g3.keeps (by simp)).keeps g4.keeps (by simp);refine SK m4.row ?_;simp only [Fj,Gf,Cl,Nat.zero_add,(DC q1).1,(DC q2).1,(DC q1).2.2.1,(DC q2).2.2.1,Ab,BA];exact Adu m4.AS (hk A4 (((g1.trans g2).trans (g3.trans g4)).more (by omega)))
theorem Agg {A:AW} {v:Value} {l:List AV} {F:List Nat} {K:Value→AW→Prop} (hl:RdE 4 fA A v l F) (hlen:l.length≤20) (hf:AH A) (hA:A.next+300<Ao)
  (hk:∀ A',Grow A A' 200→K (.int .i64 (eI 180 (asP l))) A'):Wc Tp Ak W0 m0 69 [v] A K:=by
 let I:Nat→Nat→List Value→AW→Prop:=fun g id vals A'=>id=0∧∃ i:Nat,vals=[v,.int .u64 (H8 (l.take i):Int),v,.int .i64 (l.length:Int),.int .i64 (i:Int)]∧i≤l.length∧(∀ (j:Nat) a,j<i→l[j]? =some a→(a.s≠0∧DA a.x.g a.x.b=0)∧(a.susp=false→a.s≠H8 (l.take j)))∧(∀ (j:Nat) a b,j+1<i→l[j]? =some a→l[j+1]? =some b→Kd a b<0)∧g=100-i∧Grow A A' (8*i);refine w69 _ _ (c69 (I:=I) fun g id vals A' d hI hd=>?_) ?_
 ·obtain ⟨rfl,i,rfl,hi,hall,hadj,rfl,hg⟩:=hI;have ng:=hg.next;rw [AeS];simp only [L69,Mc,Mn,Li,and_true] at hd;obtain ⟨d0,d3,d6,d7,d8⟩:=hd;have h':=hl.keeps hg.keeps (by simp);simp only [d0,d3,d6,d7,d8,Ar,Ab,Ah];refine ⟨fun hlt=>?_,fun hge=>?_⟩
  ·have hlt:i<l.length:=by omega
   obtain ⟨a,ha⟩:∃ a,l[i]? =some a:=⟨_,Ge hlt⟩;have ham:=List.mem_of_getElem? ha;obtain ⟨r,o,a1,a2,a3⟩:=h'.at etA ha;simp only [a1,a3,Ab];refine V5 hg.Ap (by omega) fun A2 g2 r2=>?_;have g02:=hg.trans g2;have n2:=g2.next;have bad:∀ {B},Grow A2 B 7→¬ asP l→K (.int .i64 180) B:=fun {B} gb hn=>(kE (hk B ((g02.trans gb).more (by omega)))).2 hn;simp only [Fj,Gf,Cl,Nat.zero_add,(DC r2).1,(DC r2).2.2.1,AQ,Ab];refine Aq.2 ⟨fun h1=>bad ((Grow.refl g2.Ap).more (by omega)) fun ok=>(ok.1 a ham).1 (by omega),fun h1=>?_⟩;refine Z1 g2.Ap (by omega) fun A3 g3=>?_;have g03:=g02.trans g3;have n3:=g3.next;have r3:=r2.keeps g3.keeps (by simp);simp only [AR,Bc,Ab,Ah];refine Aj.2 ⟨fun h2=>bad (g3.more (by omega)) fun ok=>?_,fun h2=>?_⟩
   ·rw [(ok.1 a ham).2] at h2;cases h2
   ·have h2:DA a.x.g a.x.b=0:=by simpa using h2
    have hsn:l.take (i+1)=l.take i++[a]:=by rw [List.take_add_one,ha];rfl
    have go:∀ B,Grow A3 B 6→(∀ x,0<i→l[i-1]? =some x→Kd x a<0)→Kv (fun id vals A'=>∃ g',g'<100-i∧I g' id vals A') K (pP A'.next 0) B (.int .u64 (H8 (l.take i):Int)) (.int .i64 (i:Int)) v v (.int .i64 (l.length:Int)):=by
     intro B gb hprev;have rb:=r3.keeps gb.keeps (by simp);have fin:(a.susp=false→a.s≠H8 (l.take i))→Kw (fun id vals A'=>∃ g',g'<100-i∧I g' id vals A') (pP A'.next 0) B (.int .i64 (i:Int)) v v (.int .i64 (l.length:Int)) (.int .u64 (H8 (l.take i):Int)):=by
      intro hs;have next:(∃ g',g'<100-i∧I g' 0 [v,.int .u64 (H8 (l.take (i+1)):Int),v,.int .i64 (l.length:Int),.int .i64 ((i:Int)+1)] B):=by
       refine ⟨100-(i+1),by omega,rfl,i+1,rfl,by omega,fun j x hj hx=>?_,fun j x y hj hx hy=>?_,rfl,((g03.trans gb)).more (by omega)⟩
       ·by_cases hji:j=i
        ·subst hji;rw [ha] at hx;cases hx;exact ⟨⟨by omega,h2⟩,hs⟩
        ·exact hall j x (by omega) hx
       ·by_cases hji:j+1=i
        ·rw [hji] at hy;rw [ha] at hy;cases hy;exact hprev x (by omega) (by rw [show i-1=j by omega];exact hx)
        ·exact hadj j x y (by omega) hx hy
      unfold Kw;simp only [Fj,OF,KR,Cl,Nat.zero_add,(DC rb).1,(DC rb).2.1,Bo,AA,Ab];rw [wrap_i64 (by omega) (by omega)];rw [hsn,Ts] at next;refine Aj.2 ⟨fun h5=>?_,fun h5=>?_⟩
      ·rw [Ff (by simpa using h5)] at next;exact Ai.2 next
      ·rw [if_pos (by simpa using h5)] at next;exact Ai.2 next
     unfold Kv;simp only [Fj,OF,KR,Cl,Nat.zero_add,(DC rb).1,(DC rb).2.1,Bo,AQ,Ab];refine Aj.2 ⟨fun h5=>?_,fun h5=>fin fun hs=>by rw [hs] at h5;cases h5⟩;refine Aq.2 ⟨fun h6=>bad ((g3.trans gb).more (by omega)) fun ok=>ok.2.2 i a ha (by simpa using h5) (by omega),fun h6=>fin fun _ he=>h6 (by rw [he])⟩
    refine ⟨fun h4=>?_,fun h4=>go A3 ((Grow.refl g3.Ap).more (by omega)) fun x h0=>by omega⟩;obtain ⟨x,hx⟩:∃ x,l[i-1]? =some x:=⟨_,Ge (by omega)⟩;obtain ⟨r5,o5,b1,b2,b3⟩:=(hl.keeps g03.keeps (by simp)).at etA hx;simp only [Cp,Ab];rw [wrap_i64 (by omega) (by omega),show (i:Int)-1=((i-1:Nat):Int) by omega];simp only [b1,b3,(DC r3).2.2.2,Ab];refine Ad1 g3.Ap (by omega) fun A5 g5=>?_;simp only [BL,Ab,Ah];refine ⟨fun h5=>bad ((g3.trans g5).more (by omega)) fun ok=>?_,fun h5=>go A5 g5 fun y _ hy=>?_⟩
    ·have:=ok.2.1 (i-1) x a hx (by rw [show i-1+1=i by omega];exact ha)
     omega
    ·rw [hx] at hy;cases hy;omega
  ·refine (kE (hk A' (hg.more (by omega)))).1 ⟨fun a ha=>?_,fun j a b ha hb=>hadj j a b (by have:=(Gs.1 hb).1;omega) ha hb,fun j a ha=>(hall j a (by have:=(Gs.1 ha).1;omega) ha).2⟩;obtain ⟨j,hj⟩:=List.mem_iff_getElem?.1 ha;exact (hall j a (by have:=(Gs.1 hj).1;omega) hj).1
 ·rw [e69];simp only [hl.len etA,Ab];exact Ai.2 ⟨100-0,rfl,0,rfl,Nat.zero_le _,fun j a hj=>by omega,fun j a b hj=>by omega,rfl,(Grow.refl hf).more (by omega)⟩
end
end Go.Proofs.YtdpdajpiadohjaaGreatDoor
