/-
  This text prints what the functions reached ask of their memory, and shows what they answer. Conditions: those that each theorem states.
-/
import Derived.Test.YtnennggfoegcmaaGreatDoorPg
import Derived.ChangeMaps5
import Derived.Deep.Strs
import Derived.LaidMore
import Derived.Lib.LaidTab
import Derived.Lib.SmallJoins
import Derived.SevenTiedAt
import Derived.Stop.LaidErr
import Derived.Test.YtnennggfoegcmaaGreatDoorCards
import Derived.Test.YtnennggfoegcmaaGreatDoorTie
set_option linter.all false
set_option maxRecDepth 100000
set_option maxHeartbeats 1000000
namespace Go.Abs
theorem IM:∀ {l a b:List Value},Bh l (a.length+b.length)=some (a++b)->Bh l a.length=some a
 |l,[],b,_=>by cases l<;>rfl
 |[],x::a,b,h=>by
  rw [Lc,show a.length+1+b.length=a.length+b.length+1 by omega] at h;cases h
 |y::l,x::a,b,h=>by
  rw [Lc,show a.length+1+b.length=a.length+b.length+1 by omega] at h;rw [Lc];unfold Bh at h ⊢;cases ht:isTuple y with
  |true=>rw [ht] at h;cases h
  |false=>
   rw [ht,Cf] at h
   first | rw [ht,Cf] | rw [Cf] | skip
   cases hr:Bh l (a.length+b.length) with
   |none=>rw [hr] at h;cases h
   |some q=>
    rw [hr] at h;simp only [Oi,List.cons_append,Li] at h;obtain ⟨rfl,rfl⟩:=h;rw [IM hr]
theorem WY{A:AW}{r o k:Nat}:∀ {a b:List Value},A.cells? ⟨r,o,none⟩ k=some (a++b)->a.length+b.length=k->A.cells? ⟨r,o,none⟩ a.length=some a
 |[],_,_,_=>rfl
 |x::a,b,h,hk=>by
  have hk':k=a.length+b.length+1:=by rw [Lc] at hk;omega
  subst hk';have h1:(match A.get r with | some (.row cs _ _ _ _)=>Bh (cs.drop o) (a.length+b.length+1) | _=>none)=some (x::a++b):=h;show (match A.get r with | some (.row cs _ _ _ _)=>Bh (cs.drop o) (a.length+1) | _=>none)=some (x::a);cases hg:A.get r with
  |none=>rw [hg] at h1;cases h1
  |some ob=>
   rw [hg] at h1;cases ob with
   |row cs e g b' ro=>
    have h2:Bh (cs.drop o) ((x::a).length+b.length)=some (x::a++b):=by rw [Lc,show a.length+1+b.length=a.length+b.length+1 by omega];exact h1
    exact IM h2
   |_=>cases h1
section
variable {P:Program} {ts te:TypeId} {n:Nat} {β:Type} {f:β->List Value}
theorem TS(T:ET P ts te n f){A:AW}{b m i j:Nat}{cs:List Value}{g b0:Nat}{ro:Bool}(hr:A.get b=some (.row cs te g b0 ro))(hi:i<=j)(hj:j<=m):AX P A ts (.slice (some ⟨b,0,none⟩) m (Bo+m)) (some (.int .i64 (i:Int))) (some (.int .i64 (j:Int))) none=some (.slice (some ⟨b,i*(n+1),none⟩) (j-i) (Bo+(m-i))):=by
 show AX P A ts _ (some (.int .i64 (.ofNat i))) (some (.int .i64 (.ofNat j))) none=_;have hrow:HA A (some ⟨b,0,none⟩) te=true:=by unfold HA;simp only [hr];exact beq_true.2 rfl
 have hm:Gc (some ⟨b,0,none⟩) (i*(n+1))=some ⟨b,i*(n+1),none⟩:=by
  show some (bif Nat.beq (i*(n+1)) 0 then (⟨b,0,none⟩:Addr) else ⟨b,0+i*(n+1),none⟩)=_;cases hb:Nat.beq (i*(n+1)) 0 with
  |true=>rw [Ct,Nb hb]
  |false=>rw [Cf,Nat.zero_add]
 unfold AX;simp only [T.us,T.sz,Bb.2 (show Bo<=Bo+m by omega),Ct,bounds,FQ,Dn,Nat.add_sub_cancel_left,Bb.2 hj,Bb.2 hi,Bb.2 (Nl m),Option.isSome_none,Option.isSome_some,Bool.not_false,Bool.or_true,Bool.true_or,hrow,Bool.and_self,hm]
def AeY(n:Nat)(v:Value)(i m:Nat):Value:=match v with
 |.slice (some a) _ _=>.slice (some ⟨a.block,i*n,none⟩) 1 (Bo+(m-i))
 |_=>.nilIface
theorem BF.mid(T:ET P ts te n f){A:AW}{v:Value}{l:List β}{F:List Nat}(h:BF te n f A v l F){i:Nat}{p:β}(hi:l[i]? =some p):
  AX P A ts v (.some (.int .i64 (i:Int))) (.some (.int .i64 ((i+1:Nat):Int))) none=.some (AeY (n+1) v i l.length)/\RdE n f A (AeY (n+1) v i l.length) [p] F:=by
 have hlt:=(Gs.1 hi).1;rcases h with ⟨_,h2,_⟩ | ⟨b,g,rfl,h2,rfl⟩
 ·omega
 ·have hs:=TS T h2.row (Nat.le_succ i) hlt;rw [show i+1-i=1 by omega] at hs;refine ⟨hs,.inr ⟨b,_,_,_,_,g,0,false,rfl,h2.row,h2.ltf,rfl,λj q hj=>?_⟩⟩;cases j with
  |zero=>
   obtain rfl:p=q:=by simpa using hj
   rw [Nat.zero_mul,Nat.add_zero];exact DM T.len l i _ hi
  |succ j=>simp at hj
end
end Go.Abs
namespace Go.Proofs.YtnennggfoegcmaaGreatDoor
section
open Go.Abs Go.Jr
variable {A:AW} {v:Value} {F:List Nat} {K:Value->AW->Prop}
theorem AbX(w:DV):fD w=w.d.x.cells++[w.sv]:=rfl
theorem atD{M:List DV}{i:Nat}{w:DV}(h:RdE 3 fD A v M F)(hi:M[i]? =some w):
  ∃ r o,Ar Tp 29 v (.int .i64 (i:Int))=some (pP r o)/\Ae Tp A 35 (pP r o)=some (vD w)/\Ae Tp A 32 (pP r o)=some (.agg ⟨w.d.x.cells⟩)/\Ae Tp A 33 (pP r (o+3))=some w.sv:=by
 obtain ⟨r,o,h1,h2,h3⟩:=h.at etD hi;refine ⟨r,o,h1,h3,?_,?_⟩
 ·rw [AbX] at h2;rw [EH,show (3:Nat)=w.d.x.cells.length from rfl,WY h2 rfl]
 ·rw [I5];exact cell_of (k:=3) h2 rfl
def UQ(A:AW)(M:List DV):Prop:=∀ w∈M,(∀ a,w.o=some a->a.spot=none)/\∃ G,C4 A w.sv w.d.ps G
theorem C4.plain{w:DV}{G:List Nat}(h:C4 A w.sv w.d.ps G)(h1:1<=w.d.ps.length):∀ a,w.o=some a->a.spot=none:=by
 intro a ha;rcases h with ⟨h0,_⟩ | ⟨r,o,c,cs,e,f,b,ro,hs,_⟩
 ·rw [h0] at h1;cases h1
 ·unfold DV.sv at hs;rw [ha] at hs;simp only [Value.slice.injEq,Oi] at hs;rw [hs.1]
section
variable {W0:World} {m0:Inj Tp}
theorem AgA {v':Value} {w w':DV} {F':List Nat} (h:RdE 3 fD A v [w] F) (h':RdE 3 fD A v' [w'] F') (hp:UQ A [w]) (hp':UQ A [w']) (hl:w.d.ps.length<1000000)
  (hk:∀ b:Bool,(b=true↔w.d=w'.d)->K (.bool b) A):Wc Tp Al W0 m0 20 [v,v'] A K:=by
 let I:Nat->Nat->List Value->AW->Prop:=λg id vals A'=>id=0/\A'=A/\∃ i:Nat,vals=[v,v',.int .i64 (i:Int)]/\i<=1/\g=1-i/\(i=1->w.d=w'.d);refine w20 _ _ _ (c20 (I:=I) ?_) ?_
 ·rintro g id vals A' dd ⟨rfl,rfl,i,rfl,hi,rfl,ht⟩ hd';rw [Afl];simp only [L20,Mc,Mn,Li,and_true] at hd';obtain ⟨h0,h1,h5⟩:=hd';rw [h0,h1,h5,RdE.len etD h];simp only [Br,Ab,Az,List.length_singleton];refine ⟨λhlt=>?_,λhge=>?_⟩
  ·have hi0:i=0:=by omega
   subst hi0;obtain ⟨r1,o1,a1,a2,a3,a4⟩:=atD h (i:=0) (w:=w) rfl;obtain ⟨r2,o2,b1,b2,b3,b4⟩:=atD h' (i:=0) (w:=w') rfl;rw [a1,b1];simp only [Ab,Er,E4,a3,b3,a4,b4];rw [AeV];simp only [Ab];refine Ag.2 ⟨λhn=>?_,λhn=>?_⟩
   ·refine hk false ⟨λh=>(by cases h),λhe=>?_⟩;rw [he,CK.2 rfl] at hn;cases hn
   ·have hx:w.d.x=w'.d.x:=CK.1 (by simpa using hn);obtain ⟨-,G,g1⟩:=hp w (by simp);obtain ⟨-,G',g2⟩:=hp' w' (by simp);refine Agr g1 g2 hl λb hb=>?_;simp only [Bl,Ab];refine Ag.2 ⟨λhn=>?_,λhn=>?_⟩
    ·refine hk false ⟨λh=>(by cases h),λhe=>?_⟩;rw [hb.2 (by rw [he])] at hn;cases hn
    ·have hbt:b=true:=by simpa using hn
     have hps:=hb.1 hbt;rw [Bm,wrap_i64 (by omega) (by omega)];simp only [Ab];refine Au.2 ⟨0,by omega,rfl,rfl,1,rfl,Nl _,rfl,λ_=>?_⟩;have e1:w.d=⟨w.d.x.f,w.d.x.g,w.d.x.b,w.d.ps⟩:=rfl;rw [e1,hx,hps];rfl
  ·have hi':i=1:=by omega
   exact hk true ⟨λ_=>ht hi',λ_=>rfl⟩
 ·rw [e20,RdE.len etD h,RdE.len etD h'];simp only [Bw,Ab,Bj,List.length_singleton];refine ⟨λhn=>absurd rfl hn,λ_=>?_⟩;exact Au.2 ⟨1,rfl,rfl,0,rfl,Nat.zero_le _,rfl,λh=>by cases h⟩
theorem AaK(v:DV):Bn Tp (BZ (Tm.fill ⟨1,.nil⟩ 0 [vD v])) (.buildSlice 29 1 #[(0,.tmp 0)])=some (.slice (fD v) 35 1):=by kernel_rfl
theorem Aac{n k c:Nat}{o:Option Addr}(h:∀ a,o=some a->a.spot=none):DT (n+1) (.slice o k c) (.slice o k c)=true:=by
 cases o with
 |none=>simp [DT]
 |some a=>
  have:=h a rfl
  simp [DT,Go.Abs.sameAddr,this]
theorem Uo{q:Nat}{v:DV}{p:Prop}(h:A.get q=some (.row (fD v) 35 q 0 false))(ho:∀ a,v.o=some a->a.spot=none)(hp:p):Cd (Bn Tp (BZ (Tm.fill ⟨1,.nil⟩ 0 [vD v])) (.buildSlice 29 1 #[(0,.tmp 0)])) A (.slice (some ⟨q,0,none⟩) 1 1) p:=by
 refine ⟨⟨_,AaK v,?_⟩,hp⟩;have hs:=Aac (n:=5) (k:=v.d.ps.length) (c:=v.c) ho;have hs:DT 6 v.sv v.sv=true:=hs;simp only [B4,Eu,h,fD,By,EF,EV,G1,hs,Bool.and_self,Option.isNone_none,Bool.true_and,Nat.beq_refl]
theorem Ad7 {M : List DV} {w : DV} (h : BF 35 3 fD A v M F) (hM : M.length < 1000) (hp : UQ A M) (hw : UQ A [w]) (hps : ∀ z ∈ M, z.d.ps.length < 1000000) (hf : Aw A) (hA : A.next + 2000 < Aj)
    (hk : ∀ A' (b : Bool), (b = true ↔ w.d ∈ M.map (·.d)) -> Ah A A' [] -> A'.next <= A.next + 1 + M.length -> Aw A' -> K (.bool b) A') : Wc Tp Al W0 m0 14 [v, vD w] A K := by
  have rdk : ∀ {A1 A2 : AW} {l : List DV}, UQ A1 l -> Ah A1 A2 [] -> UQ A2 l := λh k z hz => by
    obtain ⟨h1, G, h2⟩ := h z hz
    exact ⟨h1, G, h2.keeps k (by simp)⟩
  let I : Nat -> Nat -> List Value -> AW -> Prop := λg id vals A' => id = 0 /\ ∃ i : Nat, vals = [v, ptr A.next, .int .i64 (i : Int)] /\ i <= M.length /\ g = M.length - i /\ Abs.Row1 A' A.next (fD w) 35 /\ Ah A A' [] /\ A'.next <= A.next + 1 + i /\ Aw A' /\ w.d ∉ (M.take i).map (·.d)
  refine w14 _ _ _ (c14 (I := I) ?_) ?_
  · rintro g id vals A' dd ⟨rfl, i, rfl, hi, rfl, hr, k, n, f, hn⟩ hd'
    rw [Afm]
    simp only [L14, Mc, Mn, Li, and_true] at hd'
    obtain ⟨h0, h1, h5⟩ := hd'
    rw [h0, h1, h5, RdE.len etD (BF.rd etD.len h)]
    simp only [Br, Ab, Az]
    have hle := k.next
    refine ⟨λhlt => ?_, λhge => ?_⟩
    · have hlt : i < M.length := by omega
      obtain ⟨z, hz⟩ : ∃ z, M[i]? = some z := ⟨_, Ge hlt⟩
      have hzM : z ∈ M := List.mem_of_getElem? hz
      obtain ⟨s1, s2⟩ := (h.keeps k (by simp)).mid etD hz
      have e1 : (i : Int) + 1 = ((i + 1 : Nat) : Int) := by omega
      rw [Bm, wrap_i64 (by omega) (by omega), e1]
      simp only [Ab]
      rw [s1]
      simp only [Ab]
      show Aa (Ae Tp A' 35 (pP A.next 0)) _
      rw [Ky hr]
      simp only [Ab]
      refine Sk f (by omega) λA1 m1 => ?_
      have n1 := m1.next
      have k1 := m1.keeps f
      have K1 := k.trans k1 (by simp)
      refine Uo m1.row (hw w (by simp)).1 ?_
      have hr1 := hr.keeps k1 (by simp)
      show Aa (Ae Tp A1 35 (pP A.next 0)) _
      obtain ⟨hs, _⟩ := (h.keeps K1 (by simp)).mid etD hz
      rw [Ky hr1]
      simp only [Ab, AR, hs]
      have rq : RdE 3 fD A1 (.slice (some ⟨A'.next, 0, none⟩) 1 1) [w] [A'.next] := .inr ⟨A'.next, 0, 1, fD w, 35, A'.next, 0, false, rfl, m1.row, by omega, rfl, λj q hj => by
        cases j with
        | zero => obtain rfl : w = q := by simpa using hj
                  exact ⟨[], by simp⟩
        | succ j => simp at hj⟩
      refine AgA (s2.keeps k1 (by simp)) rq (rdk (λy hy => by rw [Ms.1 hy]; exact hp z hzM) K1) (rdk hw K1) (hps z hzM) λb hb => ?_
      refine Ag.2 ⟨λht => ?_, λhf' => ?_⟩
      · refine hk A1 true ⟨λ_ => ?_, λ_ => rfl⟩ K1 (by omega) m1.Ay
        rw [<- hb.1 ht]
        exact List.mem_map_of_mem hzM
      · have hnz : z.d ≠ w.d := λhe => by rw [hb.2 he] at hf'; cases hf'
        rw [Bm, wrap_i64 (by omega) (by omega), e1]
        simp only [Ab]
        refine Au.2 ⟨M.length - (i + 1), by omega, rfl, i + 1, rfl, by omega, rfl, hr1, K1, by omega, m1.Ay, ?_⟩
        rw [B9 hz, List.map_append, Mz]
        rintro (h | h)
        · exact hn h
        · exact hnz (by simpa using h : w.d = z.d).symm
    · have hi' : i = M.length := by omega
      subst hi'
      rw [List.take_length] at hn
      exact hk A' false ⟨λh => (by cases h), λh => absurd h hn⟩ k (by omega) f
  · rw [e14]
    refine AZ (cs := fD w) hf (by omega) rfl λA1 m1 => ?_
    have n1 := m1.next
    exact Au.2 ⟨M.length, rfl, 0, rfl, Nat.zero_le _, rfl, m1.Bk, m1.keeps hf, by omega, m1.Ay, by simp⟩
end
end
section
open Go.Jr Go.Abs
theorem PF{i k:Nat}{s3:DS}{q3:JS}{st:List UInt8}(hk:k<=82)(hku:KU 300 k s3 q3 [(q3.state,q3.l)])(hfu:s3.Dj=0)(hok:∃ n,OkS n s3)(hst:st.length<=50000):
  OkS (k+1) s3/\k+1+q3.row.length<=900/\(∃ n,q3.row.getLast? =some n/\n<=1000)/\(∀ x∈q3.row,x<100000000)/\q3.l.length<=80+2/\QB 200 i (AE s3 (namesS s3.D) q3 st).1 (AE s3 (namesS s3.D) q3 st).2.1:=by
 obtain ⟨n,f1,f2,f3,f4,f5,f6,f7,f8,f9,f10,_⟩:=hku.facts (by omega);obtain ⟨m,hm⟩:=hok;have ok3:OkS (k+1) s3:=Ys hm f10 (Nl _);refine ⟨ok3,by omega,⟨n,f1,by omega⟩,λx hx=>by have:=f9 x hx;omega,by omega,?_⟩;obtain ⟨c1,c2,c3,c4,c5⟩:=OE hku hfu (by omega) hst;obtain ⟨af,_⟩:=Re hku (by omega) hst;have hk1:=af c4;obtain ⟨n',g1,g2,g3,g4,g5,g6,g7,_⟩:=hk1.facts (by omega);have ok4:=OD (names:=namesS s3.D) (q:=q3) (st:=st) ok3;exact ⟨ok4.more (by omega),by rw [c3];exact Nat.zero_le _,by omega,⟨n',g1,g2,by omega⟩,by omega,g7⟩
section
variable {i c:Nat} {s:DS} {q:JS} {e:Nat} {L sure asked:List Dc}
theorem Inv.Acy(h:Inv i s q e L sure asked)(hi:i<40)(hok:OkS c s)(keep:List Int):
  ∃ k s3 q3 Ls acts,k<=82/\FX (k+1) (50013+k*1213) (CF (C1 s) (namesS s.D) keep).D/\OkS (k+2) (CF (C1 s) (namesS s.D) keep)/\
   Cl (CF (C1 s) (namesS s.D) keep) (namesS (CF (C1 s) (namesS s.D) keep).D) 300=(s3,some q3,0)/\Opn (k+1) s3 q3 e Ls acts/\
   Inv (i+1) (AE s3 (namesS s3.D) q3 (stB (e+1) (Bx (BY Ls acts)))).1 (AE s3 (namesS s3.D) q3 (stB (e+1) (Bx (BY Ls acts)))).2.1 (e+1) (BY Ls acts) (Bx (BY Ls acts)) (Bx (BY Ls acts))/\
   QB 200 (i+1) (AE s3 (namesS s3.D) q3 (stB (e+1) (Bx (BY Ls acts)))).1 (AE s3 (namesS s3.D) q3 (stB (e+1) (Bx (BY Ls acts)))).2.1/\
   (∀ d∈sure,d∈BY Ls acts)/\(∀ d∈BY Ls acts,d∈asked)/\Uq (BY Ls acts)/\(BY Ls acts).length<=40:=by
 obtain ⟨k,hk,fx,s3,q3,ho,hku,hfu,L3,hp,hs1,hs2⟩:=h.AgB hi keep hok.safe;obtain ⟨L0,a,p1,p2,p3,p4,p5,p6,p7,p8⟩:=hp;have hpe:OS (q3.state,q3.l) e L3:=⟨L0,a,p1,p2,p3,p4,p5,p6,p7,p8⟩;have huq:=hpe.uq;have hlen:L3.length<=i:=Nat.le_trans (huq.len hs2) h.few;obtain ⟨ck,inv⟩:=Inv.opened (sure:=sure) hi hk hku hfu hpe hs2 h.few h.e1 h.e2;have hst:(stB (e+1) (Bx L3)).length<=50000:=by
  have:=KT (ep:=e+1) (FH huq).ok
  rw [DX] at this;omega
 have ok2:OkS (k+2) (CF (C1 s) (namesS s.D) keep):=Xu (s:=C1 s) (Mj hok) fx (by omega);obtain ⟨b1,b2,b3,b4,b5,b6⟩:=PF (i:=i+1) (by omega) hku hfu (by have:=Ym (names:=namesS (CF (C1 s) (namesS s.D) keep).D) (lim:=300) ok2;rw [ho] at this;exact this) hst;have p4:q3.l=a.map Say.rc:=p4;have hal:a.length<=82:=by rw [p4,List.length_map] at b5;exact b5
 have hal:a.length<=80:=by
  obtain ⟨_,_,_,_,_,f5,_⟩:=hku.facts (by omega);rw [p4,List.length_map] at f5;omega
 subst p6;refine ⟨k,s3,q3,Bx L0,a,by omega,fx,ok2,ho,⟨.inr ⟨p7,L0,p1,p2,p3,rfl⟩,p8,p4,p5,by rw [DX];omega,by omega,ck,b1,b2,b3,b4⟩,inv,b6,hs1,hs2,huq,by omega⟩
end
theorem T4:∃ s3 q3,Cl ⟨[],400000,0,false⟩ (namesS []) 300=(s3,some q3,0)/\Opn 1 s3 q3 0 [] []/\
  Inv 0 (AE s3 (namesS s3.D) q3 (stB (0+1) (Bx (BY [] [])))).1 (AE s3 (namesS s3.D) q3 (stB (0+1) (Bx (BY [] [])))).2.1 (0+1) [] [] []/\
  QB 200 0 (AE s3 (namesS s3.D) q3 (stB (0+1) (Bx (BY [] [])))).1 (AE s3 (namesS s3.D) q3 (stB (0+1) (Bx (BY [] [])))).2.1:=by
 obtain ⟨s3,q3,ho,hku,hok,hfu⟩:=T5 (limit:=300) (by decide);obtain ⟨n,_,_,_,_,_,_,_,_,_,_,hin,_⟩:=hku.facts (by omega);have hin:(q3.state,q3.l)=([],[]):=Ms.1 hin;have e1:q3.state=[]:=congrArg Prod.fst hin;have e2:q3.l=[]:=congrArg Prod.snd hin;have hku':KU 300 0 s3 q3 [(q3.state,q3.l)]:=by rw [hin];exact hku
 have hsn:Bx (BY [] [])=[]:=List.eq_nil_of_length_eq_zero (by rw [DX];rfl);have hst:(stB (0+1) (Bx (BY [] []))).length<=50000:=by
  have:=KT (ep:=0+1) (l:=Bx (BY [] [])) (by rw [hsn];simp)
  rw [DX] at this;exact Nat.le_trans this (by simp [HC])
 obtain ⟨c1,c2,c3,c4,c5⟩:=OE hku' hfu (by omega) hst;obtain ⟨af,_⟩:=Re hku' (by omega) hst;have hk1:=af c4;rw [if_pos c1] at hk1;obtain ⟨b1,b2,b3,b4,b5,b6⟩:=PF (i:=0) (by omega) hku' hfu ⟨_,hok⟩ hst;have past:IC ((AE s3 (namesS s3.D) q3 (stB (0+1) (Bx (BY [] [])))).2.1.state,(AE s3 (namesS s3.D) q3 (stB (0+1) (Bx (BY [] [])))).2.1.l) (0+1) []:=by
  rw [c2,c3];have hsn':Bx []=[]:=hsn
  have:=IC.fresh (e:=0+1) Uq.nil (by simp) (by omega) (by omega)
  exact ⟨_,this,by rw [hsn']⟩
 refine ⟨s3,q3,ho,⟨.inl ⟨e1,rfl,rfl⟩,by omega,by rw [e2];rfl,FC.nil _,by simp,by simp [HC],c1,b1,b2,b3,b4⟩,?_,b6⟩;refine ⟨⟨0+1,_,by omega,λp hp'=>?_,λ_=>⟨hk1,past,by simp⟩,λhx=>(by rw [c4] at hx;cases hx)⟩,Uq.nil,by simp,by simp,by omega,by omega⟩;rw [Ms.1 hp'];exact ⟨_,past,by simp,by simp⟩
end
section
open Go.Abs Go.Jr
variable {x v:Value} {n:Nat} {F S X X' Fl' Fr':List Nat}
structure AV where
 w:Nat
 d:DV
 n:Int
 kl:List Int
 ko:Option Addr
 kc:Nat
def AV.kv(a:AV):Value:=.slice a.ko a.kl.length a.kc
def AV.cells(a:AV):List Value:=.int .u8 (a.w:Int)::(fD a.d++[.int .i64 a.n,a.kv])
theorem etA:ET Tp 22 38 6 AV.cells:=⟨by kernel_rfl,by kernel_rfl,by kernel_rfl,⟨104,by kernel_rfl,by decide⟩,by kernel_rfl,λ_=>rfl,λ_=>rfl,λ_=>rfl⟩
def RdA(A:AW)(x:Value)(n:Nat)(l:List AV)(F:List Nat):Prop:=∃ o c,x=.slice o n c/\l.length<=n/\RdE 6 AV.cells A (.slice o l.length c) l F
theorem RdA.keeps{A A':AW}{l:List AV}(h:RdA A x n l F)(k:Ah A A' S)(hd:∀ y∈F,y∉S):RdA A' x n l F:=by
 obtain ⟨o,c,h1,h2,h3⟩:=h;exact ⟨o,c,h1,h2,h3.keeps k hd⟩
theorem RdA.len{A B:AW}{l:List AV}(h:RdA A x n l F):Bi Tp B 22 x=some (.int .i64 (n:Int)):=by
 obtain ⟨o,c,rfl,_,_⟩:=h;exact Ae0 _ _ _ _
theorem RdA.at{A:AW}{x:Value}{n:Nat}{l:List AV}{F:List Nat}(h:RdA A x n l F){i:Nat}{p:AV}(hi:l[i]? =some p):
  ∃ r o,Ar Tp 22 x (.int .i64 (i:Int))=some (pP r o)/\Ae Tp A 38 (pP r o)=some (.agg ⟨p.cells⟩):=by
 obtain ⟨o,c,rfl,h2,h3⟩:=h;have hlt:i<l.length:=(Gs.1 hi).1;obtain ⟨r,o',a1,a2,a3⟩:=h3.at etA hi;refine ⟨r,o',?_,a3⟩;rcases h3 with ⟨rfl,_⟩ | ⟨r2,o2,c2,cs,e,g,b,ro,hs,_⟩
 ·simp at hi
 ·simp only [Value.slice.injEq] at hs;obtain ⟨rfl,_,rfl⟩:=hs;rw [QT etA hlt] at a1;rw [QT etA (by omega)];exact a1
theorem AaT(A:AW)(n:Int)(k:IntKind):AQ Tp A 3 42 (.int k n)=.ok (.int .u64 (IntKind.u64.wrap n)) A:=by kernel_rfl
theorem AaS(A:AW)(n:Int)(k:IntKind):AQ Tp A 42 3 (.int k n)=.ok (.int .i64 (IntKind.i64.wrap n)) A:=by kernel_rfl
theorem AbU:Dt Tp 38=some (.agg #[.int .u8 0,.int .u32 0,.string .empty,.string .empty,.slice none 0 0,.int .i64 0,.slice none 0 0]):=by kernel_rfl
section
variable {W0:World} {m0:Inj Tp}
theorem wc7{A:AW}{a:AV}{K:Value->AW->Prop}(hf:Aw A)(hA:A.next<Aj)(hk:∀ A',Ah A A' []->A'.next=A.next+1->Aw A'->∀ b:Bool,(b=false->a.d.d.ps.length<=20/\a.kl.length<=20)->K (.bool b) A'):Wc Tp Al W0 m0 7 [.agg ⟨a.cells⟩] A K:=by
 refine w7 _ _ BD ?_;rw [e7];refine AZ (cs:=a.cells) hf hA rfl λA1 m1=>?_;have k1:=m1.keeps hf;have hr:=m1.Bk;simp only [Nc,E4,Vs,I5,PU,Af hr.row,AV.cells,fD,By,AV.kv,DV.sv,cellOf,List.cons_append,List.nil_append,CG,Cf,Ab,Nat.zero_add,AbB,AbA,B3];refine Ag.2 ⟨λh=>?_,λh=>?_⟩
 ·exact hk A1 k1 m1.next m1.Ay true λh=>by cases h
 ·refine hk A1 k1 m1.next m1.Ay _ λh2=>?_;simp only [decide_eq_false_iff_not] at h h2;omega
end
def LsO(A:AW)(X:List Nat)(v:Value)(M:List DV):Prop:=
 ∃ F,BF 35 3 fD A v M F/\(∀ y∈F,y∉X)/\∀ w∈M,(∀ a,w.o=some a->a.spot=none)/\EM A w X/\w.d.ps.length<=20
theorem EM.step{A A':AW}{w:DV}(h:EM A w X)(k:Ah A A' S)(hS:∀ y∈S,y∈X\/A.next<=y)(hX:∀ y∈X',y∈X\/A.next<=y):EM A' w X':=by
 obtain ⟨G,h1,h2⟩:=h;have hl:∀ y∈G,y<A.next:=h1.fam (A0:=A);refine ⟨G,h1.keeps k λy hy hm=>?_,λy hy hm=>?_⟩
 ·rcases hS y hm with h | h
  ·exact h2 y hy h
  ·have:=hl y hy;omega
 ·rcases hX y hm with h | h
  ·exact h2 y hy h
  ·have:=hl y hy;omega
theorem LsO.step{A A':AW}{M:List DV}(h:LsO A X v M)(k:Ah A A' S)(hS:∀ y∈S,y∈X\/A.next<=y)(hX:∀ y∈X',y∈X\/A.next<=y):LsO A' X' v M:=by
 obtain ⟨F,h1,h2,h3⟩:=h;have hl:∀ y∈F,y<A.next:=h1.lt;refine ⟨F,h1.keeps k λy hy hm=>?_,λy hy hm=>?_,λw hw=>⟨(h3 w hw).1,(h3 w hw).2.1.step k hS hX,(h3 w hw).2.2⟩⟩
 ·rcases hS y hm with h | h
  ·exact h2 y hy h
  ·have:=hl y hy;omega
 ·rcases hX y hm with h | h
  ·exact h2 y hy h
  ·have:=hl y hy;omega
theorem LsO.grow{A A':AW}{M:List DV}(h:LsO A X v M)(k:Ah A A' []):LsO A' X v M:=h.step k (by simp) λy hy=>.inl hy
theorem LsO.pts{A:AW}{M:List DV}(h:LsO A X v M):UQ A M/\∀ w∈M,w.d.ps.length<1000000:=by
 obtain ⟨F,h1,h2,h3⟩:=h;exact ⟨λw hw=>⟨(h3 w hw).1,(h3 w hw).2.1.imp λ_ h=>h.1⟩,λw hw=>by have:=(h3 w hw).2.2;omega⟩
theorem LsO.nil(A:AW)(X:List Nat):LsO A X (.slice none 0 0) []:=⟨[],BF.nil _,by simp,λ_ h=>(by cases h)⟩
section
variable {c i:Nat} {s:DS} {q:JS} {e:Nat} {L sure asked:List Dc}
theorem AcC(h:Inv i s q e L sure asked)(hi:i<40)(hq:QB c i s q){d:Dc}(hw:d.wf):QB (c+3) (i+1) (Ei s q L d).1 (Ei s q L d).2.1:=by
 obtain ⟨hdn,hup⟩:=h.flags;have h0:QB (c+3) (i+1) s q:=hq.more (by omega) (by omega);unfold Ei;split
 ·exact h0
 ·rename_i hc;have hc:Jk d.f d.g d.b d.ps=0:=by simpa using hc
  split
  ·exact h0
  ·rename_i hm;have hy:ok1 L (.com d):=⟨⟨hw,hc⟩,λhx=>hm (Dx.2 hx)⟩;have ha:=hq.append (r:=(1,d.by)) (λh=>(by cases h)) hdn hup λhe=>h.aku hi hy he;split
   ·exact ha.more (by omega) (by omega)
   ·split
    ·exact ha.sync
    ·exact ha.sync
theorem AcB(h:Inv i s q e L sure asked)(hi:i<40)(hq:QB c i s q){x:Nm}:QB (c+3) (i+1) (FU s q L x).1 (FU s q L x).2.1:=by
 obtain ⟨hdn,hup⟩:=h.flags;have h0:QB (c+3) (i+1) s q:=hq.more (by omega) (by omega);unfold FU;split
 ·exact h0
 ·rename_i hm;have hy:ok1 L (.fin x):=Dx.1 (by
   cases hq:(getD L x).isSome with
   |true=>rfl
   |false=>exact absurd hq hm)
  have ha:=hq.append (r:=(2,xnB x)) (λh=>(by cases h)) hdn hup λhe=>h.aku hi hy he;split
  ·exact ha.more (by omega) (by omega)
  ·exact ha.more (by omega) (by omega)
theorem Aai(hq:QB c i s q){n:Int}(hn:n<9223372036854775808):QB c i (HG s n) q:=⟨YS hq.ok hn,hq.l,hq.row,hq.last,hq.size,hq.lim⟩
end
structure LW (A0 A:AW) (d lg j mp pm i:Nat) (q:JS) (s:DS) (Fl Fr:List Nat) (e:Nat) (L:List DV) (sd ad:List Dc):Prop where
 m:CM A lg j d mp pm q s Fl Fr e L
 iv:Inv i s q e (L.map (·.d)) sd ad
 qb:QB (200+4*i) i s q
 sl:sd.length<=i
 new:∀ y∈lg::j::d::mp::pm::(Fl++Fr),A0.next<=y
 g:Glb A
 k:Ah A0 A []
 f:Aw A
section
variable {A0 A A':AW} {d lg j mp pm i e:Nat} {q:JS} {s:DS} {Fl Fr:List Nat} {L:List DV} {sd ad:List Dc}
theorem LW.grow(h:LW A0 A d lg j mp pm i q s Fl Fr e L sd ad)(k:Ah A A' [])(f:Aw A'):LW A0 A' d lg j mp pm i q s Fl Fr e L sd ad:=
 ⟨h.m.keeps k (by simp),h.iv,h.qb,h.sl,h.new,h.g.keeps k (by simp),h.k.trans k (by simp),f⟩
theorem LW.Dj(h:LW A0 A d lg j mp pm i q s Fl Fr e L sd ad)(hi:i<40){n:Int}(hn:n<9223372036854775808)(hd:Dk A' d mp (HG s n))(k:Ah A A' [d])(f:Aw A'):LW A0 A' d lg j mp pm (i+1) q (HG s n) Fl Fr e L sd ad:=by
 have kd:Ah A A' [d,mp]:=k.more (by simp);have hnew:=h.new;refine ⟨h.m.jdk (h.m.jd.GW kd hd) (k.more (by simp)) (λy hy=>.inl hy) (λy hy=>.inl hy),h.iv.Dj hi n,(Aai h.qb hn).more (by omega) (by omega),by have:=h.sl;omega,h.new,h.g.keeps k (by simp;exact h.m.n1.2.2.1),h.k.trans k λy hy=>.inr (hnew y (by simp at hy ⊢;exact .inr (.inr (.inl hy)))),f⟩
theorem LW.UH {dc:Dc} {L':List DV} (h:LW A0 A d lg j mp pm i q s Fl Fr e L sd ad) (hi:i<40) (hw:dc.wf) (hM:CM A' lg j d mp pm (Ei s q (L.map (·.d)) dc).2.1 (Ei s q (L.map (·.d)) dc).1 Fl' Fr' e L')
  (hL:L'.map (·.d)=(Ei s q (L.map (·.d)) dc).2.2.1) (hg:Glb A') (hF:∀ y∈Fl'++Fr',y∈Fl++Fr\/A.next<=y) (k:Ah A A' (j::d::mp::pm::(Fl++Fr))) (f:Aw A'):
  LW A0 A' d lg j mp pm (i+1) (Ei s q (L.map (·.d)) dc).2.1 (Ei s q (L.map (·.d)) dc).1 Fl' Fr' e L' (if (Ei s q (L.map (·.d)) dc).2.2.2=0 then sd++[dc] else sd) (ad++[dc]):=by
 have hk0:=h.k.next;have hnew:=h.new;refine ⟨hM,by rw [hL];exact h.iv.UH hi hw,(AcC h.iv hi h.qb hw).more (by omega) (Nl _),by have:=h.sl;split<;>simp<;>omega,?_,hg,h.k.trans k λy hy=>.inr (hnew y (List.mem_cons_of_mem _ hy)),f⟩;intro y hy;simp only [Mk] at hy;rcases hy with hy | hy | hy | hy | hy | hy
 ·exact hnew y (by simp [hy])
 ·exact hnew y (by simp [hy])
 ·exact hnew y (by simp [hy])
 ·exact hnew y (by simp [hy])
 ·exact hnew y (by simp [hy])
 ·rcases hF y hy with h | h
  ·exact hnew y (by simp only [Mk];exact .inr (.inr (.inr (.inr (.inr h)))))
  ·omega
theorem LW.fin {x:Nm} {L':List DV} (h:LW A0 A d lg j mp pm i q s Fl Fr e L sd ad) (hi:i<40) (hM:CM A' lg j d mp pm (FU s q (L.map (·.d)) x).2.1 (FU s q (L.map (·.d)) x).1 Fl' Fr' e L')
  (hL:L'.map (·.d)=(FU s q (L.map (·.d)) x).2.2.1) (hg:Glb A') (hF:∀ y∈Fl'++Fr',y∈Fl++Fr\/A.next<=y) (k:Ah A A' (j::d::mp::pm::(Fl++Fr))) (f:Aw A'):
  LW A0 A' d lg j mp pm (i+1) (FU s q (L.map (·.d)) x).2.1 (FU s q (L.map (·.d)) x).1 Fl' Fr' e L' (sd.filter λd=>!CL x d.x) ad:=by
 have hk0:=h.k.next;have hnew:=h.new;refine ⟨hM,by rw [hL];exact h.iv.fin hi x,(AcB h.iv hi h.qb).more (by omega) (Nl _),by have:=h.sl;have:=List.length_filter_le (λd:Dc=>!CL x d.x) sd;omega,?_,hg,h.k.trans k λy hy=>.inr (hnew y (List.mem_cons_of_mem _ hy)),f⟩;intro y hy;simp only [Mk] at hy;rcases hy with hy | hy | hy | hy | hy | hy
 ·exact hnew y (by simp [hy])
 ·exact hnew y (by simp [hy])
 ·exact hnew y (by simp [hy])
 ·exact hnew y (by simp [hy])
 ·exact hnew y (by simp [hy])
 ·rcases hF y hy with h | h
  ·exact hnew y (by simp only [Mk];exact .inr (.inr (.inr (.inr (.inr h)))))
  ·omega
end
variable {A A':AW} {q i k:Nat} {vals:List Value} {dd:Nat->Value}
theorem AcG(a:Addr)(xo yo:Operand):An Tp .eql 25 xo yo (.pointer (some a)) (.pointer none)=some (.bool false):=by kernel_rfl
theorem VJ(f:Nat)(g b:ByteArray)(o:Option Addr)(n c:Nat):Bd Tp 35 [(0,.agg ⟨[.int .u32 (f:Int),.string g,.string b]⟩),(1,.slice o n c)]=some (Fh f g b (.slice o n c)):=by kernel_rfl
theorem AcQ{a:AV}(h:Abs.Row1 A q a.cells 38):Ae Tp A 38 (pP q 0)=some (.agg ⟨a.cells⟩):=by
 rw [Ae4,Bc h.row];simp [AV.cells,fD,By,AV.kv,DV.sv,Bh,AI,AG,CG]
theorem AaC{a:AV}(h:Abs.Row1 A q a.cells 38):Ae Tp A 35 (pP q 1)=some (vD a.d):=by
 rw [AbF,Bc h.row];simp [AV.cells,fD,By,AV.kv,DV.sv,Bh,AI,AG,CG,vD,Fh]
theorem M8{a:AV}(h:Abs.Row1 A q a.cells 38):Ae Tp A 32 (pP q 1)=some (.agg ⟨a.d.d.x.cells⟩):=by
 rw [EH,Bc h.row];simp [AV.cells,fD,By,AV.kv,DV.sv,Bh,AI,AG,CG,Dc.x,Nm.cells]
theorem Aaz{a:AV}(h:Abs.Row1 A q a.cells 38):Ae Tp A 33 (pP q 4)=some a.d.sv:=by
 rw [I5,Af h.row];rfl
theorem AaB{a:AV}(h:Abs.Row1 A q a.cells 38):Ae Tp A 36 (pP q 6)=some a.kv:=by
 rw [PU,Af h.row];rfl
theorem AaA{a:AV}(h:Abs.Row1 A q a.cells 38):Ae Tp A 3 (pP q 5)=some (.int .i64 a.n):=by
 rw [GL,Af h.row];rfl
theorem Aay{a:AV}(h:Abs.Row1 A q a.cells 38):Ae Tp A 5 (pP q 0)=some (.int .u8 (a.w:Int)):=by
 rw [L9,Af h.row];rfl
theorem Z6 {t:Nat} {a:AV} {K:AW->Prop} {zs:List Value} (h:Abs.Row1 A t zs 38) (hz:zs.length=7) (hf:Aw A) (hA:A.next<=Aj)
  (hk:∀ A',Abs.Row1 A' t a.cells 38->Ah A A' [t]->A'.next=A.next->Aw A'->K A'):Be (Av Tp A 38 (pP t 0) (.agg ⟨a.cells⟩)) K:=by
 have hset:Gg zs 0 (Value.cells (.agg ⟨a.cells⟩)).toList=a.cells:=by
  match zs,hz with
  |[z0,z1,z2,z3,z4,z5,z6],_=>rfl
 refine h.store hf hA (Aex _ _ _) rfl (by rw [hz];exact Nl 7) rfl λA1 t1 k1 n1 f1=>?_;rw [hset] at t1;exact hk A1 t1 k1 n1 f1
section
variable (A0:AW) (va:Value) (acts:List AV)
def P0(i:Nat)(vals:List Value)(A':AW):Prop:=
 ∃ (d lg j mp pm e:Nat) (q:JS) (s:DS) (Fl Fr:List Nat) (L:List DV) (sv av:Value) (SU AS:List DV),vals=[va,ptr d,ptr lg,sv,av,.int .i64 (i:Int)]/\
  LW A0 A' d lg j mp pm i q s Fl Fr e L (SU.map (·.d)) (AS.map (·.d))/\LsO A' (lg::j::d::mp::pm::1::(Fl++Fr)) sv SU/\LsO A' (lg::j::d::mp::pm::1::(Fl++Fr)) av AS/\
  A'.next<=A0.next+500000000*(i+1)/\i<=acts.length/\i<=40
def P3(i k:Nat)(vals:List Value)(A':AW):Prop:=
 ∃ (d lg j mp pm e:Nat) (q:JS) (s:DS) (Fl Fr:List Nat) (L:List DV) (sv av nv:Value) (SU AS M:List DV),vals=[va,ptr d,ptr lg,sv,av,.int .i64 (i:Int),nv,.int .i64 (k:Int)]/\
  LW A0 A' d lg j mp pm (i+1) q s Fl Fr e L (M.map (·.d)) (M.map (·.d))/\LsO A' (lg::j::d::mp::pm::1::(Fl++Fr)) sv SU/\LsO A' (lg::j::d::mp::pm::1::(Fl++Fr)) av AS/\LsO A' (lg::j::d::mp::pm::1::(Fl++Fr)) nv M/\
  (∀ w∈SU,w.d∈M.map (·.d))/\(∀ w∈M,w.d∈AS.map (·.d))/\A'.next<=A0.next+500000000*(i+1)+450000000+100*k/\i<acts.length/\i<40/\k<=SU.length/\SU.length<=40/\AS.length<=40
def P5(i k:Nat)(vals:List Value)(A':AW):Prop:=
 ∃ (d lg j mp pm e:Nat) (q:JS) (s:DS) (Fl Fr:List Nat) (L:List DV) (av nv:Value) (AS M:List DV),vals=[va,ptr d,ptr lg,av,.int .i64 (i:Int),nv,.int .i64 (k:Int)]/\
  LW A0 A' d lg j mp pm (i+1) q s Fl Fr e L (M.map (·.d)) (M.map (·.d))/\LsO A' (lg::j::d::mp::pm::1::(Fl++Fr)) av AS/\LsO A' (lg::j::d::mp::pm::1::(Fl++Fr)) nv M/\
  (∀ w∈M,w.d∈AS.map (·.d))/\A'.next<=A0.next+500000000*(i+1)+450010000+100*k/\i<acts.length/\i<40/\k<=M.length/\AS.length<=40
def P7(i k:Nat)(vals:List Value)(A':AW):Prop:=
 ∃ (B:AW) (d lg j mp pm e t:Nat) (q:JS) (s:DS) (Fl Fr:List Nat) (L:List DV) (sv av lv:Value) (SU AS:List DV) (F:List Nat) (a:AV),vals=[va,ptr d,ptr lg,sv,av,.int .i64 (i:Int),ptr t,lv,.int .i64 (k:Int)]/\
  LW A0 B d lg j mp pm i q s Fl Fr e L (SU.map (·.d)) (AS.map (·.d))/\LsO B (lg::j::d::mp::pm::1::(Fl++Fr)) sv SU/\LsO B (lg::j::d::mp::pm::1::(Fl++Fr)) av AS/\
  Abs.Row1 B t a.cells 38/\BF 35 3 fD A' lv ((SU.take k).filter λw=>!CL w.d.x a.d.d.x) F/\(∀ y∈F,B.next<=y)/\Ah B A' []/\Aw A'/\
  A'.next<=A0.next+500000000*(i+1)+100000+10*k/\i<acts.length/\i<40/\k<=SU.length
def IL(g id:Nat)(vals:List Value)(A':AW):Prop:=
 (id=0/\∃ i,P0 A0 va acts i vals A'/\g=(acts.length-i)*1000)\/(id=3/\∃ i k,P3 A0 va acts i k vals A'/\g=(acts.length-i)*1000-100-k)\/
 (id=5/\∃ i k,P5 A0 va acts i k vals A'/\g=(acts.length-i)*1000-300-k)\/(id=7/\∃ i k,P7 A0 va acts i k vals A'/\g=(acts.length-i)*1000-100-k)
structure TC (W0:World) (m0:Inj Tp):Prop where
 rd:∃ n F,RdA A0 va n acts F/\acts.length=min n 40
 each:∀ a∈acts,a.d.d.wf/\a.w<256/\EM A0 a.d [1]/\∃ F,RdE 0 fZ A0 a.kv a.kl F
 g:Glb A0
 f:Aw A0
 n:A0.next<1000000000
 pow:Pow W0
 e:Jw W0
 hd:KC.Holds Tp W0 m0 ⟨8,[],[.bool true]⟩
end
section
variable {A0:AW} {va:Value} {acts:List AV} {W0:World} {m0:Inj Tp}
theorem Aes(h:P5 A0 va acts i k vals A')(hn:A0.next<1000000000)(hd':(L3 5).map dd=vals):
  gL W0 m0 (λid vals A=>∃ g',g'<(acts.length-i)*1000-300-k/\IL A0 va acts g' id vals A) (λv _=>v=.bool true) 3 182 T3 L3 dd 5 A':=by
 have hmax:Aj=1099511627776:=rfl;obtain ⟨d,lg,j,mp,pm,e,q,s,Fl,Fr,L,av,nv,AS,M,rfl,lw,la,lm,hsub,hnx,hi,hi40,hk,hAS⟩:=h;rw [AhG];simp only [L3,Mc,Mn,Li,and_true] at hd';obtain ⟨h0,h3,h4,h7,h8,h12,h14⟩:=hd';rw [h0,h3,h4,h7,h8,h12,h14];obtain ⟨F,o1,o2,o3⟩:=lm;have lm:LsO A' (lg::j::d::mp::pm::1::(Fl++Fr)) nv M:=⟨F,o1,o2,o3⟩;have rd:=BF.rd etD.len o1;rw [RdE.len etD rd];simp only [Br,Ab,Az];have hM:M.length<=41:=by have:=lw.sl;rw [List.length_map] at this;omega
 refine ⟨λhlt=>?_,λhge=>?_⟩
 ·have hlt:k<M.length:=by omega
  obtain ⟨z,hz⟩:∃ z,M[k]? =some z:=⟨_,Ge hlt⟩;have hzM:z∈M:=List.mem_of_getElem? hz;obtain ⟨r,o,a1,a2,a3,a4⟩:=atD rd hz;rw [a1];simp only [Ab,a2];obtain ⟨F2,p1,p2,p3⟩:=la;have la:LsO A' (lg::j::d::mp::pm::1::(Fl++Fr)) av AS:=⟨F2,p1,p2,p3⟩;refine Ad7 p1 (by omega) la.pts.1 (λy hy=>by rw [Ms.1 hy];exact lm.pts.1 z hzM) la.pts.2 lw.f (by omega) λA1 b hb k1 n1 f1=>?_;have hbt:b=true:=hb.2 (hsub z hzM);subst hbt;simp only [Bl,Ab];refine Ag.2 ⟨λh=>by simp at h,λ_=>?_⟩;rw [Bm,wrap_i64 (by omega) (by omega)];simp only [Ab];exact Au.2 ⟨(acts.length-i)*1000-300-(k+1),by omega,.inr (.inr (.inl ⟨rfl,i,k+1,⟨d,lg,j,mp,pm,e,q,s,Fl,Fr,L,av,nv,AS,M,rfl,lw.grow k1 f1,la.grow k1,lm.grow k1,hsub,by omega,hi,hi40,by omega,hAS⟩,rfl⟩))⟩
 ·rw [Bm,wrap_i64 (by omega) (by omega)];simp only [Ab];exact Au.2 ⟨(acts.length-(i+1))*1000,by omega,.inl ⟨rfl,i+1,⟨d,lg,j,mp,pm,e,q,s,Fl,Fr,L,nv,nv,M,M,rfl,lw,lm,lm,by omega,by omega,by omega⟩,rfl⟩⟩
theorem Aet(h:P3 A0 va acts i k vals A')(hn:A0.next<1000000000)(hd':(L3 3).map dd=vals):
  gL W0 m0 (λid vals A=>∃ g',g'<(acts.length-i)*1000-100-k/\IL A0 va acts g' id vals A) (λv _=>v=.bool true) 3 182 T3 L3 dd 3 A':=by
 have hmax:Aj=1099511627776:=rfl;obtain ⟨d,lg,j,mp,pm,e,q,s,Fl,Fr,L,sv,av,nv,SU,AS,M,rfl,lw,ls,la,lm,hs1,hsub,hnx,hi,hi40,hk,hSU,hAS⟩:=h;rw [AhH];simp only [L3,Mc,Mn,Li,and_true] at hd';obtain ⟨h0,h3,h4,h6,h7,h8,h12,h13⟩:=hd';rw [h0,h3,h4,h6,h7,h8,h12,h13];obtain ⟨F,o1,o2,o3⟩:=ls;have ls:LsO A' (lg::j::d::mp::pm::1::(Fl++Fr)) sv SU:=⟨F,o1,o2,o3⟩;have rd:=BF.rd etD.len o1;rw [RdE.len etD rd];simp only [Br,Ab,Az];have hM:M.length<=41:=by have:=lw.sl;rw [List.length_map] at this;omega
 refine ⟨λhlt=>?_,λhge=>?_⟩
 ·have hlt:k<SU.length:=by omega
  obtain ⟨z,hz⟩:∃ z,SU[k]? =some z:=⟨_,Ge hlt⟩;have hzM:z∈SU:=List.mem_of_getElem? hz;obtain ⟨r,o,a1,a2,a3,a4⟩:=atD rd hz;rw [a1];simp only [Ab,a2];obtain ⟨F2,p1,p2,p3⟩:=lm;have lm:LsO A' (lg::j::d::mp::pm::1::(Fl++Fr)) nv M:=⟨F2,p1,p2,p3⟩;refine Ad7 p1 (by omega) lm.pts.1 (λy hy=>by rw [Ms.1 hy];exact ls.pts.1 z hzM) lm.pts.2 lw.f (by omega) λA1 b hb k1 n1 f1=>?_;have hbt:b=true:=hb.2 (hs1 z hzM);subst hbt;simp only [Bl,Ab];refine Ag.2 ⟨λh=>by simp at h,λ_=>?_⟩;rw [Bm,wrap_i64 (by omega) (by omega)];simp only [Ab];exact Au.2 ⟨(acts.length-i)*1000-100-(k+1),by omega,.inr (.inl ⟨rfl,i,k+1,⟨d,lg,j,mp,pm,e,q,s,Fl,Fr,L,sv,av,nv,SU,AS,M,rfl,lw.grow k1 f1,ls.grow k1,la.grow k1,lm.grow k1,hs1,hsub,by omega,hi,hi40,by omega,hSU,hAS⟩,rfl⟩)⟩
 ·have hk2:k<=40:=Nat.le_trans hk hSU;have hb:A'.next<=A0.next+500000000*(i+1)+450010000:=Nat.le_trans hnx (by clear hnx;omega);have h5:∀ z:Nat,z=0->P5 A0 va acts i z [va,ptr d,ptr lg,av,.int .i64 (i:Int),nv,.int .i64 (z:Int)] A':=λz hz=>⟨d,lg,j,mp,pm,e,q,s,Fl,Fr,L,av,nv,AS,M,rfl,lw,la,lm,hsub,Nat.le_trans hb (Nat.le_add_right _ _),hi,hi40,by omega,hAS⟩;exact Au.2 ⟨(acts.length-i)*1000-300-0,by omega,.inr (.inr (.inl ⟨rfl,i,0,h5 0 rfl,rfl⟩))⟩
end
theorem Wv(p q:Nm):CL p q=CL q p:=by
 rw [Bool.eq_iff_iff,CK,CK];exact ⟨λh=>h.symm,λh=>h.symm⟩
theorem YF(x:Nm)(SU:List DV):(SU.filter λw=>!CL w.d.x x).map (·.d)=(SU.map (·.d)).filter λd=>!CL x d.x:=by
 rw [List.filter_map]
 congr 1
 refine List.filter_congr λw _=>?_;rw [Wv];rfl
theorem Zy{lg j d mp pm n:Nat}{Fl Fr Fl' Fr':List Nat}(hF:∀ y∈Fl'++Fr',y∈Fl++Fr\/n<=y):∀ y∈lg::j::d::mp::pm::1::(Fl'++Fr'),y∈lg::j::d::mp::pm::1::(Fl++Fr)\/n<=y:=by
 intro y hy;simp only [Mk] at hy ⊢;rcases hy with h | h | h | h | h | h | h
 ·exact .inl (.inl h)
 ·exact .inl (.inr (.inl h))
 ·exact .inl (.inr (.inr (.inl h)))
 ·exact .inl (.inr (.inr (.inr (.inl h))))
 ·exact .inl (.inr (.inr (.inr (.inr (.inl h)))))
 ·exact .inl (.inr (.inr (.inr (.inr (.inr (.inl h))))))
 ·rcases hF y h with h | h
  ·exact .inl (.inr (.inr (.inr (.inr (.inr (.inr h))))))
  ·exact .inr h
theorem UP{lg j d mp pm n:Nat}{Fl Fr:List Nat}:∀ y∈j::d::mp::pm::(Fl++Fr),y∈lg::j::d::mp::pm::1::(Fl++Fr)\/n<=y:=by
 intro y hy;simp only [Mk] at hy ⊢;rcases hy with h | h | h | h | h
 ·exact .inl (.inr (.inl h))
 ·exact .inl (.inr (.inr (.inl h)))
 ·exact .inl (.inr (.inr (.inr (.inl h))))
 ·exact .inl (.inr (.inr (.inr (.inr (.inl h)))))
 ·exact .inl (.inr (.inr (.inr (.inr (.inr (.inr h))))))
section
variable {A0:AW} {va:Value} {acts:List AV} {W0:World} {m0:Inj Tp} [Nfl m0]
theorem Aer{i k:Nat}{vals:List Value}{A':AW}{dd:Nat->Value}(h:P7 A0 va acts i k vals A')(hG:TC A0 va acts W0 m0)(hd':(L3 7).map dd=vals):
  gL W0 m0 (λid vals A=>∃ g',g'<(acts.length-i)*1000-100-k/\IL A0 va acts g' id vals A) (λv _=>v=.bool true) 3 182 T3 L3 dd 7 A':=by
 have hmax:Aj=1099511627776:=rfl;have hn:=hG.n;obtain ⟨B,d,lg,j,mp,pm,e,t,q,s,Fl,Fr,L,sv,av,lv,SU,AS,F,a,rfl,lw,ls,la,ht,hlv,hF,kB,f,hnx,hi,hi40,hk⟩:=h;rw [AhF];simp only [L3,Mc,Mn,Li,and_true] at hd';obtain ⟨h0,h3,h4,h6,h7,h8,h9,h15,h16⟩:=hd';rw [h0,h3,h4,h6,h7,h8,h9,h15,h16];have hSU:SU.length<=40:=by have:=lw.sl;rw [List.length_map] at this;omega
 have lsA:=ls.grow kB;obtain ⟨F1,o1,o2,o3⟩:=lsA;have rd:=BF.rd etD.len o1;have htA:=ht.keeps kB (by simp);have hB:=kB.next;rw [RdE.len etD rd];simp only [Br,Ab,Az];refine ⟨λhlt=>?_,λhge=>?_⟩
 ·have hlt:k<SU.length:=by omega
  obtain ⟨z,hz⟩:∃ z,SU[k]? =some z:=⟨_,Ge hlt⟩;have hzM:z∈SU:=List.mem_of_getElem? hz;obtain ⟨r,o,a1,a2,a3,a4⟩:=atD rd hz;rw [a1];simp only [Ab,Er,a3,ptr,Nc,Nat.zero_add];rw [M8 htA];simp only [Ab];rw [AeV];simp only [Ab];have htk:(SU.take (k+1)).filter (λw=>!CL w.d.x a.d.d.x)=(SU.take k).filter (λw=>!CL w.d.x a.d.d.x)++if (!CL z.d.x a.d.d.x)=true then [z] else []:=by
   rw [B9 hz,List.filter_append]
   congr 1
   cases hq:CL z.d.x a.d.d.x<;>simp [List.filter,hq]
  refine Ag.2 ⟨λhb=>?_,λhb=>?_⟩
  ·rw [a2];simp only [Ab];refine Sk f (by omega) λA1 m1=>?_;have n1:=m1.next;have k1:=m1.keeps f;have hll:((SU.take k).filter λw=>!CL w.d.x a.d.d.x).length<100000000:=by
    have:=List.length_filter_le (λw:DV=>!CL w.d.x a.d.d.x) (SU.take k)
    rw [List.length_take] at this;omega
   refine BF.append etD (hlv.keeps k1 (by simp)) m1.Bk m1.Ay (by omega) hll λv2 A2 F2 o2' k2 hF2 n2 f2=>?_;rw [Bm,wrap_i64 (by omega) (by omega)];simp only [Ab];have K2:Ah B A2 []:=(kB.trans k1 (by simp)).trans k2 λy hy=>.inr (hF y hy);refine Au.2 ⟨(acts.length-i)*1000-100-(k+1),by omega,.inr (.inr (.inr ⟨rfl,i,k+1,⟨B,d,lg,j,mp,pm,e,t,q,s,Fl,Fr,L,sv,av,v2,SU,AS,F2,a,rfl,lw,ls,la,ht,?_,?_,K2,f2,by omega,hi,hi40,by omega⟩,rfl⟩))⟩
   ·rw [htk,if_pos hb];exact o2'
   ·intro y hy;rcases hF2 y hy with h | h
    ·exact hF y h
    ·omega
  ·rw [Bm,wrap_i64 (by omega) (by omega)];simp only [Ab];refine Au.2 ⟨(acts.length-i)*1000-100-(k+1),by omega,.inr (.inr (.inr ⟨rfl,i,k+1,⟨B,d,lg,j,mp,pm,e,t,q,s,Fl,Fr,L,sv,av,lv,SU,AS,F,a,rfl,lw,ls,la,ht,?_,hF,kB,f,by omega,hi,hi40,by omega⟩,rfl⟩))⟩;rw [htk,Ff (by rw [hb];simp),List.append_nil];exact hlv
 ·have hk':k=SU.length:=by omega
  subst hk';rw [List.take_length] at hlv;simp only [ptr,Nc,Er,Nat.zero_add,Ab];rw [M8 htA];simp only [Ab];have lwA:=lw.grow kB f;have laA:=la.grow kB;have llA:LsO A' (lg::j::d::mp::pm::1::(Fl++Fr)) lv (SU.filter λw=>!CL w.d.x a.d.d.x):=by
   have hpr:=lw.m.Sb;refine ⟨F,hlv,λy hy hm=>?_,λw hw=>?_⟩
   ·have:=hpr y hm
    have:=hF y hy
    omega
   ·exact o3 w (List.mem_filter.1 hw).1
  have hJ:Jok W0 m0 A' (200+4*i) i s q:=⟨lwA.g,lw.qb,by omega,λn hn=>I6 hG.pow hn⟩;refine Ab7 (x:=a.d.d.x) lwA.m lw.iv.uq (by omega) (λhx he=>lw.iv.q6 hi40 lw.qb (by omega) (y:=.fin a.d.d.x) hx he) hJ f (by omega) λA1 Fl' Fr' L' hM hL hg hF' k1 n1 f1=>?_;rw [Bm,wrap_i64 (by omega) (by omega)];simp only [Ab];have lw1:=lwA.fin hi40 hM hL hg hF' k1 f1;rw [<- YF] at lw1;exact Au.2 ⟨(acts.length-(i+1))*1000,by omega,.inl ⟨rfl,i+1,⟨d,lg,j,mp,pm,e,_,_,Fl',Fr',L',lv,av,_,AS,rfl,lw1,llA.step k1 UP (Zy hF'),laA.step k1 UP (Zy hF'),by omega,by omega,by omega⟩,rfl⟩⟩
end
section
variable {A0:AW} {va:Value} {acts:List AV} {W0:World} {m0:Inj Tp} [Nfl m0]
theorem YQ(hG:TC A0 va acts W0 m0)(A:AW):knW Tp W0 m0 8 [] A λv _=>v=.bool true:=
 Iy (show (8:Nat)≠Et by decide) hG.hd rfl rfl
theorem Wj:∀ i,i<100->(Jr.nm i).length<100000000:=by decide+kernel
theorem Aeo(x:Int): -8<x.tmod 8/\x.tmod 8<8:=⟨Int.lt_tmod_of_pos x (by decide),Int.tmod_lt_of_pos x (by decide)⟩
theorem Aeu{i:Nat}{vals:List Value}{A':AW}{dd:Nat->Value}(h:P0 A0 va acts i vals A')(hG:TC A0 va acts W0 m0)(hd':(L3 0).map dd=vals):
  gL W0 m0 (λid vals A=>∃ g',g'<(acts.length-i)*1000/\IL A0 va acts g' id vals A) (λv _=>v=.bool true) 3 182 T3 L3 dd 0 A':=by
 have hmax:Aj=1099511627776:=rfl;have hn:=hG.n;obtain ⟨d,lg,j,mp,pm,e,q,s,Fl,Fr,L,sv,av,SU,AS,rfl,lw,ls,la,hnx,hi,hi40⟩:=h;rw [AhI];simp only [L3,Mc,Mn,Li,and_true] at hd';obtain ⟨h0,h3,h4,h6,h7,h8⟩:=hd';rw [h0,h3,h4,h6,h7,h8];obtain ⟨N,Fa,ra,hN40⟩:=hG.rd;have raA:=ra.keeps lw.k (by simp);rw [RdA.len raA];simp only [Br,Ab,Az];refine ⟨λhlt=>⟨λhlt4=>?_,λ_=>YQ hG _⟩,λ_=>YQ hG _⟩;have hlt:i<acts.length:=by omega
 have hi4:i<40:=by omega
 obtain ⟨a,ha⟩:∃ a,acts[i]? =some a:=⟨_,Ge hlt⟩;have haM:a∈acts:=List.mem_of_getElem? ha;obtain ⟨hwf,hw256,hpa,Fk,hka⟩:=hG.each a haM;obtain ⟨r,o,a1,a3⟩:=raA.at ha;rw [a1];simp only [Ab,a3];refine AH AbU lw.f (by omega) rfl λA1 m1=>?_;have n1:=m1.next;have k1:=m1.keeps lw.f;refine Z6 (a:=a) m1.Bk rfl m1.Ay (by omega) λA2 t2 k2 n2 f2=>?_;have K2:Ah A' A2 []:=k1.trans k2 (by simp);rw [AcQ t2];simp only [Ab];refine wc7 f2 (by omega) λA3 k3 n3 f3 b hb=>?_;have K3:Ah A' A3 []:=K2.trans k3 (by simp);refine Ag.2 ⟨λ_=>YQ hG _,λhbf=>?_⟩;obtain ⟨hps,hkl⟩:=hb hbf;have t3:=t2.keeps k3 (by simp);have lw3:=lw.grow K3 f3;have ls3:=ls.grow K3;have la3:=la.grow K3;have hpr:=lw3.m.Sb;have hnew:=lw3.new;have hk0:=lw3.k.next;have hSl:SU.length<=i:=by have:=lw.sl;rwa [List.length_map] at this
 have hAl:AS.length<=i:=by have:=lw.iv.few;rwa [List.length_map] at this
 simp only [AaN,Ab];rw [Aay t3];simp only [Ab];rw [VI (by decide)];simp only [Ab,B8,JR];refine Cg.2 ⟨λ_=>?_,λ_=>?_⟩
 ·
  simp only [AaM,Ab,Nat.zero_add];rw [AaA t3];simp only [Ab,AaT,AT];rw [VI (by decide)];simp only [Ab,AaS,AT,Bm];have h8:=Aeo (IntKind.u64.wrap a.n);have e8:IntKind.i64.wrap ((IntKind.u64.wrap a.n).tmod 8)=(IntKind.u64.wrap a.n).tmod 8:=wrap_i64 (by omega) (by omega);have e9:IntKind.i64.wrap (1+(IntKind.u64.wrap a.n).tmod 8)=1+(IntKind.u64.wrap a.n).tmod 8:=wrap_i64 (by omega) (by omega);have e10:IntKind.i64.wrap ((i:Int)+1)=(i:Int)+1:=wrap_i64 (by omega) (by omega);rw [e8,e9,e10];refine wc9 lw3.m.jd.dk f3 (by omega) λA4 d4 k4 n4 f4=>?_;have lw4:=lw3.Dj hi4 (n:=1+(IntKind.u64.wrap a.n).tmod 8) (by omega) d4 k4 f4;have hS:∀ y∈[d],y∈lg::j::d::mp::pm::1::(Fl++Fr)\/A3.next<=y:=λy hy=>by rw [Ms.1 hy];exact .inl (by simp)
  exact Au.2 ⟨(acts.length-(i+1))*1000,by omega,.inl ⟨rfl,i+1,⟨d,lg,j,mp,pm,e,q,_,Fl,Fr,L,sv,av,SU,AS,rfl,lw4,ls3.step k4 hS λy hy=>.inl hy,la3.step k4 hS λy hy=>.inl hy,by omega,by omega,by omega⟩,rfl⟩⟩
 ·simp only [Az];refine ⟨λ_=>?_,λ_=>?_⟩
  ·
   refine Aej lw3.m.jd.dk f3 (by omega) λA4 d4 k4 n4 f4=>?_;obtain ⟨hlgA,hjA,hdA,hmpA,hpmA,_,_⟩:=lw.m.lt;have hd0:A0.next<=d:=hnew d (by simp);have hmp0:A0.next<=mp:=hnew mp (by simp);have t4:=t3.keeps k4 (by simp;omega);simp only [Vs,Ab,Nat.zero_add];rw [AaB t4];simp only [Ab];have K04:Ah A0 A4 []:=lw3.k.trans k4 λy hy=>by rw [Ms.1 hy];exact .inr hd0
   have hkA:=hka.keeps K04 (by simp);have hFk:∀ y∈Fk,y<A0.next:=hka.fam;have hfew:=lw.qb.ok.few;have hfew':(C1 s).D.length<=200+4*i:=hfew;refine Aeg d4 rfl ((Mj lw.qb.ok).d (by omega)) hkA (λy hy=>by have:=hFk y hy;omega) f4 (by omega) λA5 d5 k5 n5 f5=>?_;have n5:A5.next<=A4.next+3000:=by omega
   have l5:=k5.next;have hne:=lw3.m.ne;have row5:=(lw3.m.row.keeps k4 (by simp;omega)).keeps k5 (by simp;omega);refine ZX row5 rfl ?_;obtain ⟨k,s3,q3,Ls,acs,hk,fx,ok2,ho,hO,inv,qb',hs1,hs2,huq,hl⟩:=lw.iv.Acy hi4 lw.qb.ok a.kl;have k35:Ah A3 A5 [d,mp]:=(k4.more (by simp)).trans k5 λy hy=>.inl hy;have hn1:=lw3.m.n1;have h1dm:1∉[d,mp]:=by simp;omega
   have hkL:(k+2)*(50013+k*1213)<12900000:=Nat.lt_of_le_of_lt (Nat.mul_le_mul (show k+2<=84 by omega) (show 50013+k*1213<=149479 by omega)) (by decide);refine wc6 (k9:=k+2) (LL:=50013+k*1213) d5 (lw3.g.keeps k35 h1dm) ok2 (by omega) fx.lens (by omega) hkL f5 (by omega) ⟨hn1.2.2.1,hn1.2.2.2.1⟩ (by obtain ⟨_,_,_,_,hh,_⟩:=lw3.m.jd.dk;exact λh=>hh h.symm) (λf hf=>Afu hG.e hG.pow ?_) (λn hn=>I6 hG.pow hn) (λx hx=>by have:=fx.segs x hx;omega) ho hO λA6 lg' j' pm' Fl' Fr' L' H6 hL6 g6 fr6 k6 n6 f6=>?_
   ·rcases fx.names f hf with rfl | ⟨n,h1,h2,rfl⟩
    ·decide
    ·exact Wj n (by omega)
   simp only [Ap,List.getElem?_cons_zero,List.getElem?_cons_succ,Ab,Bw];refine Ag.2 ⟨λh=>by simp at h,λ_=>?_⟩;rw [ptr,AcG];simp only [Ab];refine Ag.2 ⟨λh=>by simp at h,λ_=>?_⟩;refine ZX H6.row rfl ?_;simp only [Rk,Ab,Az];refine ⟨λh=>absurd h (by omega),λ_=>?_⟩;refine Aef H6 (by rw [hL6];exact huq) (by have h1:=congrArg List.length hL6;rw [List.length_map] at h1;omega) f6 (by omega) λA7 nv M F o7 hM hF hR k7 n7 f7=>?_;have hL'l:L'.length<=40:=by have h1:=congrArg List.length hL6;rw [List.length_map] at h1;omega
   have l6:=k6.next;have l7:=k7.next;have n4l:=k4.next;have hMd:M.map (·.d)=Bx (BY Ls acs):=by rw [hM,hL6]
   have k57:Ah A5 A7 [d,mp]:=k6.trans k7 (by simp);have k37:Ah A3 A7 [d,mp]:=k35.trans k57 λy hy=>.inl hy;obtain ⟨fr1,fr2,fr3,fr4⟩:=fr6;have hok:∀ w∈M,w.d.ok:=λw hw=>by
    have h1:w.d∈M.map (·.d):=List.mem_map_of_mem hw;rw [hMd,EZ huq] at h1;exact huq.ok _ h1
   have hps1:∀ w∈M,1<=w.d.ps.length/\w.d.ps.length<=8:=λw hw=>by
    have:=GQ.1 (hok w hw).2
    exact ⟨this.2.2.1,this.2.2.2.1⟩
   have H7:=H6.keeps k7 (by simp);have lw7:LW A0 A7 d lg' j' mp pm' (i+1) (AE s3 (namesS s3.D) q3 (stB (e+1) (Bx (BY Ls acs)))).2.1 (AE s3 (namesS s3.D) q3 (stB (e+1) (Bx (BY Ls acs)))).1 Fl' Fr' (e+1) L' (M.map (·.d)) (M.map (·.d)):=by
    refine ⟨H7,by rw [hMd,hL6];exact inv,qb'.more (by omega) (Nl _),by rw [hMd];exact inv.few,λy hy=>?_,g6.keeps k7 (by simp),lw3.k.trans k37 λy hy=>?_,f7⟩
    ·simp only [Mk] at hy;rcases hy with rfl | rfl | rfl | rfl | rfl | hy
     ·omega
     ·omega
     ·omega
     ·omega
     ·omega
     ·have:=fr4 y hy;omega
    ·simp only [Mk,List.not_mem_nil,or_false] at hy;rcases hy with rfl | rfl
     ·exact .inr hd0
     ·exact .inr hmp0
   have hS:∀ y∈[d,mp],y∈lg::j::d::mp::pm::1::(Fl++Fr)\/A3.next<=y:=λy hy=>by
    simp only [Mk,List.not_mem_nil,or_false] at hy ⊢;rcases hy with h | h
    ·exact .inl (.inr (.inr (.inl h)))
    ·exact .inl (.inr (.inr (.inr (.inl h))))
   have hX:∀ y∈lg'::j'::d::mp::pm'::1::(Fl'++Fr'),y∈lg::j::d::mp::pm::1::(Fl++Fr)\/A3.next<=y:=λy hy=>by
    simp only [Mk] at hy ⊢;rcases hy with h | h | h | h | h | h | h
    ·exact .inr (by omega)
    ·exact .inr (by omega)
    ·exact .inl (.inr (.inr (.inl h)))
    ·exact .inl (.inr (.inr (.inr (.inl h))))
    ·exact .inr (by omega)
    ·exact .inl (.inr (.inr (.inr (.inr (.inr (.inl h))))))
    ·have:=fr4 y h;exact .inr (by omega)
   have hpr6:=H6.Sb;have lm7:LsO A7 (lg'::j'::d::mp::pm'::1::(Fl'++Fr')) nv M:=by
    refine ⟨F,o7,λy hy hm=>?_,λw hw=>?_⟩
    ·have:=hpr6 y hm
     have:=hF y hy
     omega
    ·obtain ⟨G,g1,g2⟩:=hR w hw;refine ⟨C4.plain g1 (hps1 w hw).1,⟨G,g1,λy hy hm=>?_⟩,by have:=(hps1 w hw).2;omega⟩
     have:=hpr6 y hm
     have:=(g2 y hy).1
     omega
   have h3:∀ z:Nat,z=0->P3 A0 va acts i z [va,ptr d,ptr lg',sv,av,.int .i64 (i:Int),nv,.int .i64 (z:Int)] A7:=λz hz=>
    ⟨d,lg',j',mp,pm',e+1,_,_,Fl',Fr',L',sv,av,nv,SU,AS,M,rfl,lw7,ls3.step k37 hS hX,la3.step k37 hS hX,lm7,λw hw=>by rw [hMd,EZ huq];exact hs1 _ (List.mem_map_of_mem hw),λw hw=>hs2 _ (by
     have h1:w.d∈M.map (·.d):=List.mem_map_of_mem hw
     rwa [hMd,EZ huq] at h1),by omega,hlt,hi4,by omega,by omega,by omega⟩
   exact Au.2 ⟨(acts.length-i)*1000-100-0,by omega,.inr (.inl ⟨rfl,i,0,h3 0 rfl,rfl⟩)⟩
  ·refine Cg.2 ⟨λ_=>?_,λ_=>?_⟩
   ·
    have h7:∀ z:Nat,z=0->P7 A0 va acts i z [va,ptr d,ptr lg,sv,av,.int .i64 (i:Int),ptr A'.next,.slice none 0 0,.int .i64 (z:Int)] A3:=λz hz=>
     ⟨A3,d,lg,j,mp,pm,e,A'.next,q,s,Fl,Fr,L,sv,av,.slice none 0 0,SU,AS,[],a,rfl,lw3,ls3,la3,t3,by subst hz;rw [List.take_zero];exact BF.nil _,by simp,Ah.refl _ _,f3,by omega,hlt,hi4,by omega⟩
    exact Au.2 ⟨(acts.length-i)*1000-100-0,by omega,.inr (.inr (.inr ⟨rfl,i,0,h7 0 rfl,rfl⟩))⟩
   ·
    refine AH zD f3 (by omega) rfl λA4 m4=>?_;have n4:=m4.next;have k4:=m4.keeps f3;refine GN m4.row ?_;have t4:=t3.keeps k4 (by simp);simp only [Nc,Er,E4,Ab,Nat.zero_add];rw [M8 t4];simp only [Ab];have e4:Ae Tp A4 33 (pP A'.next (1+3))=some a.d.sv:=Aaz t4;rw [e4];simp only [Ab];obtain ⟨G,g1,g2⟩:=hpa;have hGl:∀ y∈G,y<A0.next:=g1.fam (A0:=A0);have gA4:C4 A4 a.d.sv a.d.d.ps G:=g1.keeps (lw3.k.trans k4 (by simp)) (by simp);refine BF.LK etP (BF.nil _) (rdP.1 gA4) m4.Ay (by omega) (by simp) (by omega) λv5 A5 F5 o5 k5 hF5 n5 f5=>?_;rw [List.nil_append] at o5;have l5:=k5.next;have hv5:∃ o c,v5=.slice o a.d.d.ps.length c/\∀ x,o=some x->x.spot=none:=by
     rcases o5 with ⟨rfl,h0,_⟩ | ⟨b,g,rfl,_⟩
     ·exact ⟨none,0,by rw [h0],λx h=>by cases h⟩
     ·exact ⟨_,_,rfl,λx h=>by rw [<- Option.some.inj h]⟩
    obtain ⟨oo,cc,rfl,hpl⟩:=hv5;have hF54:∀ y∈F5,A4.next<=y:=λy hy=>by
     rcases hF5 y hy with h | h
     ·cases h
     ·omega
    have r5:=m4.Bk.keeps k5 (by simp);refine GN r5.row ?_;have t5:=t4.keeps k5 (by simp);rw [M8 t5];simp only [Ab,AR];let own:DV:=⟨a.d.d,oo,cc⟩;have hb5:Bd Tp 35 [(0,.agg ⟨a.d.d.x.cells⟩),(1,.slice oo a.d.d.ps.length cc)]=some (Fh a.d.d.f a.d.d.g a.d.d.b (.slice oo a.d.d.ps.length cc)):=VJ _ _ _ _ _ _;rw [hb5];simp only [Ab];refine DR r5 rfl rfl f5 (by omega) λA6 t6 k6 n6 f6=>?_;have t6:Abs.Row1 A6 A3.next (fD own) 35:=t6;have K36:Ah A3 A6 []:=(k4.trans k5 (by simp)).trans k6 λy hy=>by rw [Ms.1 hy];exact .inr (Nl _)
    obtain ⟨F2,p1,p2,p3⟩:=la3.grow K36;have hl2:AS.length<1000000:=by omega
    rw [RdE.len etD (BF.rd etD.len p1)];simp only [Ab];rw [BF.clip etD p1 hl2];simp only [Ab];rw [Ky t6];simp only [Ab];refine Sk f6 (by omega) λA7 m7=>?_;have n7:=m7.next;have k7:=m7.keeps f6;refine Uo m7.row hpl ?_;have t7:=t6.keeps k7 (by simp);have p7:=p1.keeps k7 (by simp);rw [Ky t7,BF.clip etD p7 hl2,RdE.len etD (BF.rd etD.len p7)];simp only [Ab,AR];refine BF.OC etD p7 m7.Bk m7.Ay (by omega) hl2 λv8 A8 o8 k8 n8 f8=>?_;have K38:Ah A3 A8 []:=(K36.trans k7 (by simp)).trans k8 (by simp);have l8:=K38.next;have t8:=((t5.keeps k6 (by simp;omega)).keeps k7 (by simp)).keeps k8 (by simp);rw [AaC t8];simp only [Ab];have lw8:=lw3.grow K38 f8;have hX1:∀ y∈lg::j::d::mp::pm::1::(Fl++Fr),A0.next<=y\/y=1:=λy hy=>by
     simp only [Mk] at hy;rcases hy with h | h | h | h | h | h | h
     ·exact .inl (hnew y (by simp [h]))
     ·exact .inl (hnew y (by simp [h]))
     ·exact .inl (hnew y (by simp [h]))
     ·exact .inl (hnew y (by simp [h]))
     ·exact .inl (hnew y (by simp [h]))
     ·exact .inr h
     ·exact .inl (hnew y (by simp only [Mk];exact .inr (.inr (.inr (.inr (.inr h))))))
    have pa8:EM A8 a.d (lg::j::d::mp::pm::1::(Fl++Fr)):=⟨G,g1.keeps lw8.k (by simp),λy hy hm=>by
     rcases hX1 y hm with h | h
     ·have:=hGl y hy;omega
     ·exact g2 y hy (by rw [h];simp)⟩
    have k68:Ah A6 A8 []:=k7.trans k8 (by simp);have q8:C4 A8 own.sv own.d.ps F5:=by
     have h5:C4 A5 own.sv own.d.ps F5:=rdP.2 (BF.rd etP.len o5);exact (h5.keeps k6 λy hy hm=>by have:=hF54 y hy;have:=Ms.1 hm;omega).keeps k68 (by simp)
    have la8:LsO A8 (lg::j::d::mp::pm::1::(Fl++Fr)) v8 (AS++[own]):=by
     refine ⟨[A7.next],o8,λy hy hm=>?_,λw hw=>?_⟩
     ·have:=hpr y hm
      have:=Ms.1 hy
      omega
     ·rcases Mz.1 hw with hw | hw
      ·have h:=p3 w hw;exact ⟨h.1,h.2.1.step k68 (by simp) λy hy=>.inl hy,h.2.2⟩
      ·obtain rfl:=Ms.1 hw;exact ⟨hpl,⟨F5,q8,λy hy hm=>by have:=hF54 y hy;have:=hpr y hm;omega⟩,hps⟩
    have ls8:=ls3.grow K38;have hJ:Jok W0 m0 A8 (200+4*i) i s q:=⟨lw8.g,lw.qb,by omega,λn hn=>I6 hG.pow hn⟩;refine Ab6 (v:=a.d) lw8.m (by omega) (λhok hx he=>lw.iv.q6 hi4 lw.qb (by omega) (y:=.com a.d.d) ⟨hok,hx⟩ he) hJ pa8 hwf (by omega) f8 (by omega) λA9 Fl' Fr' L' hM hL hg hF' k9 n9 f9=>?_;have lw9:=lw8.UH hi4 hwf hM hL hg hF' k9 f9;have la9:=la8.step k9 UP (Zy hF');have ls9:=ls8.step k9 UP (Zy hF');have l9:=k9.next;have hAm:(AS++[own]).map (·.d)=AS.map (·.d)++[a.d.d]:=by rw [List.map_append];rfl
    simp only [B8,Ab];have e10:IntKind.i64.wrap ((i:Int)+1)=(i:Int)+1:=wrap_i64 (by omega) (by omega);refine Cg.2 ⟨λh0=>?_,λh0=>?_⟩
    ·rw [if_pos h0] at lw9;have no:A3.next∉j::d::mp::pm::(Fl++Fr):=λhm=>by
      rcases UP (lg:=lg) (n:=A3.next+1) _ hm with h | h
      ·have:=hpr _ h;omega
      ·omega
     have t9:=(t7.keeps k8 (by simp)).keeps k9 no;obtain ⟨F3,s1,s2,s3⟩:=ls9;have hl3:SU.length<1000000:=by omega
     rw [RdE.len etD (BF.rd etD.len s1)];simp only [Ab];rw [BF.clip etD s1 hl3];simp only [Ab];rw [Ky t9];simp only [Ab];refine Sk f9 (by omega) λA10 m10=>?_;have n10:=m10.next;have k10:=m10.keeps f9;refine Uo m10.row hpl ?_;have t10:=t9.keeps k10 (by simp);have s10:=s1.keeps k10 (by simp);rw [Ky t10,BF.clip etD s10 hl3,RdE.len etD (BF.rd etD.len s10)];simp only [Ab,AR];refine BF.OC etD s10 m10.Bk m10.Ay (by omega) hl3 λv11 A11 o11 k11 n11 f11=>?_;have K911:Ah A9 A11 []:=k10.trans k11 (by simp);have hpr9:=lw9.m.Sb;have la11:=la9.grow K911;have lw11:=lw9.grow K911 f11;have ls11:LsO A11 (lg::j::d::mp::pm::1::(Fl'++Fr')) v11 (SU++[own]):=by
      refine ⟨[A10.next],o11,λy hy hm=>?_,λw hw=>?_⟩
      ·have:=hpr9 y hm
       have:=Ms.1 hy
       omega
      ·rcases Mz.1 hw with hw | hw
       ·have h:=s3 w hw;exact ⟨h.1,h.2.1.step K911 (by simp) λy hy=>.inl hy,h.2.2⟩
       ·obtain rfl:=Ms.1 hw;obtain ⟨F4,u1,u2,u3⟩:=la11;exact u3 own (by simp)
     have hSm:(SU++[own]).map (·.d)=SU.map (·.d)++[a.d.d]:=by rw [List.map_append];rfl
     simp only [Bm,Ab];rw [e10];rw [<- hAm,<- hSm] at lw11;exact Au.2 ⟨(acts.length-(i+1))*1000,by omega,.inl ⟨rfl,i+1,⟨d,lg,j,mp,pm,e,_,_,Fl',Fr',L',v11,v8,SU++[own],AS++[own],rfl,lw11,ls11,la11,by omega,by omega,by omega⟩,rfl⟩⟩
    ·rw [Ff h0] at lw9;simp only [Bm,Ab];rw [e10];rw [<- hAm] at lw9;exact Au.2 ⟨(acts.length-(i+1))*1000,by omega,.inl ⟨rfl,i+1,⟨d,lg,j,mp,pm,e,_,_,Fl',Fr',L',sv,v8,SU,AS++[own],rfl,lw9,ls9,la9,by omega,by omega,by omega⟩,rfl⟩⟩
end
section
variable {A0:AW} {va:Value} {acts:List AV} {W0:World} {m0:Inj Tp} [Nfl m0]
theorem wc3(hG:TC A0 va acts W0 m0):Wc Tp Al W0 m0 3 [va] A0 λv _=>v=.bool true:=by
 have hmax:Aj=1099511627776:=rfl;have hn:=hG.n;refine w3 _ _ (c3 (I:=IL A0 va acts) ?_) ?_
 ·rintro g id vals A' dd hI hd';rcases hI with ⟨rfl,i,h,rfl⟩ | ⟨rfl,i,k,h,rfl⟩ | ⟨rfl,i,k,h,rfl⟩ | ⟨rfl,i,k,h,rfl⟩
  ·exact Aeu h hG hd'
  ·exact Aet h hn hd'
  ·exact Aes h hn hd'
  ·exact Aer h hG hd'
 ·rw [e3];refine wc5 hG.f (by omega) λA1 d1 k1 n1 f1=>?_;obtain ⟨s3,q3,ho,hO,inv,qb⟩:=T4;have hroom:max (400000:Int) 0=400000:=by decide
  rw [hroom] at d1;have hg1:=hG.g.keeps k1 (by simp);have hglt:1<A0.next:=hG.g.lt;have ok0:OkS 0 (⟨[],400000,0,false⟩:DS):=⟨Nl _,by simp,by simp,by decide,by decide,by decide⟩;have hnil:namesS []=[]:=by unfold namesS;simp
  refine wc6 (k9:=0) (LL:=0) d1 hg1 ok0 (by omega) (by simp) (by omega) (by omega) f1 (by omega) ⟨by omega,by omega⟩ (by omega) (λf hf=>by rw [hnil] at hf;cases hf) (λn hn=>I6 hG.pow hn) (λx hx=>by rw [hnil] at hx;cases hx) ho hO λA2 lg j pm Fl Fr L H2 hL2 g2 fr2 k2 n2 f2=>?_;simp only [Ap,List.getElem?_cons_zero,List.getElem?_cons_succ,Ab,Bw];refine Ag.2 ⟨λh=>by simp at h,λ_=>?_⟩;rw [ptr,AcG];simp only [Ab];refine Ag.2 ⟨λh=>by simp at h,λ_=>?_⟩;obtain ⟨fr1,fr2,fr3,fr4⟩:=fr2;have l1:=k1.next;have l2:=k2.next;have lw:LW A0 A2 (A0.next+1) lg j A0.next pm 0 (AE s3 (namesS s3.D) q3 (stB (0+1) (Bx (BY [] [])))).2.1 (AE s3 (namesS s3.D) q3 (stB (0+1) (Bx (BY [] [])))).1 Fl Fr (0+1) L [] []:=by
   refine ⟨H2,by rw [hL2];exact inv,qb.more (by omega) (Nl _),Nl _,λy hy=>?_,g2,k1.trans k2 λy hy=>?_,f2⟩
   ·simp only [Mk] at hy;rcases hy with rfl | rfl | rfl | rfl | rfl | hy
    ·omega
    ·omega
    ·omega
    ·omega
    ·omega
    ·have:=fr4 y hy;omega
   ·simp only [Mk,List.not_mem_nil,or_false] at hy;rcases hy with rfl | rfl
    ·exact .inr (by omega)
    ·exact .inr (by omega)
  have h0:∀ z:Nat,z=0->P0 A0 va acts z [va,ptr (A0.next+1),ptr lg,.slice none 0 0,.slice none 0 0,.int .i64 (z:Int)] A2:=λz hz=>by
   subst hz;exact ⟨A0.next+1,lg,j,A0.next,pm,0+1,_,_,Fl,Fr,L,.slice none 0 0,.slice none 0 0,[],[],rfl,lw,LsO.nil _ _,LsO.nil _ _,by omega,by omega,by omega⟩
  exact Au.2 ⟨acts.length*1000,.inl ⟨rfl,0,h0 0 rfl,rfl⟩⟩
end
end
end Go.Proofs.YtnennggfoegcmaaGreatDoor
namespace Go.Jr
open Go.Proofs.YtnennggfoegcmaaGreatDoor
def gB:ByteArray:=⟨⟨[103]⟩⟩
def eB:ByteArray:=⟨⟨[]⟩⟩
def hp:Pt:=⟨1,0,gB,⟨⟨[49]⟩⟩,0⟩
def hd:Dc:=⟨0,gB,eB,[hp]⟩
def hd0:Dc:=⟨0,gB,eB,[]⟩
def kys(D:Fls):List (List UInt8):=D.map (·.1)
def noJ:JS:=⟨0,[],[],[],0,false,false⟩
def hS0:DS:=⟨[],2000,0,false⟩
def hX1:DS × Option JS × Int:=Cl hS0 [] 300
def hQ1:JS:=hX1.2.1.getD noJ
def hC1:DS × JS × Int:=AE hX1.1 (kys hX1.1.D) hQ1 (stB 1 [])
def hA1:DS × JS × Int:=Ak hC1.1 hC1.2.1 (1,hd.by)
def hY1:DS × JS × Int:=BJ hA1.1 hA1.2.1
def hW1:DS:=CF (C1 hY1.1) (kys hY1.1.D) []
def hX2:DS × Option JS × Int:=Cl hW1 (kys hW1.D) 300
def hQ2:JS:=hX2.2.1.getD noJ
def hC2:DS × JS × Int:=AE hX2.1 (kys hX2.1.D) hQ2 (stB 2 [hd])
def hF2:DS × JS × Int:=Ak hC2.1 hC2.2.1 (2,xnB hd.x)
def YX(s:DS):Bool:=decide (s.D.length<=9)&&(s.D.all (λf=>decide (f.2.1.length<=1000)&&decide (f.2.2<=f.2.1.length))&&(decide (0<=s.room)&&(decide (s.room<9223372036854775808)&&decide (s.Dj<9223372036854775808))))
def AfD(q:JS):Bool:=decide (q.l.length<=63)&&(decide (q.row.length<=100)&&(decide (q.size<=200000)&&(decide (q.limit=300)&&match q.row.getLast? with | some n=>decide (1<=n)&&decide (n<=100) | none=>false)))
end Go.Jr
namespace Go.Proofs.YtnennggfoegcmaaGreatDoor
section
open Go.Abs Go.Jr
theorem Md{s:DS}(h:YX s=true):OkS 9 s:=by
 unfold YX at h;simp only [Bq,decide_eq_true_eq,List.all_eq_true] at h;exact ⟨h.1,λf hf=>by have:=(h.2.1 f hf).1;omega,λf hf=>(h.2.1 f hf).2,h.2.2.1,h.2.2.2.1,h.2.2.2.2⟩
theorem Vr{s:DS}(h:YX s=true):∀ f∈s.D,f.2.1.length<=1000:=by
 unfold YX at h;simp only [Bq,decide_eq_true_eq,List.all_eq_true] at h;exact λf hf=>(h.2.1 f hf).1
theorem SI{s:DS}{q:JS}(hs:YX s=true)(h:AfD q=true):QB 900 63 s q:=by
 unfold AfD at h;simp only [Bq,decide_eq_true_eq] at h;obtain ⟨h1,h2,h3,h4,h5⟩:=h;refine ⟨(Md hs).more (by omega),h1,h2,?_,h3,h4⟩;cases hl:q.row.getLast? with
 |none=>rw [hl] at h5;cases h5
 |some n=>
  rw [hl] at h5;simp only [Bq,decide_eq_true_eq] at h5;exact ⟨n,rfl,h5.1,h5.2⟩
theorem JE{D:Fls}(h:decide (D.length=1)=true):namesS D=kys D:=by
 have h:=of_decide_eq_true h
 match D,h with
 |[f],_=>unfold namesS kys;simp
theorem hT0:hX1=(hX1.1,some hQ1,0):=by kernel_rfl
theorem hT1:namesS hX1.1.D=kys hX1.1.D:=JE (by kernel_rfl)
theorem hT2:hC1.2.2=0:=by kernel_rfl
theorem hT3:hA1.2.2=0:=by kernel_rfl
theorem hT4:hY1.2.2=0:=by kernel_rfl
theorem hT5:namesS hY1.1.D=kys hY1.1.D:=JE (by kernel_rfl)
theorem hT6:namesS hW1.D=kys hW1.D:=JE (by kernel_rfl)
theorem hT7:hX2=(hX2.1,some hQ2,0):=by kernel_rfl
theorem hT8:namesS hX2.1.D=kys hX2.1.D:=JE (by kernel_rfl)
theorem hT9:hC2.2.2=0:=by kernel_rfl
theorem AhQ:hF2.2.2=0:=by kernel_rfl
theorem AhP:hQ2.state=stB 1 []:=by kernel_rfl
theorem AhO:hQ2.l=[(1,hd.by)]:=by kernel_rfl
theorem AhN:hQ1.state=[]:=by kernel_rfl
theorem AhM:hQ1.l=[]:=by kernel_rfl
theorem AaE:hd.ok:=⟨⟨by decide,λp hp=>by
 obtain rfl:=Ms.1 hp;exact ⟨by decide,by decide,by decide⟩⟩,by kernel_rfl⟩
theorem Vm:Jk hd0.f hd0.g hd0.b hd0.ps=260:=by kernel_rfl
theorem VU:Bx []=[]:=List.eq_nil_of_length_eq_zero (by rw [DX];rfl)
theorem uq1:Uq [hd]:=⟨λd hd=>by rw [Ms.1 hd];exact AaE,by simp⟩
theorem Acv:Bx [hd]=[hd]:=List.perm_singleton.1 (PA uq1)
theorem Afy(x:Nm):getD [] x=none:=getD_none.2 (by simp)
theorem AhR:(getD [hd] hd.x).isSome=true:=Dx.2 (by simp)
theorem AiO:Ei hC1.1 hC1.2.1 [] hd=(hY1.1,hY1.2.1,[hd],0):=by
 unfold Ei;rw [Ff (by rw [AaE.2];simp),Ff (by rw [Afy];simp)];show (if hA1.2.2≠0 then _ else if hY1.2.2≠0 then _ else (hY1.1,hY1.2.1,[]++[hd],0))=_;rw [Ff (by rw [hT3];simp),Ff (by rw [hT4];simp)];rfl
theorem AiN(s:DS)(q:JS)(L:List Dc):Ei s q L hd0=(s,q,L,260):=by
 unfold Ei;rw [if_pos (by rw [Vm];decide)]
theorem AhV:FU hC2.1 hC2.2.1 [hd] hd.x=(hF2.1,hF2.2.1,[],0):=by
 unfold FU;rw [Ff (by rw [AhR];simp)];show (if hF2.2.2≠0 then _ else (hF2.1,hF2.2.1,[hd].filter λd=>!CL hd.x d.x,0))=_;rw [Ff (by rw [AhQ];simp)];rw [show [hd].filter (λd=>!CL hd.x d.x)=[] from by simp [CK.2]]
theorem AhU(s:DS)(q:JS)(x:Nm):FU s q [] x=(s,q,[],7):=by
 unfold FU;rw [if_pos (by rw [Afy];rfl)]
theorem AhD:Opn 9 hX1.1 hQ1 0 [] []:=by
 have hpl:BY [] []=[]:=rfl;refine ⟨.inl ⟨AhN,rfl,rfl⟩,by omega,AhM,FC.nil _,by simp,by simp [hpl],?_,Md (by kernel_rfl),of_decide_eq_true (by kernel_rfl),⟨hQ1.row.getLast?.getD 0,by kernel_rfl,of_decide_eq_true (by kernel_rfl)⟩,λx hx=>?_⟩
 ·rw [hpl,VU,hT1];exact hT2
 ·have h:(hQ1.row.all λx=>decide (x<100000000))=true:=by kernel_rfl
  exact of_decide_eq_true (List.all_eq_true.1 h x hx)
theorem Aak:BY (Bx []) [.com hd]=[hd]:=by rw [VU];rfl
theorem AhC:Opn 9 hX2.1 hQ2 1 (Bx []) [.com hd]:=by
 refine ⟨.inr ⟨Nl _,[],by rw [VU];exact AhP,Uq.nil,by simp,rfl⟩,by omega,AhO,?_,by rw [VU];simp,by rw [Aak];simp,?_,Md (by kernel_rfl),of_decide_eq_true (by kernel_rfl),⟨hQ2.row.getLast?.getD 0,by kernel_rfl,of_decide_eq_true (by kernel_rfl)⟩,λx hx=>?_⟩
 ·have:=FC.snoc (y:=.com hd) (FC.nil (Bx [])) ⟨AaE,by rw [VU];simp [HC]⟩
  exact this
 ·rw [Aak,Acv,hT8];exact hT9
 ·have h:(hQ2.row.all λx=>decide (x<100000000))=true:=by kernel_rfl
  exact of_decide_eq_true (List.all_eq_true.1 h x hx)
end
section
open Go.Abs Go.Jr
theorem e8(W0:World)(m0:Inj Tp)(S:Nat->List Value->AW->Prop)(Q:Value->AW->Prop)(A:AW):gE W0 m0 S Q 8 85 Tz Lz [] A=(Wc Tp Al W0 m0 5 [(.int .i64 2000)] A λt0 At0=>Wc Tp Al W0 m0 6 [t0,(.int .i64 300)] At0 λt1 At1=>Aa (Ap t1 0) λt2=>Aa (Ap t1 1) λt3=>Aa (An Tp .neq 26 (.tmp 16) (.const (.int .i64 0)) t3 (.int .i64 0)) λt4=>Ai t4 (Q (.bool false) At1) (Aa (An Tp .eql 25 (.tmp 19) (.const (.pointer none)) t2 (.pointer none)) λt5=>Ai t5 (Q (.bool false) At1) (Aa (Bd Tp 32 [(1,(.string ⟨⟨[103]⟩⟩))]) λt6=>Aa (Bd Tp 32 [(1,(.string ⟨⟨[103]⟩⟩)),(2,(.string ⟨⟨[49]⟩⟩))]) λt7=>Aa (Bd Tp 85 [(0,(.int .u8 1)),(1,t7)]) λt8=>Ao (Aq Tp At1 33 1 [(0,t8)]) λt9 At9=>Aa (Bd Tp 35 [(0,t6),(1,t9)]) λt10=>Ao (BB Tp At9 35) λt11 At11=>Be (Av Tp At11 35 t11 t10) λAt12=>Aa (Ae Tp At12 35 t11) λt13=>Aa (Ad Tp 35 t11 0) λt14=>Aa (Ae Tp At12 32 t14) λt15=>Aa (Bd Tp 35 [(0,t15)]) λt16=>Wc Tp Al W0 m0 16 [t2,t13] At12 λt17 At17=>Aa (Bd Tp 35 [(0,t15)]) λt18=>eqW t18 t16 (Aa (Ae Tp At17 32 t14) λt19=>eqW t19 t15 (Aa (Ad Tp 35 t11 0) λt20=>eqW t20 t14 (eqW t2 t2 (Wc Tp Al W0 m0 16 [t2,t16] At17 λt21 At21=>Wc Tp Al W0 m0 12 [t2] At21 λt22 At22=>Wc Tp Al W0 m0 10 [t0] At22 λt23 At23=>Wc Tp Al W0 m0 11 [t0,(.slice none 0 0)] At23 λt24 At24=>Wc Tp Al W0 m0 6 [t0,(.int .i64 300)] At24 λt25 At25=>Aa (Ap t25 0) λt26=>Aa (Ap t25 1) λt27=>Aa (An Tp .eql 30 (.tmp 46) (.const (.int .u32 1)) t22 (.int .u32 1)) λt28=>Ai t28 (Aa (An Tp .eql 26 (.tmp 49) (.const (.int .i64 0)) t17 (.int .i64 0)) λt29=>Ai t29 (Aa (An Tp .eql 26 (.tmp 53) (.const (.int .i64 260)) t21 (.int .i64 260)) λt30=>Ai t30 (Aa (An Tp .eql 26 (.tmp 57) (.const (.int .i64 0)) t27 (.int .i64 0)) λt31=>Ai t31 (Wc Tp Al W0 m0 12 [t26] At25 λt32 At32=>Aa (An Tp .eql 30 (.tmp 62) (.const (.int .u32 2)) t32 (.int .u32 2)) λt33=>Ai t33 (Wc Tp Al W0 m0 13 [t26] At32 λt34 At34=>Aa (Bi Tp At34 29 t34) λt35=>Aa (An Tp .eql 3 (.tmp 68) (.const (.int .i64 1)) t35 (.int .i64 1)) λt36=>Ai t36 (Aa (Ad Tp 35 t11 0) λt37=>Aa (Ae Tp At34 32 t37) λt38=>Wc Tp Al W0 m0 15 [t26,t38] At34 λt39 At39=>Aa (An Tp .eql 26 (.tmp 75) (.const (.int .i64 0)) t39 (.int .i64 0)) λt40=>Ai t40 (Aa (Ad Tp 35 t11 0) λt41=>Aa (Ae Tp At39 32 t41) λt42=>Wc Tp Al W0 m0 15 [t26,t42] At39 λt43 At43=>Aa (An Tp .eql 26 (.tmp 82) (.const (.int .i64 7)) t43 (.int .i64 7)) λt44=>Q t44 At43) (Q (.bool false) At39)) (Q (.bool false) At34)) (Q (.bool false) At32)) (Q (.bool false) At25)) (Q (.bool false) At25)) (Q (.bool false) At25)) (Q (.bool false) At25)))))))):=by kernel_rfl
theorem w8:Wf0 8 85 Tz Lz:=wf0 (by kernel_rfl) (by decide) rfl
theorem bx1(g:ByteArray):Bd Tp 32 [(1,.string g)]=some (.agg ⟨[.int .u32 0,.string g,.string ⟨⟨[]⟩⟩]⟩):=by kernel_rfl
theorem bx2(g b:ByteArray):Bd Tp 32 [(1,.string g),(2,.string b)]=some (.agg ⟨[.int .u32 0,.string g,.string b]⟩):=by kernel_rfl
theorem bp1(f:Int)(g b:ByteArray):Bd Tp 85 [(0,.int .u8 1),(1,.agg ⟨[.int .u32 f,.string g,.string b]⟩)]=some (.agg ⟨[.int .u8 1,.int .u32 f,.string g,.string b,.int .u8 0]⟩):=by kernel_rfl
theorem AfX(A:AW):Aq Tp A 33 1 [(0,.agg ⟨hp.cells⟩)]=(match A.newRow hp.cells 85 with | some (a,w')=>.ok (.slice (some a) 1 1) w' | none=>.fail "buildSlice new"):=by kernel_rfl
theorem Ahx {A : AW} {q : Nat} (h : Abs.Row1 A q hp.cells 85) : C4 A (.slice (some ⟨q, 0, none⟩) 1 1) [hp] [q] :=
  .inr ⟨q, 0, 1, hp.cells, 85, q, 0, false, rfl, h.row, h.lt, rfl, λj p hj => by
    cases j with
    | zero => obtain rfl : hp = p := by simpa using hj
              exact ⟨[], by simp⟩
    | succ j => simp at hj⟩
section
variable {W0:World} {m0:Inj Tp} [Nfl m0]
theorem wc8{A:AW}(hE:Jw W0)(hP:Pow W0)(hg:Glb A)(hf:Aw A)(hA:A.next<1000000000):Wc Tp Al W0 m0 8 [] A λv _=>v=.bool true:=by
 have hmax:Aj=1099511627776:=rfl;have hglt:=hg.lt;refine w8 _ BD ?_;rw [e8];refine wc5 hf (by omega) λA1 d1 k1 n1 f1=>?_;have d1:Dk A1 (A.next+1) A.next hS0:=d1;have l1:=k1.next;have hnil:namesS []=[]:=by unfold namesS;simp
 have ho1:Cl hS0 (namesS hS0.D) 300=(hX1.1,some hQ1,0):=by show Cl hS0 (namesS []) 300=_;rw [hnil];exact hT0
 refine wc6 (k9:=9) (LL:=1000) d1 (hg.keeps k1 (by simp)) (Md (by kernel_rfl)) (by omega) (Vr (by kernel_rfl)) (by omega) (by omega) f1 (by omega) ⟨by omega,by omega⟩ (by omega) (λf hf=>by rw [show namesS hS0.D=[] from hnil] at hf;cases hf) (λn hn=>I6 hP hn) (λx hx=>by rw [show namesS hS0.D=[] from hnil] at hx;cases hx) ho1 AhD λA2 lg j pm Fl Fr L H2 hL2 g2 fr2 k2 n2 f2=>?_;have hpl:BY [] []=([]:List Dc):=rfl;have eC1:AE hX1.1 (namesS hX1.1.D) hQ1 (stB (0+1) (Bx (BY [] [])))=hC1:=by rw [hpl,VU,hT1];rfl
 rw [eC1] at H2;rw [hpl] at hL2;obtain ⟨fr21,fr22,fr23,fr24⟩:=fr2;have l2:=k2.next;simp only [Ap,List.getElem?_cons_zero,List.getElem?_cons_succ,Ab,Bw];refine Ag.2 ⟨λh=>by simp at h,λ_=>?_⟩;rw [ptr,AcG];simp only [Ab];refine Ag.2 ⟨λh=>by simp at h,λ_=>?_⟩;rw [bx1,bx2];simp only [Ab];rw [bp1];simp only [Ab];refine Hp (AfX A2) rfl f2 (by omega) λA3 m3=>?_;have n3:=m3.next;have k3:=m3.keeps f2;let v:DV:=⟨hd,some ⟨A2.next,0,none⟩,1⟩;have hb:Bd Tp 35 [(0,.agg ⟨[.int .u32 0,.string ⟨⟨[103]⟩⟩,.string ⟨⟨[]⟩⟩]⟩),(1,.slice (some ⟨A2.next,0,none⟩) 1 1)]=some (vD v):=VJ 0 _ _ _ _ _;rw [hb];simp only [Ab];refine AH zD m3.Ay (by omega) rfl λA4 m4=>?_;have n4:=m4.next;have k4:=m4.keeps m3.Ay;refine DR m4.Bk rfl rfl m4.Ay (by omega) λA5 t5 k5 n5 f5=>?_;have t5:Abs.Row1 A5 A3.next (fD v) 35:=t5;have K5:Ah A2 A5 []:=(k3.trans k4 (by simp)).trans k5 λy hy=>by have:=Ms.1 hy;exact .inr (by omega)
 rw [Ky t5];simp only [Ab,Er];have hx5:∀ {B:AW},Abs.Row1 B A3.next (fD v) 35->Ae Tp B 32 (pP A3.next 0)=some (.agg ⟨hd.x.cells⟩):=λ{B} h=>by
  rw [EH,Bc h.row];simp [fD,By,Bh,AI,AG,v,Dc.x,Nm.cells]
 rw [hx5 t5];simp only [Ab];have hb0:Bd Tp 35 [(0,.agg ⟨hd.x.cells⟩)]=some (vD ⟨hd0,none,0⟩):=AbP _ _ _;rw [hb0];simp only [Ab];have H5:=H2.keeps K5 (by simp);have G5:=g2.keeps K5 (by simp);have hpr:=H2.Sb;have no1:1∉(A.next+1)::A.next::([]:List Nat):=by simp;omega
 have q1:QB 900 63 hC1.1 hC1.2.1:=SI (by kernel_rfl) (by kernel_rfl);have qa:QB 900 63 hA1.1 hA1.2.1:=SI (by kernel_rfl) (by kernel_rfl);have qy:QB 900 63 hY1.1 hY1.2.1:=SI (by kernel_rfl) (by kernel_rfl);have r5:Abs.Row1 A3 A2.next hp.cells 85:=m3.Bk;have p5:EM A5 v (lg::j::(A.next+1)::A.next::pm::1::(Fl++Fr)):=⟨[A2.next],Ahx ((r5.keeps k4 (by simp)).keeps k5 (by simp;omega)),λy hy hm=>by have:=hpr y hm;have:=Ms.1 hy;omega⟩;have hJ5:Jok W0 m0 A5 900 63 hC1.1 hC1.2.1:=⟨G5,q1,by omega,λn hn=>I6 hP hn⟩;refine Ab6 (v:=v) H5 (by omega) (λ_ _ _=>qa) hJ5 p5 AaE.1 (by show 1<1000000;decide) f5 (by omega) λA6 Fl6 Fr6 L6 H6 hL6 G6 hF6 k6 n6 f6=>?_;have hcom:Ei hC1.1 hC1.2.1 (L.map (·.d)) v.d=(hY1.1,hY1.2.1,[hd],0):=by rw [hL2];exact AiO
 rw [hcom] at H6 hL6 ⊢;have l6:=k6.next;have no3:∀ {n:Nat},A2.next<=n->n∉j::(A.next+1)::A.next::pm::(Fl++Fr):=λ{n} hn hm=>by
  rcases UP (lg:=lg) (n:=n+1) _ hm with h | h
  ·have:=hpr _ h;omega
  ·omega
 have t6:=t5.keeps k6 (no3 (by omega));simp only [AR];rw [hx5 t6];simp only [Ab,AR];have p6:EM A6 ⟨hd0,none,0⟩ (lg::j::(A.next+1)::A.next::pm::1::(Fl6++Fr6)):=⟨[],.inl ⟨rfl,rfl,none,0,rfl⟩,by simp⟩;have hJ6:Jok W0 m0 A6 900 63 hY1.1 hY1.2.1:=⟨G6,qy,by omega,λn hn=>I6 hP hn⟩;refine Ab6 (v:=⟨hd0,none,0⟩) H6 (by omega) (λhok _ _=>by have:=hok.2;rw [Vm] at this;cases this) hJ6 p6 ⟨by decide,λp hp=>by cases hp⟩ (by show 0<1000000;decide) f6 (by omega) λA7 Fl7 Fr7 Lz H7 hL7 G7 hF7 k7 n7 f7=>?_;rw [AiN] at H7 hL7 ⊢;have l7:=k7.next;have hX6:∀ y∈lg::j::(A.next+1)::A.next::pm::1::(Fl6++Fr6),y<A2.next\/A5.next<=y:=λy hy=>(Zy hF6 y hy).imp (hpr y) id;have l5:=K5.next;have t7:=t6.keeps k7 (λhm=>by
  rcases UP (lg:=lg) (n:=A5.next) _ hm with h | h
  ·have:=hX6 _ h;omega
  ·omega)
 refine ZX H7.row rfl ?_;refine Aej H7.jd.dk f7 (by omega) λA8 d8 k8 n8 f8=>?_;have hokc:OkS 9 (C1 hY1.1):=Mj (Md (by kernel_rfl));refine Aeg (kl:=[]) (Fk:=[]) d8 rfl (hokc.d (by omega)) (RdE.nil _ _ _) (λy hy=>(by cases hy)) f8 (by omega) λA9 d9 k9 n9 f9=>?_;have hw:CF (C1 hY1.1) (namesS (C1 hY1.1).D) []=hW1:=by show CF (C1 hY1.1) (namesS hY1.1.D) []=_;rw [hT5];rfl
 rw [hw] at d9;have n9:A9.next<=A8.next+30+5*(C1 hY1.1).D.length:=n9;have n9:A9.next<=A8.next+100:=by have:=hokc.few;omega
 have l8:=k8.next;have l9:=k9.next;have k79:Ah A7 A9 [A.next+1,A.next]:=(k8.more (by simp)).trans k9 λy hy=>.inl hy;have G9:=G7.keeps k79 (by simp;omega);have t9:=t7.keeps k79 (by simp;omega);have ho2:Cl hW1 (namesS hW1.D) 300=(hX2.1,some hQ2,0):=by rw [hT6];exact hT7
 have hnl:((kys hW1.D).all λf=>decide (f.length<100000000))=true:=by kernel_rfl
 have hsl:((Cs hW1.D (kys hW1.D)).all λx=>decide (x.n<100000000))=true:=by kernel_rfl
 refine wc6 (k9:=9) (LL:=1000) d9 G9 (Md (by kernel_rfl)) (by omega) (Vr (by kernel_rfl)) (by omega) (by omega) f9 (by omega) ⟨by omega,by omega⟩ (by omega) (λf hf=>Afu hE hP (by rw [hT6] at hf;exact of_decide_eq_true (List.all_eq_true.1 hnl f hf))) (λn hn=>I6 hP hn) (λx hx=>by rw [hT6] at hx;exact of_decide_eq_true (List.all_eq_true.1 hsl x hx)) ho2 AhC λA10 lg' j' pm' Fl' Fr' L' H10 hL10 g10 fr10 k10 n10 f10=>?_;have eC2:AE hX2.1 (namesS hX2.1.D) hQ2 (stB (1+1) (Bx (BY (Bx []) [.com hd])))=hC2:=by rw [Aak,Acv,hT8];rfl
 rw [eC2] at H10;rw [Aak] at hL10;obtain ⟨fr1,fr2,fr3,fr4⟩:=fr10;have l10:=k10.next;have t10:=t9.keeps k10 (by simp;omega);simp only [Ap,List.getElem?_cons_zero,List.getElem?_cons_succ,Ab,B8];refine Ag.2 ⟨λ_=>?_,λh=>by simp at h⟩;refine Ag.2 ⟨λ_=>?_,λh=>by simp at h⟩;refine Ag.2 ⟨λ_=>?_,λh=>by simp at h⟩;refine Ag.2 ⟨λ_=>?_,λh=>by simp at h⟩;refine ZX H10.row rfl ?_;simp only [B8,Ab];refine Ag.2 ⟨λ_=>?_,λh=>by simp at h⟩;have hLl:L'.length=1:=by have:=congrArg List.length hL10;rwa [List.length_map] at this
 refine Aef H10 (by rw [hL10];exact uq1) (by omega) f10 (by omega) λA11 nv M F o11 hM hF hR k11 n11 f11=>?_;rw [hL10,Acv] at hM;have hMl:M.length=1:=by have:=congrArg List.length hM;rwa [List.length_map] at this
 rw [RdE.len etD (BF.rd etD.len o11),hMl];simp only [Ab,B8];refine Ag.2 ⟨λ_=>?_,λh=>by simp at h⟩;have l11:=k11.next;have t11:=t10.keeps k11 (by simp);have H11:=H10.keeps k11 (by simp);rw [hx5 t11];simp only [Ab];have q2:QB 900 63 hC2.1 hC2.2.1:=SI (by kernel_rfl) (by kernel_rfl);have qf:QB 900 63 hF2.1 hF2.2.1:=SI (by kernel_rfl) (by kernel_rfl);have hJ11:Jok W0 m0 A11 900 63 hC2.1 hC2.2.1:=⟨g10.keeps k11 (by simp),q2,by omega,λn hn=>I6 hP hn⟩;refine Ab7 (x:=hd.x) H11 (by rw [hL10];exact uq1) (by omega) (λ_ _=>qf) hJ11 f11 (by omega) λA12 Fl12 Fr12 Lz H12 hL12 G12 hF12 k12 n12 f12=>?_;have hfin:FU hC2.1 hC2.2.1 (L'.map (·.d)) hd.x=(hF2.1,hF2.2.1,[],0):=by rw [hL10];exact AhV
 rw [hfin] at H12 hL12 ⊢;simp only [Ab,B8];refine Ag.2 ⟨λ_=>?_,λh=>by simp at h⟩;have t12:=t11.keeps k12 (λhm=>by
  simp only [Mk] at hm;rcases hm with h | h | h | h | h
  ·omega
  ·omega
  ·omega
  ·omega
  ·have:=fr4 _ h;omega)
 rw [hx5 t12];simp only [Ab];have hJ12:Jok W0 m0 A12 900 63 hF2.1 hF2.2.1:=⟨G12,qf,by omega,λn hn=>I6 hP hn⟩;refine Ab7 (x:=hd.x) H12 (by rw [hL12];exact Uq.nil) (by omega) (λhx _=>by rw [hL12] at hx;cases hx) hJ12 f12 (by omega) λA13 Fl13 Fr13 Ly H13 hL13 G13 hF13 k13 n13 f13=>?_;have hf2:FU hF2.1 hF2.2.1 (Lz.map (·.d)) hd.x=(hF2.1,hF2.2.1,[],7):=by rw [hL12];exact AhU _ _ _
 rw [hf2];simp only [Ab,B8];rfl
end
end
section
open Go Go.Abs Go.ChangeShapes Go.WideShapes Go.ChangeAt Go.RowKit Go.Joins Go.Deep
theorem WI(p:Int):(fZ p).all (Ax 4)=true:=rfl
theorem WH(p:Int):(fZ p).length=0+1:=rfl
theorem WK(p:Pt):p.cells.all (Ax 4)=true:=rfl
theorem WJ(p:Pt):p.cells.length=4+1:=rfl
theorem Fx(p:AV):p.cells.length=6+1:=rfl
structure VL (W:World) (p:AV) (k:Arg × Arg):Prop where
 pt:CP W Pt.cells p.d.sv p.d.d.ps k.1
 kp:CP W fZ p.kv p.kl k.2
structure KQ (m:Inj Tp) (p' p:AV):Prop where
 w:p'.w=p.w
 d:p'.d.d=p.d.d
 n:p'.n=p.n
 kl:p'.kl=p.kl
 sv:AM m p'.d.sv p.d.sv
 kv:AM m p'.kv p.kv
theorem KQ.cells{m:Inj Tp}{p' p:AV}(h:KQ m p' p):∀ (i:Nat) v,p'.cells[i]? =some v->∃ v',p.cells[i]? =some v'/\AM m v v':=by
 obtain ⟨h1,h2,h3,h4,h5,h6⟩:=h;obtain ⟨w,⟨d,o,c⟩,n,kl,ko,kc⟩:=p;obtain ⟨w',⟨d',o',c'⟩,n',kl',ko',kc'⟩:=p';simp only at h1 h2 h3 h4;subst h1 h2 h3 h4;intro i v hv
 match i,hv with
 |0,hv=>cases hv;exact ⟨_,rfl,.int _ _⟩
 |1,hv=>cases hv;exact ⟨_,rfl,.int _ _⟩
 |2,hv=>cases hv;exact ⟨_,rfl,.string _⟩
 |3,hv=>cases hv;exact ⟨_,rfl,.string _⟩
 |4,hv=>cases hv;exact ⟨_,rfl,h5⟩
 |5,hv=>cases hv;exact ⟨_,rfl,.int _ _⟩
 |6,hv=>cases hv;exact ⟨_,rfl,h6⟩
 |i+7,hv=>simp [AV.cells,fD,By] at hv
theorem SE{m:Inj Tp}:∀ {l' l:List AV},l'.length<=l.length->(∀ (i:Nat) p' p,l'[i]? =some p'->l[i]? =some p->KQ m p' p)->∀ (i:Nat) v,(flat AV.cells l')[i]? =some v->∃ v',(flat AV.cells l)[i]? =some v'/\AM m v v'
 |[],l,_,_,i,v,hv=>by simp [flat] at hv
 |p'::r',[],h,_,i,v,hv=>by simp at h
 |p'::r',p::r,h,ha,i,v,hv=>by
  have e1:flat AV.cells (p'::r')=p'.cells++flat AV.cells r':=by simp [flat]
  have e2:flat AV.cells (p::r)=p.cells++flat AV.cells r:=by simp [flat]
  rw [e1] at hv;rw [e2];by_cases hi:i<7
  ·rw [List.getElem?_append_left (by rw [Fx];exact hi)] at hv;rw [List.getElem?_append_left (by rw [Fx];exact hi)];exact (ha 0 p' p rfl rfl).cells i v hv
  ·rw [List.getElem?_append_right (by rw [Fx];omega),Fx] at hv;rw [List.getElem?_append_right (by rw [Fx];omega),Fx];exact SE (by simpa using h) (λj a b ha' hb=>ha (j+1) a b (by simpa using ha') (by simpa using hb)) (i-7) v hv
def TB{β:Type}(f:β->List Value)(L:List Arg)(j:Nat)(o:Option Addr)(l:List β):Prop:=l=[]\/∃ q e,o=some ⟨Tp.globals.size+j,0,none⟩/\L[j]? =some (q,some (flat f l,e))
theorem Xb{W:World}{s:Value}{l:List AV}{La:Arg}(h:CP W AV.cells s l La)(hok:∀ p∈l,∃ k,VL W p k):
  ∃ (L:List Arg) (s':Value) (l':List AV),L.length<=81/\Abb Tp W L/\AM (mR Tp L) s' s/\l'.length=min l.length 40/\(∀ (i:Nat) p' p,l'[i]? =some p'->l[i]? =some p->p'.d.d=p.d.d/\p'.w=p.w)/\
   ∀ gl,Tp.globals.size+L.length+1<=Aj->∃ F,RdA (wR Tp.globals.size gl L) s' l.length l' F/\∀ p'∈l',(∃ F',RdE 4 Pt.cells (wR Tp.globals.size gl L) p'.d.sv p'.d.d.ps F'/\∀ y∈F',Tp.globals.size<=y)/\∃ F',RdE 0 fZ (wR Tp.globals.size gl L) p'.kv p'.kl F':=by
 cases h with
 |nil hl hs h0=>
  subst hl;obtain ⟨o,c,rfl⟩:=h0;let L:List Arg:=[(placeOf (.slice o 0 c),none)];obtain ⟨o',n',c',hv⟩:=hs.rel (P:=Tp) (l:=L.map (·.1)) 0 rfl;have hn':n'=0:=by cases hv<;>rfl
  subst hn';refine ⟨L,_,[],by simp [L],?_,hv,by simp,by simp,λgl hk=>⟨[],⟨o',c',rfl,by simp,.nil _ _ _⟩,by simp⟩⟩;intro j p cs e hj
  match j,hj with
  |0,hj=>simp [L] at hj
  |j+1,hj=>simp [L] at hj
 |blk a c cs e' fr hs hc hc2 hsp hb ho hg=>
  obtain ⟨K,hK⟩:∃ K:AV->Arg × Arg,∀ p,p∈l->VL W p (K p):=by
   refine Classical.axiomOfChoice (r:=λp k=>p∈l->VL W p k) λp=>?_;by_cases hp:p∈l
   ·obtain ⟨k,h⟩:=hok p hp;exact ⟨k,λ_=>h⟩
   ·exact ⟨(((0,0),none),((0,0),none)),λh=>absurd h hp⟩
  let t:=l.take 40;have htl:∀ p∈t,p∈l:=λp hp=>List.mem_of_mem_take hp;let R:List Arg:=t.map (λp=>(K p).1)++t.map (λp=>(K p).2);let L0:List Arg:=((a.block,a.off),none)::R;have hR1:∀ (i:Nat) p,t[i]? =some p->R[i]? =some (K p).1:=λi p hp=>by
   have hi:=(Gs.1 hp).1;show (t.map (λp=>(K p).1)++t.map (λp=>(K p).2))[i]? =_;rw [List.getElem?_append_left (by rw [List.length_map];exact hi),List.getElem?_map,hp];rfl
  have hR2:∀ (i:Nat) p,t[i]? =some p->R[t.length+i]? =some (K p).2:=λi p hp=>by
   show (t.map (λp=>(K p).1)++t.map (λp=>(K p).2))[t.length+i]? =_;rw [List.getElem?_append_right (by rw [List.length_map];omega),List.length_map,Nat.add_sub_cancel_left,List.getElem?_map,hp];rfl
  have hrel:∀ (i:Nat) p,t[i]? =some p->∃ p',KQ (mR Tp L0) p' p/\TB Pt.cells L0 (i+1) p'.d.o p'.d.d.ps/\TB fZ L0 (t.length+i+1) p'.ko p'.kl:=by
   intro i p hp;have hkl:=hK p (htl p (List.mem_of_getElem? hp));obtain ⟨s1,hv1,hc1⟩:=CP.rel (P:=Tp) (L:=L0) (j:=i+1) hkl.pt (hR1 i p hp);obtain ⟨s2,hv2,hc2⟩:=CP.rel (P:=Tp) (L:=L0) (j:=t.length+i+1) hkl.kp (hR2 i p hp);have h1:∃ o c,s1=.slice o p.d.d.ps.length c/\TB Pt.cells L0 (i+1) o p.d.d.ps:=by
    rcases hc1 with ⟨h1,o,c,rfl⟩ | ⟨c,q,e,rfl,h2⟩
    ·exact ⟨o,c,by rw [h1];rfl,.inl h1⟩
    ·exact ⟨_,c,rfl,.inr ⟨q,e,rfl,h2⟩⟩
   have h2:∃ o c,s2=.slice o p.kl.length c/\TB fZ L0 (t.length+i+1) o p.kl:=by
    rcases hc2 with ⟨h1,o,c,rfl⟩ | ⟨c,q,e,rfl,h2⟩
    ·exact ⟨o,c,by rw [h1];rfl,.inl h1⟩
    ·exact ⟨_,c,rfl,.inr ⟨q,e,rfl,h2⟩⟩
   obtain ⟨o1,c1,rfl,g1⟩:=h1;obtain ⟨o2,c2,rfl,g2⟩:=h2;exact ⟨⟨p.w,⟨p.d.d,o1,c1⟩,p.n,p.kl,o2,c2⟩,⟨rfl,rfl,rfl,rfl,hv1,hv2⟩,g1,g2⟩
  obtain ⟨G,hG⟩:∃ G:Nat->AV,∀ (i:Nat),∀ p,t[i]? =some p->KQ (mR Tp L0) (G i) p/\TB Pt.cells L0 (i+1) (G i).d.o (G i).d.d.ps/\TB fZ L0 (t.length+i+1) (G i).ko (G i).kl:=by
   refine Classical.axiomOfChoice (r:=λ(i:Nat) (p':AV)=>∀ p,t[i]? =some p->KQ (mR Tp L0) p' p/\TB Pt.cells L0 (i+1) p'.d.o p'.d.d.ps/\TB fZ L0 (t.length+i+1) p'.ko p'.kl) λi=>?_;cases hq:t[i]? with
   |none=>exact ⟨⟨0,⟨Go.Jr.hd0,none,0⟩,0,[],none,0⟩,λp h=>by cases h⟩
   |some p=>
    obtain ⟨p',h1⟩:=hrel i p hq;exact ⟨p',λp2 h=>by cases h;exact h1⟩
  let l':List AV:=(List.range t.length).map G;have hl':∀ (i:Nat) p',l'[i]? =some p'->i<t.length/\p'=G i:=by
   intro i p' hp;have hp:((List.range t.length).map G)[i]? =some p':=hp;rw [List.getElem?_map] at hp;by_cases hi:i<t.length
   ·rw [List.getElem?_range hi] at hp;exact ⟨hi,by simpa using hp.symm⟩
   ·rw [List.getElem?_eq_none (by rw [List.length_range];omega)] at hp;cases hp
  have hll:l'.length=t.length:=by simp [l']
  have htlen:t.length=min l.length 40:=by rw [List.length_take,Nat.min_comm]
  let L:List Arg:=((a.block,a.off),some (flat AV.cells l',e'))::R;have hLm:L.map (·.1)=L0.map (·.1):=rfl;have hmR:mR Tp L=mR Tp L0:=by unfold mR;rw [hLm]
  have hact:∀ (i:Nat) p' p,l'[i]? =some p'->t[i]? =some p->KQ (mR Tp L0) p' p:=by
   intro i p' p h1 h2;obtain ⟨_,rfl⟩:=hl' i p' h1;exact (hG i p h2).1
  refine ⟨L,.slice (some ⟨Tp.globals.size+0,0,none⟩) l.length c,l',?_,?_,?_,by rw [hll,htlen],?_,λgl hk=>⟨[Tp.globals.size+L.length],⟨_,_,rfl,?_,?_⟩,?_⟩⟩
  ·show (t.map (λp=>(K p).1)++t.map (λp=>(K p).2)).length+1<=81;rw [Lq,List.length_map,List.length_map,htlen];omega
  ·intro j p cs2 e hj;cases j with
   |zero=>
    have hj:some (((a.block,a.off),some (flat AV.cells l',e')):Arg)=some (p,some (cs2,e)):=hj;simp only [Oi,Pj] at hj;obtain ⟨rfl,rfl,rfl⟩:=hj;refine ⟨cs,fr,hb,ho,λi v hv=>?_⟩;obtain ⟨v',h1,h2⟩:=SE (l:=t) (by rw [hll];exact Nl _) hact i v hv;refine ⟨v',hg i v' ?_,by rw [hmR];exact h2⟩;have et:flat AV.cells l=flat AV.cells t++flat AV.cells (l.drop 40):=by
     have h3:flat AV.cells (l.take 40++l.drop 40)=flat AV.cells (l.take 40)++flat AV.cells (l.drop 40):=by unfold flat;rw [List.flatMap_append]
     rw [List.take_append_drop] at h3;exact h3
    rw [et,List.getElem?_append_left]
    ·exact h1
    ·exact (Gs.1 h1).1
   |succ j=>
    have hj:(t.map (λp=>(K p).1)++t.map (λp=>(K p).2))[j]? =some (p,some (cs2,e)):=hj;rcases Mz.1 (List.mem_of_getElem? hj) with hm | hm
    ·obtain ⟨y,hy,he⟩:=List.mem_map.1 hm;exact CP.args (hK y (htl y hy)).pt WK he
    ·obtain ⟨y,hy,he⟩:=List.mem_map.1 hm;exact CP.args (hK y (htl y hy)).kp WI he
  ·rw [hs];refine .slice (.inl ⟨hc2,rfl⟩) hc λ_=>⟨rfl,hsp,a.off,?_,rfl⟩;show mA Tp (L.map (·.1)) (Tp.globals.size+0)=_;rw [Kv];rfl
  ·intro i p' p h1 h2;obtain ⟨hi,rfl⟩:=hl' i p' h1;have h2:t[i]? =some p:=by
    rw [List.getElem?_take_of_lt (by omega)];exact h2
   exact ⟨(hG i p h2).1.d,(hG i p h2).1.w⟩
  ·rw [hll,htlen];omega
  ·exact QD Fx hk rfl
  ·intro p' hp';obtain ⟨i,hi⟩:=List.mem_iff_getElem?.1 hp';obtain ⟨hit,rfl⟩:=hl' i p' hi;obtain ⟨p,hp⟩:∃ p,t[i]? =some p:=⟨_,Ge hit⟩;obtain ⟨_,g1,g2⟩:=hG i p hp;constructor
   ·rcases g1 with h0 | ⟨q,e,h1,h3⟩
    ·unfold DV.sv;rw [h0];exact ⟨[],.nil _ _ _,by simp⟩
    ·unfold DV.sv;rw [h1];exact ⟨_,QD (j:=i+1) WJ hk h3,λy hy=>by rw [Ms.1 hy];exact Nat.le_add_right _ _⟩
   ·rcases g2 with h0 | ⟨q,e,h1,h3⟩
    ·unfold AV.kv;rw [h0];exact ⟨[],.nil _ _ _⟩
    ·unfold AV.kv;rw [h1];exact ⟨_,QD (j:=t.length+i+1) WH hk h3⟩
variable {t:TypeId} {cs:List Value} {c0 c1 c2 v:Value} {W:World}
theorem Tryz.cells3:Tp.cellsOf 3=1:=by kernel_rfl
theorem Tryz.cells5:Tp.cellsOf 5=1:=by kernel_rfl
theorem Tryz.cells9:Tp.cellsOf 9=1:=by kernel_rfl
theorem Tryz.cells30:Tp.cellsOf 30=1:=by kernel_rfl
theorem Tryz.cells32:Tp.cellsOf 32=3:=by kernel_rfl
theorem Tryz.cells33:Tp.cellsOf 33=1:=by kernel_rfl
theorem Tryz.cells35:Tp.cellsOf 35=4:=by kernel_rfl
theorem Tryz.cells36:Tp.cellsOf 36=1:=by kernel_rfl
theorem Tryz.cells38:Tp.cellsOf 38=7:=by kernel_rfl
theorem Tryz.cells83:Tp.cellsOf 83=1:=by kernel_rfl
theorem Tryz.cells85:Tp.cellsOf 85=5:=by kernel_rfl
section
variable {H:Type} {enc:TypeId × Value->H} {w:World} {q:Nat}
theorem NI{k:IntKind}{y:DataW H × List MemPlace}(hu:Tp.underlying t=some (.int k))(h:DataW.trod enc Tp w 0 (λ_=>true) true q t cs=some y):∃ n:Int,cs=[.int k n]/\k.min<=n/\n<=k.max:=by
 obtain ⟨n,e0,_,wk⟩:=DataW.trod_int hu h;simp only [Lit.wf,Bq,decide_eq_true_eq] at wk;exact ⟨n,e0,wk.1,wk.2⟩
theorem Le{k:IntKind}{y:DataW H × List MemPlace}(hu:Tp.underlying t=some (.int k))(hmin:k.min=0)(h:DataW.trod enc Tp w 0 (λ_=>true) true q t [c0]=some y):∃ n:Nat,c0=.int k (n:Int)/\(n:Int)<=k.max:=by
 obtain ⟨k,e0,h1,h2⟩:=NI hu h;cases e0;have hk0:0<=k:=by rw [hmin] at h1;exact h1
 refine ⟨k.toNat,?_,?_⟩
 ·rw [Int.toNat_of_nonneg hk0]
 ·rw [Int.toNat_of_nonneg hk0];exact h2
theorem RZ{y:DataW H × List MemPlace}(h:DataW.trod enc Tp w 0 (λ_=>true) true q 32 [c0,c1,c2]=some y):
  ∃ (f:Nat) (g b:ByteArray),c0=.int .u32 (f:Int)/\c1=.string g/\c2=.string b/\f<4294967296:=by
 obtain ⟨z0,z1,z2,n',_,_,g0,g1,g2⟩:=trod_struct3 Tryz.underlying32 h;have g0:DataW.trod enc Tp w 0 (λ_=>true) true n' 30 [c0]=some z0:=by simpa [Tryz.cells30] using g0
 have g1:DataW.trod enc Tp w 0 (λ_=>true) true n' 9 [c1]=some z1:=by simpa [Tryz.cells9] using g1
 have g2:DataW.trod enc Tp w 0 (λ_=>true) true n' 9 [c2]=some z2:=by simpa [Tryz.cells9] using g2
 obtain ⟨f,rfl,hf⟩:=Le Tryz.underlying30 rfl g0;obtain ⟨g,e1,_⟩:=DataW.trod_string Tryz.underlying9 g1;obtain ⟨b,e2,_⟩:=DataW.trod_string Tryz.underlying9 g2;cases e1;cases e2;have hf:(f:Int)<=4294967295:=hf;exact ⟨f,g,b,rfl,rfl,rfl,by omega⟩
theorem Aag{y:DataW H × List MemPlace}(h:DataW.trod enc Tp w 0 (λ_=>true) true q 85 cs=some y):∃ p:Pt,cs=p.cells/\p.wf:=by
 obtain ⟨xs,n,_,_,hl,hlen,hg⟩:=DataW.trod_struct Tryz.underlying85 h;have hl:cs.length=5:=hl.trans Tryz.cells85
 match cs,hl,xs,hlen with
 |[c0,c1,c2,c3,c4],_,[y0,y1,y2],_=>
  have g0:DataW.trod enc Tp w 0 (λ_=>true) true n 5 [c0]=some y0:=by simpa [Tryz.cells5] using hg 0 _ rfl
  have g1:DataW.trod enc Tp w 0 (λ_=>true) true n 32 [c1,c2,c3]=some y1:=by simpa [Tryz.cells32] using hg 1 _ rfl
  have g2:DataW.trod enc Tp w 0 (λ_=>true) true n 83 [c4]=some y2:=by simpa [Tryz.cells83] using hg 2 _ rfl
  obtain ⟨a,rfl,w0⟩:=Le Tryz.underlying5 rfl g0;obtain ⟨f,g,b,rfl,rfl,rfl,w1⟩:=RZ g1;obtain ⟨m4,rfl,w4⟩:=Le Tryz.underlying83 rfl g2;have w0:(a:Int)<=255:=w0;have w4:(m4:Int)<=255:=w4;exact ⟨⟨a,f,g,b,m4⟩,rfl,by show a<256;omega,w1,by show m4<256;omega⟩
theorem X5{c3:Value}{y:DataW H × List MemPlace}(h:DataW.trod enc Tp w 0 (λ_=>true) true q 35 [c0,c1,c2,c3]=some y):
  ∃ (d:Dc) (La:Arg),c0=.int .u32 (d.f:Int)/\c1=.string d.g/\c2=.string d.b/\CP w Pt.cells c3 d.ps La/\d.wf:=by
 obtain ⟨y0,y1,n,_,_,h0,h1⟩:=trod_struct2 Tryz.underlying35 h;have h0:DataW.trod enc Tp w 0 (λ_=>true) true n 32 [c0,c1,c2]=some y0:=by simpa [Tryz.cells32] using h0
 have h1:DataW.trod enc Tp w 0 (λ_=>true) true n 33 [c3]=some y1:=by simpa [Tryz.cells33] using h1
 obtain ⟨f,g,b,rfl,rfl,rfl,w1⟩:=RZ h0;obtain ⟨s,l,La,e3,hs,hw⟩:=LY (f:=Pt.cells) (ok:=Pt.wf) ⟨0,0,.empty,.empty,0⟩ Tryz.underlying33 (by rw [Tryz.cells85];decide) (λq=>by rw [Tryz.cells85];rfl) (λq cs y h=>Aag h) h1;cases e3;exact ⟨⟨f,g,b,l⟩,La,rfl,rfl,rfl,hs,w1,hw⟩
theorem V7{y:DataW H × List MemPlace}(h:DataW.trod enc Tp w 0 (λ_=>true) true q 36 cs=some y):∃ (s:Value) (l:List Int) (La:Arg),cs=[s]/\CP w fZ s l La:=by
 obtain ⟨s,l,La,hc,hs,_⟩:=LY (f:=fZ) (ok:=λ_=>True) 0 Tryz.underlying36 (by rw [Tryz.cells3];decide) (λf=>by rw [Tryz.cells3];rfl) (λq cs y hy=>by
  obtain ⟨n,rfl,_⟩:=NI Tryz.underlying3 hy;exact ⟨n,rfl,trivial⟩) h
 exact ⟨s,l,La,hc,hs⟩
theorem J6{β:Type}{f:β->List Value}{s:Value}{l:List β}{La:Arg}(h:CP W f s l La):∃ o c,s=.slice o l.length c:=by
 cases h with
 |nil h1 _ h0=>obtain ⟨o,c,rfl⟩:=h0;subst h1;exact ⟨_,_,rfl⟩
 |blk a c cs e' fr hs=>exact ⟨_,_,hs⟩
def OkA(W:World)(p:AV):Prop:=(∃ k,VL W p k)/\p.d.d.wf/\p.w<256
theorem X6{y:DataW H × List MemPlace}(h:DataW.trod enc Tp w 0 (λ_=>true) true q 38 cs=some y):∃ p:AV,cs=p.cells/\OkA w p:=by
 obtain ⟨xs,n,_,_,hl,hlen,hg⟩:=DataW.trod_struct Tryz.underlying38 h;have hl:cs.length=7:=hl.trans Tryz.cells38
 match cs,hl,xs,hlen with
 |[c0,c1,c2,c3,c4,c5,c6],_,[y0,y1,y2,y3],_=>
  have g0:DataW.trod enc Tp w 0 (λ_=>true) true n 5 [c0]=some y0:=by simpa [Tryz.cells5] using hg 0 _ rfl
  have g1:DataW.trod enc Tp w 0 (λ_=>true) true n 35 [c1,c2,c3,c4]=some y1:=by simpa [Tryz.cells35] using hg 1 _ rfl
  have g2:DataW.trod enc Tp w 0 (λ_=>true) true n 3 [c5]=some y2:=by simpa [Tryz.cells3] using hg 2 _ rfl
  have g3:DataW.trod enc Tp w 0 (λ_=>true) true n 36 [c6]=some y3:=by simpa [Tryz.cells36] using hg 3 _ rfl
  obtain ⟨m0,rfl,hm0⟩:=Le Tryz.underlying5 rfl g0;obtain ⟨d,La,rfl,rfl,rfl,hin,hwf⟩:=X5 g1;obtain ⟨z,hz,_⟩:=NI Tryz.underlying3 g2;obtain ⟨s,kl,ka,hs,hkin⟩:=V7 g3;obtain ⟨o1,c1,rfl⟩:=J6 hin;obtain ⟨o2,c2,rfl⟩:=J6 hkin;have hm0:(m0:Int)<=255:=hm0;simp only [Li,and_true] at hz hs;subst hz;subst hs;exact ⟨⟨m0,⟨d,o1,c1⟩,z,kl,o2,c2⟩,rfl,⟨(La,ka),hin,hkin⟩,hwf,by show m0<256;omega⟩
theorem V8{b0:Nat}{d:DataW H}{p:List MemPlace}(hv:Value.okWide Tp w .any b0 22 v)(h:DataW.Trod enc Tp w 0 (λ_=>true) true 22 v d p):
  ∃ (l:List AV) (La:Arg),CP w AV.cells v l La/\∀ p∈l,OkA w p:=by
 obtain ⟨fuel,hf⟩:=h;obtain ⟨s,l,La,hc,hs,hw⟩:=LY (f:=AV.cells) (ok:=OkA w) ⟨0,⟨Go.Jr.hd0,none,0⟩,0,[],none,0⟩ Tryz.underlying22 (by rw [Tryz.cells38];decide) (λf=>by rw [Tryz.cells38];rfl) (λq cs y hy=>X6 hy) hf;have hv0:v=s:=by
  obtain ⟨a,n,c,rfl⟩:=okWide_slice Tryz.underlying22 hv
  simpa [Value.cells] using hc
 subst hv0;exact ⟨l,La,hs,hw⟩
end
def rowsG:List (Nat × List Value × TypeId):=[(1,Z4,278)]
theorem Tryz.okG:okG Tp.globals.size rowsG=true:=by kernel_rfl
theorem YR{L:List Arg}(hk:Tp.globals.size+L.length+1<=Aj):Glb (wR Tp.globals.size rowsG L):=by
 refine ⟨?_,by show 1<Tp.globals.size+L.length+1;rw [Tryz.nG];omega⟩;show (Mp _ _ L _).get? _=_;rw [FY _ L _ _ _ (by omega),if_pos (by rw [Tryz.nG];decide)];rfl
theorem AaD(hW:Go.Abs.Holds W rowsG)(hp:Pow W)(hE:Jw W)(m:Inj Tp)[Nfl m]:KC.Holds Tp W m ⟨8,[],[.bool true]⟩:=by
 refine YO (R:=λW=>Go.Abs.Holds W rowsG/\Pow W/\Jw W) (λW W' h hb=>⟨λx hx=>?_,h.2.1.grow hb,h.2.2.grow hb⟩) (show (8:Nat)≠Et by decide) (λW h=>?_) ⟨hW,hp,hE⟩ m
 ·obtain ⟨fr,hc⟩:=h.1 x hx;exact ⟨fr,by rw [hb.block x.1 (Array.getElem?_eq_some_iff.1 hc).1];exact hc⟩
 ·have hk:Tp.globals.size+([]:List Arg).length+1<=Aj:=by rw [Tryz.nG];show 7+0+1<=Aj;decide
  refine MP (L:=[]) (gl:=rowsG) (args:=[]) gP Tryz.okG hk h.1 (λj p cs e hj=>by simp at hj) .nil (wc8 h.2.2 h.2.1 (YR hk) (Qo Tryz.okG hk) ?_);show Tp.globals.size+0+1<1000000000;rw [Tryz.nG];decide
theorem Sy{l:List AV}{La:Arg}(hW:Go.Abs.Holds W rowsG)(hE:Jw W)(hp:Pow W)(h:CP W AV.cells v l La)(hok:∀ p∈l,OkA W p):
  Calls Tp 3 #[v] W λe W'=>e=.returned (.bool true)/\Below W.heap.size W W':=by
 obtain ⟨L,s',l',hL,hA,hv,hll,hpn,hgl⟩:=Xb h λp hp=>(hok p hp).1;have hmax:Aj=1099511627776:=rfl;have hk:Tp.globals.size+L.length+1<=Aj:=by rw [Tryz.nG];omega
 obtain ⟨F,hr,hkp⟩:=hgl rowsG hk;have hG:TC (wR Tp.globals.size rowsG L) s' l' W (mR Tp L):=by
  refine ⟨⟨l.length,F,hr,hll⟩,λa ha=>?_,YR hk,Qo Tryz.okG hk,?_,hp,hE,AaD hW hp hE _⟩
  ·obtain ⟨i,hi⟩:=List.mem_iff_getElem?.1 ha;have hil:=(Gs.1 hi).1;obtain ⟨p,hp⟩:∃ p,l[i]? =some p:=⟨_,Ge (by omega)⟩;obtain ⟨e1,e2⟩:=hpn i a p hi hp;have hpo:=(hok p (List.mem_of_getElem? hp)).2;obtain ⟨⟨F1,r1,r2⟩,hk2⟩:=hkp a ha;refine ⟨by rw [e1];exact hpo.1,by rw [e2];exact hpo.2,⟨F1,r1,λy hy hm=>?_⟩,hk2⟩
   have:=r2 y hy
   rw [Tryz.nG] at this
   have:=Ms.1 hm
   omega
  ·show Tp.globals.size+L.length+1<1000000000;rw [Tryz.nG];omega
 exact MP (L:=L) (gl:=rowsG) (args:=[s']) gP Tryz.okG hk hW hA (.cons hv .nil) (wc3 hG)
end
end Go.Proofs.YtnennggfoegcmaaGreatDoor
