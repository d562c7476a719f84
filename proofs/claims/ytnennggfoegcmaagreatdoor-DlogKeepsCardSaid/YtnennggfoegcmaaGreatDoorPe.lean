/-
  This text prints what the functions reached ask of their memory, and shows what they answer. Conditions: those that each theorem states.
-/
import Derived.Test.YtnennggfoegcmaaGreatDoorPd
import Derived.Shelf.SlMaps.Clone
set_option linter.all false
set_option maxRecDepth 100000
set_option maxHeartbeats 1000000
namespace Go.Proofs.YtnennggfoegcmaaGreatDoor
open Go.Abs Go.Jr
variable {A:AW} {b n:ByteArray} {d mp t2 t0 t1:Nat} {s:DS} {K:Value->AW->Prop}
theorem Adi(A:AW)(a b c e:Value):D2 Tp A (.func (.func 139) ⟨[]⟩ ⟨[a,b,c,e]⟩) []=.ok (.enter 139 [a,b,c,e]) A:=by kernel_rfl
theorem Adh(A:AW)(a b c:Value):D2 Tp A (.func (.func 140) ⟨[]⟩ ⟨[a,b,c]⟩) []=.ok (.enter 140 [a,b,c]) A:=by kernel_rfl
theorem Adg(A:AW)(a b c e:Value):D2 Tp A (.func (.func 141) ⟨[]⟩ ⟨[a,b,c,e]⟩) []=.ok (.enter 141 [a,b,c,e]) A:=by kernel_rfl
theorem WA:Bn Tp (λ_=>undef) (.alloc 89)=some (.row [.string ⟨⟨[]⟩⟩,.int .i64 0] 89):=by kernel_rfl
theorem I8{b:Nat}{p:Prop}(h:A.get b=some (.row [.string ⟨⟨[]⟩⟩,.int .i64 0] 89 b 0 false))(hp:p):Cd (Bn Tp (λ_=>undef) (.alloc 89)) A (pP b 0) p:=by
 refine ⟨⟨_,WA,?_⟩,hp⟩;simp only [B4,Eu,h,EF,EV,G1,Bool.and_self,Option.isNone_none,Bool.true_and,Nat.beq_refl]
section
variable {W0:World} {m0:Inj Tp}
theorem Ad8 {t9:Nat} {fv:Fv} {K:Value->AW->Prop} (h:Dk A d mp s) (hf:Aw A) (hA:A.next<=Aj) (h9:Abs.Row1 A t9 [.string fv.1,.int .i64 (fv.2:Int)] 89) (h2:Abs.Row1 A t2 [.string b] 9)
  (h0:Abs.Row1 A t0 [pP d 0] 23) (h1:Abs.Row1 A t1 [.string n] 9) (hl:fv.1.data.toList.length+b.data.toList.length<1099511627776)
  (hk:∀ A2 v,Dk A2 d mp { s with D:=Cm s.D n.data.toList (fv.1.data.toList++b.data.toList,fv.2) }->Ah A A2 [mp]->A2.next<=A.next->Aw A2->K v A2):
  Wc Tp Al W0 m0 139 [pP t9 0,pP t2 0,pP t0 0,pP t1 0] A K:=by
 refine Ahc _ _ _ _ _ BD ?_;rw [Aiy];obtain ⟨es,c,hr,hm,hne,hD⟩:=h;simp only [Cr,Eg,GL,E1,AD,C2,Ha,QW,Af h0.row,Af h1.row,Af h2.row,Af h9.row,Af hr.row,cellOf,AB,AG,AI,Bp,Cf,Ab,Nat.zero_add];rw [Ai9 hl];simp only [Ab,Tf];refine hm.put mtF hf hA (k:=n) (v:=(⟨⟨fv.1.data.toList++b.data.toList⟩⟩,fv.2)) λA2 c2 hm2 k2 n2 f2=>?_;refine hk A2 _ ⟨_,c2,hr.keeps k2 (by simp;exact hne),hm2,hne,?_⟩ k2 (by omega) f2;show Cm s.D _ _=_;rw [hD,JA];rfl
theorem Ad6 {t5:Nat} {fv:Fv} {K:Value->AW->Prop} (h:Dk A d mp s) (hf:Aw A) (hA:A.next<=Aj) (h5:Abs.Row1 A t5 [.string fv.1,.int .i64 (fv.2:Int)] 89)
  (h0:Abs.Row1 A t0 [pP d 0] 23) (h1:Abs.Row1 A t1 [.string n] 9)
  (hk:∀ A2 v,Dk A2 d mp { s with D:=Cm s.D n.data.toList (fv.1.data.toList,fv.1.data.toList.length) }->Ah A A2 [mp]->A2.next<=A.next->Aw A2->K v A2):
  Wc Tp Al W0 m0 140 [pP t5 0,pP t0 0,pP t1 0] A K:=by
 refine Ahb _ _ _ _ BD ?_;rw [Aix];obtain ⟨es,c,hr,hm,hne,hD⟩:=h;simp only [Cr,Eg,E1,AD,C2,Ha,Af h0.row,Af h1.row,Af h5.row,Af hr.row,cellOf,AB,AG,Bp,Cf,Ab,Hj,Tf];refine hm.put mtF hf hA (k:=n) (v:=(fv.1,fv.1.data.toList.length)) λA2 c2 hm2 k2 n2 f2=>?_;refine hk A2 _ ⟨_,c2,hr.keeps k2 (by simp;exact hne),hm2,hne,?_⟩ k2 (by omega) f2;show Cm s.D _ _=_;rw [hD,JA];rfl
theorem Ad5 {t12:Nat} {fv:Fv} {t:ByteArray} {K:Value->AW->Prop} (h:Dk A d mp s) (hf:Aw A) (hA:A.next<=Aj) (h12:Abs.Row1 A t12 [.string fv.1,.int .i64 (fv.2:Int)] 89)
  (h0:Abs.Row1 A t0 [pP d 0] 23) (h1:Abs.Row1 A t1 [.string n] 9) (h2:Abs.Row1 A t2 [.string t] 9) (hd0:mp≠t0) (hd2:mp≠t2) (hd12:mp≠t12)
  (hk:∀ A2 v,Dk A2 d mp { s with D:=Cm (Ho s.D n.data.toList) t.data.toList (fF fv) }->Ah A A2 [mp]->A2.next<=A.next->Aw A2->K v A2):
  Wc Tp Al W0 m0 141 [pP t0 0,pP t1 0,pP t12 0,pP t2 0] A K:=by
 refine Aha _ _ _ _ _ BD ?_;rw [Aiw];obtain ⟨es,c,hr,hm,hne,hD⟩:=h;simp only [Cr,Eg,E1,AD,C2,Af h0.row,Af h1.row,Af hr.row,cellOf,AB,AG,Bp,Cf,Ab];refine hm.del mtF hf hA (k:=n) λA1 hm1 k1 n1 f1=>?_;have hr1:=hr.keeps k1 (by simp;exact hne);have h01:=h0.keeps k1 (by simp;exact λe=>hd0 e.symm);have h21:=h2.keeps k1 (by simp;exact λe=>hd2 e.symm);have h121:=h12.keeps k1 (by simp;exact λe=>hd12 e.symm);simp only [Cr,Eg,E1,AD,C2,Af h01.row,Af h21.row,Af hr1.row,cellOf,AB,AG,Bp,Cf,Ab,YH (v:=fv) h121];refine hm1.put mtF f1 (by omega) (k:=t) (v:=fv) λA2 c2 hm2 k2 n2 f2=>?_;refine hk A2 _ ⟨_,c2,hr1.keeps k2 (by simp;exact hne),hm2,hne,?_⟩ (k1.trans k2 (by simp)) (by omega) f2;show Cm (Ho s.D _) _ _=_;rw [hD,JA,Vw]
theorem Up(es:List (En ByteArray Fv))(k:ByteArray):fileOf (es.map fE) k.data.toList=fF ((Dw Fg es k).getD (⟨⟨[]⟩⟩,0)):=by
 unfold fileOf;rw [<- FT];cases Dw Fg es k<;>rfl
theorem Ur(hw:OkD s)(n:List UInt8):(fileOf s.D n).1.length<=1048576:=by
 unfold fileOf BV;cases h:s.D.find? λe=>e.1==n with
 |none=>exact Nat.zero_le _
 |some e=>exact hw.len e (List.mem_of_find?_eq_some h)
theorem ZT (h:Dk A d mp s) (hw:OkD s) (hN:OkN s) (hb:b.data.toList.length<1000000000) (hf:Aw A) (hA:A.next+60+3*s.D.length<Aj)
  (hk:∀ A',Dk A' d mp (Bg s n.data.toList b.data.toList).1->Ah A A' [d,mp]->A'.next<=A.next+10+s.D.length->Aw A'->K (.int .i64 (Bg s n.data.toList b.data.toList).2) A'):
  Wc Tp Al W0 m0 73 [pP d 0,.string n,.string b] A K:=by
 refine w73 _ _ _ _ BD ?_;rw [e73];have hlt:=h.lt;have hfew:=hw.few;refine AZ (cs:=[pP d 0]) hf (by omega) rfl λA1 m1=>?_;have n1:=m1.next;have k1:=m1.keeps hf;refine AZ (cs:=[.string n]) m1.Ay (by omega) rfl λA2 m2=>?_;have n2:=m2.next;have k2:=m2.keeps m1.Ay;refine AZ (cs:=[.string b]) m2.Ay (by omega) rfl λA3 m3=>?_;have n3:=m3.next;have k3:=m3.keeps m2.Ay;have K3:Ah A A3 []:=(k1.trans k2 (by simp)).trans k3 (by simp);have h0:=(m1.Bk.keeps k2 (by simp)).keeps k3 (by simp);have h1:=m2.Bk.keeps k3 (by simp);have h2:=m3.Bk;have hd3:=h.keeps K3 (by simp) (by simp);simp only [Cr,Af h0.row,cellOf,AB,Cf,Ab];refine Pr hd3 ?_;simp only [Bw,Ab];unfold IN;unfold Bg at hk;refine Bj.2 ⟨λhe=>?_,λhe=>?_⟩
 ·have hd:s.down=true:=by
   cases hq:s.down with
   |true=>rfl
   |false=>rw [hq] at he;simp at he
  rw [if_pos hd] at hk;rw [if_pos hd];exact hk A3 hd3 (K3.more (by simp)) (by omega) m3.Ay
 have hd:s.down=false:=by
  cases hq:s.down with
  |false=>rfl
  |true=>rw [hq] at he;simp at he
 rw [Ff (by rw [hd];simp)] at hk;simp only [Eg,Af h1.row,cellOf,AG,Cf,Ab];refine Xr ?_;simp only [Bl,Ab];refine Ag.2 ⟨λhq=>?_,λhq=>?_⟩
 ·have hq:FR n.data.toList=false:=by simpa using hq
  rw [if_pos hq] at hk;exact hk A3 hd3 (K3.more (by simp)) (by omega) m3.Ay
 have hq:FR n.data.toList=true:=by simpa using hq
 rw [Ff (by rw [hq];simp)] at hk;refine AH zF m3.Ay (by omega) rfl λA4 m4=>?_;have n4:=m4.next;have k4:=m4.keeps m3.Ay;refine I8 m4.row ?_;have h04:=h0.keeps k4 (by simp);have h14:=h1.keeps k4 (by simp);have h24:=h2.keeps k4 (by simp);have hd4:=hd3.keeps k4 (by simp) (by simp);obtain ⟨es,c,hr,hm,hne,hD⟩:=hd4;simp only [Cr,Eg,Af h04.row,Af h14.row,Af hr.row,cellOf,AB,AG,Bp,Cf,Ab,AD,C2,E1,Abz hm];obtain ⟨fv,hfv⟩:∃ fv,(Dw Fg es n).getD (⟨⟨[]⟩⟩,0)=fv:=⟨_,rfl⟩;have hfo:fileOf s.D n.data.toList=fF fv:=by rw [hD,Up,hfv]
 rw [hfv];rw [hfo] at hk;have hfl:fv.1.data.toList.length<=1048576:=by have:=Ur hw n.data.toList;rw [hfo] at this;exact this
 refine m4.Bk.store m4.Ay (by omega) (FN _ _ _) rfl (by show 0+2<=2;omega) rfl λA5 r5 k5 n5 f5=>?_;have r5:Abs.Row1 A5 A3.next [.string fv.1,.int .i64 (fv.2:Int)] 89:=r5;have k5:Ah A4 A5 [A3.next]:=k5;have h05:=h04.keeps k5 (by simp;omega);have h15:=h14.keeps k5 (by simp;omega);have h25:=h24.keeps k5 (by simp;omega);have hd5:=(hd3.keeps k4 (by simp) (by simp)).keeps k5 (by simp;omega) (by simp;omega);have K5:Ah A A5 []:=(K3.trans k4 (by simp)).trans k5 (λx hx=>by have:=Ms.1 hx;have:=K3.next;exact .inr (by omega));have hr5:=hr.keeps k5 (by simp;omega);simp only [Eg,Af h25.row,Af r5.row,cellOf,AG,Cf,Ab,Hj,Ha,Db,B3];rw [wrap_i64 (by omega) (by omega)];simp only [Az];have hfl1:(fF fv).1.length=fv.1.data.toList.length:=rfl;rw [hfl1] at hk;refine ⟨λhq=>?_,λhq=>?_⟩
 ·rw [if_pos hq] at hk;exact hk A5 hd5 (K5.more (by simp)) (by omega) f5
 rw [Ff hq] at hk;simp only [Cr,Af h05.row,Af hr5.row,cellOf,AB,Bp,AI,Cf,Ab,AD,QY,GL,Nat.zero_add];refine Ad9 hd5 hw f5 (by omega) λA6 k6 n6 f6=>?_;have h06:=h05.keeps k6 (by simp);have h16:=h15.keeps k6 (by simp);have h26:=h25.keeps k6 (by simp);have h96:=r5.keeps k6 (by simp);have hd6:=hd5.keeps k6 (by simp) (by simp);have hr6:=hr5.keeps k6 (by simp);have K6:Ah A A6 []:=K5.trans k6 (by simp);have hu:IJ s.D<=1048576*10000:=by
  have:=XL (l:=s.D.map λe=>e.2.1.length) (M:=1048576) λx hx=>by obtain ⟨y,hy,rfl⟩:=List.mem_map.1 hx;exact hw.len y hy
  rw [List.length_map] at this;unfold IJ;omega
 have hr0:=hN.r0;have hr1:=hN.r1;simp only [Cr,Eg,Af h06.row,Af h26.row,Af hr6.row,cellOf,AB,AG,Bp,AI,Cf,Ab,AD,QY,GL,Nat.zero_add,AR,Hj,Db,B3];rw [wrap_i64 (by omega) (by omega)];simp only [Az];refine ⟨λhq=>?_,λhq=>?_⟩
 ·rw [if_pos hq] at hk;exact hk A6 hd6 (K6.more (by simp)) (by omega) f6
 rw [Ff hq] at hk;refine RA (n:=0) (g:=λD=>Cm D n.data.toList (fv.1.data.toList++b.data.toList,fv.2)) hd6 f6 (by omega) hN.f1 (λA=>Adi A _ _ _ _) rfl (λB s1 K1 kb nb fb hb hDb hk1=>?_) λB hb kb nb fb=>?_
 ·refine Ad8 (fv:=fv) (b:=b) (n:=n) hb fb (by omega) (h96.keeps kb (by simp;omega)) (h26.keeps kb (by simp;omega)) (h06.keeps kb (by simp;omega)) (h16.keeps kb (by simp;omega)) (by omega) λB2 v h2 k2 n2 f2=>?_;exact hk1 B2 v h2 k2 (by omega) f2
 ·exact hk B hb ((K6.more (T:=[d,mp]) (by simp)).trans kb (by simp)) (by omega) fb
end
variable {A:AW} {d mp:Nat} {s:DS} {n:ByteArray} {K:Value->AW->Prop}
section
variable {W0:World} {m0:Inj Tp}
theorem Xp (h:Dk A d mp s) (hN:OkN s) (hf:Aw A) (hA:A.next+60<Aj)
  (hk:∀ A',Dk A' d mp (Ca s n.data.toList).1->Ah A A' [d,mp]->A'.next<=A.next+10->Aw A'->K (.int .i64 (Ca s n.data.toList).2) A'):
  Wc Tp Al W0 m0 75 [pP d 0,.string n] A K:=by
 refine w75 _ _ _ BD ?_;rw [e75];have hlt:=h.lt;refine AZ (cs:=[pP d 0]) hf (by omega) rfl λA1 m1=>?_;have n1:=m1.next;have k1:=m1.keeps hf;refine AZ (cs:=[.string n]) m1.Ay (by omega) rfl λA2 m2=>?_;have n2:=m2.next;have k2:=m2.keeps m1.Ay;have K2:Ah A A2 []:=k1.trans k2 (by simp);have h0:=m1.Bk.keeps k2 (by simp);have h1:=m2.Bk;have hd2:=h.keeps K2 (by simp) (by simp);simp only [Cr,Af h0.row,cellOf,AB,Cf,Ab];refine Pr hd2 ?_;simp only [Bw,Ab];unfold IN;unfold Ca at hk;refine Bj.2 ⟨λhe=>?_,λhe=>?_⟩
 ·have hd:s.down=true:=by
   cases hq:s.down with
   |true=>rfl
   |false=>rw [hq] at he;simp at he
  rw [if_pos hd] at hk;rw [if_pos hd];exact hk A2 hd2 (K2.more (by simp)) (by omega) m2.Ay
 have hd:s.down=false:=by
  cases hq:s.down with
  |false=>rfl
  |true=>rw [hq] at he;simp at he
 rw [Ff (by rw [hd];simp)] at hk;refine AH zF m2.Ay (by omega) rfl λA4 m4=>?_;have n4:=m4.next;have k4:=m4.keeps m2.Ay;refine I8 m4.row ?_;have h04:=h0.keeps k4 (by simp);have h14:=h1.keeps k4 (by simp);have hd4:=hd2.keeps k4 (by simp) (by simp);obtain ⟨es,c,hr,hm,hne,hD⟩:=hd4;simp only [Cr,Eg,Af h04.row,Af h14.row,Af hr.row,cellOf,AB,AG,Bp,Cf,Ab,AD,C2,E1,lookW hm];have hlk:=FT es n;rw [<- hD] at hlk;rw [<- hlk] at hk;cases hq:Dw Fg es n with
 |none=>
  rw [hq] at hk;simp only [FI,E6,Ab];refine m4.Bk.store m4.Ay (by omega) (FN _ _ _) rfl (by show 0+2<=2;omega) rfl λA5 r5 k5 n5 f5=>?_;have k5:Ah A4 A5 [A2.next]:=k5;simp only [AR,Bl,Ab];refine Ag.2 ⟨λ_=>?_,λh=>by simp at h⟩;refine hk A5 ((hd2.keeps k4 (by simp) (by simp)).keeps k5 (by simp;omega) (by simp;omega)) (((K2.trans k4 (by simp)).trans k5 (λx hx=>by have:=Ms.1 hx;have:=K2.next;exact .inr (by omega))).more (by simp)) (by omega) f5
 |some v=>
  rw [hq] at hk;simp only [FI,E6,Ab];refine m4.Bk.store m4.Ay (by omega) (FN _ _ _) rfl (by show 0+2<=2;omega) rfl λA5 r5 k5 n5 f5=>?_;have r5:Abs.Row1 A5 A2.next [.string v.1,.int .i64 (v.2:Int)] 89:=r5;have k5:Ah A4 A5 [A2.next]:=k5;have K5:Ah A A5 []:=(K2.trans k4 (by simp)).trans k5 (λx hx=>by have:=Ms.1 hx;have:=K2.next;exact .inr (by omega));simp only [AR,Bl,Ab];refine Ag.2 ⟨λh=>by simp at h,λ_=>?_⟩;have h05:=h04.keeps k5 (by simp;omega);have h15:=h14.keeps k5 (by simp;omega);have hd5:=(hd2.keeps k4 (by simp) (by simp)).keeps k5 (by simp;omega) (by simp;omega);simp only [Cr,Af h05.row,cellOf,AB,Cf,Ab];refine RA (n:=0) (g:=λD=>Cm D n.data.toList (v.1.data.toList,v.1.data.toList.length)) hd5 f5 (by omega) hN.f1 (λA=>Adh A _ _ _) rfl (λB s1 K1 kb nb fb hb hDb hk1=>?_) λB hb kb nb fb=>?_
  ·refine Ad6 (fv:=v) (n:=n) hb fb (by omega) (r5.keeps kb (by simp;omega)) (h05.keeps kb (by simp;omega)) (h15.keeps kb (by simp;omega)) λB2 v h2 k2 n2 f2=>?_;exact hk1 B2 v h2 k2 (by omega) f2
  ·exact hk B hb ((K5.more (T:=[d,mp]) (by simp)).trans kb (by simp)) (by omega) fb
theorem AdE {t:ByteArray} (h:Dk A d mp s) (hN:OkN s) (hf:Aw A) (hA:A.next+60<Aj)
  (hk:∀ A',Dk A' d mp (Co s n.data.toList t.data.toList).1->Ah A A' [d,mp]->A'.next<=A.next+10->Aw A'->K (.int .i64 (Co s n.data.toList t.data.toList).2) A'):
  Wc Tp Al W0 m0 77 [pP d 0,.string n,.string t] A K:=by
 refine w77 _ _ _ _ BD ?_;rw [e77];have hlt:=h.lt;refine AZ (cs:=[pP d 0]) hf (by omega) rfl λA1 m1=>?_;have n1:=m1.next;have k1:=m1.keeps hf;refine AZ (cs:=[.string n]) m1.Ay (by omega) rfl λA2 m2=>?_;have n2:=m2.next;have k2:=m2.keeps m1.Ay;refine AZ (cs:=[.string t]) m2.Ay (by omega) rfl λA3 m3=>?_;have n3:=m3.next;have k3:=m3.keeps m2.Ay;have K3:Ah A A3 []:=(k1.trans k2 (by simp)).trans k3 (by simp);have h0:=(m1.Bk.keeps k2 (by simp)).keeps k3 (by simp);have h1:=m2.Bk.keeps k3 (by simp);have h2:=m3.Bk;have hd3:=h.keeps K3 (by simp) (by simp);simp only [Cr,Af h0.row,cellOf,AB,Cf,Ab];refine Pr hd3 ?_;simp only [Bw,Ab];unfold IN;unfold Co at hk;refine Bj.2 ⟨λhe=>?_,λhe=>?_⟩
 ·have hd:s.down=true:=by
   cases hq:s.down with
   |true=>rfl
   |false=>rw [hq] at he;simp at he
  rw [if_pos hd] at hk;rw [if_pos hd];exact hk A3 hd3 (K3.more (by simp)) (by omega) m3.Ay
 have hd:s.down=false:=by
  cases hq:s.down with
  |false=>rfl
  |true=>rw [hq] at he;simp at he
 rw [Ff (by rw [hd];simp)] at hk;simp only [Eg,Af h1.row,cellOf,AG,Cf,Ab];refine Xr ?_;simp only [Bl,Ab];refine Ag.2 ⟨λhq=>?_,λhq=>?_⟩
 ·have hq:FR n.data.toList=false:=by simpa using hq
  rw [if_pos (by rw [hq];rfl)] at hk;exact hk A3 hd3 (K3.more (by simp)) (by omega) m3.Ay
 have hq:FR n.data.toList=true:=by simpa using hq
 simp only [Eg,Af h2.row,cellOf,AG,Cf,Ab];refine Xr ?_;simp only [Bl,Ab];refine Ag.2 ⟨λhq2=>?_,λhq2=>?_⟩
 ·have hq2:FR t.data.toList=false:=by simpa using hq2
  rw [if_pos (by rw [hq2,Bool.and_false])] at hk;exact hk A3 hd3 (K3.more (by simp)) (by omega) m3.Ay
 have hq2:FR t.data.toList=true:=by simpa using hq2
 rw [Ff (by rw [hq,hq2];simp)] at hk;refine AH zF m3.Ay (by omega) rfl λA4 m4=>?_;have n4:=m4.next;have k4:=m4.keeps m3.Ay;refine I8 m4.row ?_;have h04:=h0.keeps k4 (by simp);have h14:=h1.keeps k4 (by simp);have h24:=h2.keeps k4 (by simp);have hd4:=hd3.keeps k4 (by simp) (by simp);obtain ⟨es,c,hr,hm,hne,hD⟩:=hd4;simp only [Cr,Eg,Af h04.row,Af h14.row,Af hr.row,cellOf,AB,AG,Bp,Cf,Ab,AD,C2,E1,lookW hm];have hlk:=FT es n;rw [<- hD] at hlk;rw [<- hlk] at hk;cases hq:Dw Fg es n with
 |none=>
  rw [hq] at hk;simp only [FI,E6,Ab];refine m4.Bk.store m4.Ay (by omega) (FN _ _ _) rfl (by show 0+2<=2;omega) rfl λA5 r5 k5 n5 f5=>?_;have k5:Ah A4 A5 [A3.next]:=k5;simp only [AR,Bl,Ab];refine Ag.2 ⟨λ_=>?_,λh=>by simp at h⟩;refine hk A5 ((hd3.keeps k4 (by simp) (by simp)).keeps k5 (by simp;omega) (by simp;omega)) (((K3.trans k4 (by simp)).trans k5 (λx hx=>by have:=Ms.1 hx;have:=K3.next;exact .inr (by omega))).more (by simp)) (by omega) f5
 |some v=>
  rw [hq] at hk;simp only [FI,E6,Ab];refine m4.Bk.store m4.Ay (by omega) (FN _ _ _) rfl (by show 0+2<=2;omega) rfl λA5 r5 k5 n5 f5=>?_;have r5:Abs.Row1 A5 A3.next [.string v.1,.int .i64 (v.2:Int)] 89:=r5;have k5:Ah A4 A5 [A3.next]:=k5;have K5:Ah A A5 []:=(K3.trans k4 (by simp)).trans k5 (λx hx=>by have:=Ms.1 hx;have:=K3.next;exact .inr (by omega));simp only [AR,Bl,Ab];refine Ag.2 ⟨λh=>by simp at h,λ_=>?_⟩;have h05:=h04.keeps k5 (by simp;omega);have h15:=h14.keeps k5 (by simp;omega);have h25:=h24.keeps k5 (by simp;omega);have hd5:=(hd3.keeps k4 (by simp) (by simp)).keeps k5 (by simp;omega) (by simp;omega);simp only [Cr,Af h05.row,cellOf,AB,Cf,Ab];refine RA (n:=0) (g:=λD=>Cm (Ho D n.data.toList) t.data.toList (fF v)) hd5 f5 (by omega) hN.f1 (λA=>Adg A _ _ _ _) rfl (λB s1 K1 kb nb fb hb hDb hk1=>?_) λB hb kb nb fb=>?_
  ·refine Ad5 (fv:=v) (n:=n) (t:=t) hb fb (by omega) (r5.keeps kb (by simp;omega)) (h05.keeps kb (by simp;omega)) (h15.keeps kb (by simp;omega)) (h25.keeps kb (by simp;omega)) (by omega) (by omega) (by omega) λB2 v h2 k2 n2 f2=>?_;exact hk1 B2 v h2 k2 (by omega) f2
  ·exact hk B hb ((K5.more (T:=[d,mp]) (by simp)).trans kb (by simp)) (by omega) fb
end
variable {A:AW} {mp:Nat} {K:Value->AW->Prop}
theorem Ai5(o:Option Nat)(a b:Int)(c:Bool):Bd Tp 68 [(0,.map o),(1,.int .i64 a),(2,.int .i64 b),(3,.bool c)]=some (.agg ⟨[.map o,.int .i64 a,.int .i64 b,.bool c]⟩):=by kernel_rfl
theorem Af5(o:Option Nat)(a:Int):Bd Tp 68 [(0,.map o),(1,.int .i64 a)]=some (.agg ⟨[.map o,.int .i64 a,.int .i64 0,.bool false]⟩):=by kernel_rfl
theorem AcH(a:Addr)(xo yo:Operand):An Tp .eql 23 xo yo (.pointer (some a)) (.pointer none)=some (.bool false):=by kernel_rfl
theorem AaI(r:Nat)(a b:Int)(c:Bool):Bn Tp (λ_=>.agg ⟨[.map (some r),.int .i64 a,.int .i64 b,.bool c]⟩) (.box 68 (.tmp 0))=some (.row [.map (some r),.int .i64 a,.int .i64 b,.bool c] 68):=by kernel_rfl
def cR:Go.Shelf.Ren:=⟨λ| 5=>129 | 7=>181 | x=>x,λ| 23=>66 | 25=>9 | 3=>89 | x=>x,λx=>x⟩
theorem clX:SlLaysW.n5 Tp cR:=by apply SlLaysW.n5.mk<;>first | (intros;kernel_rfl) | exact ⟨Tryz.f129.name,by kernel_rfl,by kernel_rfl⟩
theorem Afo {W0:World} {m0:Inj Tp} {A1:AW} {es:List MapEntry} {c b:Nat} {ro:Bool} (hg:A.get mp=some (.map es c ro)) (hn:A.new (.map es c false)=some (b,A1))
  (hk:K (.map (some b)) A1):knW Tp W0 m0 129 [.map (some mp)] A K:=by
 refine .inr λm w args' r _ _ ha=>?_;cases ha with
 |cons hv ht=>
  cases ht;obtain ⟨c',es',rfl,hm,hc,he⟩:=r.map hg hv;obtain ⟨m',g1,g2⟩:=Ea (o':=.map ⟨es'⟩ c) r hn ⟨rfl,es',rfl,he⟩ rfl;refine (AnyW.maps_Clone clX c' ⟨es'⟩ c w hc).mono λe w' ⟨h1,h2⟩=>⟨_,_,m',A1,hk,h1,.map g2,?_⟩;subst h2;exact g1.low (Nl _)
theorem XV{n:Nat}(r:Nat):DT (n+1) (.map (some r)) (.map (some r))=true:=by simp [DT]
theorem AcO(a:Int):Uf (.int .i64 a) [.int .i64 0]=some (.int .i64 (max a 0)):=by
 unfold Uf;simp only [Sn]
 congr 2
 split<;>omega
section
variable {W0:World} {m0:Inj Tp}
theorem wc5 {room:Int} (hf:Aw A) (hA:A.next+5<Aj)
  (hk:∀ A',Dk A' (A.next+1) A.next ⟨[],max room 0,0,false⟩->Ah A A' []->A'.next=A.next+2->Aw A'->K (pP (A.next+1) 0) A'):
  Wc Tp Al W0 m0 5 [.int .i64 room] A K:=by
 refine w5 _ _ BD ?_;rw [e5];refine AeU (ke:=kS) (ve:=vF) hf (by omega) λA1 h1 k1 n1 f1=>?_;simp only [AcO,Af5,Ab];refine AZ (cs:=[.map (some A.next),.int .i64 (max room 0),.int .i64 0,.bool false]) f1 (by omega) rfl λA2 m2=>?_;have n2:=m2.next;have k2:=m2.keeps f1;have r2:=m2.Bk;rw [n1] at r2
 have:=hk A2 ⟨[],0,r2,h1.keeps k2 (by simp),by omega,rfl⟩ (k1.trans k2 (by simp)) (by omega) m2.Ay
 rw [n1];exact this
theorem Ab1 {d:Nat} {s:DS} (h:Dk A d mp s) (hf:Aw A) (hA:A.next+5<Aj)
  (hk:∀ A',Dk A' (A.next+1) A.next s->Ah A A' []->A'.next=A.next+2->Aw A'->K (pP (A.next+1) 0) A'):
  Wc Tp Al W0 m0 65 [pP d 0] A K:=by
 refine w65 _ _ BD ?_;rw [e65];refine Rz h ?_;have hlt:=h.lt;obtain ⟨es,c,hr,hm,hne,hD⟩:=h;simp only [Bl,Ab,AD,C2,QY,Na,Ir,E1,GL,QS,Af hr.row,cellOf,Bp,AI,Di,Cf,Nat.zero_add];refine Ag.2 ⟨λh=>by simp at h,λ_=>?_⟩;obtain ⟨A1,hnew,hm1,k1,n1,f1⟩:=hm.clone hf (by omega);refine Afo hm.row.row hnew ?_;have hr1:=hr.keeps k1 (by simp);simp only [Ab,Af hr1.row,cellOf,Bp,AI,Di,Cf,AR,Ai5];refine AZ (cs:=[.map (some A.next),.int .i64 s.room,.int .i64 s.Dj,.bool s.down]) f1 (by omega) rfl λA2 m2=>?_;have n2:=m2.next;have k2:=m2.keeps f1;have hr2:=hr1.keeps k2 (by simp);refine ⟨⟨_,AaI _ _ _ _,?_⟩,?_⟩
 ·simp only [B4,Eu,m2.row,EF,EV,XV,V0,Bool.and_self,Option.isNone_none,Nat.beq_refl]
 simp only [Af hr2.row,cellOf,Bp,AI,Di,Cf,AR,Ab];have r2:=m2.Bk;rw [n1] at r2
 have:=hk A2 ⟨es,c,r2,hm1.keeps k2 (by simp),by omega,hD⟩ (k1.trans k2 (by simp)) (by omega) m2.Ay
 rw [n1];exact this
end
variable {A:AW} {K:Value->AW->Prop}
abbrev RV:=UInt8 × ByteArray
def fR(r:RV):List Value:=[.int .u8 r.1.toNat,.string r.2]
def toR(r:RV):Rec:=(r.1,r.2.data.toList)
theorem zR:Dt Tp 80=some (.agg ⟨[.int .u8 0,.string ⟨⟨[]⟩⟩]⟩):=by kernel_rfl
theorem etR:ET Tp 60 80 1 fR where
 us:=by kernel_rfl
 sz:=by kernel_rfl
 ag:=by kernel_rfl
 by':=⟨24,by kernel_rfl,by decide⟩
 hz:=by kernel_rfl
 len:=λ_=>rfl
 one:=λ_=>rfl
 noT:=λ_=>rfl
theorem AaQ(A:AW)(s:ByteArray):AQ Tp A 9 92 (.string s)=(match A.new (.row (AP s.data.toList) 5 A.next 0 false) with
  |some (b,w')=>.ok (.slice (some ⟨b,0,none⟩) s.data.toList.length (Bo+s.data.toList.length)) w'
  |none=>.fail "convert new"):=by kernel_rfl
theorem bytesRow{s:ByteArray}(hf:Aw A)(h:A.next<Aj)(hk:∀ A',Grow A A' 1->RdS 5 A' (.slice (some ⟨A.next,0,none⟩) s.data.toList.length (Bo+s.data.toList.length)) s.data.toList [A.next]->A'.next=A.next+1->K (.slice (some ⟨A.next,0,none⟩) s.data.toList.length (Bo+s.data.toList.length)) A'):Ao (AQ Tp A 9 92 (.string s)) K:=by
 rw [AaQ];unfold AW.new;simp only [AA.2 h,Ct];have m:Made A (A.push (.row (AP s.data.toList) 5 A.next 0 false)) (AP s.data.toList) 5:=⟨AW.BR _ h,rfl,by rw [AW.BK _ h,if_pos rfl],hf.alone (Nl _),hf.push _ h⟩;exact AT.2 (hk _ (.made m hf) (.inr ⟨A.next,0,s.data.toList.length,_,_,A.next,0,false,[],rfl,.inl rfl,Nl _,m.row,Nat.lt_succ_self _,rfl,by simp⟩) m.next)
theorem Adw(n:Nat):be n 4=be4 n:=by
 show [UInt8.ofNat (n/256^3),UInt8.ofNat (n/256^2),UInt8.ofNat (n/256^1),UInt8.ofNat (n/256^0)]=_;simp [be4]
theorem OJ(l:List UInt8):Ej l=Ee l:=by
 unfold Ej Ee
 congr 1
 funext a c
 rw [Nat.mul_comm]
theorem V9(l:List Rec)(r:Rec):AF (l++[r])=AF l++AL r:=by rw [Du];simp [AF]
theorem AfT{c:UInt8}(hf:Aw A)(h:A.next<Aj)(hk:∀ A',Made A A' (AP [c]) 5->K (.slice (some ⟨A.next,0,none⟩) 1 1) A'):Ao (Aq Tp A 92 1 [(0,.int .u8 (c.toNat:Int))]) K:=by
 rw [AfU];unfold AW.newRow AW.new;simp only [show ([Value.int .u8 (c.toNat:Int)].all AK)=true from rfl,Ct,AA.2 h];exact AT.2 (hk (A.push (.row [.int .u8 c.toNat] 5 A.next 0 false)) ⟨AW.BR _ h,rfl,by rw [AW.BK _ h,if_pos rfl];rfl,hf.alone (Nl _),hf.push _ h⟩)
theorem QE(l:List Rec)(i:Nat):(AF (l.take i)).length<=(AF l).length:=by
 conv=>rhs;rw [<- List.take_append_drop i l]
 rw [Du,Lq];omega
section
variable {W0:World} {m0:Inj Tp}
theorem Abn {x:Value} {l:List RV} {F:List Nat} (h:RdE 1 fR A x l F) (hg:Glb A) (hf:Aw A) (hl:l.length<10000) (hd:∀ r∈l,r.2.data.toList.length<=65536) (hA:A.next+20*l.length+20<Aj) (hsz:(AF (l.map toR)).length<900000)
  (hk:∀ A',Grow A A' (20*l.length)->K (.tuple ⟨[.string ⟨⟨AF (l.map toR)⟩⟩,.int .i64 0]⟩) A'):Wc Tp Al W0 m0 100 [x] A K:=by
 have hroom:room=68719476736:=rfl;let I:Nat->Nat->List Value->AW->Prop:=λg id vals A'=>id=0/\∃ (i:Nat) (v:Value) (F':List Nat),vals=[v,x,.int .i64 (l.length:Int),.int .i64 (i:Int)]/\i<=l.length/\g=l.length-i/\
  Buf 5 A' v (AF ((l.map toR).take i)) F'/\(∀ y∈F',A.next<=y)/\Grow A A' (20*i)
 refine Ahq _ _ (AiW (I:=I) ?_) ?_
 ·rintro g id vals A' d ⟨rfl,i,v,F',rfl,hi,rfl,hb,hF,hgr⟩ hd';rw [Ac7];simp only [ZL,Mc,Mn,Li,and_true] at hd';obtain ⟨h4,h7,h8,h9⟩:=hd';have hn:=hgr.next;have hle:=hgr.le;simp only [h4,h7,h8,h9,Br,Ab,Az];refine ⟨λhlt=>?_,λhge=>?_⟩
  ·have hlt:i<l.length:=by omega
   obtain ⟨p,hp⟩:∃ p,l[i]? =some p:=⟨_,Ge hlt⟩;have hpl:p.2.data.toList.length<=65536:=hd p (List.mem_of_getElem? hp);have hr:=h.keeps hgr.keeps (by simp);obtain ⟨r,o,a1,a2,a3⟩:=hr.at etR hp;rw [a1];simp only [Ab,a3];refine AH zR hgr.Ay (by omega) rfl λA1 m1=>?_;have n1:=m1.next;refine m1.Bk.store m1.Ay (by omega) (XO _ _ _) rfl (by show 0+2<=2;omega) rfl λA2 r2 k2 n2 f2=>?_;have r2:Abs.Row1 A2 A'.next [.int .u8 p.1.toNat,.string p.2] 80:=r2;have g2:Grow A' A2 1:=(Grow.made m1 hgr.Ay).own k2 (by simp) (m:=0) (by omega) f2;simp only [JK,JJ,L9,Eg,Af r2.row,cellOf,AI,AG,Cf,Ab,Hj,B3,Az,Nat.zero_add];refine ⟨λhgt=>by omega,λ_=>?_⟩;refine AfT f2 (by omega) λA3 m3=>?_;have n3:=m3.next;have g3:=g2.trans (Grow.made m3 f2);have r3:=r2.keeps (m3.keeps f2) (by simp);simp only [Af r3.row,cellOf,AI,AG,Cf,Ab,Hj,HP,AT];rw [wrap_u64 (by omega) (by omega)];have hb3:Buf 5 A3 (.slice (some ⟨A2.next,0,none⟩) 1 1) [p.1] [A2.next]:=AfR (l:=[p.1]) m3.Bk (by simp);refine ZQ (n:=p.2.data.toList.length) (w:=4) m3.Ay (by omega) hb3.rd (by simp) (by omega) λA4 v4 F4 g4 b4 hF4=>?_;have n4:=g4.next;have le4:=g4.le;refine Abg b4.rd ((hg.keeps hgr.keeps (by simp)).keeps (g3.trans g4).keeps (by simp)) g4.Ay (by omega) (by rw [Lq,BW];simp) λA5 v5 F5 g5 b5 hF5=>?_;have n5:=g5.next;have le5:=g5.le;have g5':=(g3.trans g4).trans g5;have hbl:=QE (l.map toR) i;have hhead:Go.Crc.FO ([p.1]++be p.2.data.toList.length 4)=N8 (toR p):=by rw [Adw];rfl
   rw [hhead] at b5;refine DO tb (hb.keeps g5'.keeps (by simp)) (D9 tb b5.rd) g5.Ay (by omega) (by rw [DB];omega) λv6 A6 F6 b6 k6 hF6 n6 f6=>?_;have r6:Abs.Row1 A6 A'.next [.int .u8 p.1.toNat,.string p.2] 80:=(r3.keeps (g4.trans g5).keeps (by simp)).keeps k6 (λhm=>by have:=hb.lt _ hm;omega);simp only [JK,JJ,L9,Eg,Af r6.row,cellOf,AI,AG,Cf,Ab,Nat.zero_add];have hle6:=k6.next;have g6:Grow A A6 (20*i+8):=((hgr.trans g5').own k6 hF (m:=1) n6 f6).more (by omega);refine bytesRow f6 (by omega) λA7 g7 b7 n7=>?_;refine Abg b7.rd ((hg.keeps g6.keeps (by simp)).keeps g7.keeps (by simp)) g7.Ay (by omega) (by omega) λA8 v8 F8 g8 b8 hF8=>?_;have n8:=g8.next;have le8:=g8.le;have g8':=g7.trans g8;refine DO tb (b6.keeps g8'.keeps (by simp)) (D9 tb b8.rd) g8.Ay (by omega) (by rw [Lq,DB,Go.Crc.DZ];omega) λv9 A9 F9 b9 k9 hF9 n9 f9=>?_;have hF6':∀ y∈F6,A.next<=y:=λy hy=>(hF6 y hy).elim (hF y) λh=>by omega
   rw [Bm,wrap_i64 (by omega) (by omega)];simp only [Ab];refine Au.2 ⟨l.length-(i+1),by omega,rfl,i+1,v9,F9,by simp,by omega,rfl,?_,λy hy=>(hF9 y hy).elim (hF6' y) λh=>by omega,?_⟩
   ·have hp':(l.map toR)[i]? =some (toR p):=by rw [List.getElem?_map,hp];rfl
    rw [B9 hp',V9];unfold AL;rw [<- Mw];exact b9
   ·exact ((g6.trans g8').own k9 hF6' (m:=1) n9 f9).more (by omega)
  ·have hi:i=l.length:=by omega
   subst hi;rw [List.take_of_length_le (by simp)] at hb;rw [hb.rd.str tb];exact AT.2 (hk A' hgr)
 ·rw [AiM];rw [h.len etR];simp only [Ab];exact Au.2 ⟨l.length,rfl,0,_,[],rfl,by omega,rfl,Buf.nil _ _,by simp,Grow.refl hf⟩
end
variable {A:AW} {s:ByteArray} {l h:Nat} {K:Value->AW->Prop}
theorem Ach:Tp.underlying 9=some .string:=by kernel_rfl
theorem sl9{k1 k2:IntKind}(h1:l<=h)(h2:h<=s.data.toList.length):AX Tp A 9 (.string s) (some (.int k1 (l:Int))) (some (.int k2 (h:Int))) none=some (.string ⟨⟨(s.data.toList.take h).drop l⟩⟩):=by
 show AX Tp A 9 (.string s) (some (.int k1 (.ofNat l))) (some (.int k2 (.ofNat h))) none=_;unfold AX;simp only [Ach,bounds,FQ,Dn,Option.isSome_some,Bool.true_or,Ct,Bb.2 h2,Bb.2 h1]
theorem XT{k:IntKind}(h2:h<=s.data.toList.length):AX Tp A 9 (.string s) none (some (.int k (h:Int))) none=some (.string ⟨⟨s.data.toList.take h⟩⟩):=by
 show AX Tp A 9 (.string s) none (some (.int k (.ofNat h))) none=_;unfold AX;simp only [Ach,bounds,FQ,Dn,Option.isSome_some,Option.isSome_none,Bool.true_or,Ct,Bb.2 h2];rfl
theorem AeA{k:IntKind}(h2:l<=s.data.toList.length):AX Tp A 9 (.string s) (some (.int k (l:Int))) none none=some (.string ⟨⟨s.data.toList.drop l⟩⟩):=by
 show AX Tp A 9 (.string s) (some (.int k (.ofNat l))) none none=_;unfold AX;simp only [Ach,bounds,FQ,Dn,Option.isSome_none,Bool.not_false,Bool.or_true,Ct,Bb.2 h2];rw [List.take_length]
theorem AiZ(A:AW)(n:Int)(s:ByteArray):Aq Tp A 60 1 [(0,.agg ⟨[.int .u8 n,.string s]⟩)]=(match A.newRow [.int .u8 n,.string s] 80 with | some (a,w')=>.ok (.slice (some a) 1 1) w' | none=>.fail "buildSlice new"):=by kernel_rfl
theorem VG{c:UInt8}(hf:Aw A)(h:A.next<Aj)(hk:∀ A',Made A A' (fR (c,s)) 80->K (.slice (some ⟨A.next,0,none⟩) 1 1) A'):Ao (Aq Tp A 60 1 [(0,.agg ⟨[.int .u8 (c.toNat:Int),.string s]⟩)]) K:=by
 rw [AiZ];unfold AW.newRow AW.new;simp only [show ([Value.int .u8 (c.toNat:Int),.string s].all AK)=true from rfl,Ct,AA.2 h];exact AT.2 (hk (A.push (.row [.int .u8 c.toNat,.string s] 80 A.next 0 false)) ⟨AW.BR _ h,rfl,by rw [AW.BK _ h,if_pos rfl];rfl,hf.alone (Nl _),hf.push _ h⟩)
theorem Vp(n:Int)(s:ByteArray):Bn Tp (BZ (Tm.fill ⟨1,.nil⟩ 0 [.agg ⟨[.int .u8 n,.string s]⟩])) (.buildSlice 60 1 #[(0,.tmp 0)])=some (.slice [.int .u8 n,.string s] 80 1):=by kernel_rfl
theorem Ai2(n:Int)(s:ByteArray):Bd Tp 80 [(0,.int .u8 n),(1,.string s)]=some (.agg ⟨[.int .u8 n,.string s]⟩):=by kernel_rfl
theorem VZ{f:Nat}{s:List UInt8}(h:s.length<f):FP f s=scan s:=NA _ _ _ h (by omega)
theorem LU(s:List UInt8):scan s=(if s=[] then ([],0,0) else
  if s.length<9 then ([],0,1) else
  if Go.Crc.Dz (s.take 9)=false then ([],0,2) else
  if 65536<Ee ((s.take 5).drop 1) then ([],0,2) else
  if s.length<13+Ee ((s.take 5).drop 1) then ([],0,1) else
  if Go.Crc.Dz ((s.drop 9).take (Ee ((s.take 5).drop 1)+4))=false then ([],0,2) else
  ((s.headD 0,(s.drop 9).take (Ee ((s.take 5).drop 1)))::(scan (s.drop (13+Ee ((s.take 5).drop 1)))).1,13+Ee ((s.take 5).drop 1)+(scan (s.drop (13+Ee ((s.take 5).drop 1)))).2.1,(scan (s.drop (13+Ee ((s.take 5).drop 1)))).2.2)):=by
 by_cases h0:s=[]
 ·subst h0;rfl
 ·have:0<s.length:=List.length_pos_iff.2 h0
  have e:=VZ (f:=s.length) (s:=s.drop (13+Ee ((s.take 5).drop 1))) (by rw [List.length_drop];omega)
  conv=>lhs;unfold scan
  rw [Kj,e]
def Aa5(R:List Rec)(u:Nat)(q:List Rec × Nat × Nat):List Rec × Nat × Nat:=(R++q.1,u+q.2.1,q.2.2)
section
variable {W0:World} {m0:Inj Tp}
theorem Aed (hg:Glb A) (hf:Aw A) (hl:s.data.toList.length<900000) (hA:A.next+20*s.data.toList.length+20<Aj)
  (hk:∀ A' v (R:List RV) F,(scan s.data.toList).1=R.map toR->13*R.length<=s.data.toList.length->BF 80 1 fR A' v R F->(∀ y∈F,A.next<=y)->Grow A A' (s.data.toList.length+20)->
   K (.tuple ⟨[v,.int .i64 ((scan s.data.toList).2.1:Nat),.int .u8 ((scan s.data.toList).2.2:Nat)]⟩) A'):Wc Tp Al W0 m0 131 [.string s] A K:=by
 have hroom:room=68719476736:=rfl;let I:Nat->Nat->List Value->AW->Prop:=λg id vals A'=>id=0/\∃ (u:Nat) (R:List RV) (v:Value) (F':List Nat),vals=[.string s,v,.int .i64 (u:Int),.int .u8 0]/\u<=s.data.toList.length/\g=s.data.toList.length-u/\
  BF 80 1 fR A' v R F'/\(∀ y∈F',A.next<=y)/\Grow A A' u/\13*R.length<=u/\scan s.data.toList=Aa5 (R.map toR) u (scan (s.data.toList.drop u))
 refine Ahk _ _ (c131 (I:=I) ?_) ?_
 ·rintro g id vals A' d ⟨rfl,u,R,v,F',rfl,hu,rfl,ho,hF,hgr,hR,hsc⟩ hd';rw [Ac6];simp only [ZK,Mc,Mn,Li,and_true] at hd';obtain ⟨h0,h5,h6,h7⟩:=hd';have hn:=hgr.next;have hle:=hgr.le;have fin:∀ (st:Nat) (A1:AW),BF 80 1 fR A1 v R F'->Grow A A1 (s.data.toList.length+20)->scan (s.data.toList.drop u)=([],0,st)->K (.tuple ⟨[v,.int .i64 (u:Int),.int .u8 (st:Int)]⟩) A1:=by
   intro st A1 h1 g1 he;have e:scan s.data.toList=(R.map toR,u,st):=by rw [hsc,he];simp [Aa5]
   have:=hk A1 v R F' (by rw [e]) (by omega) h1 hF g1
   rw [e] at this;exact this
  rw [LU] at fin;rw [LU (s.data.toList.drop u)] at hsc;simp only [h0,h5,h6,h7,AeA hu,Ab,FA,Hj];generalize hrest:s.data.toList.drop u=rest at *;have hrl:rest.length=s.data.toList.length-u:=by rw [<- hrest,List.length_drop]
  refine Ag.2 ⟨λhe=>?_,λhe=>?_⟩
  ·have he:rest=[]:=by simpa using he
   rw [if_pos he] at fin;exact fin 0 A' ho (hgr.more (by omega)) rfl
  have he:rest≠[]:=by simpa using he
  rw [Ff he] at fin hsc;simp only [Br,Ab,Az];refine ⟨λhs=>?_,λhs=>?_⟩
  ·rw [if_pos (by omega)] at fin;exact fin 1 A' ho (hgr.more (by omega)) rfl
  have hs:9<=rest.length:=by omega
  rw [Ff (by omega)] at fin hsc;have e9:AX Tp A' 9 (.string ⟨⟨rest⟩⟩) none (some (.int .i64 9)) none=some (.string ⟨⟨rest.take 9⟩⟩):=XT (A:=A') (s:=⟨⟨rest⟩⟩) (h:=9) (k:=.i64) hs;rw [e9];simp only [Ab];refine bytesRow hgr.Ay (by omega) λA5 g5 b5 n5=>?_;have e9':(⟨⟨rest.take 9⟩⟩:ByteArray).data.toList=rest.take 9:=rfl;have hl9:(rest.take 9).length=9:=by rw [List.length_take];omega
  have g5':=hgr.trans g5;rw [e9'] at b5 ⊢;refine Abe b5 (hg.keeps g5'.keeps (by simp)) g5.Ay (by omega) (by omega) (λhsd A6 v6 F6 g6 b6 hF6=>?_) (λhsd=>?_)
  rotate_left
  ·rw [if_pos hsd] at fin;simp only [Ci,Ch,Ab,Bl];exact Ag.2 ⟨λ_=>fin 2 A5 (ho.keeps g5.keeps (by simp)) (g5'.more (by omega)) rfl,λh=>by simp at h⟩
  rw [Ff (by rw [hsd];simp)] at fin hsc;simp only [Ci,Ch,Ab,Bl];refine Ag.2 ⟨λh=>by simp at h,λ_=>?_⟩;have e5:(rest.take 9).take ((rest.take 9).length-4)=rest.take 5:=by rw [hl9,List.take_take];rfl
  rw [e5] at b6;have hl5:(rest.take 5).length=5:=by rw [List.length_take];omega
  obtain ⟨v7,hv7,b7⟩:=b6.from tb (n:=1) (by omega)
  have hv7':AX Tp A6 92 v6 (some (.int .i64 1)) none none=some v7:=hv7;rw [hv7'];simp only [Ab];have n6:=g6.next;have le6:=g6.le;refine ZS b7 g6.Ay (by omega) (by rw [List.length_drop];omega) λA8 r8 w8 F8 g8 o8 hr8 hw8 hF8=>?_;have n8:=g8.next;have le8:=g8.le;have hl4:((rest.take 5).drop 1).length=4:=by rw [List.length_drop];omega
  refine Ry (s:=((rest.take 5).drop 1,false)) (w:=4) o8 g8.Ay (by omega) (show ((rest.take 5).drop 1).length<1000000 by omega) (by omega) λA9 F9 o9 k9 n9 f9 hF9=>?_;have etk:tk 4 ((rest.take 5).drop 1,false)=((rest.take 5).drop 1,(((rest.take 5).drop 1).drop 4,false)):=by
   unfold tk;rw [Ff (by rw [hl4];simp),List.take_of_length_le (by rw [hl4];omega)]
  have enm:(nm 4 ((rest.take 5).drop 1,false)).1=Ee ((rest.take 5).drop 1):=by
   unfold nm;rw [etk,OJ]
  rw [enm];have hN:Ee ((rest.take 5).drop 1)<4294967296:=by
   rw [<- OJ]
   have:=Jp ((rest.take 5).drop 1)
   rw [hl4] at this;exact this
  generalize hNe:Ee ((rest.take 5).drop 1)=N at *;have le9:=k9.next;have g9:Grow A A9 (u+8):=by
   have:=((g5'.trans g6).trans g8).own k9 (by simp;omega) (m:=2) (by omega) f9
   exact this.more (by omega)
  have ho9:BF 80 1 fR A9 v R F':=(ho.keeps ((g5.trans g6).trans g8).keeps (by simp)).keeps k9 λx hx=>by have:=ho.lt x hx;simp;omega
  simp only [B3,Ab,Az];refine ⟨λhgt=>?_,λhgt=>?_⟩
  ·rw [if_pos (by omega)] at fin;exact fin 2 A9 ho9 (g9.more (by omega)) rfl
  rw [Ff (by omega)] at fin hsc;simp only [Hj,Db,Ab,HP,AT,Bm];have er:((⟨⟨rest⟩⟩:ByteArray).data.toList.length:Int)=(rest.length:Int):=rfl;rw [er,wrap_i64 (n:=(rest.length:Int)-9) (by omega) (by omega),wrap_u64 (n:=(rest.length:Int)-9) (by omega) (by omega),wrap_u64 (n:=(N:Int)+4) (by omega) (by omega)];simp only [Br,Ab,Az];refine ⟨λhlt=>?_,λhge=>?_⟩
  ·rw [if_pos (by omega)] at fin;exact fin 1 A9 ho9 (g9.more (by omega)) rfl
  have hge:13+N<=rest.length:=by omega
  rw [Ff (by omega)] at fin hsc;simp only [S4,AT];rw [wrap_i64 (n:=(N:Int)) (by omega) (by omega),Bm,wrap_i64 (n:=9+(N:Int)) (by omega) (by omega)];simp only [Ab];rw [Bm,wrap_i64 (n:=9+(N:Int)+4) (by omega) (by omega)];simp only [Ab];have eend:9+(N:Int)+4=((13+N:Nat):Int):=by omega
  rw [eend];have es:=sl9 (A:=A9) (s:=⟨⟨rest⟩⟩) (l:=9) (h:=13+N) (k1:=.i64) (k2:=.i64) (by omega) hge;have es':AX Tp A9 9 (.string ⟨⟨rest⟩⟩) (some (.int .i64 9)) (some (.int .i64 ((13+N:Nat):Int))) none=_:=es;rw [es'];simp only [Ab];have edt:((⟨⟨rest⟩⟩:ByteArray).data.toList.take (13+N)).drop 9=(rest.drop 9).take (N+4):=by
   show (rest.take (13+N)).drop 9=_;rw [List.drop_take];congr 1;omega
  rw [edt];have hld:((rest.drop 9).take (N+4)).length=N+4:=by rw [List.length_take,List.length_drop];omega
  refine bytesRow f9 (by omega) λA10 g10 b10 n10=>?_;have en':(⟨⟨(rest.drop 9).take (N+4)⟩⟩:ByteArray).data.toList=(rest.drop 9).take (N+4):=rfl;rw [en'] at b10 ⊢;have g10':=g9.trans g10;refine Abe b10 (hg.keeps g10'.keeps (by simp)) g10.Ay (by omega) (by omega) (λhsd2 A11 v11 F11 g11 b11 hF11=>?_) (λhsd2=>?_)
  rotate_left
  ·rw [if_pos hsd2] at fin;simp only [Ci,Ch,Ab,Bl];exact Ag.2 ⟨λ_=>fin 2 A10 (ho9.keeps g10.keeps (by simp)) (g10'.more (by omega)) rfl,λh=>by simp at h⟩
  rw [Ff (by rw [hsd2];simp)] at hsc;simp only [Ci,Ch,Ab,Bl];refine Ag.2 ⟨λh=>by simp at h,λ_=>?_⟩;have n11:=g11.next;have le11:=g11.le;have ed:((rest.drop 9).take (N+4)).take (((rest.drop 9).take (N+4)).length-4)=(rest.drop 9).take N:=by rw [hld,List.take_take];congr 1;omega
  rw [ed] at b11;obtain ⟨c,hc⟩:∃ c,(rest.take 5)[0]? =some c:=⟨_,Ge (by omega)⟩;have hch:rest.headD 0=c:=by
   rw [List.getElem?_take_of_lt (by omega)] at hc;rw [List.headD_eq_head?_getD,List.head?_eq_getElem?,hc];rfl
  have b6':RdS 5 A11 v6 (rest.take 5) F6:=((b6.keeps g8.keeps (by simp)).keeps k9 λx hx=>by have:=b6.rd.lt x hx;simp;omega).keeps (g10.trans g11).keeps (by simp);obtain ⟨a,a1,a2⟩:=b6'.rd.at tb hc;have a1':Ar Tp 92 v6 (.int .i64 0)=some (.pointer (some a)):=a1;rw [a1'];simp only [Ab,a2,b11.rd.str tb,AT,Ai2];refine VG g11.Ay (by omega) λA12 m12=>?_;have n12:=m12.next;have k12:=m12.keeps g11.Ay;obtain ⟨a0,b1,b2⟩:=(b6'.keeps k12 (by simp)).rd.at tb hc;have b1':Ar Tp 92 v6 (.int .i64 0)=some (.pointer (some a0)):=b1;rw [a1'] at b1';obtain rfl:a=a0:=by simpa using b1'
  refine ⟨⟨_,Vp _ _,?_⟩,?_⟩
  ·have:=m12.row
   simp only [B4,Eu,this,fR,EF,EV,G1,Bool.and_self,Option.isNone_none,Nat.beq_refl]
  simp only [Ab,(b11.keeps k12 (by simp)).rd.str tb,AT,b2,AR];have g12:Grow A A12 (u+11):=((g10'.trans g11).trans (.made m12 g11.Ay)).more (by omega);have ho12:=(ho9.keeps (g10.trans g11).keeps (by simp)).keeps k12 (by simp);refine BF.append etR ho12 m12.Bk m12.Ay (by omega) (by omega) λv13 A13 F13 o13 k13 hF13 n13 f13=>?_;rw [Bm,wrap_i64 (by omega) (by omega)];simp only [Ab];have eu:(u:Int)+((13+N:Nat):Int)=((u+(13+N):Nat):Int):=by omega
  rw [eu];refine Au.2 ⟨s.data.toList.length-(u+(13+N)),by omega,rfl,u+(13+N),_,v13,F13,rfl,by omega,rfl,o13,λy hy=>(hF13 y hy).elim (hF y) λh=>by have:=g12.le;omega,?_,by rw [Lq];simp;omega,?_⟩
  ·exact (g12.own k13 hF (m:=1) (by omega) f13).more (by omega)
  ·have edd:s.data.toList.drop (u+(13+N))=rest.drop (13+N):=by rw [<- List.drop_drop,hrest]
   rw [hsc,edd,hch];simp [Aa5,toR,Nat.add_assoc]
 ·rw [AiG];exact Au.2 ⟨s.data.toList.length,rfl,0,[],_,[],rfl,by omega,rfl,BF.nil _,by simp,Grow.refl hf,by simp,by simp [Aa5]⟩
end
variable {A:AW} {d mp t0 t1 k:Nat} {s:DS} {n:ByteArray} {K:Value->AW->Prop}
theorem Adj(A:AW)(a b:Value):D2 Tp A (.func (.func 136) ⟨[]⟩ ⟨[a,b]⟩) []=.ok (.enter 136 [a,b]) A:=by kernel_rfl
theorem Adf(A:AW)(a b c e:Value):D2 Tp A (.func (.func 145) ⟨[]⟩ ⟨[a,b,c,e]⟩) []=.ok (.enter 145 [a,b,c,e]) A:=by kernel_rfl
theorem AeX(a b:Int):Wn (.int .i64 a) [.int .i64 b]=some (.int .i64 (min a b)):=by
 unfold Wn;simp only [Sm]
 congr 2
 split<;>omega
section
variable {W0:World} {m0:Inj Tp}
theorem Aea {K:Value->AW->Prop} (h:Dk A d mp s) (hf:Aw A) (hA:A.next<=Aj)
  (h0:Abs.Row1 A t0 [pP d 0] 23) (h1:Abs.Row1 A t1 [.string n] 9)
  (hk:∀ A2 v,Dk A2 d mp { s with D:=Ho s.D n.data.toList }->Ah A A2 [mp]->A2.next<=A.next->Aw A2->K v A2):
  Wc Tp Al W0 m0 136 [pP t0 0,pP t1 0] A K:=by
 refine Ahf _ _ _ BD ?_;rw [AiB];obtain ⟨es,c,hr,hm,hne,hD⟩:=h;simp only [Cr,Eg,E1,AD,C2,Af h0.row,Af h1.row,Af hr.row,cellOf,AB,AG,Bp,Cf,Ab];refine hm.del mtF hf hA (k:=n) λA1 hm1 k1 n1 f1=>?_;refine hk A1 _ ⟨_,c,hr.keeps k1 (by simp;exact hne),hm1,hne,?_⟩ k1 (by omega) f1;show Ho s.D _=_;rw [hD,Vw]
theorem Ad4 {t6 t2:Nat} {fv:Fv} {K:Value->AW->Prop} (h:Dk A d mp s) (hf:Aw A) (hA:A.next<=Aj) (h6:Abs.Row1 A t6 [.string fv.1,.int .i64 (fv.2:Int)] 89) (h2:Abs.Row1 A t2 [.int .i64 (k:Int)] 3)
  (h0:Abs.Row1 A t0 [pP d 0] 23) (h1:Abs.Row1 A t1 [.string n] 9) (hkl:k<=fv.1.data.toList.length)
  (hk:∀ A2 v,Dk A2 d mp { s with D:=Cm s.D n.data.toList (fv.1.data.toList.take k,min fv.2 k) }->Ah A A2 [mp]->A2.next<=A.next->Aw A2->K v A2):
  Wc Tp Al W0 m0 145 [pP t6 0,pP t2 0,pP t0 0,pP t1 0] A K:=by
 refine Ag8 _ _ _ _ _ BD ?_;rw [Aiu];obtain ⟨es,c,hr,hm,hne,hD⟩:=h;have e:min (fv.2:Int) (k:Int)=((min fv.2 k:Nat):Int):=by omega
 simp only [Cr,Eg,GL,E1,AD,C2,Ha,QW,Af h0.row,Af h1.row,Af h2.row,Af h6.row,Af hr.row,cellOf,AB,AG,AI,Bp,Cf,Ab,Nat.zero_add,XT hkl,AeX,e,Tf];refine hm.put mtF hf hA (k:=n) (v:=(⟨⟨fv.1.data.toList.take k⟩⟩,min fv.2 k)) λA2 c2 hm2 k2 n2 f2=>?_;refine hk A2 _ ⟨_,c2,hr.keeps k2 (by simp;exact hne),hm2,hne,?_⟩ k2 (by omega) f2;show Cm s.D _ _=_;rw [hD,JA];rfl
theorem ZU (h:Dk A d mp s) (hN:OkN s) (hf:Aw A) (hA:A.next+60<Aj)
  (hk:∀ A',Dk A' d mp (BH s n.data.toList).1->Ah A A' [d,mp]->A'.next<=A.next+10->Aw A'->K (.int .i64 (BH s n.data.toList).2) A'):
  Wc Tp Al W0 m0 70 [pP d 0,.string n] A K:=by
 refine w70 _ _ _ BD ?_;rw [e70];have hlt:=h.lt;refine AZ (cs:=[pP d 0]) hf (by omega) rfl λA1 m1=>?_;have n1:=m1.next;have k1:=m1.keeps hf;refine AZ (cs:=[.string n]) m1.Ay (by omega) rfl λA2 m2=>?_;have n2:=m2.next;have k2:=m2.keeps m1.Ay;have K2:Ah A A2 []:=k1.trans k2 (by simp);have h0:=m1.Bk.keeps k2 (by simp);have h1:=m2.Bk;have hd2:=h.keeps K2 (by simp) (by simp);simp only [Cr,Af h0.row,cellOf,AB,Cf,Ab];refine Pr hd2 ?_;simp only [Bw,Ab];unfold IN;unfold BH at hk;refine Bj.2 ⟨λhe=>?_,λhe=>?_⟩
 ·have hd:s.down=true:=by
   cases hq:s.down with
   |true=>rfl
   |false=>rw [hq] at he;simp at he
  rw [if_pos hd] at hk;rw [if_pos hd];exact hk A2 hd2 (K2.more (by simp)) (by omega) m2.Ay
 have hd:s.down=false:=by
  cases hq:s.down with
  |false=>rfl
  |true=>rw [hq] at he;simp at he
 rw [Ff (by rw [hd];simp)] at hk;refine AH zF m2.Ay (by omega) rfl λA4 m4=>?_;have n4:=m4.next;have k4:=m4.keeps m2.Ay;refine I8 m4.row ?_;have h04:=h0.keeps k4 (by simp);have h14:=h1.keeps k4 (by simp);have hd4:=hd2.keeps k4 (by simp) (by simp);obtain ⟨es,c,hr,hm,hne,hD⟩:=hd4;simp only [Cr,Eg,Af h04.row,Af h14.row,Af hr.row,cellOf,AB,AG,Bp,Cf,Ab,AD,C2,E1,lookW hm];have hlk:=FT es n;rw [<- hD] at hlk;rw [<- hlk] at hk;cases hq:Dw Fg es n with
 |none=>
  rw [hq] at hk;simp only [FI,E6,Ab];refine m4.Bk.store m4.Ay (by omega) (FN _ _ _) rfl (by show 0+2<=2;omega) rfl λA5 r5 k5 n5 f5=>?_;have k5:Ah A4 A5 [A2.next]:=k5;simp only [AR,Bl,Ab];refine Ag.2 ⟨λ_=>?_,λh=>by simp at h⟩;refine hk A5 ((hd2.keeps k4 (by simp) (by simp)).keeps k5 (by simp;omega) (by simp;omega)) (((K2.trans k4 (by simp)).trans k5 (λx hx=>by have:=Ms.1 hx;have:=K2.next;exact .inr (by omega))).more (by simp)) (by omega) f5
 |some v=>
  rw [hq] at hk;simp only [FI,E6,Ab];refine m4.Bk.store m4.Ay (by omega) (FN _ _ _) rfl (by show 0+2<=2;omega) rfl λA5 r5 k5 n5 f5=>?_;have r5:Abs.Row1 A5 A2.next [.string v.1,.int .i64 (v.2:Int)] 89:=r5;have k5:Ah A4 A5 [A2.next]:=k5;have K5:Ah A A5 []:=(K2.trans k4 (by simp)).trans k5 (λx hx=>by have:=Ms.1 hx;have:=K2.next;exact .inr (by omega));simp only [AR,Bl,Ab];refine Ag.2 ⟨λh=>by simp at h,λ_=>?_⟩;have h05:=h04.keeps k5 (by simp;omega);have h15:=h14.keeps k5 (by simp;omega);have hd5:=(hd2.keeps k4 (by simp) (by simp)).keeps k5 (by simp;omega) (by simp;omega);simp only [Cr,Af h05.row,cellOf,AB,Cf,Ab];refine RA (n:=0) (g:=λD=>Ho D n.data.toList) hd5 f5 (by omega) hN.f1 (λA=>Adj A _ _) rfl (λB s1 K1 kb nb fb hb hDb hk1=>?_) λB hb kb nb fb=>?_
  ·refine Aea (n:=n) hb fb (by omega) (h05.keeps kb (by simp;omega)) (h15.keeps kb (by simp;omega)) λB2 v h2 k2 n2 f2=>?_;exact hk1 B2 v h2 k2 (by omega) f2
  ·exact hk B hb ((K5.more (T:=[d,mp]) (by simp)).trans kb (by simp)) (by omega) fb
theorem Agn (h:Dk A d mp s) (hN:OkN s) (hf:Aw A) (hA:A.next+60<Aj)
  (hk:∀ A',Dk A' d mp (S5 s n.data.toList k).1->Ah A A' [d,mp]->A'.next<=A.next+10->Aw A'->K (.int .i64 (S5 s n.data.toList k).2) A'):
  Wc Tp Al W0 m0 81 [pP d 0,.string n,.int .i64 (k:Int)] A K:=by
 refine w81 _ _ _ _ BD ?_;rw [e81];have hlt:=h.lt;refine AZ (cs:=[pP d 0]) hf (by omega) rfl λA1 m1=>?_;have n1:=m1.next;have k1:=m1.keeps hf;refine AZ (cs:=[.string n]) m1.Ay (by omega) rfl λA2 m2=>?_;have n2:=m2.next;have k2:=m2.keeps m1.Ay;refine AZ (cs:=[.int .i64 (k:Int)]) m2.Ay (by omega) rfl λA3 m3=>?_;have n3:=m3.next;have k3:=m3.keeps m2.Ay;have K3:Ah A A3 []:=(k1.trans k2 (by simp)).trans k3 (by simp);have h0:=(m1.Bk.keeps k2 (by simp)).keeps k3 (by simp);have h1:=m2.Bk.keeps k3 (by simp);have h2:=m3.Bk;have hd3:=h.keeps K3 (by simp) (by simp);simp only [Cr,Af h0.row,cellOf,AB,Cf,Ab];refine Pr hd3 ?_;simp only [Bw,Ab];unfold IN;unfold S5 at hk;refine Bj.2 ⟨λhe=>?_,λhe=>?_⟩
 ·have hd:s.down=true:=by
   cases hq:s.down with
   |true=>rfl
   |false=>rw [hq] at he;simp at he
  rw [if_pos hd] at hk;rw [if_pos hd];exact hk A3 hd3 (K3.more (by simp)) (by omega) m3.Ay
 have hd:s.down=false:=by
  cases hq:s.down with
  |false=>rfl
  |true=>rw [hq] at he;simp at he
 rw [Ff (by rw [hd];simp),Ff (by omega)] at hk;refine AH zF m3.Ay (by omega) rfl λA4 m4=>?_;have n4:=m4.next;have k4:=m4.keeps m3.Ay;refine I8 m4.row ?_;have h04:=h0.keeps k4 (by simp);have h14:=h1.keeps k4 (by simp);have h24:=h2.keeps k4 (by simp);have hd4:=hd3.keeps k4 (by simp) (by simp);obtain ⟨es,c,hr,hm,hne,hD⟩:=hd4;simp only [Cr,Eg,Af h04.row,Af h14.row,Af hr.row,cellOf,AB,AG,Bp,Cf,Ab,AD,C2,E1,lookW hm];have hlk:=FT es n;rw [<- hD] at hlk;rw [<- hlk] at hk;cases hq:Dw Fg es n with
 |none=>
  rw [hq] at hk;simp only [FI,E6,Ab];refine m4.Bk.store m4.Ay (by omega) (FN _ _ _) rfl (by show 0+2<=2;omega) rfl λA5 r5 k5 n5 f5=>?_;have k5:Ah A4 A5 [A3.next]:=k5;have h25:=h24.keeps k5 (by simp;omega);simp only [AR,Bl,Ab,GL,Af h25.row,cellOf,AI,Cf,Br,Az];refine ⟨λh=>by omega,λ_=>Ag.2 ⟨λ_=>?_,λh=>by simp at h⟩⟩;refine hk A5 ((hd3.keeps k4 (by simp) (by simp)).keeps k5 (by simp;omega) (by simp;omega)) (((K3.trans k4 (by simp)).trans k5 (λx hx=>by have:=Ms.1 hx;have:=K3.next;exact .inr (by omega))).more (by simp)) (by omega) f5
 |some v=>
  rw [hq] at hk;simp only [FI,E6,Ab];refine m4.Bk.store m4.Ay (by omega) (FN _ _ _) rfl (by show 0+2<=2;omega) rfl λA5 r5 k5 n5 f5=>?_;have r5:Abs.Row1 A5 A3.next [.string v.1,.int .i64 (v.2:Int)] 89:=r5;have k5:Ah A4 A5 [A3.next]:=k5;have K5:Ah A A5 []:=(K3.trans k4 (by simp)).trans k5 (λx hx=>by have:=Ms.1 hx;have:=K3.next;exact .inr (by omega));have h25:=h24.keeps k5 (by simp;omega);simp only [AR,Bl,Ab,GL,Af h25.row,cellOf,AI,Cf,Br,Az];refine ⟨λh=>by omega,λ_=>Ag.2 ⟨λh=>by simp at h,λ_=>?_⟩⟩;have hk:∀ A',Dk A' d mp (if (v.1.data.toList.length:Int)<k then (s,(2:Int)) else El s (λD=>Cm D n.data.toList (v.1.data.toList.take k,min v.2 k)) false).1->Ah A A' [d,mp]->A'.next<=A.next+10->Aw A'->K (.int .i64 (if (v.1.data.toList.length:Int)<k then (s,(2:Int)) else El s (λD=>Cm D n.data.toList (v.1.data.toList.take k,min v.2 k)) false).2) A':=hk;simp only [Ha,Eg,Af r5.row,Af h25.row,cellOf,AG,AI,Cf,Ab,Hj,B3,Az];refine ⟨λhgt=>?_,λhle=>?_⟩
  ·rw [if_pos hgt] at hk;exact hk A5 ((hd3.keeps k4 (by simp) (by simp)).keeps k5 (by simp;omega) (by simp;omega)) (K5.more (by simp)) (by omega) f5
  rw [Ff hle] at hk;have h05:=h04.keeps k5 (by simp;omega);have h15:=h14.keeps k5 (by simp;omega);have hd5:=(hd3.keeps k4 (by simp) (by simp)).keeps k5 (by simp;omega) (by simp;omega);simp only [Cr,Af h05.row,cellOf,AB,Cf,Ab];refine RA (n:=0) (g:=λD=>Cm D n.data.toList (v.1.data.toList.take k,min v.2 k)) hd5 f5 (by omega) hN.f1 (λA=>Adf A _ _ _ _) rfl (λB s1 K1 kb nb fb hb hDb hk1=>?_) λB hb kb nb fb=>?_
  ·refine Ad4 (fv:=v) (n:=n) (k:=k) hb fb (by omega) (r5.keeps kb (by simp;omega)) (h25.keeps kb (by simp;omega)) (h05.keeps kb (by simp;omega)) (h15.keeps kb (by simp;omega)) (by omega) λB2 v h2 k2 n2 f2=>?_;exact hk1 B2 v h2 k2 (by omega) f2
  ·exact hk B hb ((K5.more (T:=[d,mp]) (by simp)).trans kb (by simp)) (by omega) fb
end
end Go.Proofs.YtnennggfoegcmaaGreatDoor
namespace Go.Abs
section
variable {P:Program} {ts te:TypeId} {n:Nat} {β:Type} {f:β->List Value}
theorem Vq(hlen:∀ x,(f x).length=n+1){cs:List Value}:∀ (l:List β) (o:Nat),(∀ (i:Nat) p,l[i]? =some p->∃ rest,cs.drop (o+i*(n+1))=f p++rest)->∃ rest,cs.drop o=flat f l++rest
 |[],o,_=>⟨cs.drop o,by simp [flat]⟩
 |p::r,o,h=>by
  obtain ⟨rest0,h0⟩:=h 0 p rfl;obtain ⟨rest,h1⟩:=Vq hlen r (o+(n+1)) λi q hq=>by
   have:=h (i+1) q (by simpa using hq)
   rwa [Nat.succ_mul,show o+(i*(n+1)+(n+1))=o+(n+1)+i*(n+1) by omega] at this
  refine ⟨rest,?_⟩;rw [Nat.zero_mul,Nat.add_zero] at h0;have h2:cs.drop (o+(n+1))=rest0:=by
   rw [<- List.drop_drop,h0,<- hlen p,List.drop_left]
  rw [h2] at h1;rw [h0,h1];simp [flat]
theorem SG(h:∀ x,(f x).all (λv=>!isTuple v)=true)(l:List β):(flat f l).all (λv=>!isTuple v)=true:=by
 rw [List.all_eq_true];intro v hv;obtain ⟨b,_,hb⟩:=List.mem_flatMap.1 hv;exact List.all_eq_true.1 (h b) v hb
theorem SF(h:∀ x,(f x).all AK=true)(l:List β):(flat f l).all AK=true:=by
 rw [List.all_eq_true];intro v hv;obtain ⟨b,_,hb⟩:=List.mem_flatMap.1 hv;exact List.all_eq_true.1 (h b) v hb
theorem RdE.src(T:ET P ts te n f){A:AW}{x:Value}{l:List β}{F:List Nat}(h:RdE n f A x l F):BM P A te ts (n+1) x=some (l.length,flat f l):=by
 unfold BM;simp only [T.us];rcases h with ⟨rfl,_,o,c,rfl⟩ | ⟨r,o,c,cs,e,g,b,ro,rfl,h2,h3,_,h4⟩
 ·cases o with
  |none=>rfl
  |some a=>
   unfold Df;simp only [Nat.zero_mul];rfl
 ·show Df A (n+1) _=_;unfold Df;obtain ⟨rest,hr⟩:=Vq T.len l o h4
  have:=DK (flat f l) rest (SG T.noT l)
  rw [CC T.len] at this;simp only [Bc h2,hr,this]
theorem BF.LK (T:ET P ts te n f) {A:AW} {v x:Value} {l l2:List β} {F F2:List Nat} {K:Value->AW->Prop} (h:BF te n f A v l F) (hx:RdE n f A x l2 F2) (hf:Aw A) (hA:A.next<Aj) (hl:l.length<1000000) (hl2:l2.length<1000000)
  (hk:∀ v' A' F',BF te n f A' v' (l++l2) F'->Ah A A' F->(∀ x∈F',x∈F\/x=A.next)->A'.next<=A.next+1->Aw A'->K v' A'):Ao (AU P A ts ts v x) K:=by
 have hroom:room=68719476736:=rfl;obtain ⟨b,hb,hb2⟩:=T.by'
 have hse:BG P ts=some te:=by unfold BG;rw [T.us]
 have hsrc:=hx.src T;cases l2 with
 |nil=>
  have hv:∃ o m c,v=.slice o m c/\m=l.length:=by
   rcases h with ⟨rfl,h2,_⟩ | ⟨b',g,rfl,_⟩
   ·exact ⟨_,_,_,rfl,h2.symm⟩
   ·exact ⟨_,_,_,rfl,rfl⟩
  obtain ⟨o,m,c,rfl,rfl⟩:=hv;have hm:(l.length+0)*b<=(l.length+0)*256:=Nat.mul_le_mul_left _ hb2;have e:AU P A ts ts (.slice o l.length c) x=.ok (.slice o l.length c) A:=by
   have hsrc:BM P A te ts (n+1) x=some (0,[]):=hsrc;unfold AU;simp only [hse,T.sz,hb,hsrc];rw [AA.2 (show l.length+0<room by omega),AA.2 (show (l.length+0)*b<room by omega),T.hz];rfl
  rw [e];refine AT.2 (hk _ A F ?_ (.refl _ _) (λx hx=>.inl hx) (by omega) hf);rw [List.append_nil];exact h
 |cons p r=>
  rw [Lc] at hl2;have hm:(l.length+(r.length+1))*b<=(l.length+(r.length+1))*256:=Nat.mul_le_mul_left _ hb2;refine JT (m:=r.length) (size:=n) hse T.sz hb T.hz hsrc (CC T.len _) (SF T.one _) h hf hA (by omega) (by omega) λv' A' F' h1 h2 h3 h4 h5=>?_;refine hk v' A' F' ?_ h2 h3 (by omega) h5;show Dq A' te (n+1) v' (l++p::r).length (flat f (l++p::r)) F';rw [Lq,HI];exact h1
end
variable {A:AW} {b m i g b0:Nat} {cs:List Value} {ro:Bool} {v:Value} {F:List Nat}
section
variable {P:Program} {ts te:TypeId} {n:Nat} {β:Type} {f:β->List Value}
theorem My(T:ET P ts te n f)(hr:A.get b=some (.row cs te g b0 ro))(hi:i<=m):AX P A ts (.slice (some ⟨b,0,none⟩) m (Bo+m)) (some (.int .i64 (i:Int))) none none=some (.slice (some ⟨b,i*(n+1),none⟩) (m-i) (Bo+(m-i))):=by
 show AX P A ts _ (some (.int .i64 (.ofNat i))) none none=_;have hrow:HA A (some ⟨b,0,none⟩) te=true:=by unfold HA;simp only [hr];exact beq_true.2 rfl
 have hm:Gc (some ⟨b,0,none⟩) (i*(n+1))=some ⟨b,i*(n+1),none⟩:=by
  show some (bif Nat.beq (i*(n+1)) 0 then (⟨b,0,none⟩:Addr) else ⟨b,0+i*(n+1),none⟩)=_;cases hb:Nat.beq (i*(n+1)) 0 with
  |true=>rw [Ct,Nb hb]
  |false=>rw [Cf,Nat.zero_add]
 unfold AX;simp only [T.us,T.sz,Bb.2 (show Bo<=Bo+m by omega),Ct,bounds,FQ,Dn,Nat.add_sub_cancel_left,Bb.2 hi,Bb.2 (Nl m),Option.isSome_none,Bool.not_false,Bool.or_true,hrow,Bool.and_self,hm]
theorem VX(T:ET P ts te n f)(hr:A.get b=some (.row cs te g b0 ro))(hi:i<=m):AX P A ts (.slice (some ⟨b,0,none⟩) m (Bo+m)) none (some (.int .i64 (i:Int))) none=some (.slice (some ⟨b,0,none⟩) i (Bo+m)):=by
 show AX P A ts _ none (some (.int .i64 (.ofNat i))) none=_;have hrow:HA A (some ⟨b,0,none⟩) te=true:=by unfold HA;simp only [hr];exact beq_true.2 rfl
 have hm:Gc (some ⟨b,0,none⟩) (0*(n+1))=some ⟨b,0,none⟩:=by rw [Nat.zero_mul];rfl
 unfold AX;simp only [T.us,T.sz,Bb.2 (show Bo<=Bo+m by omega),Ct,bounds,FQ,Dn,Nat.add_sub_cancel_left,Bb.2 hi,Nat.sub_zero,Option.isSome_some,Option.isSome_none,Bool.not_false,Bool.or_true,hrow,Bool.and_self,hm]
theorem RdE.some(hlen:∀ x,(f x).length=n+1){o c:Nat}{l:List β}{e:TypeId}(hr:A.get b=.some (.row cs e g b0 ro))(hg:g<A.next)(hc:∀ (i:Nat) p,l[i]? =.some p->∃ rest,cs.drop (o+i*(n+1))=f p++rest):∃ F,RdE n f A (.slice (.some ⟨b,o,none⟩) l.length c) l F/\∀ x∈F,x=g:=
 ⟨[g],.inr ⟨b,o,c,cs,e,g,b0,ro,rfl,hr,hg,rfl,hc⟩,by simp⟩
theorem BF.to(T:ET P ts te n f){l:List β}(h:BF te n f A v l F)(hi:i<=l.length)(hnil:AX P A ts (.slice none 0 0) none (.some (.int .i64 0)) none=.some (.slice none 0 0)):
  ∃ v' F',AX P A ts v none (.some (.int .i64 (i:Int))) none=.some v'/\RdE n f A v' (l.take i) F'/\∀ x∈F',x∈F:=by
 rcases h with ⟨rfl,h2,_,rfl⟩ | ⟨b,g,rfl,h2,rfl⟩
 ·have:l=[]:=List.eq_nil_of_length_eq_zero h2
  subst this;obtain rfl:i=0:=by simpa using hi
  exact ⟨_,[],hnil,.nil _ _ _,by simp⟩
 ·obtain ⟨F',h3,h4⟩:=RdE.some (l:=l.take i) (o:=0) (c:=Bo+l.length) T.len h2.row h2.ltf (λj p hj=>by
   rw [Nat.zero_add];rw [List.getElem?_take] at hj;split at hj
   ·exact DM T.len l j p hj
   ·cases hj)
  rw [List.length_take,Nat.min_eq_left hi] at h3;exact ⟨_,F',VX T h2.row hi,h3,λx hx=>by simp [h4 x hx]⟩
theorem BF.from(T:ET P ts te n f){l:List β}(h:BF te n f A v l F)(hi:i<=l.length)(hnil:AX P A ts (.slice none 0 0) (.some (.int .i64 0)) none none=.some (.slice none 0 0)):
  ∃ v' F',AX P A ts v (.some (.int .i64 (i:Int))) none none=.some v'/\RdE n f A v' (l.drop i) F'/\∀ x∈F',x∈F:=by
 rcases h with ⟨rfl,h2,_,rfl⟩ | ⟨b,g,rfl,h2,rfl⟩
 ·have:l=[]:=List.eq_nil_of_length_eq_zero h2
  subst this;obtain rfl:i=0:=by simpa using hi
  exact ⟨_,[],hnil,.nil _ _ _,by simp⟩
 ·obtain ⟨F',h3,h4⟩:=RdE.some (l:=l.drop i) (o:=i*(n+1)) (c:=Bo+(l.length-i)) T.len h2.row h2.ltf (λj p hj=>by
   rw [<- Nat.add_mul];exact DM T.len l (i+j) p (by rw [List.getElem?_drop] at hj;exact hj))
  rw [List.length_drop] at h3;exact ⟨_,F',My T h2.row hi,h3,λx hx=>by simp [h4 x hx]⟩
end
variable {A:AW} {v x:Value} {F:List Nat} {K:Value->AW->Prop} {q:Nat} {e:TypeId}
section
variable {P:Program} {ts te:TypeId} {n:Nat} {β:Type} {f:β->List Value}
def CW(te:TypeId)(n:Nat)(f:β->List Value)(A:AW)(v:Value)(l:List β)(F:List Nat):Prop:=
 BF te n f A v l F\/∃ b,v=.slice (some ⟨b,0,none⟩) l.length l.length/\l.length<1000000/\Row1 A b (flat f l) te/\F=[b]
theorem CW.nil(A:AW):CW te n f A (.slice none 0 0) [] []:=.inl (BF.nil A)
theorem CW.keeps{A':AW}{l:List β}{S:List Nat}(h:CW te n f A v l F)(k:Ah A A' S)(hd:∀ x∈F,x∉S):CW te n f A' v l F:=by
 rcases h with h | ⟨b,h1,h0,h2,rfl⟩
 ·exact .inl (h.keeps k hd)
 ·exact .inr ⟨b,h1,h0,h2.keeps k (hd b (by simp)),rfl⟩
theorem CW.rd(hlen:∀ x,(f x).length=n+1){l:List β}(h:CW te n f A v l F):RdE n f A v l F:=by
 rcases h with h | ⟨b,rfl,h0,h2,rfl⟩
 ·exact h.rd hlen
 ·exact .inr ⟨b,0,_,_,_,b,0,false,rfl,h2.row,h2.lt,rfl,λi p hi=>by rw [Nat.zero_add];exact DM hlen l i p hi⟩
theorem CW.lt{l:List β}(h:CW te n f A v l F):∀ x∈F,x<A.next:=by
 rcases h with h | ⟨b,h1,h0,h2,rfl⟩
 ·exact BF.lt h
 ·intro x hx;have:=Ms.1 hx;rw [this];exact h2.lt
theorem CW.one{l:List β}(h:CW te n f A v l F):AK v=true/\isTuple v=false:=by
 rcases h with h | ⟨b,rfl,h0,h2,rfl⟩
 ·exact BF.one h
 ·exact ⟨rfl,rfl⟩
theorem CW.slice{A:AW}{v:Value}{l:List β}{F:List Nat}(h:CW te n f A v l F):∃ o c,v=.slice o l.length c:=by
 rcases h with h | ⟨b,rfl,h0,h2,rfl⟩
 ·rcases h with ⟨rfl,h2,_⟩ | ⟨b',g,rfl,_⟩
  ·exact ⟨none,0,by rw [h2]⟩
  ·exact ⟨_,_,rfl⟩
 ·exact ⟨_,_,rfl⟩
theorem CW.Bg {t2:TypeId} (hus:P.underlying ts=some (.slice te)) (hsz:szT P te=some (n+1)) (hby:∃ b,EB P te=some b/\b<=256) (hhz:C9 P te (n+1)=true) (hlen:∀ x,(f x).length=n+1) (hone:∀ x,(f x).all AK=true)
  {l l2:List β} (h:CW te n f A v l F) (hx:BM P A te t2 (n+1) x=some (l2.length,flat f l2)) (hf:Aw A) (hA:A.next<Aj) (hl:l.length<1000000) (hl2:l2.length<1000000)
  (hk:∀ v' A' F',CW te n f A' v' (l++l2) F'->Ah A A' F->(∀ x∈F',x∈F\/x=A.next)->A'.next<=A.next+1->Aw A'->K v' A'):Ao (AU P A ts t2 v x) K:=by
 have hroom:room=68719476736:=rfl;obtain ⟨b,hb,hb2⟩:=hby;have hse:BG P ts=some te:=by unfold BG;rw [hus]
 cases l2 with
 |nil=>
  obtain ⟨o,c,rfl⟩:=h.slice;have hm:(l.length+0)*b<=(l.length+0)*256:=Nat.mul_le_mul_left _ hb2;have e:AU P A ts t2 (.slice o l.length c) x=.ok (.slice o l.length c) A:=by
   have hsrc:BM P A te t2 (n+1) x=some (0,[]):=hx;unfold AU;simp only [hse,hsz,hb,hsrc];rw [AA.2 (show l.length+0<room by omega),AA.2 (show (l.length+0)*b<room by omega),hhz];rfl
  rw [e];refine AT.2 (hk _ A F ?_ (.refl _ _) (λx hx=>.inl hx) (by omega) hf);rw [List.append_nil];exact h
 |cons p r=>
  rw [Lc] at hl2;have hx:BM P A te t2 (n+1) x=some (r.length+1,flat f (p::r)):=hx;have hm:(l.length+(r.length+1))*b<=(l.length+(r.length+1))*256:=Nat.mul_le_mul_left _ hb2;rcases h with h | ⟨bb,rfl,h0,h2,rfl⟩
  ·refine JT (m:=r.length) (size:=n) hse hsz hb hhz hx (CC hlen _) (SF hone _) h hf hA (by omega) (by omega) λv' A' F' h1 h2 h3 h4 h5=>?_;refine hk v' A' F' (.inl ?_) h2 h3 (by omega) h5;show Dq A' te (n+1) v' (l++p::r).length (flat f (l++p::r)) F';rw [Lq,HI];exact h1
  ·have hcu:Nat.ble Bo l.length=false:=BL.2 (by unfold Bo;omega);have hold:A.CE ⟨bb,0,none⟩ (l.length*(n+1))=some (flat f l):=by
    rw [<- CC hlen];unfold AW.CE;cases hl:(flat f l).length with
    |zero=>
     have:flat f l=[]:=List.eq_nil_of_length_eq_zero hl
     rw [this]
    |succ k=>
     simp only [h2.row,List.drop_zero]
     have:=GZ (flat f l)
     rw [hl] at this;exact this
   have hnew:A.new (.row (flat f l++flat f (p::r)) te A.next 0 false)=some (A.next,A.push (.row (flat f l++flat f (p::r)) te A.next 0 false)):=by
    unfold AW.new;simp only [AA.2 hA,Ct];rfl
   have e:AU P A ts t2 (.slice (some ⟨bb,0,none⟩) l.length l.length) x=.ok (.slice (some ⟨A.next,0,none⟩) (l.length+(r.length+1)) (Bo+(l.length+(r.length+1)))) (A.push (.row (flat f l++flat f (p::r)) te A.next 0 false)):=by
    unfold AU;simp only [hse,hsz,hb,hx];rw [AA.2 (show l.length+(r.length+1)<room by omega),AA.2 (show (l.length+(r.length+1))*b<room by omega),hhz];have hfit':Nat.ble (l.length+(r.length+1)) l.length=false:=BL.2 (by omega);simp only [hcu,Cf,hfit',Bool.not_true,Bool.and_self];simp only [hold,hnew]
   rw [e,<- HI];have hfp:=hf.push (.row (flat f (l++p::r)) te A.next 0 false) hA;have hrow:(A.push (.row (flat f (l++p::r)) te A.next 0 false)).get A.next=some (.row (flat f (l++p::r)) te A.next 0 false):=by rw [AW.BK _ hA,if_pos rfl]
   refine AT.2 (hk _ _ [A.next] (.inl (.inr ⟨A.next,A.next,by simp,?_,rfl⟩)) (((AW.BR _ hA).keeps hf).more (by simp)) (λx hx=>.inr (by simpa using hx)) (by rw [AW.B0];omega) hfp);refine ⟨by rw [Lq,Lc];omega,hrow,by rw [CC hlen],Nat.zero_le _,Nat.zero_le _,by rw [AW.B0];omega,λi hi=>?_⟩
   have:(A.push (.row (flat f (l++p::r)) te A.next 0 false)).members A.next=[A.next]:=hf.alone (Nl _)
   rw [this] at hi;obtain rfl:i=A.next:=by simpa using hi
   exact ⟨Nat.zero_le _,by rw [AW.B0];omega,_,_,_,_,hrow⟩
theorem CW.LK (T:ET P ts te n f) {l l2:List β} {F2:List Nat} (h:CW te n f A v l F) (hx:RdE n f A x l2 F2) (hf:Aw A) (hA:A.next<Aj) (hl:l.length<1000000) (hl2:l2.length<1000000)
  (hk:∀ v' A' F',CW te n f A' v' (l++l2) F'->Ah A A' F->(∀ x∈F',x∈F\/x=A.next)->A'.next<=A.next+1->Aw A'->K v' A'):Ao (AU P A ts ts v x) K:=
 h.Bg T.us T.sz T.by' T.hz T.len T.one (hx.src T) hf hA hl hl2 hk
theorem CW.append (T:ET P ts te n f) {l:List β} {p:β} (h:CW te n f A v l F) (hq:Row1 A q (f p) e) (hf:Aw A) (hA:A.next<Aj) (hl:l.length<1000000)
  (hk:∀ v' A' F',CW te n f A' v' (l++[p]) F'->Ah A A' F->(∀ x∈F',x∈F\/x=A.next)->A'.next<=A.next+1->Aw A'->K v' A'):Ao (AU P A ts ts v (.slice (some ⟨q,0,none⟩) 1 1)) K:=by
 refine h.Bg (l2:=[p]) T.us T.sz T.by' T.hz T.len T.one ?_ hf hA hl (by simp) hk
 have:=Ny T hq
 rw [this];simp [flat]
theorem CW.LM (T:ES P ts te f) {l:List β} {p:β} (h:CW te 0 f A v l F) (hq:Row1 A q (f p) e) (hf:Aw A) (hA:A.next<Aj) (hl:l.length<1000000)
  (hk:∀ v' A' F',CW te 0 f A' v' (l++[p]) F'->Ah A A' F->(∀ x∈F',x∈F\/x=A.next)->A'.next<=A.next+1->Aw A'->K v' A'):Ao (AU P A ts ts v (.slice (some ⟨q,0,none⟩) 1 1)) K:=by
 refine h.Bg (l2:=[p]) T.us T.sz T.by' T.hz T.len T.one ?_ hf hA hl (by simp) hk
 have:=T.src hq
 rw [this];simp [flat]
end
end Go.Abs
namespace Go.Proofs.YtnennggfoegcmaaGreatDoor
open Go.Abs Go.Jr
variable {A A':AW} {K:Value->AW->Prop} {j d mp:Nat} {q:JS} {Fl Fr S F:List Nat} {s:DS} {x:Value} {l:List (List UInt8)} {k:ByteArray}
def fI(n:Nat):List Value:=[.int .i64 (n:Int)]
theorem esI:ES Tp 36 3 fI where
 us:=by kernel_rfl
 sz:=by kernel_rfl
 by':=⟨8,by kernel_rfl,by decide⟩
 hz:=by kernel_rfl
 ld:=GL
 len:=λ_=>rfl
 one:=λ_=>rfl
 noT:=λ_=>rfl
def fS(s:List UInt8):List Value:=[txV s]
theorem esS:ES Tp 86 9 fS where
 us:=by kernel_rfl
 sz:=by kernel_rfl
 by':=⟨16,by kernel_rfl,by decide⟩
 hz:=by kernel_rfl
 ld:=Eg
 len:=λ_=>rfl
 one:=λ_=>rfl
 noT:=λ_=>rfl
theorem Ahz(a:Addr)(xo yo:Operand):An Tp .neq 69 xo yo (.pointer (some a)) (.pointer none)=some (.bool true):=by kernel_rfl
theorem AeL(xo yo:Operand):An Tp .eql 60 xo yo (.slice none 0 0) (.slice none 0 0)=some (.bool true):=by kernel_rfl
theorem AeK(a:Addr)(n c:Nat)(xo yo:Operand):An Tp .eql 60 xo yo (.slice (some a) n c) (.slice none 0 0)=some (.bool false):=by kernel_rfl
theorem Ads(A:AW):Aq Tp A 60 0 []=(match A.newRow [] 80 with | some (a,w')=>.ok (.slice (some a) 0 0) w' | none=>.fail "buildSlice new"):=by kernel_rfl
theorem AfV(hf:Aw A)(h:A.next<Aj)(hk:∀ A',Made A A' [] 80->K (.slice (some ⟨A.next,0,none⟩) 0 0) A'):Ao (Aq Tp A 60 0 []) K:=by
 rw [Ads];unfold AW.newRow AW.new;simp only [show (([]:List Value).all AK)=true from rfl,Ct,AA.2 h];exact AT.2 (hk (A.push (.row [] 80 A.next 0 false)) ⟨AW.BR _ h,rfl,by rw [AW.BK _ h,if_pos rfl],hf.alone (Nl _),hf.push _ h⟩)
theorem Af4(s:ByteArray):Bd Tp 80 [(1,.string s)]=some (.agg ⟨[.int .u8 0,.string s]⟩):=by kernel_rfl
def Jn(A:AW)(j d:Nat)(q:JS)(Fl Fr:List Nat):Prop:=
 ∃ vl vr rl,Abs.Row1 A j [pP d 0,.int .i64 q.limit,.string ⟨⟨q.state⟩⟩,vl,vr,.int .i64 (q.size:Int),.bool q.some,.bool q.broken] 123/\CW 80 1 fR A vl rl Fl/\q.l=rl.map toR/\CW 3 0 fI A vr q.row Fr
structure JD (A:AW) (j d mp:Nat) (q:JS) (s:DS) (Fl Fr:List Nat):Prop where
 jn:Jn A j d q Fl Fr
 dk:Dk A d mp s
 nd:j≠d/\j≠mp
 fl:∀ x∈Fl,x≠d/\x≠mp/\x≠j/\x∉Fr
 fr:∀ x∈Fr,x≠d/\x≠mp/\x≠j
theorem Jn.keeps(h:Jn A j d q Fl Fr)(k:Ah A A' S)(h1:j∉S)(h2:∀ x∈Fl,x∉S)(h3:∀ x∈Fr,x∉S):Jn A' j d q Fl Fr:=by
 obtain ⟨vl,vr,rl,a,b,c,e⟩:=h;exact ⟨vl,vr,rl,a.keeps k h1,b.keeps k h2,c,e.keeps k h3⟩
theorem Jn.lt(h:Jn A j d q Fl Fr):j<A.next:=by
 obtain ⟨vl,vr,rl,a,b,c,e⟩:=h;exact a.lt
theorem JD.keeps(h:JD A j d mp q s Fl Fr)(k:Ah A A' S)(h1:j∉S)(hd:d∉S)(hm:mp∉S)(h2:∀ x∈Fl,x∉S)(h3:∀ x∈Fr,x∉S):JD A' j d mp q s Fl Fr:=
 ⟨h.jn.keeps k h1 h2 h3,h.dk.keeps k hd hm,h.nd,h.fl,h.fr⟩
theorem JD.GW{s':DS}(h:JD A j d mp q s Fl Fr)(k:Ah A A' [d,mp])(hd:Dk A' d mp s'):JD A' j d mp q s' Fl Fr:=
 ⟨h.jn.keeps k (by simp;exact h.nd) (λx hx=>by have:=h.fl x hx;simp;exact ⟨this.1,this.2.1⟩) (λx hx=>by have:=h.fr x hx;simp;exact ⟨this.1,this.2.1⟩),hd,h.nd,h.fl,h.fr⟩
section
variable {W0:World} {m0:Inj Tp}
theorem VM(h:Jn A j d q Fl Fr)(hk:K (.bool true) A):Wc Tp Al W0 m0 88 [pP j 0] A K:=by
 obtain ⟨vl,vr,rl,a,b,c,e⟩:=h;refine w88 _ _ BD ?_;rw [e88];simp only [Ahz,Ab,AD];refine Ag.2 ⟨λ_=>?_,λh=>by cases h⟩;simp only [HL,Cr,Af a.row,cellOf,AB,Cf,Ab,AeE];exact hk
theorem ZR(h:Jn A j d q Fl Fr)(hk:K (.int .i64 (if q.broken=true then 100 else 0)) A):Wc Tp Al W0 m0 91 [pP j 0] A K:=by
 obtain ⟨vl,vr,rl,a,b,c,e⟩:=h;refine w91 _ _ BD ?_;rw [e91];simp only [AD,SM,QS,Af a.row,cellOf,Di,AB,AI,AG,b.one.2,e.one.2,Cf,Ab,Nat.zero_add];refine Ag.2 ⟨λhb=>?_,λhb=>?_⟩
 ·rw [hb] at hk;exact hk
 ·rw [hb] at hk;exact hk
theorem AbZ(h:Jn A j d q Fl Fr){n:Nat}(hn:q.row.getLast? =some n)(hl:q.row.length<1000000)(hk:K (.int .i64 (n:Int)) A):Wc Tp Al W0 m0 92 [pP j 0] A K:=by
 obtain ⟨vl,vr,rl,a,b,c,e⟩:=h;refine w92 _ _ BD ?_;rw [e92];have hpos:0<q.row.length:=by
  cases hq:q.row with
  |nil=>rw [hq] at hn;cases hn
  |cons=>simp
 have hg:q.row[q.row.length-1]? =some n:=by rw [<- List.getLast?_eq_getElem?];exact hn
 simp only [AD,Jg,PU,Af a.row,cellOf,Di,AB,AI,AG,b.one.2,e.one.2,Cf,Ab,Nat.zero_add,esI.Ul (e.rd esI.len),Db];rw [wrap_i64 (by omega) (by omega)];have hi:(q.row.length:Int)-1=((q.row.length-1:Nat):Int):=by omega
 rw [hi];obtain ⟨a0,a1,a2⟩:=esI.at (e.rd esI.len) hg rfl;simp only [a1,a2,Ab];exact hk
theorem TJ{er:Int}(h:Jn A j d q Fl Fr)(hf:Aw A)(hA:A.next<Aj)(hl:j∉Fl)(hr:j∉Fr)(hk:∀ A',Jn A' j d (CZ q er) Fl Fr->Ah A A' [j]->A'.next=A.next->Aw A'->K (.int .i64 er) A'):Wc Tp Al W0 m0 93 [pP j 0,.int .i64 er] A K:=by
 obtain ⟨vl,vr,rl,a,b,c,e⟩:=h;refine w93 _ _ _ BD ?_;rw [e93];have fin:∀ x:Bool,(CZ q er).broken=x->Be (Av Tp A 4 (pP j 7) (.bool x)) λA'=>K (.int .i64 er) A':=by
  intro x hx;refine a.store hf (by omega) (OV _ _ _) rfl (by show 7+1<=8;omega) rfl λA' r k n f=>?_;have k:Ah A A' [j]:=k;refine hk A' ⟨vl,vr,rl,?_,b.keeps k (λy hy=>by simp;intro h0;subst h0;exact hl hy),c,e.keeps k (λy hy=>by simp;intro h0;subst h0;exact hr hy)⟩ k n f;rw [hx];exact r
 have a3:=b.one.2;have a4:=e.one.2;simp only [AD,SM,QS,Af a.row,cellOf,Di,AB,AI,AG,a3,a4,Cf,Ab,Nat.zero_add,B8];refine Ag.2 ⟨λhb=>fin true (by simp [CZ,hb]),λhb=>fin _ (by simp [CZ,hb])⟩
theorem Ab0 {s : ByteArray} (hg : Glb A) (hf : Aw A) (hs : s.data.toList.length <= 65536) (hA : A.next + 50 < Aj)
    (hk : ∀ A', Grow A A' 22 -> K (.string ⟨⟨AL (0, s.data.toList)⟩⟩) A') : Wc Tp Al W0 m0 71 [.string s] A K := by
  refine w71 _ _ BD ?_
  rw [e71]
  simp only [Af4, Ab]
  refine VG (c := 0) hf (by omega) λA1 m1 => ?_
  have n1 := m1.next
  have hrd : RdE 1 fR A1 (.slice (some ⟨A.next, 0, none⟩) 1 1) [((0 : UInt8), s)] [A.next] := .inr ⟨A.next, 0, 1, _, _, A.next, 0, false, rfl, m1.row, by omega, rfl, λi p hi => by
    cases i with
    | zero => obtain rfl : ((0 : UInt8), s) = p := by simpa using hi
              exact ⟨[], rfl⟩
    | succ i => simp at hi⟩
  have hp : AF ([((0 : UInt8), s)].map toR) = AL (0, s.data.toList) := by simp [AF, toR]
  refine Abn hrd (hg.keeps (m1.keeps hf) (by simp)) m1.Ay (by simp) (by simpa using hs) (by simp; omega) (by rw [hp, BQ]; show 13 + s.data.toList.length < 900000; omega) λA2 g2 => ?_
  rw [hp]
  simp only [Ci, Ch, Ab]
  exact hk A2 (((Grow.made m1 hf).trans g2).more (by simp))
theorem AdD {l:List RV} (h:RdE 1 fR A x l F) (hc:∀ c,x=.slice none 0 c->c=0) (hf:Aw A) (hA:A.next+5<Aj) (hl:l.length<1000000)
  (hk:∀ A' v F',CW 80 1 fR A' v l F'->(∀ y∈F',A.next<=y)->Grow A A' 2->K v A'):Wc Tp Al W0 m0 83 [x] A K:=by
 refine w83 _ _ BD ?_;rw [e83];obtain ⟨o,c,rfl⟩:=h.slice;cases o with
 |none=>
  have hl0:l=[]:=by
   rcases h with ⟨h1,_⟩ | ⟨r,o,c,cs,e,f,b,ro,h1,_⟩
   ·exact h1
   ·simp at h1
  subst hl0;obtain rfl:=hc c rfl;simp only [Ln,AeL,Ab];exact Ag.2 ⟨λ_=>hk A _ [] (CW.nil _) (by simp) ((Grow.refl hf).more (by omega)),λh=>by simp at h⟩
 |some a=>
  simp only [AeK,Ab];refine Ag.2 ⟨λh=>by simp at h,λ_=>?_⟩;refine AfV hf (by omega) λA1 m1=>?_;have n1:=m1.next;have ho:CW 80 1 fR A1 (.slice (some ⟨A.next,0,none⟩) 0 0) ([]:List RV) [A.next]:=.inr ⟨A.next,rfl,by simp,m1.Bk,rfl⟩;refine ho.LK etR (h.keeps (m1.keeps hf) (by simp)) m1.Ay (by omega) (by simp) (by omega) λv2 A2 F2 o2 k2 hF2 n2 f2=>?_;rw [List.nil_append] at o2;exact hk A2 v2 F2 o2 (λy hy=>(hF2 y hy).elim (λh=>by have:=Ms.1 h;omega) λh=>by omega) (((Grow.made m1 hf).own k2 (by simp) (m:=1) n2 f2).more (by omega))
theorem Ox{α:Type}{l:List α}{i:Nat}{p:α}(h:l[i]? =.some p):l.drop i=p::l.drop (i+1):=by
 obtain ⟨h1,h2⟩:=Gs.1 h;rw [List.drop_eq_getElem_cons h1,h2]
def O9(k:List UInt8):List (List UInt8)->Nat->Int
 |[],_=> -1
 |x::r,i=>if k=x then (i:Int) else O9 k r (i+1)
theorem Sz(k:List UInt8):∀ (l:List (List UInt8)) (i:Nat),(0<=O9 k l i)↔k∈l
 |[],i=>by simp [O9]
 |x::r,i=>by
  unfold O9;by_cases h:k=x
  ·rw [if_pos h];simp [h]
  ·rw [Ff h,Sz k r (i+1)];simp [h]
theorem Aeb(h:RdE 0 fS A x l F)(hl:l.length<1000000)(hk:K (.int .i64 (O9 k.data.toList l 0)) A):Wc Tp Al W0 m0 133 [x,.string k] A K:=by
 let I:Nat->Nat->List Value->AW->Prop:=λg id vals A'=>id=0/\A'=A/\∃ i:Nat,vals=[x,.string k,.int .i64 (l.length:Int),.int .i64 (i:Int)]/\g=l.length-i/\i<=l.length/\O9 k.data.toList l 0=O9 k.data.toList (l.drop i) i;refine Ahi _ _ _ (AiV (I:=I) ?_) ?_
 ·rintro g id vals A' d ⟨rfl,rfl,i,rfl,rfl,hi,he⟩ hd;rw [Ac5];simp only [ZJ,Mc,Mn,Li,and_true] at hd;obtain ⟨h0,h1,h7,h8⟩:=hd;simp only [h0,h1,h7,h8,Br,Ab,Az];refine ⟨λhlt=>?_,λhge=>?_⟩
  ·have hlt:i<l.length:=by omega
   obtain ⟨p,hp⟩:∃ p,l[i]? =some p:=⟨_,Ge hlt⟩;obtain ⟨a,a1,a2⟩:=esS.at h hp rfl;have hd:=Ox hp;rw [hd,show ∀ q r i,O9 q (p::r) i=if q=p then (i:Int) else O9 q r (i+1) from λ_ _ _=>rfl] at he;simp only [a1,a2,Ab,txV,FA];refine Ag.2 ⟨λhq=>?_,λhq=>?_⟩
   ·rw [if_pos (by simpa using hq)] at he;rw [he] at hk;exact hk
   ·rw [Ff (by simpa using hq)] at he;rw [Bm,wrap_i64 (by omega) (by omega)];simp only [Ab];exact Au.2 ⟨l.length-(i+1),by omega,rfl,rfl,i+1,rfl,rfl,by omega,he⟩
  ·have:i=l.length:=by omega
   subst this;rw [List.drop_length] at he;rw [he] at hk;exact hk
 ·rw [AiE,esS.Ul h];simp only [Ab];exact Au.2 ⟨l.length,rfl,rfl,0,rfl,rfl,by omega,by simp⟩
theorem AdF(h:RdE 0 fS A x l F)(hl:l.length<1000000)(hk:K (.bool (decide (k.data.toList∈l))) A):Wc Tp Al W0 m0 68 [x,.string k] A K:=by
 refine w68 _ _ _ BD ?_;rw [e68];refine Aeb h hl ?_;simp only [JR,Ab]
 have:decide (0<=O9 k.data.toList l 0)=decide (k.data.toList∈l):=by
  rw [decide_eq_decide];exact Sz _ _ _
 rw [this];exact hk
end
variable {A:AW} {K:Value->AW->Prop} {p:List UInt8}
structure SV where
 n:Nat
 o:Option Addr
 len:Nat
 cap:Nat
 size:Nat
 st:Nat
def fG(x:SV):List Value:=[.int .i64 (x.n:Int),.slice x.o x.len x.cap,.int .i64 (x.size:Int),.int .u8 (x.st:Int)]
theorem etG:ET Tp 117 131 3 fG where
 us:=by kernel_rfl
 sz:=by kernel_rfl
 ag:=by kernel_rfl
 by':=⟨48,by kernel_rfl,by decide⟩
 hz:=by kernel_rfl
 len:=λ_=>rfl
 one:=λ_=>rfl
 noT:=λ_=>rfl
theorem zG:Dt Tp 131=some (.agg ⟨[.int .i64 0,.slice none 0 0,.int .i64 0,.int .u8 0]⟩):=by kernel_rfl
theorem Af8(n:Int):Bd Tp 131 [(0,.int .i64 n)]=some (.agg ⟨[.int .i64 n,.slice none 0 0,.int .i64 0,.int .u8 0]⟩):=by kernel_rfl
theorem Af0(A:AW)(n z t:Int)(o:Option Addr)(a b:Nat):Aq Tp A 117 1 [(0,.agg ⟨[.int .i64 n,.slice o a b,.int .i64 z,.int .u8 t]⟩)]=(match A.newRow [.int .i64 n,.slice o a b,.int .i64 z,.int .u8 t] 131 with | some (a,w')=>.ok (.slice (some a) 1 1) w' | none=>.fail "buildSlice new"):=by kernel_rfl
theorem Adu{x:SV}(hf:Aw A)(h:A.next<Aj)(hk:∀ A',Made A A' (fG x) 131->K (.slice (some ⟨A.next,0,none⟩) 1 1) A'):Ao (Aq Tp A 117 1 [(0,.agg ⟨fG x⟩)]) K:=by
 unfold fG;rw [Af0];unfold AW.newRow AW.new;simp only [show ((fG x).all AK)=true from rfl,show ([Value.int .i64 (x.n:Int),.slice x.o x.len x.cap,.int .i64 (x.size:Int),.int .u8 (x.st:Int)].all AK)=true from rfl,Ct,AA.2 h];exact AT.2 (hk (A.push (.row (fG x) 131 A.next 0 false)) ⟨AW.BR _ h,rfl,by rw [AW.BK _ h,if_pos rfl],hf.alone (Nl _),hf.push _ h⟩)
abbrev SR:=SV × List RV
def BN(x:SR):Seg:=⟨x.1.n,x.2.map toR,x.1.size,x.1.st⟩
def Xc(A:AW)(lo:Nat)(x:SR):Prop:=∃ F,RdE 1 fR A (.slice x.1.o x.1.len x.1.cap) x.2 F/\∀ y∈F,lo<=y
theorem Xc.keeps{A':AW}{lo:Nat}{x:SR}{S:List Nat}(h:Xc A lo x)(k:Ah A A' S)(hS:∀ y∈S,y<lo\/A.next<=y):Xc A' lo x:=by
 obtain ⟨F,h1,h2⟩:=h;exact ⟨F,h1.keeps k λy hy hm=>by have:=h1.fam y hy;have:=h2 y hy;rcases hS y hm with h | h<;>omega,h2⟩
theorem AfC(l:List (List UInt8)):flat fS l=l.map txV:=by
 induction l with
 |nil=>rfl
 |cons x r ih=>show [txV x]++flat fS r=_;rw [ih];rfl
theorem Ll{sv:Value}{l:List (List UInt8)}{F:List Nat}(h:Dq A 9 1 sv l.length (l.map txV) F):RdE 0 fS A sv l F:=by
 have h1:BF 9 0 fS A sv l F:=by
  show Dq A 9 (0+1) sv l.length (flat fS l) F;rw [AfC];exact h
 exact h1.rd esS.len
theorem Wl{D:Fls}:p∈namesS D↔∃ f,(p,f)∈D:=by
 unfold namesS;rw [List.mem_mergeSort,List.mem_map];constructor
 ·rintro ⟨⟨a,f⟩,h,rfl⟩;exact ⟨f,h⟩
 ·rintro ⟨f,h⟩;exact ⟨(p,f),h,rfl⟩
theorem YC{D:Fls}(h:∃ f,(p,f)∈D):∃ f,BV D p=some f/\(p,f)∈D:=by
 obtain ⟨f,hf⟩:=h;unfold BV;cases h:D.find? λe=>e.1==p with
 |none=>have:=List.find?_eq_none.1 h _ hf;simp at this
 |some e=>
  have h1:=List.find?_some h;have h2:=List.mem_of_find?_eq_some h;obtain ⟨a,b⟩:=e;obtain rfl:a=p:=by simpa using h1
  exact ⟨b,rfl,h2⟩
def Aa7(W0:World)(m0:Inj Tp)(f:List UInt8):Prop:=KC.Holds Tp W0 m0 ⟨130,[txV f],[.int .i64 (numOf f:Int)]⟩
def HV(W0:World)(m0:Inj Tp)(n:Nat):Prop:=KC.Holds Tp W0 m0 ⟨78,[.int .i64 (n:Int)],[txV (Jr.nm n)]⟩
theorem Iy{W0:World}{m0:Inj Tp}{g:FuncId}{args:List Value}{v:Value}(hg:g≠Et)(h:KC.Holds Tp W0 m0 ⟨g,args,[v]⟩)(hc:Ax 4 v=true)(hk:K v A):knW Tp W0 m0 g args A K:=
 .inl ⟨[v],hg,h,by simp [hc],by simpa using hk⟩
section
variable {W0:World} {m0:Inj Tp}
theorem Agq {d mp L:Nat} {s:DS} (h:Dk A d mp s) (hg:Glb A) (hd:s.down=false) (hes:s.D.length<10000) (hL:∀ f∈s.D,f.2.1.length<=L) (hL2:L<900000) (hf:Aw A) (hA:A.next+10000*(20*L+100)<Aj)
  (hnum:∀ f∈namesS s.D,Aa7 W0 m0 f) (h0:1≠d/\1≠mp)
  (hk:∀ A' v F (X:List SR),X.map BN=Cs s.D (namesS s.D)->BF 131 3 fG A' v (X.map (·.1)) F->(∀ y∈F,A.next<=y)->(∀ x∈X,Xc A' A.next x)->Grow A A' (20+3*s.D.length+s.D.length*(L+30))->K (.tuple ⟨[v,.int .i64 0]⟩) A'):
  Wc Tp Al W0 m0 66 [pP d 0] A K:=by
 have hroom:room=68719476736:=rfl;have hnl:(namesS s.D).length=s.D.length:=by unfold namesS;rw [List.length_mergeSort,List.length_map]
 let I:Nat->Nat->List Value->AW->Prop:=λg id vals A'=>id=0/\∃ (i:Nat) (sv v:Value) (Fn F:List Nat) (X:List SR),vals=[pP d 0,v,sv,.int .i64 (s.D.length:Int),.int .i64 (i:Int)]/\i<=s.D.length/\g=s.D.length-i/\
  RdE 0 fS A' sv (namesS s.D) Fn/\X.map BN=Cs s.D ((namesS s.D).take i)/\BF 131 3 fG A' v (X.map (·.1)) F/\(∀ y∈F,A.next<=y/\y∉Fn)/\(∀ x∈X,∃ G,RdE 1 fR A' (.slice x.1.o x.1.len x.1.cap) x.2 G/\∀ y∈G,A.next<=y/\y∉F)/\Grow A A' (15+3*s.D.length+i*(L+30))/\X.length<=i
 refine w66 _ _ (c66 (I:=I) ?_) ?_
 ·rintro g id vals A' dd ⟨rfl,i,sv,v,Fn,F,X,rfl,hi,rfl,hn,hX,ho,hF,hR,hgr,hXl⟩ hd';rw [Afa];simp only [L66,Mc,Mn,Li,and_true] at hd';obtain ⟨h0',h4,h12,h13,h14⟩:=hd';have hnx:=hgr.next;have hle:=hgr.le;simp only [h0',h4,h12,h13,h14,Br,Ab,Az];refine ⟨λhlt=>?_,λhge=>?_⟩
  ·have hlt:i<s.D.length:=by omega
   have hbud:i*(L+30)<=10000*(L+30):=Nat.mul_le_mul_right _ (by omega);obtain ⟨p,hp⟩:∃ p,(namesS s.D)[i]? =some p:=⟨_,Ge (by rw [hnl];exact hlt)⟩;obtain ⟨a,a1,a2⟩:=esS.at hn hp rfl;have hpm:=List.mem_of_getElem? hp;obtain ⟨fl,hlook,hmem⟩:=YC (Wl.1 hpm);have hfl:=hL _ hmem;have hfile:fileOf s.D p=fl:=by unfold fileOf;rw [hlook];rfl
   simp only [a1,a2,Ab];refine Iy (by decide) (hnum p hpm) rfl ?_;simp only [B8,Ab,Bm];have eseg:Cs s.D ((namesS s.D).take (i+1))=Cs s.D ((namesS s.D).take i)++(if numOf p=0 then [] else [EU (numOf p) fl.1]):=by
    rw [B9 hp];unfold Cs;rw [List.filterMap_append]
    congr 1
    by_cases h0:numOf p=0
    ·simp [h0]
    ·simp [h0,hfile]
   have esucc:(i+1)*(L+30)=i*(L+30)+(L+30):=Nat.succ_mul _ _;rw [wrap_i64 (by omega) (by omega)];refine Cg.2 ⟨λhz=>?_,λhz=>?_⟩
   ·have hz:numOf p=0:=by omega
    refine Au.2 ⟨s.D.length-(i+1),by omega,rfl,i+1,sv,v,Fn,F,X,rfl,by omega,rfl,hn,?_,ho,hF,hR,hgr.more (by omega),by omega⟩;rw [eseg,if_pos hz,List.append_nil];exact hX
   have hz:numOf p≠0:=by omega
   have hdk:Dk A' d mp s:=h.keeps hgr.keeps (by simp) (by simp);refine Ags (n:=⟨⟨p⟩⟩) hdk hgr.Ay (by omega) λA2 k2 n2 f2=>?_;have ers:NJ s p=(fl.1,0):=by unfold NJ;rw [hd,hlook];rfl
   have ers':NJ s (⟨⟨p⟩⟩:ByteArray).data.toList=(fl.1,0):=ers;rw [ers'];simp only [Ci,Ch,Ab,Bw];refine Bj.2 ⟨λhe=>by simp at he,λ_=>?_⟩;simp only [Af8,Ab];refine AH zG f2 (by omega) rfl λA3 m3=>?_;have n3:=m3.next;refine m3.Bk.store m3.Ay (by omega) (Qq _ _ _) rfl (by show 0+4<=4;omega) rfl λA4 r4 k4 n4 f4=>?_;have r4:Abs.Row1 A4 A2.next [.int .i64 (numOf p:Int),.slice none 0 0,.int .i64 0,.int .u8 0] 131:=r4;have le2:=k2.next;have g4:Grow A' A4 4:=⟨(k2.trans (m3.keeps f2) (by simp)).trans k4 (λx hx=>.inr (by have:=Ms.1 hx;omega)),f4,by omega⟩;have hfl':(⟨⟨fl.1⟩⟩:ByteArray).data.toList.length<=L:=hfl;refine Aed (s:=⟨⟨fl.1⟩⟩) ((hg.keeps hgr.keeps (by simp)).keeps g4.keeps (by simp)) f4 (by omega) (by omega) λA5 v5 R F5 hR5 hR5l o5 hF5 g5=>?_;have n5:=g5.next;have le4:=g4.le;have le5:=g5.le;have r5:=r4.keeps g5.keeps (by simp);have rd5:=o5.rd etR.len;obtain ⟨oo,cc,hv5⟩:=rd5.slice;simp only [show ∀ a b c,Ap (.tuple ⟨[a,b,c]⟩) 0=some a from λ_ _ _=>rfl,show ∀ a b c,Ap (.tuple ⟨[a,b,c]⟩) 1=some b from λ_ _ _=>rfl,show ∀ a b c,Ap (.tuple ⟨[a,b,c]⟩) 2=some c from λ_ _ _=>rfl,Ab,Jc,Ol,Oj,Nat.zero_add];refine r5.store g5.Ay (by omega) (RJ _ _ _) (by rw [hv5];rfl) (by show 1+1<=4;omega) (by rw [hv5];rfl) λA6 r6 k6 n6 f6=>?_;have r6:Abs.Row1 A6 A2.next [.int .i64 (numOf p:Int),v5,.int .i64 0,.int .u8 0] 131:=by rw [hv5] at r6 ⊢;exact r6
   have k6:Ah A5 A6 [A2.next]:=k6;refine r6.store f6 (by omega) (Qp _ _ _) rfl (by show 2+1<=4;omega) rfl λA7 r7 k7 n7 f7=>?_;have r7:Abs.Row1 A7 A2.next [.int .i64 (numOf p:Int),v5,.int .i64 ((scan (⟨⟨fl.1⟩⟩:ByteArray).data.toList).2.1:Nat),.int .u8 0] 131:=r7;have k7:Ah A6 A7 [A2.next]:=k7;refine r7.store f7 (by omega) (Acu _ _ _) rfl (by show 3+1<=4;omega) rfl λA8 r8 k8 n8 f8=>?_;have r8:Abs.Row1 A8 A2.next [.int .i64 (numOf p:Int),v5,.int .i64 ((scan (⟨⟨fl.1⟩⟩:ByteArray).data.toList).2.1:Nat),.int .u8 ((scan (⟨⟨fl.1⟩⟩:ByteArray).data.toList).2.2:Nat)] 131:=r8;have k8:Ah A7 A8 [A2.next]:=k8;have k58:Ah A5 A8 [A2.next]:=(k6.trans k7 (by simp)).trans k8 (by simp);let x:SV:=⟨numOf p,oo,R.length,cc,(scan fl.1).2.1,(scan fl.1).2.2⟩;have efx:[.int .i64 (numOf p:Int),v5,.int .i64 ((scan (⟨⟨fl.1⟩⟩:ByteArray).data.toList).2.1:Nat),.int .u8 ((scan (⟨⟨fl.1⟩⟩:ByteArray).data.toList).2.2:Nat)]=fG x:=by rw [hv5];rfl
   rw [efx] at r8;have hcells:A8.cells? ⟨A2.next,0,none⟩ 4=some (fG x):=by
    rw [Bc r8.row];rfl
   rw [AcU,hcells];simp only [Ab];refine Adu f8 (by omega) λA9 m9=>?_;have n9:=m9.next;have k9:=m9.keeps f8;have K49:Ah A' A9 []:=((g4.keeps.trans g5.keeps (by simp)).trans k58 (λy hy=>.inr (by have:=Ms.1 hy;omega))).trans k9 (by simp);have ho9:=ho.keeps K49 (by simp);refine BF.append etG ho9 m9.Bk m9.Ay (by omega) (by rw [List.length_map];omega) λv10 A10 F10 o10 k10 hF10 n10 f10=>?_;have hFlt:=ho.lt;refine Au.2 ⟨s.D.length-(i+1),by omega,rfl,i+1,sv,v10,Fn,F10,X++[(x,R)],rfl,by omega,rfl,?_,?_,?_,?_,?_,?_,?_⟩
   ·exact (hn.keeps K49 (by simp)).keeps k10 λy hy hm=>(hF y hm).2 hy
   ·rw [eseg,Ff hz,List.map_append,hX]
    congr 1
    show [BN (x,R)]=[EU (numOf p) fl.1];unfold BN EU
    have:(scan fl.1).1=R.map toR:=hR5
    rw [this]
   ·rw [List.map_append];exact o10
   ·intro y hy;rcases hF10 y hy with h | h
    ·exact hF y h
    ·have:=K49.next
     exact ⟨by omega,λhm=>by have:=hn.fam y hm;omega⟩
   ·intro z hz';rcases Mz.1 hz' with hz' | hz'
    ·obtain ⟨G,g1,g2⟩:=hR z hz';refine ⟨G,(g1.keeps K49 (by simp)).keeps k10 λy hy hm=>(g2 y hy).2 hm,λy hy=>⟨(g2 y hy).1,λhm=>?_⟩⟩;rcases hF10 y hm with h | h
     ·exact (g2 y hy).2 h
     ·have:=g1.fam y hy;have:=K49.next;omega
    ·obtain rfl:=Ms.1 hz';have e1:Value.slice x.o x.len x.cap=v5:=hv5.symm;have hlt5:=rd5.fam;refine ⟨F5,?_,λy hy=>⟨by have:=hF5 y hy;omega,λhm=>?_⟩⟩
     ·show RdE 1 fR A10 (.slice x.o x.len x.cap) R F5;rw [e1];exact ((rd5.keeps k58 λy hy=>by have:=hF5 y hy;simp;omega).keeps k9 (by simp)).keeps k10 λy hy hm=>by have:=hF5 y hy;have:=hFlt y hm;omega
     ·have h5:=hF5 y hy;have h6:=hlt5 y hy;rcases hF10 y hm with h | h
      ·have:=hFlt y h;omega
      ·have:=k58.next;omega
   ·have g9:Grow A' A9 (L+29):=⟨K49,m9.Ay,by omega⟩
    have:=(hgr.trans g9).own k10 (λy hy=>(hF y hy).1) (m:=1) (by omega) f10
    exact this.more (by omega)
   ·rw [Lq];simp;omega
  ·have hi':i=s.D.length:=by omega
   subst hi';rw [List.take_of_length_le (by omega)] at hX;exact hk A' v F X hX ho (λy hy=>(hF y hy).1) (λx hx=>by obtain ⟨G,g1,g2⟩:=hR x hx;exact ⟨G,g1,λy hy=>(g2 y hy).1⟩) (hgr.more (by omega))
 ·rw [e66];refine ZW h hf (by omega) (by omega) λA1 sv Fn h1 hFn k1 n1 f1=>?_;have hrd:=Ll h1;rw [esS.Ul hrd,hnl];simp only [Ab];exact Au.2 ⟨s.D.length,rfl,0,sv,_,Fn,[],[],rfl,by omega,rfl,hrd,rfl,BF.nil _,by simp,by simp,⟨k1,f1,by omega⟩,by simp⟩
end
variable {A:AW} {lo:Nat} {K:Value->AW->Prop}
theorem all_zip_not{α:Type}{l:List α}{p:α × Nat->Bool}{i:Nat}{x:α}(hx:l[i]? =some x)(h:p (x,i)=false):l.zipIdx.all p=false:=by
 cases hc:l.zipIdx.all p with
 |false=>rfl
 |true=>rw [(all_zip l p).1 hc i x hx] at h;cases h
section
variable {W0:World} {m0:Inj Tp}
theorem Aec{x:SR}(h:Xc A lo x)(hf:Aw A)(hA:A.next<Aj)(hk:∀ A',Grow A A' 1->K (.bool (Ec (BN x))) A'):Wc Tp Al W0 m0 132 [.agg ⟨fG x.1⟩] A K:=by
 obtain ⟨F,h1,h2⟩:=h;refine Ahj _ _ BD ?_;rw [AiF];refine AZ (cs:=fG x.1) hf hA rfl λA1 m1=>?_;have r1:Abs.Row1 A1 A.next [.int .i64 (x.1.n:Int),.slice x.1.o x.1.len x.1.cap,.int .i64 (x.1.size:Int),.int .u8 (x.1.st:Int)] 131:=m1.Bk;have h1':=h1.keeps (m1.keeps hf) (by simp);have hlen:=h1'.len etR (B:=A1);simp only [Jc,N4,Nat.zero_add,Af r1.row,cellOf,CG,AI,Cf,Ab,hlen,B3,Az];have hlx:(BN x).l=x.2.map toR:=rfl;refine ⟨λhp=>?_,λhp=>?_⟩
 ·obtain ⟨p,hp0⟩:∃ p,x.2[0]? =some p:=⟨_,Ge (by omega)⟩;obtain ⟨r,o,a1,a2,a3⟩:=h1'.at etR hp0;have a1':Ar Tp 60 (.slice x.1.o x.1.len x.1.cap) (.int .i64 0)=some (pP r o):=a1;have hc:A1.cell? ⟨r,o,none⟩=some (.int .u8 (p.1.toNat:Int)):=cell_of a2 (k:=0) rfl;simp only [a1',Ab,JK,L9,hc,B8];have hb:((p.1.toNat:Int)==0)=Ec (BN x):=by
   unfold Ec;rw [hlx];cases hx2:x.2 with
   |nil=>rw [hx2] at hp0;cases hp0
   |cons q r=>
    rw [hx2] at hp0;obtain rfl:q=p:=by simpa using hp0
    show ((q.1.toNat:Int)==0)=(q.1==0);rw [Bool.eq_iff_iff,beq_iff_eq,beq_iff_eq];constructor
    ·intro h;exact UInt8.toNat_inj.1 (by show q.1.toNat=0;omega)
    ·intro h;rw [h];rfl
  rw [hb];exact hk A1 (.made m1 hf)
 ·have hx2:x.2=[]:=by
   cases hx2:x.2 with
   |nil=>rfl
   |cons q r=>rw [hx2] at hp;simp at hp
  have hb:Ec (BN x)=false:=by unfold Ec;rw [hlx,hx2];rfl
  rw [hb] at hk;exact hk A1 (.made m1 hf)
theorem Z8(A:AW):AX Tp A 117 (.slice none 0 0) (some (.int .i64 0)) none none=some (.slice none 0 0):=by kernel_rfl
theorem Z7(A:AW):AX Tp A 117 (.slice none 0 0) none (some (.int .i64 0)) none=some (.slice none 0 0):=by kernel_rfl
theorem Agp {v:Value} {X:List SR} {F:List Nat} {M:Nat} (h:BF 131 3 fG A v (X.map (·.1)) F) (hX:∀ x∈X,Xc A lo x) (hf:Aw A) (hXl:X.length<10000) (hM:∀ x∈X,x.2.length<=M) (hM2:M<900000) (hn:∀ x∈X,x.1.n<100000000) (hst:∀ x∈X,x.1.st<256)
  (hA:A.next+10000*(M+10)<Aj)
  (hk0:Kl (X.map BN)=none->∀ A',Grow A A' (X.length*(M+2))->K (.tuple ⟨[.slice none 0 0,.int .i64 0,.bool false]⟩) A')
  (hk1:∀ f,Kl (X.map BN)=some ((X.drop f).map BN,f)->f<=X.length->∀ A' v' F',Grow A A' (X.length*(M+2))->RdE 3 fG A' v' ((X.drop f).map (·.1)) F'->(∀ y∈F',y∈F)->K (.tuple ⟨[v',.int .i64 (f:Int),.bool true]⟩) A'):
  Wc Tp Al W0 m0 67 [v] A K:=by
 have hroom:room=68719476736:=rfl;have hXm:(X.map BN).length=X.length:=List.length_map _;have hbud:X.length*(M+2)<=10000*(M+2):=Nat.mul_le_mul_right _ (by omega);let n0:Nat->Nat:=λf=>((((X.drop f).map BN).head?).map (·.n)).getD 0;let I:Nat->Nat->List Value->AW->Prop:=λg id vals A'=>
  (id=0/\∃ f1:Nat,vals=[v,.int .i64 ((f1:Int)-1)]/\f1<=X.length/\g=f1+X.length*(M+2)+1/\E2 (X.map BN)=E2 ((X.map BN).take f1)/\Grow A A' (X.length-f1))\/
  (id=2/\∃ (f i:Nat) (v':Value) (F':List Nat),vals=[.int .i64 (f:Int),v',v',.int .i64 ((X.length-f:Nat):Int),.int .i64 (i:Int)]/\i<=X.length-f/\g=(X.length-f-i)*(M+2)/\E2 (X.map BN)=some f/\f<X.length/\RdE 3 fG A' v' ((X.drop f).map (·.1)) F'/\(∀ y∈F',y∈F)/\
   (∀ j x,j<i->(X.drop f)[j]? =some x->JX (n0 f) (X.length-f) j (BN x)=true)/\Grow A A' (X.length+i*(M+1)))\/
  (id=4/\∃ (f i k:Nat) (v':Value) (F':List Nat) (x:SR),vals=[.int .i64 (f:Int),v',.int .i64 (i:Int),v',.int .i64 ((X.length-f:Nat):Int),.int .i64 (i:Int),.slice x.1.o x.1.len x.1.cap,.int .i64 (x.2.length:Int),.int .i64 (k:Int)]/\i<X.length-f/\k<=x.2.length/\
   g=(X.length-f-(i+1))*(M+2)+(x.2.length-k)+1/\E2 (X.map BN)=some f/\f<X.length/\RdE 3 fG A' v' ((X.drop f).map (·.1)) F'/\(∀ y∈F',y∈F)/\(X.drop f)[i]? =some x/\
   (∀ j x,j<i->(X.drop f)[j]? =some x->JX (n0 f) (X.length-f) j (BN x)=true)/\((decide (x.1.n=n0 f+i)&&((decide (i+1=X.length-f) || decide (x.1.st=0))&&decide (x.1.st≠2)))=true)/\
   (∀ m c,m<k->x.2[m]? =some c->okC i (toR c,m)=true)/\Grow A A' (X.length+i*(M+1)+1+k))
 have hdrop:∀ f,(X.map BN).drop f=(X.drop f).map BN:=λf=>by rw [List.map_drop]
 have hlen':∀ f,((X.drop f).map BN).length=X.length-f:=λf=>by rw [List.length_map,List.length_drop]
 have hbad:∀ (f i:Nat) (x:SR) (A':AW) (n:Nat),E2 (X.map BN)=some f->(X.drop f)[i]? =some x->JX (n0 f) (X.length-f) i (BN x)=false->Grow A A' n->n<=X.length*(M+2)->K (.tuple ⟨[.slice none 0 0,.int .i64 0,.bool false]⟩) A':=by
  intro f i x A' n hlb hx ho hg hnn;refine hk0 ?_ A' (hg.more hnn);unfold Kl;rw [hlb];simp only [hdrop]
  have:U9 ((X.drop f).map BN)=false:=all_zip_not (i:=i) (x:=BN x) (by rw [List.getElem?_map,hx];rfl) (by rw [hlen'];exact ho)
  rw [Ff (by rw [this];simp)]
 have hgood:∀ (f:Nat) (A':AW) (v':Value) (F':List Nat) (n:Nat),E2 (X.map BN)=some f->f<X.length->(∀ j x,j<X.length-f->(X.drop f)[j]? =some x->JX (n0 f) (X.length-f) j (BN x)=true)->RdE 3 fG A' v' ((X.drop f).map (·.1)) F'->(∀ y∈F',y∈F)->Grow A A' n->n<=X.length*(M+2)->
   K (.tuple ⟨[v',.int .i64 (f:Int),.bool true]⟩) A':=by
  intro f A' v' F' n hlb hfl ho hrd hF' hg hnn;refine hk1 f ?_ (by omega) A' v' F' (hg.more hnn) hrd hF';unfold Kl;rw [hlb];simp only [hdrop]
  have:U9 ((X.drop f).map BN)=true:=by
   refine (all_zip _ _).2 λi x hx=>?_;rw [List.getElem?_map] at hx;cases hq:(X.drop f)[i]? with
   |none=>rw [hq] at hx;cases hx
   |some y=>
    rw [hq] at hx;obtain rfl:BN y=x:=by simpa using hx
    rw [hlen'];refine ho i y ?_ hq
    have:=(Gs.1 hq).1
    rw [List.length_drop] at this;exact this
  rw [if_pos this]
 have hrow:∀ (f:Nat) (A':AW) (n:Nat) (Q:Value->AW->Prop),E2 (X.map BN)=some f->f<X.length->Grow A A' n->n<=X.length->
   Aa (AX Tp A' 117 v (some (.int .i64 (f:Int))) none none) λt9=>Aa (Bi Tp A' 117 t9) λt10=>∃ g',g'<f+1+X.length*(M+2)+1/\I g' 2 [.int .i64 (f:Int),t9,t9,t10,.int .i64 0] A':=by
  intro f A' n Q hlb hfl hg hnn;obtain ⟨v',F',h1,h2,h3⟩:=(h.keeps hg.keeps (by simp)).from etG (i:=f) (by rw [List.length_map];omega) (Z8 A')
  rw [h1];rw [<- List.map_drop] at h2;have hl2:=h2.len etG (B:=A');rw [List.length_map,List.length_drop] at hl2;simp only [Ab,hl2];have hb2:(X.length-f)*(M+2)<=X.length*(M+2):=Nat.mul_le_mul_right _ (by omega);exact ⟨(X.length-f)*(M+2),by omega,.inr (.inl ⟨rfl,f,0,v',F',rfl,by omega,rfl,hlb,hfl,h2,h3,by omega,hg.more (by omega)⟩)⟩
 refine w67 _ _ (c67 (I:=I) ?_) ?_
 ·rintro g id vals A' d (⟨rfl,f1,rfl,hf1,rfl,hlb,hgr⟩ | ⟨rfl,f,i,v',F',rfl,hi,rfl,hlb,hfl,hrd,hF',hok,hgr⟩ | ⟨rfl,f,i,k,v',F',x,rfl,hi,hkk,rfl,hlb,hfl,hrd,hF',hx,hok,hcond,hck,hgr⟩) hd'
  ·rw [Ae9];simp only [L67,Mc,Mn,Li,and_true] at hd';obtain ⟨h0,h5⟩:=hd';have hnx:=hgr.next;have hle:=hgr.le;simp only [h0,h5,JR,Br,Ab,Az];refine ⟨λhge=>?_,λhlt=>?_⟩
   ·obtain ⟨f0,rfl⟩:∃ f0,f1=f0+1:=⟨f1-1,by omega⟩;have ef:((f0+1:Nat):Int)-1=(f0:Int):=by omega
    rw [ef];obtain ⟨x,hx⟩:∃ x,X[f0]? =some x:=⟨_,Ge (by omega)⟩;have hx1:(X.map (·.1))[f0]? =some x.1:=by rw [List.getElem?_map,hx];rfl
    obtain ⟨r,o,a1,a2,a3⟩:=((h.keeps hgr.keeps (by simp)).rd etG.len).at etG hx1;rw [a1];simp only [Ab,a3];refine Aec (lo:=lo) ((hX x (List.mem_of_getElem? hx)).keeps hgr.keeps (by simp)) hgr.Ay (by omega) λA2 g2=>?_;have hsn:(X.map BN).take (f0+1)=(X.map BN).take f0++[BN x]:=B9 (by rw [List.getElem?_map,hx];rfl);rw [hsn,lastB_snoc,List.length_take,hXm,Nat.min_eq_left (by omega)] at hlb;simp only [Bl,Ab];refine Ag.2 ⟨λhb=>?_,λhb=>?_⟩
    ·have hb:Ec (BN x)=false:=by simpa using hb
     rw [Ff (by rw [hb];simp)] at hlb;rw [Db,wrap_i64 (by omega) (by omega)];simp only [Ab];exact Au.2 ⟨f0+X.length*(M+2)+1,by omega,.inl ⟨rfl,f0,rfl,by omega,rfl,hlb,(hgr.trans g2).more (by omega)⟩⟩
    ·have hb:Ec (BN x)=true:=by simpa using hb
     rw [if_pos hb] at hlb;refine ⟨λh=>by omega,λ_=>?_⟩;simp only [Au];exact hrow f0 A2 _ K hlb (by omega) (hgr.trans g2) (by omega)
   ·have hf0:f1=0:=by omega
    subst hf0;refine ⟨λ_=>?_,λh=>by omega⟩;have hlb:E2 (X.map BN)=none:=hlb;rw [((h.keeps hgr.keeps (by simp)).rd etG.len).len etG (B:=A'),List.length_map];simp only [Ab,B8];by_cases h0:X=[]
    ·subst h0;exact hk1 0 rfl (Nl _) A' _ [] (hgr.more (by simp)) (.nil _ _ _) (by simp)
    ·have hne:((X.length:Int)==0)=false:=by
      have:0<X.length:=List.length_pos_iff.2 h0
      simp;exact h0
     rw [hne];refine hk0 ?_ A' (hgr.more (Nat.le_trans (by omega) (Nat.le_mul_of_pos_right _ (by omega))));unfold Kl;rw [hlb];simp [h0]
  ·rw [Ae8];simp only [L67,Mc,Mn,Li,and_true] at hd';obtain ⟨h5,h6,h35,h36,h37⟩:=hd';have hnx:=hgr.next;have hle:=hgr.le;simp only [h5,h6,h35,h36,h37,Br,Ab,Az];have hb1:X.length*(M+2)=X.length*(M+1)+X.length:=by rw [show M+2=(M+1)+1 from rfl,Nat.mul_succ]
   have hb2:i*(M+1)<=X.length*(M+1):=Nat.mul_le_mul_right _ (by omega);refine ⟨λhlt=>?_,λhge=>?_⟩
   ·have hlt:i<X.length-f:=by omega
    have hb3:(i+1)*(M+1)<=X.length*(M+1):=Nat.mul_le_mul_right _ (by omega);have hb4:(i+1)*(M+1)=i*(M+1)+(M+1):=Nat.succ_mul _ _;obtain ⟨x,hx⟩:∃ x,(X.drop f)[i]? =some x:=⟨_,Ge (by rw [List.length_drop];omega)⟩;have hxm:x∈X:=List.mem_of_mem_drop (List.mem_of_getElem? hx);have hx1:((X.drop f).map (·.1))[i]? =some x.1:=by rw [List.getElem?_map,hx];rfl
    obtain ⟨r,o,a1,a2,a3⟩:=hrd.at etG hx1;obtain ⟨x0,hx0⟩:∃ x,(X.drop f)[0]? =some x:=⟨_,Ge (by rw [List.length_drop];omega)⟩;have hx0m:x0∈X:=List.mem_of_mem_drop (List.mem_of_getElem? hx0);have hx01:((X.drop f).map (·.1))[0]? =some x0.1:=by rw [List.getElem?_map,hx0];rfl
    have hn0:n0 f=x0.1.n:=by
     show ((((X.drop f).map BN).head?).map (·.n)).getD 0=_;rw [List.head?_map,List.head?_eq_getElem?,hx0];rfl
    rw [a1];simp only [Ab,a3];refine AH zG hgr.Ay (by omega) rfl λA3 m3=>?_;have n3:=m3.next;refine m3.Bk.store m3.Ay (by omega) (Qq _ _ _) rfl (by show 0+4<=4;omega) rfl λA4 r4 k4 n4 f4=>?_;have r4:Abs.Row1 A4 A'.next [.int .i64 (x.1.n:Int),.slice x.1.o x.1.len x.1.cap,.int .i64 (x.1.size:Int),.int .u8 (x.1.st:Int)] 131:=r4;have k4:Ah A3 A4 [A'.next]:=k4;have g4:Grow A' A4 1:=(Grow.made m3 hgr.Ay).own k4 (by simp) (m:=0) (by omega) f4;have hrd4:=hrd.keeps g4.keeps (by simp);have hl4:=hrd4.len etG (B:=A4);rw [List.length_map,List.length_drop] at hl4;obtain ⟨r0,o0,b1,b2,b3⟩:=hrd4.at etG hx01;have b1':Ar Tp 117 v' (.int .i64 0)=some (pP r0 o0):=b1;have hc0:A4.cell? ⟨r0,o0,none⟩=some (.int .i64 (x0.1.n:Int)):=cell_of b2 (k:=0) rfl;have hnx0:=hn x0 hx0m;have hnx1:=hn x hxm;simp only [hl4,Ab,Db,B8,Jd,Jc,Oj,Nat.zero_add,GL,N4,YM,Af r4.row,cellOf,AI,CG,Cf,b1',hc0,Bm,Bw,Bl];rw [wrap_i64 (by omega) (by omega),wrap_i64 (by omega) (by omega)];have bad:JX (n0 f) (X.length-f) i (BN x)=false->K (.tuple ⟨[.slice none 0 0,.int .i64 0,.bool false]⟩) A4:=λho=>hbad f i x A4 _ hlb hx ho (hgr.trans g4) (by omega);have eseg:JX (n0 f) (X.length-f) i (BN x)=(decide (x.1.n=n0 f+i)&&((decide (i+1=X.length-f) || decide (x.1.st=0))&&(decide (x.1.st≠2)&&(x.2.map toR).zipIdx.all (okC i)))):=rfl;refine Bj.2 ⟨λhne=>bad ?_,λheq=>?_⟩
    ·rw [eseg,decide_eq_false (by omega),Bool.false_and]
    have heq:x.1.n=n0 f+i:=by omega
    have go:(decide (i+1=X.length-f) || decide (x.1.st=0))=true->x.1.st≠2->∃ g',g'<(X.length-f-i)*(M+2)/\I g' 4 [.int .i64 (f:Int),v',.int .i64 (i:Int),v',.int .i64 ((X.length-f:Nat):Int),.int .i64 (i:Int),.slice x.1.o x.1.len x.1.cap,.int .i64 (x.1.len:Int),.int .i64 0] A4:=by
     intro h1 h2;obtain ⟨G,hG1,hG2⟩:=hX x hxm;have hlx:x.1.len=x.2.length:=by
      obtain ⟨o',c',hs⟩:=hG1.slice;simp only [Value.slice.injEq] at hs;exact hs.2.1
     rw [hlx];have hMx:=hM x hxm;have e1:(X.length-f-i)*(M+2)=(X.length-f-(i+1))*(M+2)+(M+2):=by rw [<- Nat.succ_mul];congr 1;omega
     refine ⟨(X.length-f-(i+1))*(M+2)+(x.2.length-0)+1,by omega,.inr (.inr ⟨rfl,f,i,0,v',F',x,(by rw [hlx];rfl),hlt,by omega,rfl,hlb,hfl,hrd4,hF',hx,hok,?_,by omega,(hgr.trans g4).more (by omega)⟩)⟩;rw [decide_eq_true heq,h1,decide_eq_true h2];rfl
    have hs2:∀ (hor:(decide (i+1=X.length-f) || decide (x.1.st=0))=true),Ai (.bool ((x.1.st:Int)==2)) (K (.tuple ⟨[.slice none 0 0,.int .i64 0,.bool false]⟩) A4) (Aa (Bi Tp A4 60 (.slice x.1.o x.1.len x.1.cap)) λt24=>BE (T67 4) (T67 4) (∃ g',g'<(X.length-f-i)*(M+2)/\I g' 4 [.int .i64 (f:Int),v',.int .i64 (i:Int),v',.int .i64 ((X.length-f:Nat):Int),.int .i64 (i:Int),.slice x.1.o x.1.len x.1.cap,t24,.int .i64 0] A4)):=by
     intro hor;refine Cg.2 ⟨λh2=>bad ?_,λh2=>?_⟩
     ·rw [eseg,decide_eq_false (show ¬ x.1.st≠2 by omega),Bool.false_and,Bool.and_false,Bool.and_false]
     ·rw [YD];simp only [Ab];exact Au.2 (go hor (by omega))
    refine Ag.2 ⟨λhl=>?_,λhl=>?_⟩
    ·have hl:i+1≠X.length-f:=by
      intro h0
      have:((i:Int)==((X.length-f:Nat):Int)-1)=true:=by rw [beq_iff_eq];omega
      rw [this] at hl;simp at hl
     refine Bj.2 ⟨λh0=>bad ?_,λh0=>?_⟩
     ·rw [eseg,decide_eq_false hl,decide_eq_false (show ¬ x.1.st=0 by omega),Bool.or_self,Bool.false_and,Bool.and_false]
     ·exact hs2 (by rw [decide_eq_true (show x.1.st=0 by omega),Bool.or_true])
    ·have hl:i+1=X.length-f:=by
      have:((i:Int)==((X.length-f:Nat):Int)-1)=true:=by simpa using hl
      rw [beq_iff_eq] at this;omega
     exact hs2 (by rw [decide_eq_true hl,Bool.true_or])
   ·have hi':i=X.length-f:=by omega
    subst hi';exact hgood f A' v' F' _ hlb hfl hok hrd hF' hgr (by omega)
  ·rw [Ae7];simp only [L67,Mc,Mn,Li,and_true] at hd';obtain ⟨h5,h6,h7,h35,h36,h37,h71,h72,h73⟩:=hd';have hnx:=hgr.next;have hle:=hgr.le;have hxm:x∈X:=List.mem_of_mem_drop (List.mem_of_getElem? hx);have hMx:=hM x hxm;have hb1:X.length*(M+2)=X.length*(M+1)+X.length:=by rw [show M+2=(M+1)+1 from rfl,Nat.mul_succ]
   have hb3:(i+1)*(M+1)<=X.length*(M+1):=Nat.mul_le_mul_right _ (by omega);have hb4:(i+1)*(M+1)=i*(M+1)+(M+1):=Nat.succ_mul _ _;have eseg:JX (n0 f) (X.length-f) i (BN x)=(decide (x.1.n=n0 f+i)&&((decide (i+1=X.length-f) || decide (x.1.st=0))&&(decide (x.1.st≠2)&&(x.2.map toR).zipIdx.all (okC i)))):=rfl;simp only [h5,h6,h7,h35,h36,h37,h71,h72,h73,Br,Ab,Az];refine ⟨λhlt=>?_,λhge=>?_⟩
   ·have hlt:k<x.2.length:=by omega
    obtain ⟨c,hc⟩:∃ c,x.2[k]? =some c:=⟨_,Ge hlt⟩;obtain ⟨G,hG1,hG2⟩:=(hX x hxm).keeps hgr.keeps (by simp);obtain ⟨r,o,a1,a2,a3⟩:=hG1.at etR hc;rw [a1];simp only [Ab,a3];refine AH zR hgr.Ay (by omega) rfl λA3 m3=>?_;have n3:=m3.next;refine m3.Bk.store m3.Ay (by omega) (XO _ _ _) rfl (by show 0+2<=2;omega) rfl λA4 r4 k4 n4 f4=>?_;have r4:Abs.Row1 A4 A'.next [.int .u8 c.1.toNat,.string c.2] 80:=r4;have k4:Ah A3 A4 [A'.next]:=k4;have g4:Grow A' A4 1:=(Grow.made m3 hgr.Ay).own k4 (by simp) (m:=0) (by omega) f4;have hcl:(x.2.map toR)[k]? =some (toR c):=by rw [List.getElem?_map,hc];rfl
    have next:okC i (toR c,k)=true->∃ g',g'<(X.length-f-(i+1))*(M+2)+(x.2.length-k)+1/\I g' 4 [.int .i64 (f:Int),v',.int .i64 (i:Int),v',.int .i64 ((X.length-f:Nat):Int),.int .i64 (i:Int),.slice x.1.o x.1.len x.1.cap,.int .i64 (x.2.length:Int),.int .i64 ((k:Int)+1)] A4:=by
     intro ho;refine ⟨(X.length-f-(i+1))*(M+2)+(x.2.length-(k+1))+1,by omega,.inr (.inr ⟨rfl,f,i,k+1,v',F',x,rfl,hi,by omega,rfl,hlb,hfl,hrd.keeps g4.keeps (by simp),hF',hx,hok,hcond,λm c' hm hc'=>?_,(hgr.trans g4).more (by omega)⟩)⟩;by_cases hmk:m<k
     ·exact hck m c' hmk hc'
     ·obtain rfl:m=k:=by omega
      rw [hc] at hc';obtain rfl:c=c':=by simpa using hc'
      exact ho
    simp only [JK,L9,Af r4.row,cellOf,AI,Cf,Ab,B8,Bm,B3];rw [wrap_i64 (n:=(i:Int)+(k:Int)) (by omega) (by omega),wrap_i64 (n:=(k:Int)+1) (by omega) (by omega)];refine Cg.2 ⟨λhz=>?_,λhz=>?_⟩
    ·have hz0:((toR c).1==0)=true:=by
      rw [beq_iff_eq];exact UInt8.toNat_inj.1 (by show c.1.toNat=0;omega)
     simp only [Az];refine ⟨λhp=>?_,λhp=>?_⟩
     ·refine hbad f i x A4 _ hlb hx ?_ (hgr.trans g4) (by omega);have hno:okC i (toR c,k)=false:=by
       unfold okC;simp only [hz0,Bool.not_true,Bool.false_or];exact decide_eq_false (by omega)
      rw [eseg,all_zip_not hcl hno,Bool.and_false,Bool.and_false,Bool.and_false]
     ·refine Au.2 (next ?_);unfold okC;simp only [hz0,Bool.not_true,Bool.false_or];exact decide_eq_true (by omega)
    ·refine Au.2 (next ?_);have hz0:((toR c).1==0)=false:=by
      rw [beq_eq_false_iff_ne];intro h0
      have:c.1=0:=h0
      rw [this] at hz;exact hz rfl
     unfold okC;simp only [hz0,Bool.not_false,Bool.true_or]
   ·have hk':k=x.2.length:=by omega
    subst hk';rw [Bm,wrap_i64 (by omega) (by omega)];simp only [Ab];have e1:(X.length-f-(i+1))*(M+2)<(X.length-f-(i+1))*(M+2)+(x.2.length-x.2.length)+1:=by omega
    refine Au.2 ⟨(X.length-f-(i+1))*(M+2),e1,.inr (.inl ⟨rfl,f,i+1,v',F',rfl,by omega,rfl,hlb,hfl,hrd,hF',λj y hj hy=>?_,hgr.more (by omega)⟩)⟩;by_cases hji:j<i
    ·exact hok j y hji hy
    ·obtain rfl:j=i:=by omega
     rw [hx] at hy;obtain rfl:x=y:=by simpa using hy
     have hall:(x.2.map toR).zipIdx.all (okC j)=true:=(all_zip _ _).2 λm c hm=>by
      rw [List.getElem?_map] at hm;cases hq:x.2[m]? with
      |none=>rw [hq] at hm;cases hm
      |some c'=>
       rw [hq] at hm;obtain rfl:toR c'=c:=by simpa using hm
       exact hck m c' (Gs.1 hq).1 hq
     rw [eseg,hall,Bool.and_true];exact hcond
 ·rw [e67];rw [(h.rd etG.len).len etG (B:=A),List.length_map];simp only [Ab,Db];rw [wrap_i64 (by omega) (by omega)];refine Au.2 ⟨X.length+X.length*(M+2)+1,.inl ⟨rfl,X.length,rfl,Nl _,rfl,?_,(Grow.refl hf).more (by omega)⟩⟩;rw [List.take_of_length_le (by omega)]
end
end Go.Proofs.YtnennggfoegcmaaGreatDoor
namespace Go.Jr
def Ac.num:Ac->Option Nat
 |.rn1=>some 1
 |.rm n=>some n
 |.ct n _=>some n
 |.sy n=>some n
 |_=>none
end Go.Jr
namespace Go.Proofs.YtnennggfoegcmaaGreatDoor
section
open Go.Abs Go.Jr
abbrev ptr(q:Nat):Value:=.pointer (some ⟨q,0,none⟩)
def AcV(A:AW)(lo:Nat)(Fb:List Nat)(q:Nat):Ac->Value->Prop
 |.rmF,v=>v=.func (.func 69) ⟨[]⟩ ⟨[ptr q]⟩
 |.ap0,v=>v=.func (.func 72) ⟨[]⟩ ⟨[ptr q]⟩
 |.syF,v=>v=.func (.func 74) ⟨[]⟩ ⟨[ptr q]⟩
 |.rn1,v=>v=.func (.func 76) ⟨[]⟩ ⟨[ptr q]⟩
 |.rm n,v=>∃ p x,v=.func (.func 79) ⟨[]⟩ ⟨[ptr q,ptr p]⟩/\Abs.Row1 A p (fG x) 131/\x.n=n/\lo<p/\p∉Fb
 |.ct n k,v=>∃ p x,v=.func (.func 80) ⟨[]⟩ ⟨[ptr q,ptr p]⟩/\Abs.Row1 A p (fG x) 131/\x.n=n/\x.size=k/\lo<p/\p∉Fb
 |.sy n,v=>∃ p x,v=.func (.func 82) ⟨[]⟩ ⟨[ptr q,ptr p]⟩/\Abs.Row1 A p (fG x) 131/\x.n=n/\lo<p/\p∉Fb
theorem AcV.keeps{A A':AW}{lo q:Nat}{a:Ac}{v:Value}{S Fb Fb':List Nat}(h:AcV A lo Fb q a v)(k:Ah A A' S)(hS:∀ y∈S,y<=lo\/y∈Fb\/A.next<=y)(hF:∀ y∈Fb',y∈Fb\/A.next<=y):AcV A' lo Fb' q a v:=by
 have key:∀ p x,Abs.Row1 A p (fG x) 131->lo<p->p∉Fb->Abs.Row1 A' p (fG x) 131/\p∉Fb':=λp x h1 h2 h3=>⟨h1.keeps k λhm=>(hS p hm).elim (λh=>by omega) λh=>h.elim h3 λh=>by have:=h1.lt;omega,λhm=>(hF p hm).elim h3 λh=>by have:=h1.lt;omega⟩;cases a with
 |rmF=>exact h
 |ap0=>exact h
 |syF=>exact h
 |rn1=>exact h
 |rm n=>obtain ⟨p,x,h1,h2,h3,h4,h5⟩:=h;exact ⟨p,x,h1,(key p x h2 h4 h5).1,h3,h4,(key p x h2 h4 h5).2⟩
 |ct n k=>obtain ⟨p,x,h1,h2,h3,h4,h5,h6⟩:=h;exact ⟨p,x,h1,(key p x h2 h5 h6).1,h3,h4,h5,(key p x h2 h5 h6).2⟩
 |sy n=>obtain ⟨p,x,h1,h2,h3,h4,h5⟩:=h;exact ⟨p,x,h1,(key p x h2 h4 h5).1,h3,h4,(key p x h2 h4 h5).2⟩
theorem AfM(A:AW)(a:Value):D2 Tp A (.func (.func 69) ⟨[]⟩ ⟨[a]⟩) []=.ok (.enter 69 [a]) A:=by kernel_rfl
theorem AfL(A:AW)(a:Value):D2 Tp A (.func (.func 72) ⟨[]⟩ ⟨[a]⟩) []=.ok (.enter 72 [a]) A:=by kernel_rfl
theorem AfK(A:AW)(a:Value):D2 Tp A (.func (.func 74) ⟨[]⟩ ⟨[a]⟩) []=.ok (.enter 74 [a]) A:=by kernel_rfl
theorem AfJ(A:AW)(a:Value):D2 Tp A (.func (.func 76) ⟨[]⟩ ⟨[a]⟩) []=.ok (.enter 76 [a]) A:=by kernel_rfl
theorem AfI(A:AW)(a b:Value):D2 Tp A (.func (.func 79) ⟨[]⟩ ⟨[a,b]⟩) []=.ok (.enter 79 [a,b]) A:=by kernel_rfl
theorem AfH(A:AW)(a b:Value):D2 Tp A (.func (.func 80) ⟨[]⟩ ⟨[a,b]⟩) []=.ok (.enter 80 [a,b]) A:=by kernel_rfl
theorem AfG(A:AW)(a b:Value):D2 Tp A (.func (.func 82) ⟨[]⟩ ⟨[a,b]⟩) []=.ok (.enter 82 [a,b]) A:=by kernel_rfl
section
variable {W0:World} {m0:Inj Tp}
theorem Acx {A:AW} {d mp lo q k:Nat} {Fb:List Nat} {s:DS} {a:Ac} {v:Value} {K:Value->AW->Prop} (h:Dk A d mp s) (hg:Glb A) (hq:Abs.Row1 A q [ptr d] 23) (ha:AcV A lo Fb q a v) (hok:OkS k s) (hk9:k<9000) (hf:Aw A) (hA:A.next+40000<Aj)
  (hnm:∀ n,a.num=some n->HV W0 m0 n) (h0:1≠d/\1≠mp)
  (hk:∀ A',Dk A' d mp (a.run s).1->Ah A A' [d,mp]->A'.next<=A.next+40+k->Aw A'->K (.int .i64 (a.run s).2) A'):anW Tp Al W0 m0 (D2 Tp A v []) K:=by
 have hfew:=hok.few;cases a with
 |rmF=>
  obtain rfl:=ha;refine Hs (AfM A _) rfl (w69 _ _ BD ?_);rw [e69];simp only [ptr,Cr,Af hq.row,cellOf,AB,Cf,Ab];refine ZU (n:=⟨⟨[106,46,110,101,119]⟩⟩) h hok.n hf (by omega) λA' hd kk nn ff=>?_;exact hk A' hd kk (by omega) ff
 |ap0=>
  obtain rfl:=ha;refine Hs (AfL A _) rfl (w72 _ _ BD ?_);rw [e72];simp only [ptr,Cr,Af hq.row,cellOf,AB,Cf,Ab];refine Ab0 (s:=⟨⟨[]⟩⟩) hg hf (by simp) (by omega) λA1 g1=>?_;have n1:=g1.next;simp only [Af (hq.keeps g1.keeps (by simp)).row,cellOf,AB,Cf,Ab,AR];refine ZT (n:=⟨⟨[106,46,110,101,119]⟩⟩) (b:=⟨⟨Ck⟩⟩) (h.keeps g1.keeps (by simp) (by simp)) (hok.d (by omega)) hok.n (by decide) g1.Ay (by omega) λA' hd kk nn ff=>?_;exact hk A' hd ((g1.keeps.more (by simp)).trans kk (by simp)) (by omega) ff
 |syF=>
  obtain rfl:=ha;refine Hs (AfK A _) rfl (w74 _ _ BD ?_);rw [e74];simp only [ptr,Cr,Af hq.row,cellOf,AB,Cf,Ab];refine Xp (n:=⟨⟨[106,46,110,101,119]⟩⟩) h hok.n hf (by omega) λA' hd kk nn ff=>?_;exact hk A' hd kk (by omega) ff
 |rn1=>
  obtain rfl:=ha;refine Hs (AfJ A _) rfl (w76 _ _ BD ?_);rw [e76];simp only [ptr,Cr,Af hq.row,cellOf,AB,Cf,Ab];refine Iy (by decide) (hnm 1 rfl) rfl ?_;simp only [Af hq.row,cellOf,AB,Cf,Ab,AR];refine AdE (n:=⟨⟨[106,46,110,101,119]⟩⟩) (t:=⟨⟨Jr.nm 1⟩⟩) h hok.n hf (by omega) λA' hd kk nn ff=>?_;exact hk A' hd kk (by omega) ff
 |rm n=>
  obtain ⟨p,x,rfl,hp,rfl,-⟩:=ha;have hp':Abs.Row1 A p [.int .i64 (x.n:Int),.slice x.o x.len x.cap,.int .i64 (x.size:Int),.int .u8 (x.st:Int)] 131:=hp;refine Hs (AfI A _ _) rfl (w79 _ _ _ BD ?_);rw [e79];simp only [ptr,Cr,GL,Jd,Af hq.row,Af hp'.row,cellOf,AB,AI,Cf,Ab];refine Iy (by decide) (hnm _ rfl) rfl ?_;simp only [Af hq.row,cellOf,AB,Cf,Ab,AR];refine ZU (n:=⟨⟨Jr.nm x.n⟩⟩) h hok.n hf (by omega) λA' hd kk nn ff=>?_;exact hk A' hd kk (by omega) ff
 |ct n c=>
  obtain ⟨p,x,rfl,hp,rfl,rfl,-⟩:=ha;have hp':Abs.Row1 A p [.int .i64 (x.n:Int),.slice x.o x.len x.cap,.int .i64 (x.size:Int),.int .u8 (x.st:Int)] 131:=hp;refine Hs (AfH A _ _) rfl (w80 _ _ _ BD ?_);rw [e80];simp only [ptr,Cr,GL,Jd,Ol,Nat.zero_add,Af hq.row,Af hp'.row,cellOf,AB,AI,CG,Cf,Ab];refine Iy (by decide) (hnm _ rfl) rfl ?_;simp only [Af hq.row,Af hp'.row,cellOf,AB,AI,CG,Cf,Ab,AR];refine Agn (n:=⟨⟨Jr.nm x.n⟩⟩) (k:=x.size) h hok.n hf (by omega) λA' hd kk nn ff=>?_;exact hk A' hd kk (by omega) ff
 |sy n=>
  obtain ⟨p,x,rfl,hp,rfl,-⟩:=ha;have hp':Abs.Row1 A p [.int .i64 (x.n:Int),.slice x.o x.len x.cap,.int .i64 (x.size:Int),.int .u8 (x.st:Int)] 131:=hp;refine Hs (AfG A _ _) rfl (w82 _ _ _ BD ?_);rw [e82];simp only [ptr,Cr,GL,Jd,Af hq.row,Af hp'.row,cellOf,AB,AI,Cf,Ab];refine Iy (by decide) (hnm _ rfl) rfl ?_;simp only [Af hq.row,cellOf,AB,Cf,Ab,AR];refine Xp (n:=⟨⟨Jr.nm x.n⟩⟩) h hok.n hf (by omega) λA' hd kk nn ff=>?_;exact hk A' hd kk (by omega) ff
end
end
section
open Go.Abs Go.Jr
variable {A A':AW} {e:TypeId} {hi t0 d:Nat} {vr va:Value} {S Fa Fb Fb':List Nat}
structure FV where
 v:Value
 one:AK v=true
 noT:isTuple v=false
def fV(x:FV):List Value:=[x.v]
theorem esF:ES Tp 124 94 fV where
 us:=by kernel_rfl
 sz:=by kernel_rfl
 by':=⟨8,by kernel_rfl,by decide⟩
 hz:=by kernel_rfl
 ld:=Ae1
 len:=λ_=>rfl
 one:=λx=>by show (AK x.v&&true)=true;rw [x.one];rfl
 noT:=λx=>by show (!isTuple x.v&&true)=true;rw [x.noT];rfl
def f1V(g p:Nat):FV:=⟨.func (.func g) ⟨[]⟩ ⟨[ptr p]⟩,rfl,rfl⟩
def f2V(g p q:Nat):FV:=⟨.func (.func g) ⟨[]⟩ ⟨[ptr p,ptr q]⟩,rfl,rfl⟩
theorem Aa2(A:AW)(g p:Nat):Aq Tp A 124 1 [(0,(f1V g p).v)]=(match A.newRow [(f1V g p).v] 94 with | some (a,w')=>.ok (.slice (some a) 1 1) w' | none=>.fail "buildSlice new"):=by kernel_rfl
theorem VH(A:AW)(g p q:Nat):Aq Tp A 124 1 [(0,(f2V g p q).v)]=(match A.newRow [(f2V g p q).v] 94 with | some (a,w')=>.ok (.slice (some a) 1 1) w' | none=>.fail "buildSlice new"):=by kernel_rfl
theorem Aa1(A:AW)(g h i p:Nat):Aq Tp A 124 3 [(0,(f1V g p).v),(1,(f1V h p).v),(2,(f1V i p).v)]=(match A.newRow [(f1V g p).v,(f1V h p).v,(f1V i p).v] 94 with | some (a,w')=>.ok (.slice (some a) 3 3) w' | none=>.fail "buildSlice new"):=by kernel_rfl
theorem Aa0(A:AW)(n:Int):Aq Tp A 36 1 [(0,.int .i64 n)]=(match A.newRow [.int .i64 n] 3 with | some (a,w')=>.ok (.slice (some a) 1 1) w' | none=>.fail "buildSlice new"):=by kernel_rfl
theorem Hp {cs:List Value} {t n:Nat} {parts:List (Nat × Value)} {K:Value->AW->Prop} (hb:Aq Tp A t n parts=(match A.newRow cs e with | some (a,w')=>.ok (.slice (some a) n n) w' | none=>.fail "buildSlice new")) (hone:cs.all AK=true) (hf:Aw A) (h:A.next<Aj)
  (hk:∀ A',Made A A' cs e->K (.slice (some ⟨A.next,0,none⟩) n n) A'):Ao (Aq Tp A t n parts) K:=by
 rw [hb];unfold AW.newRow AW.new;simp only [hone,Ct,AA.2 h];exact AT.2 (hk (A.push (.row cs e A.next 0 false)) ⟨AW.BR _ h,rfl,by rw [AW.BK _ h,if_pos rfl],hf.alone (Nl _),hf.push _ h⟩)
theorem AaJ(n:Int):Bn Tp (BZ (Tm.fill ⟨1,.nil⟩ 0 [.int .i64 n])) (.buildSlice 36 1 #[(0,.tmp 0)])=some (.slice [.int .i64 n] 3 1):=by kernel_rfl
theorem Af9(d:Nat)(n:Int):Bd Tp 123 [(0,ptr d),(1,.int .i64 n)]=some (.agg ⟨[ptr d,.int .i64 n,.string ⟨⟨[]⟩⟩,.slice none 0 0,.slice none 0 0,.int .i64 0,.bool false,.bool false]⟩):=by kernel_rfl
theorem Aa9{ts te:TypeId}{β:Type}{f:β->List Value}(T:ES Tp ts te f){q c:Nat}{l:List β}(hq:Abs.Row1 A q (flat f l) e):BM Tp A te ts 1 (.slice (some ⟨q,0,none⟩) l.length c)=some (l.length,flat f l):=by
 unfold BM;simp only [T.us];show Df A 1 (.slice (some ⟨q,0,none⟩) l.length c)=_;unfold Df
 have:=DK (flat f l) [] (SG T.noT l)
 rw [List.append_nil,CC T.len,Nat.mul_one] at this;simp only [Nat.mul_one,Bc hq.row,List.drop_zero,this]
theorem Xg{v:Value}{p:RV}{l:List RV}{F:List Nat}(h:BF 80 1 fR A v (p::l) F):∃ a n c,AX Tp A 60 v (some (.int .i64 1)) none none=some (.slice (some a) n c)/\RdE 1 fR A (.slice (some a) n c) l F:=by
 rcases h with ⟨rfl,h2,_,rfl⟩ | ⟨b,g,rfl,h2,rfl⟩
 ·simp at h2
 ·have hs:=My (P:=Tp) etR (m:=(p::l).length) (i:=1) h2.row (by simp);refine ⟨_,_,_,hs,.inr ⟨b,1*(1+1),Bo+((p::l).length-1),flat fR (p::l),80,g,0,false,by simp,h2.row,h2.ltf,rfl,λi r hi=>?_⟩⟩
  ·rw [<- Nat.add_mul];exact DM etR.len (p::l) (1+i) r (by rw [Nat.add_comm,List.getElem?_cons_succ];exact hi)
structure Rt (n0:Nat) (A:AW) (hi t0 d:Nat) (X:List SR) (vr:Value) (f:Nat):Prop where
 t0r:Abs.Row1 A t0 [ptr d] 23
 t0l:n0<=t0/\t0<hi
 rr:∃ F,RdE 3 fG A vr ((X.drop f).map (·.1)) F/\∀ y∈F,n0<=y/\y<hi
 sv:∀ x∈X,∃ F,RdE 1 fR A (.slice x.1.o x.1.len x.1.cap) x.2 F/\∀ y∈F,n0<=y/\y<hi
theorem Rt.keeps{n0:Nat}{X:List SR}{f:Nat}(h:Rt n0 A hi t0 d X vr f)(k:Ah A A' S)(hS:∀ y∈S,y<n0\/hi<=y):Rt n0 A' hi t0 d X vr f:=by
 have key:∀ F:List Nat,(∀ y∈F,n0<=y/\y<hi)->∀ y∈F,y∉S:=λF hF y hy hm=>by have:=hF y hy;rcases hS y hm with h | h<;>omega
 refine ⟨h.t0r.keeps k λhm=>by have:=h.t0l;rcases hS _ hm with h | h<;>omega,h.t0l,?_,λx hx=>?_⟩
 ·obtain ⟨F,h1,h2⟩:=h.rr;exact ⟨F,h1.keeps k (key F h2),h2⟩
 ·obtain ⟨F,h1,h2⟩:=h.sv x hx;exact ⟨F,h1.keeps k (key F h2),h2⟩
structure GX (A:AW) (hi:Nat) (Fb:List Nat) (t0:Nat) (va:Value) (l:List Ac) (vs:List FV) (Fa:List Nat):Prop where
 own:CW 94 0 fV A va vs Fa
 len:l.length=vs.length
 act:∀ (i:Nat) a v,l[i]? =some a->vs[i]? =some v->AcV A hi Fb t0 a v.v
theorem GX.keeps{l:List Ac}{vs:List FV}(h:GX A hi Fb t0 va l vs Fa)(k:Ah A A' S)(h1:∀ y∈Fa,y∉S)(h2:∀ y∈S,y<=hi\/y∈Fb\/A.next<=y)(h3:∀ y∈Fb',y∈Fb\/A.next<=y):GX A' hi Fb' t0 va l vs Fa:=
 ⟨h.own.keeps k h1,h.len,λi a v ha hv=>(h.act i a v ha hv).keeps k h2 h3⟩
theorem GX.nil(A:AW)(hi t0:Nat)(Fb:List Nat):GX A hi Fb t0 (.slice none 0 0) [] [] []:=⟨CW.nil A,rfl,λi a v h=>by simp at h⟩
theorem GX.app {v':Value} {l:List Ac} {vs:List FV} {F':List Nat} (h:GX A hi Fb t0 va l vs Fa) (k:Ah A A' S) (hS:∀ y∈S,y<=hi\/y∈Fb\/A.next<=y) (hF:∀ y∈Fb',y∈Fb\/A.next<=y) {l2:List Ac} {vs2:List FV} (hl:l2.length=vs2.length)
  (h2:∀ (i:Nat) a v,l2[i]? =some a->vs2[i]? =some v->AcV A' hi Fb' t0 a v.v) (ho:CW 94 0 fV A' v' (vs++vs2) F'):GX A' hi Fb' t0 v' (l++l2) (vs++vs2) F':=by
 refine ⟨ho,by rw [Lq,Lq,h.len,hl],λi a v ha hv=>?_⟩;by_cases hi':i<l.length
 ·rw [List.getElem?_append_left hi'] at ha;rw [List.getElem?_append_left (by rw [<- h.len];exact hi')] at hv;exact (h.act i a v ha hv).keeps k hS hF
 ·rw [List.getElem?_append_right (by omega)] at ha;rw [List.getElem?_append_right (by rw [<- h.len];omega),<- h.len] at hv;exact h2 _ a v ha hv
structure JrO (A:AW) (j d:Nat) (limit:Int) (rl:List RV) (row:List Nat) (size:Nat) (sm:Bool) (vl vr:Value) (Fl Fr Fa:List Nat):Prop where
 Bk:Abs.Row1 A j [ptr d,.int .i64 limit,.string ⟨⟨[]⟩⟩,vl,vr,.int .i64 (size:Int),.bool sm,.bool false] 123
 l:BF 80 1 fR A vl rl Fl
 r:CW 3 0 fI A vr row Fr
 fl:∀ y∈Fl,j<y/\y∉Fr/\y∉Fa
 fr:∀ y∈Fr,j<y/\y∉Fa
 fa:∀ y∈Fa,j<y
theorem JrO.keeps {j:Nat} {limit:Int} {rl:List RV} {row:List Nat} {size:Nat} {sm:Bool} {vl:Value} {Fl Fr Fa':List Nat} (h:JrO A j d limit rl row size sm vl vr Fl Fr Fa) (k:Ah A A' S)
  (hS:∀ y∈S,y<j\/y∈Fa\/A.next<=y) (hF:∀ y∈Fa',y∈Fa\/A.next<=y):JrO A' j d limit rl row size sm vl vr Fl Fr Fa':=by
 have hjl:=h.Bk.lt;have h1:=BF.lt h.l;have h2:=h.r.lt;refine ⟨h.Bk.keeps k λhm=>?_,h.l.keeps k λy hy hm=>?_,h.r.keeps k λy hy hm=>?_,λy hy=>⟨(h.fl y hy).1,(h.fl y hy).2.1,λhm=>?_⟩,λy hy=>⟨(h.fr y hy).1,λhm=>?_⟩,λy hy=>?_⟩
 ·rcases hS _ hm with h0 | h0 | h0
  ·omega
  ·have:=h.fa _ h0;omega
  ·omega
 ·have a1:=h.fl y hy;have a2:=h1 y hy;rcases hS _ hm with h0 | h0 | h0
  ·omega
  ·exact a1.2.2 h0
  ·omega
 ·have a1:=h.fr y hy;have a2:=h2 y hy;rcases hS _ hm with h0 | h0 | h0
  ·omega
  ·exact a1.2 h0
  ·omega
 ·have a1:=h.fl y hy;have a2:=h1 y hy;rcases hF _ hm with h0 | h0
  ·exact a1.2.2 h0
  ·omega
 ·have a1:=h.fr y hy;have a2:=h2 y hy;rcases hF _ hm with h0 | h0
  ·exact a1.2 h0
  ·omega
 ·rcases hF _ hy with h0 | h0
  ·exact h.fa _ h0
  ·omega
def EK(names:List (List UInt8))(r:List SR):List Ac:=(if fresh∈names then [.rmF] else [])++(if r=[] then [.ap0,.syF,.rn1] else [])
def G0(r:List SR):List Ac:=match r.getLast? with | none=>[] | some x=>(if x.1.st=1 then [.ct x.1.n x.1.size] else [])++[.sy x.1.n]
def rowAt(r:List SR)(i:Nat):List Nat:=if r=[] then [1] else (r.take i).map (·.1.n)
def DY(r:List SR)(i:Nat):Nat:=match (r.take i).getLast? with | none=>(if r=[] then 13 else 0) | some x=>x.1.size
def Iz(r:List SR)(i:Nat):Bool:=match (r.take i).getLast? with | none=>decide (r=[]) | some x=>decide (0<x.2.length)
structure OX (s:DS) (k L:Nat) (X:List SR) (f:Nat):Prop where
 seg:Cs s.D (namesS s.D)=X.map BN
 row:Kl (X.map BN)=some ((X.drop f).map BN,f)
 le:f<=X.length
 few:X.length<=k
 recs:∀ x∈X,13*x.2.length<=L
def C0(L:Nat):Nat:=1000*(2*L+100)
def OI(A:AW)(d mp k L:Nat)(s:DS)(limit:Int):Nat->Nat->List Value->AW->Prop:=λg id vals A'=>
 (id=0/\∃ X f i t0 j va vall vr vl vw vs Fa Fl Fr Fall,vals=[ptr t0,vr,ptr j,va,vall,.int .i64 ((f:Nat):Int),.int .i64 ((i:Nat):Int)]/\OX s k L X f/\i<=f/\g=100000+(f-i)/\Rt A.next A' j t0 d X vr f/\A.next<=j/\
  RdE 3 fG A' vall ((X.take f).map (·.1)) Fall/\(∀ y∈Fall,y<j)/\GX A' j (Fl++(Fr++Fa)) t0 va (EK (namesS s.D) (X.drop f)++((X.take f).take i).map (λx=>Ac.rm x.1.n)) vs Fa/\
  JrO A' j d limit [] (rowAt (X.drop f) 0) (DY (X.drop f) 0) (Iz (X.drop f) 0) vl vw Fl Fr Fa/\Grow A A' (C0 L+3*i))\/
 (id=2/\∃ X f i t0 j va vr vl vw vs Fa Fl Fr,vals=[ptr t0,vr,ptr j,va,vr,.int .i64 ((X.length-f:Nat):Int),.int .i64 ((i:Nat):Int)]/\OX s k L X f/\i<=X.length-f/\g=50000+(X.length-f-i)/\Rt A.next A' j t0 d X vr f/\A.next<=j/\
  GX A' j (Fl++(Fr++Fa)) t0 va (EK (namesS s.D) (X.drop f)++((X.take f).map (λx=>Ac.rm x.1.n)++if i=X.length-f then G0 (X.drop f) else [])) vs Fa/\
  JrO A' j d limit (((X.drop f).take i).flatMap (·.2)) (rowAt (X.drop f) i) (DY (X.drop f) i) (Iz (X.drop f) i) vl vw Fl Fr Fa/\Grow A A' (C0 L+3000+10*i))\/
 (id=4/\∃ X f i t0 j va vl vw vs Fa Fl Fr acts s1,vals=[ptr j,va,.int .i64 ((acts.length:Nat):Int),.int .i64 ((i:Nat):Int)]/\OX s k L X f/\acts=EK (namesS s.D) (X.drop f)++((X.take f).map (λx=>Ac.rm x.1.n)++G0 (X.drop f))/\acts.length<=1010/\i<=acts.length/\g=acts.length-i/\
  Abs.Row1 A' t0 [ptr d] 23/\A.next<=t0/\A.next<=j/\GX A' j (Fl++(Fr++Fa)) t0 va acts vs Fa/\Dk A' d mp s1/\OkS (k+i) s1/\Cw s acts=Cw s1 (acts.drop i)/\
  JrO A' j d limit ((X.drop f).flatMap (·.2)) (rowAt (X.drop f) (X.length-f)) (DY (X.drop f) (X.length-f)) (Iz (X.drop f) (X.length-f)) vl vw Fl Fr Fa/\Ah A A' [d,mp]/\Aw A'/\A'.next<=A.next+C0 L+13000+2100*i)
section
variable {W0:World} {m0:Inj Tp}
theorem AeR {A:AW} {d mp k L:Nat} {s:DS} {limit:Int} {g:Nat} {vals:List Value} {A':AW} {dd:Nat->Value} {Q:Value->AW->Prop} (hk9:k<=1000) (hL:L<900000) (hA:A.next<500000000000)
  (h:OI A d mp k L s limit g 0 vals A') (hd':(L27 0).map dd=vals):gL W0 m0 (λid v A''=>∃ g2,g2<g/\OI A d mp k L s limit g2 id v A'') Q 27 183 T27 L27 dd 0 A':=by
 have hmax:Aj=1099511627776:=rfl;rcases h with ⟨_,X,f,i,t0,j,va,vall,vr,vl,vw,vs,Fa,Fl,Fr,Fall,rfl,hx,hi,rfl,hlow,hj,hall,hFall,hact,hjr,hgr⟩ | ⟨h,_⟩ | ⟨h,_⟩
 rotate_left
 ·cases h
 ·cases h
 have hC:C0 L=1000*(2*L+100):=rfl;have hnx:=hgr.next;have hle:=hgr.le;have hf1:=hx.le;have hf2:=hx.few;rw [Afk];simp only [L27,Mc,Mn,Li,and_true] at hd';obtain ⟨h2,h8,h11,h12,h77,h78,h79⟩:=hd';simp only [h2,h8,h11,h12,h77,h78,h79,Br,Ab,Az];have hjlt:=hjr.Bk.lt;refine ⟨λhlt=>?_,λhge=>?_⟩
 ·have hlt:i<f:=by omega
  obtain ⟨x,hxi⟩:∃ x,(X.take f)[i]? =some x:=⟨_,Ge (by rw [List.length_take];omega)⟩;have hx1:((X.take f).map (·.1))[i]? =some x.1:=by rw [List.getElem?_map,hxi];rfl
  obtain ⟨r,o,a1,a2,a3⟩:=hall.at etG hx1;rw [a1];simp only [Ab,a3];refine AH zG hgr.Ay (by omega) rfl λA3 m3=>?_;have n3:=m3.next;refine m3.Bk.store m3.Ay (by omega) (Qq _ _ _) rfl (by show 0+4<=4;omega) rfl λA4 r4 k4 n4 f4=>?_;have r4:Abs.Row1 A4 A'.next (fG x.1) 131:=r4;have k4:Ah A3 A4 [A'.next]:=k4;have g4:Grow A' A4 1:=(Grow.made m3 hgr.Ay).own k4 (by simp) (m:=0) (by omega) f4;refine Hp (VH A4 79 t0 A'.next) rfl f4 (by omega) λA5 m5=>?_;have n5:=m5.next;have g5:=g4.trans (Grow.made m5 f4);have hvl:=hact.own.lt;have hal:vs.length<1000000:=by
   rw [<- hact.len,Lq,List.length_map,List.length_take,List.length_take]
   have:(EK (namesS s.D) (X.drop f)).length<=4:=by unfold EK;split<;>split<;>simp
   omega
  refine CW.LM esF (p:=f2V 79 t0 A'.next) (hact.own.keeps g5.keeps (by simp)) m5.Bk m5.Ay (by omega) hal λv6 A6 F6 o6 k6 hF6 n6 f6=>?_;rw [Bm,wrap_i64 (by omega) (by omega)];simp only [Ab];have K6:Ah A' A6 Fa:=(g5.keeps.more (by simp)).trans k6 (λy hy=>.inl hy);have r6:Abs.Row1 A6 A'.next (fG x.1) 131:=(r4.keeps (m5.keeps f4) (by simp)).keeps k6 λhm=>by have:=hvl _ hm;omega
  have hFaj:∀ y∈Fa,y<A.next\/j<=y:=λy hy=>.inr (by have:=hjr.fa y hy;omega);refine Au.2 ⟨100000+(f-(i+1)),by omega,.inl ⟨rfl,X,f,i+1,t0,j,v6,vall,vr,vl,vw,vs++[f2V 79 t0 A'.next],F6,Fl,Fr,Fall,rfl,hx,by omega,rfl,hlow.keeps K6 hFaj,hj,hall.keeps K6 λy hy hm=>by have:=hFall y hy;have:=hjr.fa y hm;omega,hFall,?_,?_,?_⟩⟩
  ·have el:EK (namesS s.D) (X.drop f)++((X.take f).take (i+1)).map (λx=>Ac.rm x.1.n)=(EK (namesS s.D) (X.drop f)++((X.take f).take i).map (λx=>Ac.rm x.1.n))++[Ac.rm x.1.n]:=by rw [B9 hxi,List.map_append,Mw];rfl
   rw [el];refine hact.app K6 (λy hy=>.inr (.inl (by simp [hy]))) (Fb':=Fl++(Fr++F6)) (λy hy=>?_) (l2:=[Ac.rm x.1.n]) rfl (λm a v ha hv=>?_) o6
   ·rcases Mz.1 hy with h | h
    ·exact .inl (by simp [h])
    ·rcases Mz.1 h with h | h
     ·exact .inl (by simp [h])
     ·rcases hF6 y h with h | h
      ·exact .inl (by simp [h])
      ·exact .inr (by omega)
   ·cases m with
    |zero=>
     obtain rfl:Ac.rm x.1.n=a:=by simpa using ha
     obtain rfl:f2V 79 t0 A'.next=v:=by simpa using hv
     refine ⟨A'.next,x.1,rfl,r6,rfl,by omega,λhm=>?_⟩;have hll:=BF.lt hjr.l;have hrl:=hjr.r.lt;rcases Mz.1 hm with h | h
     ·have:=hll _ h;omega
     ·rcases Mz.1 h with h | h
      ·have:=hrl _ h;omega
      ·rcases hF6 _ h with h | h
       ·have:=hvl _ h;omega
       ·omega
    |succ m=>simp at ha
  ·exact hjr.keeps K6 (λy hy=>.inr (.inl hy)) λy hy=>(hF6 y hy).imp (λh=>h) λh=>by omega
  ·exact (hgr.trans g5).own k6 (λy hy=>by have:=hjr.fa y hy;omega) (m:=1) n6 f6 |>.more (by omega)
 ·have hi':i=f:=by omega
  subst hi';obtain ⟨F1,hr1,hr2⟩:=hlow.rr;have hl:=hr1.len etG (B:=A');rw [List.length_map,List.length_drop] at hl;rw [hl];simp only [Ab];rw [List.take_of_length_le (l:=X.take i) (by rw [List.length_take];omega)] at hact;refine Au.2 ⟨50000+(X.length-i-0),by omega,.inr (.inl ⟨rfl,X,i,0,t0,j,va,vr,vl,vw,vs,Fa,Fl,Fr,rfl,hx,by omega,rfl,hlow,hj,?_,hjr,hgr.more (by omega)⟩)⟩
  have:(if 0=X.length-i then G0 (X.drop i) else [])=[]:=by
   split
   ·have:X.drop i=[]:=List.drop_of_length_le (by omega)
    rw [this];rfl
   ·rfl
  rw [this,List.append_nil];exact hact
end
end
end Go.Proofs.YtnennggfoegcmaaGreatDoor
