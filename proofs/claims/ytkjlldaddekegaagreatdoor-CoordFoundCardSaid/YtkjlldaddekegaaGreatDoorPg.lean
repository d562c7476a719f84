/-
  This text prints what the functions reached ask of their memory, and shows what they answer. Conditions: none for the last theorem, those that each theorem states for the others.
-/
import Derived.Test.YtkjlldaddekegaaGreatDoorPf
set_option maxRecDepth 100000
set_option maxHeartbeats 1000000
namespace Go.Proofs.YtkjlldaddekegaaGreatDoor.Lt
open Go.Abs Go.Crc
section
variable {W0:World} {m0:Inj Tryz.prog}
theorem Kp{kd xa no:Nat}{x:Nm}{l:List Nm}(h:Lok kd xa no (zi x) (Ce x.g x.b) (ni l) l.length):l.length≤200∧(∀ p∈l,Ce p.g p.b=0):=by
 have:=Kk.1 h.2.2.2.2.2.2.2.2
 exact ⟨this.1,fun p hp=>Sw (this.2.1 p hp)⟩
theorem Adu {kd xa no:Nat} {x:Nm} {sv:Value} {l:List Nm} {F:List Nat} {A:AW} {K:Value→AW→Prop} (hkd:kd<256) (hxa:xa<256) (hn0:no<65536) (hxf:x.f<4294967296) (hlf:∀ p∈l,p.f<4294967296) (hf:AB A) (hg0:Glb A) (hA:A.next+30000<Ak) (hl:RdN A sv l F) (hlen1:l.length≤1)
  (hk:∀ A',Grow A A' 20000→K (.tuple ⟨[.string ⟨⟨GG kd xa no x l⟩⟩,.int .i64 (Kr kd xa no x l)]⟩) A'):Wc Tryz.prog Af W0 m0 76 [EB kd xa no x sv] A K:=by
 have hF:=hl.fam;have hAn:∀ {A':AW} {n:Nat},Grow A A' n→1<A'.next:=fun g=>Nat.lt_of_lt_of_le hg0.lt g.le;by_cases hlk:Lok kd xa no (zi x) (Ce x.g x.b) (ni l) l.length
 ·obtain ⟨h200,hall⟩:=Kp hlk;rw [DS hlk,Fj hlk] at hk;have hlb:∀ i,(DB (l.take i)).length≤26800:=fun i=>by
   have:=Fk (l:=l.take i) fun p hp=>hall p (List.mem_of_mem_take hp)
   have h2:(l.take i).length≤200:=by rw [List.length_take];omega
   omega
  have hend:∀ {A':AW} {v:Value} {b:List UInt8} {Fv:List Nat},Grow A A' 19000→Buf 5 A' v b Fv→b=CD kd xa no x l→b.length≤30000→
    Wc Tryz.prog Af W0 m0 146 [v] A' fun t43 At43=>Al (AK Tryz.prog At43 52 9 t43) fun t44 At44=>K (.tuple ⟨[t44,(.int .i64 0)]⟩) At44:=by
   intro A' v b Fv g hb he hbl;have hn:=g.next;refine Aav hb.rd (hg0.keeps g.keeps (by simp)) g.Ao (by omega) (by omega) fun A2 v2 F2 g2 b2 hF2=>?_;rw [b2.rd.str tb];refine AR.2 ?_;rw [he];exact hk A2 ((g.trans g2).more (by omega))
  let I:Nat→Nat→List Value→AW→Prop:=fun g' id vals A'=>id=1∧∃ (i:Nat) (v:Value) (Fv:List Nat),vals=[v,sv,.int .i64 (l.length:Int),.int .i64 (i:Int)]∧i≤l.length∧kd=21∧
   Buf 5 A' v (FP kd xa no++be l.length 2++DB (l.take i)) Fv∧RdN A' sv l F∧Grow A A' (10000+30*i)∧g'=l.length-i
  refine w76 _ _ (c76 (I:=I) ?_) ?_
  ·rintro g' id vals A' d ⟨rfl,i,v,Fv,rfl,hi,h21,hb,hl',hg,rfl⟩ hd;rw [Abi];simp only [L76,Mc,Mn,Li,and_true] at hd;obtain ⟨h4,h55,h56,h57⟩:=hd;have hnx:=hg.next;have hl1:(FP kd xa no++be l.length 2++DB (l.take i)).length≤26900:=by
    have:=hlb i
    rw [Lq,Lq,BY,BB];omega
   simp only [h4,h55,h56,h57,Bb,Ab,Ap];refine ⟨fun hlt=>?_,fun hge=>?_⟩
   ·have hlt:i<l.length:=by omega
    obtain ⟨p,hp⟩:∃ p,l[i]? =some p:=⟨l[i],Ge hlt⟩;have hpm:p∈l:=List.mem_of_getElem? hp;obtain ⟨r,oo,a1,a2⟩:=hl'.at hp;simp only [a1,Ec,a2,Ab];refine AX EG hg.Ao (by omega) rfl fun A2 m2=>?_;have n2:=m2.next;have g2:=Grow.made m2 hg.Ao;refine Ou (p:=p) m2.Bk rfl m2.Ao (by omega) fun A3 t3 k3 n3 f3=>?_;have g3:Grow A' A3 1:=(g2.own k3 (by simp) (m:=0) (by omega) f3);rw [Di t3];simp only [Ab];refine X8 (f:=p.f) (g:=p.g) (b:=p.b) f3 (by omega) (hlf p hpm) (hall p hpm) fun A4 v4 F4 g4 b4 hF4=>?_;have n4:=g4.next;have hb4:=(hb.keeps g3.keeps (by simp)).keeps g4.keeps (by simp);have hl4:=(hl'.keeps g3.keeps (by simp)).keeps g4.keeps (by simp);have hnb:=FC (hall p hpm);simp only [NH,NG,Ab];refine Yw hb4.rd b4.rd g4.Ao (by omega) (by unfold nb at hnb;omega) (by rw [Lq,Lq,BY];omega) fun A5 v5 F5 g5 b5 hF5=>?_;have n5:=g5.next;simp only [Bw,Ab];rw [wrap_i64 (by omega) (by omega)];refine AE.2 ⟨l.length-(i+1),by omega,rfl,i+1,v5,F5,rfl,by omega,h21,?_,hl4.keeps g5.keeps (by simp),(((hg.trans g3).trans g4).trans g5).more (by omega),rfl⟩;rw [MM hp,← Mw];exact b5
   ·have hi':i=l.length:=by omega
    rw [hi',List.take_length] at hb hl1;refine hend (hg.more (by omega)) hb ?_ (by omega);unfold CD JR Gn;rw [if_pos (.inr h21),if_pos h21,List.append_nil,Mw]
  ·rw [e76];refine AH (cs:=(Value.cells (EB kd xa no x sv)).toList) hf (by omega) (by simp [EB,Cl,Value.cells,Hi,D4,hl.one.1]) fun A1 m1=>?_;have n1:=m1.next;have r1:Go.Abs.AF A1 A.next (Cl kd xa no x sv) 38:=m1.Bk;have hl1:=hl.keeps (m1.keeps hf) (by simp);have g1:=Grow.made m1 hf;rw [Ea r1 hl.one.2];simp only [Ab];refine YF hkd m1.Ao (by omega) hl1 hlen1 fun A2 g2=>?_;rw [Fj hlk];have n2:=g2.next;have r2:=r1.keeps g2.keeps (by simp);have hl2:=hl1.keeps g2.keeps (by simp);have g02:=g1.trans g2;simp only [Bn,Ab,AU];refine ⟨fun h=>absurd rfl h,fun _=>?_⟩;simp only [Cw,EW,DV,IT,Ag r2.row,Cl,cellOf,Au,Av,hl.one.2,Cf,Ab,Nat.zero_add];refine S5 g2.Ao (by omega) fun A3 m3=>?_;have n3:=m3.next;have k3:=m3.keeps g2.Ao;have r3:=r2.keeps k3 (by simp);have hl3:=hl2.keeps k3 (by simp);have g03:=g02.trans (.made m3 g2.Ao);refine MU m3.row ?_;simp only [Cw,EW,Ft,DV,IT,JS,Ag r3.row,Cl,cellOf,Au,Av,hl.one.2,Cf,Ab,BD,QB,AR,Nat.zero_add];rw [wrap_u64 (by omega) (by omega)];refine UB (n:=no) (w:=2) m3.Ao (by omega) (Buf.nil 5 _).rd (by simp) (by simp) fun A4 v4 F4 g4 b4 hF4=>?_;rw [List.nil_append] at b4;have n4:=g4.next;have r4:=r3.keeps g4.keeps (by simp);have hl4:=hl3.keeps g4.keeps (by simp);have q4:=m3.Bk.keeps g4.keeps (by simp);have g04:=g03.trans g4;refine MU q4.row ?_;obtain ⟨sa,sn,sc,rfl,hsp⟩:=Wh b4;simp only [Cw,EW,Ft,DV,IT,JS,Ag r4.row,Cl,cellOf,Au,Av,hl.one.2,Cf,Ab,BD,Nat.zero_add];refine Og g4.Ao (by omega) fun A5 m5=>?_;have n5:=m5.next;have k5:=m5.keeps g4.Ao;have r5:=r4.keeps k5 (by simp);have hl5:=hl4.keeps k5 (by simp);have q5:=q4.keeps k5 (by simp);have b5:=b4.keeps k5 (by simp);have g05:=g04.trans (.made m5 g4.Ao);refine RQ (fun x h=>by cases h;rfl) hsp m5.row ?_;simp only [Cw,EW,Ft,DV,IT,JS,Ag r5.row,Cl,cellOf,Au,Av,hl.one.2,Cf,Ab,BD,QB,AR,Nat.zero_add];refine MU q5.row ?_;have q5':Go.Abs.AF A5 A2.next [.int .u8 ((UInt8.ofNat kd).toNat:Int),.int .u8 ((UInt8.ofNat xa).toNat:Int)] 5:=by rw [← S3 hkd,← S3 hxa];exact q5
   refine X9 m5.Bk (AbM q5').rd b5.rd m5.Ao (by omega) (by rw [BB];simp) (by simp) fun A6 v6 F6 g6 b6 hF6=>?_;have n6:=g6.next;have r6:=r5.keeps g6.keeps (by simp);have hl6:=hl5.keeps g6.keeps (by simp);have g06:=g05.trans g6;have b6:Buf 5 A6 v6 (FP kd xa no) F6:=b6;have ht:A6.cells? ⟨A.next,1,none⟩ 3=some [.int .u32 (x.f:Int),.string x.g,.string x.b]:=by rw [BH r6.row];rfl
   simp only [Cw,DV,Ag r6.row,Cl,cellOf,Au,Av,hl.one.2,Cf,Ab,Nat.zero_add];refine YH hkd fun k an hka=>?_;simp only [NH,NG,Er,DT,Ec,E8,ht,Ag r6.row,Cl,cellOf,Au,Av,hl.one.2,hl6.len,Cf,Bn,Ab,AU,Nat.zero_add];refine ⟨fun hk5=>?_,fun hk5=>Ai.2 ⟨fun han=>?_,fun han=>?_⟩⟩
   ·have hkk:kd≠5∧kd≠21:=by
     rcases hka with ⟨_,h1,h2⟩ | ⟨_,h1,h2,h3⟩ | ⟨_,h1,h2,h3⟩
     ·exact absurd hlk.1 h2
     ·omega
     ·omega
    have hx0:Ce x.g x.b=0:=hlk.2.2.1 hkk;have hnb:=FC hx0;refine X8 (f:=x.f) (g:=x.g) (b:=x.b) g6.Ao (by omega) hxf hx0 fun A7 v7 F7 g7 b7 hF7=>?_;have n7:=g7.next;simp only [NH,NG,Ab];refine Yw (b6.keeps g7.keeps (by simp)).rd b7.rd g7.Ao (by omega) (by rw [BY];unfold nb at hnb;omega) (by rw [BY];omega) fun A8 v8 F8 g8 b8 hF8=>?_;refine hend (((g06.trans g7).trans g8).more (by omega)) b8 ?_ ?_
    ·unfold CD JR Gn;rw [Ff (by omega),Ff (by omega),List.append_nil];rfl
    ·rw [Lq,BY];unfold nb at hnb;omega
   ·have h21:kd=21:=by
     rcases hka with ⟨h0,_⟩ | ⟨h0,_⟩ | ⟨_,h1,h2,h3⟩
     ·rw [h0] at han;cases han
     ·rw [h0] at han;cases han
     ·omega
    simp only [LL,AR];rw [wrap_u64 (by omega) (by omega)];refine UB (n:=l.length) (w:=2) g6.Ao (by omega) b6.rd (by rw [BY];omega) (by simp) fun A7 v7 F7 g7 b7 hF7=>?_;have n7:=g7.next;have r7:=r6.keeps g7.keeps (by simp);have hl7:=hl6.keeps g7.keeps (by simp);simp only [DT,E8,Ag r7.row,Cl,cellOf,Au,Av,hl.one.2,hl7.len,Cf,Ab,Nat.zero_add];refine AE.2 ⟨l.length,rfl,0,v7,F7,rfl,by omega,h21,?_,hl7,(g06.trans g7).more (by omega),rfl⟩;rw [List.take_zero];unfold DB
    simpa using b7
   ·have h5:kd=5:=by
     rcases hka with ⟨_,h1,h2⟩ | ⟨_,h1,h2,h3⟩ | ⟨h0,h1,h2,h3⟩
     ·exact absurd hlk.1 h2
     ·omega
     ·rw [h0] at han;cases han
    refine hend (g06.more (by omega)) b6 ?_ (by rw [BY];omega);unfold CD JR Gn;rw [if_pos (.inl h5),Ff (by omega),List.append_nil,List.append_nil]
 ·rw [SO hlk,Hn hlk] at hk;refine w76 _ _ (c76 (I:=fun _ _ _ _=>False) (by intro g id vals A' d h;exact h.elim)) ?_;rw [e76];refine AH (cs:=(Value.cells (EB kd xa no x sv)).toList) hf (by omega) (by simp [EB,Cl,Value.cells,Hi,D4,hl.one.1]) fun A1 m1=>?_;have n1:=m1.next;have r1:Go.Abs.AF A1 A.next (Cl kd xa no x sv) 38:=m1.Bk;have g1:=Grow.made m1 hf;rw [Ea r1 hl.one.2];simp only [Ab];refine YF hkd m1.Ao (by omega) (hl.keeps (m1.keeps hf) (by simp)) hlen1 fun A2 g2=>?_;rw [Hn hlk];simp only [Bn,Ab,AU];exact ⟨fun _=>hk A2 ((g1.trans g2).more (by omega)),fun h=>absurd h (by decide)⟩
end
theorem be2(n:Nat):be n 2=[UInt8.ofNat (n/256),UInt8.ofNat (n%256)]:=by
 have e:be n 2=[UInt8.ofNat (n/256^1),UInt8.ofNat (n/256^0)]:=rfl;rw [e];simp only [Nat.pow_one,Nat.pow_zero,Nat.div_one,Li,true_and,and_true];apply UInt8.toNat_inj.1;rw [UInt8.toNat_ofNat',UInt8.toNat_ofNat'];omega
theorem wrap_u16{n:Int}(h1:0≤n)(h2:n<65536):IntKind.u16.wrap n=n:=by
 simp [IntKind.wrap,IntKind.bits,IntKind.signed];omega
theorem Sz(n:Nat):((n:Int).tdiv 256)=((n/256:Nat):Int):=by
 rw [Int.tdiv_eq_ediv_of_nonneg (by omega)];omega
theorem Sy(n:Nat):((n:Int).tmod 256)=((n%256:Nat):Int):=by
 rw [Int.tmod_eq_emod_of_nonneg (by omega)];omega
theorem IG(n:Nat):IntKind.u8.wrap (n:Int)=((UInt8.ofNat n).toNat:Int):=by rw [wrap_u8,HV]
section
variable {W0:World} {m0:Inj Tryz.prog}
theorem wc9 {kd xa no:Nat} {x:Nm} {sv:Value} {l:List Nm} {F:List Nat} {A:AW} {K:Value→AW→Prop} (hkd:kd<256) (hxa:xa<256) (hn0:no<65536) (hxf:x.f<4294967296) (hlf:∀ p∈l,p.f<4294967296) (hf:AB A) (hA:A.next+30000<Ak) (hl:RdN A sv l F) (hlen1:l.length≤1)
  (hk:∀ A',Grow A A' 20000→K (.tuple ⟨[.string ⟨⟨GG kd xa no x l⟩⟩,.int .i64 (Kr kd xa no x l)]⟩) A'):Wc Tryz.prog Af W0 m0 9 [EB kd xa no x sv] A K:=by
 have hroom:room=68719476736:=rfl;have hF:=hl.fam;by_cases hlk:Lok kd xa no (zi x) (Ce x.g x.b) (ni l) l.length
 ·obtain ⟨h200,hall⟩:=Kp hlk;rw [DS hlk,Fj hlk] at hk;have hlb:∀ i,(DB (l.take i)).length≤26800:=fun i=>by
   have:=Fk (l:=l.take i) fun p hp=>hall p (List.mem_of_mem_take hp)
   have h2:(l.take i).length≤200:=by rw [List.length_take];omega
   omega
  have hend:∀ {A':AW} {v:Value} {b:List UInt8} {Fv:List Nat},Grow A A' 19000→Buf 5 A' v b Fv→b=CD kd xa no x l→b.length≤30000→
    Wc Tryz.prog Af W0 m0 30 [v] A' fun t43 At43=>Al (AK Tryz.prog At43 52 9 t43) fun t44 At44=>K (.tuple ⟨[t44,(.int .i64 0)]⟩) At44:=by
   intro A' v b Fv g hb he hbl;have hn:=g.next;refine AdF hb.rd g.Ao (by omega) (by omega) fun A2 v2 F2 g2 b2 hF2=>?_;rw [b2.rd.str tb];refine AR.2 ?_;rw [he];exact hk A2 ((g.trans g2).more (by omega))
  let I:Nat→Nat→List Value→AW→Prop:=fun g' id vals A'=>id=0∧∃ (i:Nat) (v:Value) (Fv:List Nat),vals=[.pointer (some ⟨A.next,0,none⟩),v,.int .i64 (i:Int)]∧i≤l.length∧kd=21∧
   Buf 5 A' v (FP kd xa no++be l.length 2++DB (l.take i)) Fv∧(∀ y∈Fv,A.next<y)∧Go.Abs.AF A' A.next (Cl kd xa no x sv) 38∧RdN A' sv l F∧Grow A A' (10000+40*i)∧g'=l.length-i
  refine w9 _ _ (c9 (I:=I) ?_) ?_
  ·rintro g' id vals A' d ⟨rfl,i,v,Fv,rfl,hi,h21,hb,hFv,hr,hl',hg,rfl⟩ hd;rw [AeD];simp only [L9,Mc,Mn,Li,and_true] at hd;obtain ⟨h1,h4,h7⟩:=hd;have hnx:=hg.next;have hl1:(FP kd xa no++be l.length 2++DB (l.take i)).length≤26900:=by
    have:=hlb i
    rw [Lq,Lq,BY,BB];omega
   simp only [h1,h4,h7,DT,E8,Ag hr.row,Cl,cellOf,Au,Av,hl'.one.2,Cf,hl'.len,Bb,Ab,Ap,Nat.zero_add];refine ⟨fun hlt=>?_,fun hge=>?_⟩
   ·have hlt:i<l.length:=by omega
    obtain ⟨p,hp⟩:∃ p,l[i]? =some p:=⟨l[i],Ge hlt⟩;have hpm:p∈l:=List.mem_of_getElem? hp;obtain ⟨r,oo,a1,a2⟩:=hl'.at hp;simp only [a1,Ec,a2,Ab];refine Aac (f:=p.f) (g:=p.g) (b:=p.b) hg.Ao (by omega) (hlf p hpm) (hall p hpm) fun A4 v4 F4 g4 b4 hF4=>?_;have n4:=g4.next;have le4':=g4.le;have hb4:=hb.keeps g4.keeps (by simp);have hl4:=hl'.keeps g4.keeps (by simp);have r4:=hr.keeps g4.keeps (by simp);have hnb:=FC (hall p hpm);simp only [NH,NG,Ab];refine Cz tb hb4 (CU tb b4.rd) g4.Ao (by omega) (by unfold nb at hnb;omega) fun v5 A5 F5 b5 k5 hF5 n5 f5=>?_;have hle:=hg.le;simp only [Bw,Ab];rw [wrap_i64 (by omega) (by omega)];refine AE.2 ⟨l.length-(i+1),by omega,rfl,i+1,v5,F5,rfl,by omega,h21,?_,fun y hy=>?_,r4.keeps k5 (fun hm=>by have:=hFv _ hm;omega),hl4.keeps k5 (fun y hy hm=>by have:=hF y hy;have:=hFv y hm;omega),((hg.trans g4).own k5 (fun y hy=>by have:=hFv y hy;omega) (m:=1) (by omega) f5).more (by omega),rfl⟩
    ·rw [MM hp,← Mw];exact b5
    ·have hlr:=hr.lt;rcases hF5 y hy with h | h
     ·exact hFv y h
     ·omega
   ·have hi':i=l.length:=by omega
    rw [hi',List.take_length] at hb hl1;refine hend (hg.more (by omega)) hb ?_ (by omega);unfold CD JR Gn;rw [if_pos (.inr h21),if_pos h21,List.append_nil,Mw]
  ·rw [e9];unfold SG SI;refine AH (cs:=(Value.cells (EB kd xa no x sv)).toList) hf (by omega) (by simp [EB,Cl,Value.cells,Hi,D4,hl.one.1]) fun A1 m1=>?_;have n1:=m1.next;have r1:Go.Abs.AF A1 A.next (Cl kd xa no x sv) 38:=m1.Bk;have hl1:=hl.keeps (m1.keeps hf) (by simp);have g1:=Grow.made m1 hf;rw [Ea r1 hl.one.2];simp only [Ab];refine Aad m1.Ao (by omega) hl1 hlen1 fun A2 g2=>?_;rw [Fj hlk];have n2:=g2.next;have le2:=g2.le;have r2:=r1.keeps g2.keeps (by simp);have hl2:=hl1.keeps g2.keeps (by simp);have g02:=g1.trans g2;simp only [Bn,Ab,AU];refine ⟨fun h=>absurd rfl h,fun _=>?_⟩;simp only [Cw,EW,Ft,DV,IT,JS,Ag r2.row,Cl,cellOf,Au,Av,hl.one.2,Cf,LQ (show (256:Int)≠0 by decide),II (show (256:Int)≠0 by decide),Xv,AR,Ab,Nat.zero_add];rw [Sz,Sy,wrap_u16 (by omega) (by omega),IG,IG];refine S4 g2.Ao (by omega) fun A3 m3=>?_;have n3:=m3.next;have k3:=m3.keeps g2.Ao;have r3:=r2.keeps k3 (by simp);have hl3:=hl2.keeps k3 (by simp);have g03:=g02.trans (.made m3 g2.Ao);have hhead:[Value.int .u8 (kd:Int),.int .u8 (xa:Int),.int .u8 ((UInt8.ofNat (no/256)).toNat:Int),.int .u8 ((UInt8.ofNat (no%256)).toNat:Int)]=Az (FP kd xa no):=by
    rw [S3 hkd,S3 hxa];unfold FP;rw [be2];rfl
   have b3:Buf 5 A3 (.slice (some ⟨A2.next,0,none⟩) 4 4) (FP kd xa no) [A2.next]:=by
    have:=m3.Bk
    rw [hhead] at this;exact ZL this (by rw [BY];omega)
   have ht:A3.cells? ⟨A.next,1,none⟩ 3=some [.int .u32 (x.f:Int),.string x.g,.string x.b]:=by rw [BH r3.row];rfl
   simp only [Cw,Er,DT,DV,Ec,E8,ht,Ag r3.row,Cl,cellOf,Au,Av,hl.one.2,hl3.len,Cf,Bn,Bh,Ab,AU,Ay,Nat.zero_add];refine ⟨fun h5=>⟨fun h21=>?_,fun h21=>⟨fun _=>?_,fun h=>absurd h21 h⟩⟩,fun h5=>⟨fun h21=>absurd h21 (by omega),fun _=>?_⟩⟩
   ·have hkk:kd≠5∧kd≠21:=⟨by omega,by omega⟩;have hx0:Ce x.g x.b=0:=hlk.2.2.1 hkk;have hnb:=FC hx0;refine Aac (f:=x.f) (g:=x.g) (b:=x.b) m3.Ao (by omega) hxf hx0 fun A4 v4 F4 g4 b4 hF4=>?_;have n4:=g4.next;have le4':=g4.le;have r4:=r3.keeps g4.keeps (by simp);have hl4:=hl3.keeps g4.keeps (by simp);simp only [NH,NG,Ab];refine Cz tb (b3.keeps g4.keeps (by simp)) (CU tb b4.rd) g4.Ao (by omega) (by rw [BY];unfold nb at hnb;omega) fun v5 A5 F5 b5 k5 hF5 n5 f5=>?_;have r5:=r4.keeps k5 (by simp;omega);simp only [Cw,DV,Ag r5.row,Cl,cellOf,Au,Av,hl.one.2,Cf,Bh,Ab,Ay,Nat.zero_add];refine ⟨fun h=>absurd h h21,fun _=>?_⟩;refine hend (((g03.trans g4).own k5 (by simp;omega) (m:=1) (by omega) f5).more (by omega)) b5 ?_ ?_
    ·unfold CD JR Gn;rw [Ff (by omega),Ff (by omega),List.append_nil];rfl
    ·rw [Lq,BY];unfold nb at hnb;omega
   ·have h21':kd=21:=by omega
    simp only [LQ (show (256:Int)≠0 by decide),II (show (256:Int)≠0 by decide),R8,DT,E8,Ag r3.row,Cl,cellOf,Au,Av,hl.one.2,hl3.len,Cf,AR,Ab,Nat.zero_add];rw [Sz,Sy,wrap_i64 (by omega) (by omega),IG,IG];refine S5 m3.Ao (by omega) fun A4 m4=>?_;have n4:=m4.next;have k4:=m4.keeps m3.Ao;have r4:=r3.keeps k4 (by simp);have hl4:=hl3.keeps k4 (by simp);have g04:=g03.trans (.made m4 m3.Ao);refine Cz tb (b3.keeps k4 (by simp)) (CU tb (AbM m4.Bk).rd) m4.Ao (by omega) (by rw [BY];simp only [Lc,Ln];omega) fun v5 A5 F5 b5 k5 hF5 n5 f5=>?_;have r5:=r4.keeps k5 (by simp;omega);have hl5:=hl4.keeps k5 (fun y hy hm=>by have:=hF y hy;simp at hm;omega);refine AE.2 ⟨l.length,rfl,0,v5,F5,rfl,by omega,h21',?_,fun y hy=>?_,r5,hl5,(g04.own k5 (by simp;omega) (m:=1) (by omega) f5).more (by omega),rfl⟩
    ·rw [List.take_zero];unfold DB;rw [be2]
     simpa using b5
    ·rcases hF5 y hy with h | h
     ·simp at h;omega
     ·omega
   ·refine hend (g03.more (by omega)) b3 ?_ (by rw [BY];omega);unfold CD JR Gn;rw [if_pos (.inl (by omega)),Ff (by omega),List.append_nil,List.append_nil]
 ·rw [SO hlk,Hn hlk] at hk;refine w9 _ _ (c9 (I:=fun _ _ _ _=>False) (by intro g id vals A' d h;exact h.elim)) ?_;rw [e9];unfold SG SI;refine AH (cs:=(Value.cells (EB kd xa no x sv)).toList) hf (by omega) (by simp [EB,Cl,Value.cells,Hi,D4,hl.one.1]) fun A1 m1=>?_;have n1:=m1.next;have r1:Go.Abs.AF A1 A.next (Cl kd xa no x sv) 38:=m1.Bk;have g1:=Grow.made m1 hf;rw [Ea r1 hl.one.2];simp only [Ab];refine Aad m1.Ao (by omega) (hl.keeps (m1.keeps hf) (by simp)) hlen1 fun A2 g2=>?_;rw [Hn hlk];simp only [Bn,Ab,AU];exact ⟨fun _=>hk A2 ((g1.trans g2).more (by omega)),fun h=>absurd h (by decide)⟩
end
end Go.Proofs.YtkjlldaddekegaaGreatDoor.Lt
namespace Go.Proofs.YtkjlldaddekegaaGreatDoor.Lt
open Go.Abs
variable {A:AW} {r v:Nat} {l:List UInt8} {bad:Bool} {F:List Nat} {bs:Value} {K:Value→AW→Prop}
theorem Ym(a:Addr)(xo yo:Operand):Ah Tryz.prog .eql 194 xo yo (.pointer (some a)) (.pointer none)=some (.bool false):=by kernel_rfl
theorem AaT(a:Addr)(xo yo:Operand):Ah Tryz.prog .neq 194 xo yo (.pointer (some a)) (.pointer none)=some (.bool true):=by kernel_rfl
theorem Yl(a:Addr)(xo yo:Operand):Ah Tryz.prog .eql 252 xo yo (.pointer (some a)) (.pointer none)=some (.bool false):=by kernel_rfl
theorem AaS(a:Addr)(xo yo:Operand):Ah Tryz.prog .neq 252 xo yo (.pointer (some a)) (.pointer none)=some (.bool true):=by kernel_rfl
theorem Bf(a:Addr):BQ (.pointer (some a))=some (.pointer (some a)):=rfl
theorem AbX(o:Option Addr)(n c:Nat):Aw Tryz.prog 254 [(0,.slice o n c),(1,.bool true)]=some (.agg ⟨[.slice o n c,.bool true,.bool false]⟩):=by kernel_rfl
theorem AbW(o:Option Addr):Aw Tryz.prog 256 [(0,.pointer o)]=some (.agg ⟨[.pointer o]⟩):=by kernel_rfl
theorem AbY(f:Int):Aw Tryz.prog 24 [(0,.int .u32 f)]=some (.agg ⟨[.int .u32 f,.string .empty,.string .empty]⟩):=by kernel_rfl
theorem Ta{n:Int}(h1:0≤n)(h2:n<4294967296):IntKind.u32.wrap n=n:=by
 simp [IntKind.wrap,IntKind.bits,IntKind.signed];omega
structure OR (A:AW) (r v:Nat) (l:List UInt8) (bad:Bool) (F:List Nat):Prop where
 rr:Go.Abs.AF A r [.pointer (some ⟨v,0,none⟩)] 256
 ex:∃ bs,Go.Abs.AF A v [bs,.bool true,.bool bad] 254∧RdS 5 A bs l F
 hb:bad=true→l=[]
 ne:r≠v
 hv:v∉F
theorem OR.keeps{A':AW}{S:List Nat}(h:OR A r v l bad F)(k:AA A A' S)(hr:r∉S)(hv:v∉S)(hd:∀ x∈F,x∉S):OR A' r v l bad F:=by
 obtain ⟨bs,h1,h2⟩:=h.ex;exact ⟨h.rr.keeps k hr,⟨bs,h1.keeps k hv,h2.keeps k hd⟩,h.hb,h.ne,h.hv⟩
section
variable {W0:World} {m0:Inj Tryz.prog}
theorem Aaq(h:Go.Abs.AF A v [bs,.bool true,.bool bad] 254)(hbs:isTuple bs=false)(hk:K (.bool bad) A):Wc Tryz.prog Af W0 m0 204 [.pointer (some ⟨v,0,none⟩)] A K:=by
 refine AdY _ _ Bu ?_;rw [AeY];simp only [Yl,Bf,VQ,Qp,OT,Ag h.row,cellOf,hbs,Bm,Cf,Ab,BC,Nat.zero_add];refine Ai.2 ⟨fun h=>by simp at h,fun _=>Ai.2 ⟨fun h=>?_,fun h=>?_⟩⟩
 ·subst h;exact hk
 ·subst h;exact hk
theorem UD(h:OR A r v l bad F)(hk:K (.bool bad) A):Wc Tryz.prog Af W0 m0 129 [.pointer (some ⟨r,0,none⟩)] A K:=by
 obtain ⟨bs,h1,h2⟩:=h.ex;refine Aeh _ _ Bu ?_;rw [Afh];simp only [Ym,Bf,Ia,MK,Ag h.rr.row,cellOf,BG,Cf,Ab];refine Ai.2 ⟨fun h=>by simp at h,fun _=>?_⟩;exact Aaq h1 h2.rd.one.2 hk
theorem Aao{b1 b2:Value}(h:Go.Abs.AF A v [bs,b1,b2] 254)(hbs:RdS 5 A bs l F)(hk:K (.int .i64 (l.length:Int)) A):Wc Tryz.prog Af W0 m0 209 [.pointer (some ⟨v,0,none⟩)] A K:=by
 refine AdU _ _ Bu ?_;rw [AeU];simp only [Yl,Bf,JX,KY,Ag h.row,cellOf,hbs.rd.one.2,Cf,hbs.rd.len tb,Ab];exact Ai.2 ⟨fun h=>by simp at h,fun _=>hk⟩
theorem Uy(h:OR A r v l bad F)(hk:K (.int .i64 (l.length:Int)) A):Wc Tryz.prog Af W0 m0 143 [.pointer (some ⟨r,0,none⟩)] A K:=by
 obtain ⟨bs,h1,h2⟩:=h.ex;refine Aeb _ _ Bu ?_;rw [Afb];simp only [Ym,Bf,Ia,MK,Ag h.rr.row,cellOf,BG,Cf,Ab];refine Ai.2 ⟨fun h=>by simp at h,fun _=>?_⟩;exact Aao h1 h2 hk
theorem XY(h:OR A r v l bad F)(hf:AB A)(hA:A.next<Ak)(hk:∀ A',OR A' r v [] true []→AA A A' [v]→A'.next=A.next→AB A'→K (.tuple ⟨[]⟩) A'):Wc Tryz.prog Af W0 m0 201 [.pointer (some ⟨r,0,none⟩)] A K:=by
 obtain ⟨bs,h1,h2⟩:=h.ex;refine Ad0 _ _ Bu ?_;rw [Ae0];simp only [AaT,AaS,Bf,Ia,JX,Qp,MK,Ag h.rr.row,cellOf,BG,Cf,Ab,Nat.zero_add];refine Ai.2 ⟨fun _=>Ai.2 ⟨fun _=>?_,fun h=>by simp at h⟩,fun h=>by simp at h⟩;refine h1.store hf (by omega) (PF _ _ _) rfl (by simp) rfl fun A2 r2 k2 n2 f2=>?_;have r2:Go.Abs.AF A2 v [.slice none 0 0,.bool true,.bool bad] 254:=r2;refine r2.store f2 (by omega) (Y3 _ _ _) rfl (by simp) rfl fun A3 r3 k3 n3 f3=>?_;have r3:Go.Abs.AF A3 v [.slice none 0 0,.bool true,.bool true] 254:=r3;have hrv:r∉[v]:=by simpa using h.ne
 exact hk A3 ⟨(h.rr.keeps k2 hrv).keeps k3 hrv,⟨_,r3,.nil _ _⟩,fun _=>rfl,h.ne,by simp⟩ (k2.trans k3 (fun x hx=>.inl hx)) (by omega) f3
end
variable {A:AW} {K:Value→AW→Prop} {b a:Int} {t:TypeId} {xo yo:Operand} {F:List Nat} {r v:Nat}
theorem AaW(xo yo:Operand):Ah Tryz.prog .eql 52 xo yo (.slice none 0 0) (.slice none 0 0)=some (.bool true):=by kernel_rfl
theorem AaV(a:Addr)(n c:Nat)(xo yo:Operand):Ah Tryz.prog .eql 52 xo yo (.slice (some a) n c) (.slice none 0 0)=some (.bool false):=by kernel_rfl
theorem ZQ(A:AW):Aq Tryz.prog A 52 0 []=(match A.newRow [] 5 with | some (a,w')=>.ok (.slice (some a) 0 0) w' | none=>.fail "buildSlice new"):=by kernel_rfl
theorem Xz(hf:AB A)(h:A.next<Ak)(hk:∀ A',Made A A' [] 5→K (.slice (some ⟨A.next,0,none⟩) 0 0) A'):Al (Aq Tryz.prog A 52 0 []) K:=by
 rw [ZQ];unfold AW.newRow AW.new;simp only [show (([]:List Value).all AP)=true from rfl,Ct,Ax.2 h];exact AR.2 (hk (A.push (.row [] 5 A.next 0 false)) ⟨AW.Cv _ h,rfl,by rw [AW.Cg _ h,if_pos rfl],hf.alone (Nl _),hf.push _ h⟩)
theorem ZN{b:Nat}(h:Go.Abs.AF A b [] 5):Buf 5 A (.slice (some ⟨b,0,none⟩) 0 0) [] [b]:=.inr (.inr ⟨b,0,[],rfl,by decide,by simpa [Az] using h,rfl,rfl,rfl⟩)
theorem Pa{P:Program}{k k2:IntKind}(hb:¬ b<0):Ah P .shl t xo yo (.int k a) (.int k2 b)=some (.int k (k.wrap (a*2^(min b.toNat k.bits)))):=by simp [Ah,binOp,Op.shift,hb,quiet,Cx,AG,pure]
theorem Sf{P:Program}{k:IntKind}:Ah P .or t xo yo (.int k a) (.int k b)=some (.int k (k.wrap ((BitVec.ofInt k.bits a ||| BitVec.ofInt k.bits b).toNat:Int))):=by simp [Ah,binOp,Op.intBits,quiet,Cx,AG,pure]
theorem Y7{a c:Nat}(hc:c<256)(h:a*256+c<18446744073709551616):IntKind.u64.wrap ((BitVec.ofInt (IntKind.bits .u64) ((a*256:Nat):Int) ||| BitVec.ofInt (IntKind.bits .u64) (c:Int)).toNat:Int)=((a*256+c:Nat):Int):=by
 have e:(BitVec.ofInt 64 ((a*256:Nat):Int) ||| BitVec.ofInt 64 (c:Int)).toNat=a*256+c:=by
  have h1:(a*256)%2^64=a*256:=Nat.mod_eq_of_lt (Nat.lt_of_le_of_lt (Nat.le_add_right _ c) h);have h2:c%2^64=c:=Nat.mod_eq_of_lt (Nat.lt_trans hc (by decide));rw [BitVec.toNat_or,BitVec.ofInt_natCast,BitVec.ofInt_natCast,BitVec.toNat_ofNat,BitVec.toNat_ofNat,h1,h2]
  have:=Nat.shiftLeft_add_eq_or_of_lt (i:=8) (show c<2^8 by omega) a
  rw [Nat.shiftLeft_eq] at this;exact this.symm
 show IntKind.u64.wrap ((BitVec.ofInt 64 ((a*256:Nat):Int) ||| BitVec.ofInt 64 (c:Int)).toNat:Int)=_;rw [e,wrap_u64 (by omega) (by omega)]
abbrev St:=List UInt8 × Bool
def tk(n:Nat)(s:St):List UInt8 × St:=if s.2=true∨s.1.length<n then ([],([],true)) else (s.1.take n,(s.1.drop n,false))
def EF(l:List UInt8):Nat:=l.foldl (fun a c=>a*256+c.toNat) 0
theorem Jl(l:List UInt8)(c:UInt8):EF (l++[c])=EF l*256+c.toNat:=by simp [EF]
theorem J4:∀ (l:List UInt8),EF l<256^l.length:=by
 intro l
 induction h:l.length generalizing l with
 |zero=>have:=List.eq_nil_of_length_eq_zero h;subst this;decide
 |succ n ih=>
  have hne:l≠[]:=by intro h0;subst h0;simp at h
  obtain ⟨q,c,rfl⟩:∃ q c,l=q++[c]:=⟨l.dropLast,l.getLast hne,(List.dropLast_concat_getLast hne).symm⟩
  have:=ih q (by simpa using h)
  have hc:c.toNat<256:=c.toNat_lt;rw [Jl,Nat.pow_succ];omega
def nm(w:Nat)(s:St):Nat × St:=(EF (tk w s).1,(tk w s).2)
def tx1(s:St):List UInt8 × St:=if (nm 1 s).2.2=true∨(nm 1 s).2.1.length<(nm 1 s).1 then ([],([],true)) else ((nm 1 s).2.1.take (nm 1 s).1,((nm 1 s).2.1.drop (nm 1 s).1,false))
theorem Q4(n:Nat)(s:St):(tk n s).1.length≤n:=by
 unfold tk;split
 ·exact Nat.zero_le _
 ·rw [List.length_take];omega
section
variable {W0:World} {m0:Inj Tryz.prog}
theorem XZ {x:Value} {l:List UInt8} (h:RdS 5 A x l F) (hf:AB A) (hA:A.next+2<Ak) (hl:l.length<1000000)
  (hk:∀ A' v F',Grow A A' 2→RdS 5 A' v l F'→(∀ y∈F',A.next≤y)→K v A'):Wc Tryz.prog Af W0 m0 199 [x] A K:=by
 have hroom:room=68719476736:=rfl;refine Ad2 _ _ Bu ?_;rw [Ae2];obtain ⟨o,c,rfl⟩:=h.rd.slice;have hlt:=h.rd.lt;cases o with
 |none=>
  obtain ⟨hn,rfl⟩:l=[]∧c=0:=by
   rcases h with ⟨h1,_,o',c',h2,_,h3⟩ | ⟨r,o,c,C,cs,f,b,ro,rest,h1,_⟩
   ·simp only [Value.slice.injEq] at h2;exact ⟨h1,by rw [h2.2.2];exact h3 h2.1.symm⟩
   ·simp at h1
  subst hn;rw [Ln];simp only [AaW,Ab];exact Ai.2 ⟨fun _=>hk A _ [] ((Grow.refl hf).more (by omega)) (.nil _ _) (by simp),fun h=>by simp at h⟩
 |some a=>
  simp only [AaV,Ab];refine Ai.2 ⟨fun h=>by simp at h,fun _=>?_⟩;refine Xz hf (by omega) fun A1 m1=>?_;have n1:=m1.next;refine Cz tb (ZN m1.Bk) (CU tb (h.rd.keeps (m1.keeps hf) (by simp))) m1.Ao (by omega) (by simp;omega) fun v2 A2 F2 b2 k2 hF2 n2 f2=>?_;rw [List.nil_append] at b2;refine hk A2 v2 F2 ((Grow.made m1 hf).own k2 (by simp) (m:=1) (by omega) f2) b2.rdS fun y hy=>?_;rcases hF2 y hy with h | h
  ·simp at h;omega
  ·omega
theorem XX {s:St} {n:Nat} (h:OR A r v s.1 s.2 F) (hf:AB A) (hA:A.next+4<Ak) (hl:s.1.length<1000000) (hn:n<1000000)
  (hk:∀ A' x F' Fo,OR A' r v (tk n s).2.1 (tk n s).2.2 F'→RdS 5 A' x (tk n s).1 Fo→AA A A' [v]→A'.next≤A.next+2→AB A'→(∀ y∈F',y∈F)→(∀ y∈Fo,A.next≤y)→K x A'):Wc Tryz.prog Af W0 m0 202 [.pointer (some ⟨r,0,none⟩),.int .i64 (n:Int)] A K:=by
 obtain ⟨l,bad⟩:=s;have h:OR A r v l bad F:=h;refine AdZ _ _ _ Bu ?_;rw [AeZ];have spoil:(bad=true∨l.length<n)→Wc Tryz.prog Af W0 m0 201 [.pointer (some ⟨r,0,none⟩)] A fun _ A'=>K (.slice none 0 0) A':=fun hb=>by
  refine XY h hf (by omega) fun A' o' k' n' f'=>?_;have e:tk n (l,bad)=([],([],true)):=by unfold tk;rw [if_pos hb]
  rw [e] at hk;exact hk A' (.slice none 0 0) [] [] o' (.nil _ _) k' (by omega) f' (by simp) (by simp)
 refine UD h ?_;refine Ai.2 ⟨fun hb=>spoil (.inl hb),fun hb=>?_⟩;simp only [Bb,Ab,Ap];refine ⟨fun h=>by omega,fun _=>?_⟩;refine Uy h ?_;simp only [Cy,Ab,Ap];refine ⟨fun h=>spoil (.inr (by omega)),fun hle=>?_⟩;have hle:n≤l.length:=by omega
 obtain ⟨bs,h1,h2⟩:=h.ex;obtain ⟨x1,hx1,s1⟩:=h2.to tb hle;have e:tk n (l,bad)=(l.take n,(l.drop n,false)):=by unfold tk;rw [Ff (by simp [hb];omega)]
 rw [e] at hk;simp only [Bf,Ia,JX,MK,KY,Ag h.rr.row,Ag h1.row,cellOf,BG,h2.rd.one.2,Cf,hx1,Ab];refine XZ s1 hf (by omega) (by rw [List.length_take];omega) fun A2 x2 F2 g2 s2 hF2=>?_;have n2:=g2.next;have r2:=h.rr.keeps g2.keeps (by simp);have q2:=h1.keeps g2.keeps (by simp);have t2:=h2.keeps g2.keeps (by simp);obtain ⟨x3,hx3,s3⟩:=t2.from tb hle
 simp only [Bf,Ia,JX,MK,KY,Ag r2.row,Ag q2.row,cellOf,BG,h2.rd.one.2,Cf,hx3,Ab];have one3:=s3.rd.one;obtain ⟨o3,c3,hx⟩:=s3.rd.slice;refine q2.store g2.Ao (by omega) (PF _ _ _) (by rw [hx];rfl) (by simp) (by rw [hx];rfl) fun A3 r3 k3 n3 f3=>?_;have r3:Go.Abs.AF A3 v [x3,.bool true,.bool bad] 254:=by rw [hx] at r3 ⊢;exact r3
 rw [hb] at r3;have hrv:r∉[v]:=by simpa using h.ne
 have hvF:=h.hv;refine hk A3 x2 F F2 ⟨r2.keeps k3 hrv,⟨x3,r3,s3.keeps k3 fun y hy=>by simp;intro h0;subst h0;exact hvF hy⟩,by simp,h.ne,h.hv⟩ (s2.keeps k3 fun y hy=>by have:=hF2 y hy;have:=h1.lt;simp;omega) ?_ (by omega) f3 (fun y hy=>hy) hF2;exact g2.keeps.more (by simp) |>.trans k3 (fun y hy=>.inl hy)
theorem Yc {s:St} {w:Nat} (h:OR A r v s.1 s.2 F) (hf:AB A) (hA:A.next+4<Ak) (hl:s.1.length<1000000) (hw:w=1∨w=2∨w=4∨w=8)
  (hk:∀ A' F',OR A' r v (nm w s).2.1 (nm w s).2.2 F'→AA A A' [v]→A'.next≤A.next+2→AB A'→(∀ y∈F',y∈F)→K (.int .u64 ((nm w s).1:Int)) A'):Wc Tryz.prog Af W0 m0 126 [.pointer (some ⟨r,0,none⟩),.int .i64 (w:Int)] A K:=by
 have hwl:w≤8:=by omega
 have hlen:=Q4 w s;let I:Nat→Nat→List Value→AW→Prop:=fun g' id vals A'=>id=0∧∃ (i:Nat) (x:Value) (F' Fo:List Nat),vals=[.int .u64 (EF ((tk w s).1.take i):Nat),x,.int .i64 ((tk w s).1.length:Int),.int .i64 (i:Int)]∧i≤(tk w s).1.length∧
  RdS 5 A' x (tk w s).1 Fo∧OR A' r v (tk w s).2.1 (tk w s).2.2 F'∧AA A A' [v]∧A'.next≤A.next+2∧AB A'∧(∀ y∈F',y∈F)∧g'=(tk w s).1.length-i
 refine Aei _ _ _ (Afp (I:=I) ?_) ?_
 ·rintro g' id vals A' d ⟨rfl,i,x,F',Fo,rfl,hi,hx,ho,k,n,f,hF,rfl⟩ hd;rw [Zu];simp only [Ww,Mc,Mn,Li,and_true] at hd;obtain ⟨h5,h15,h16,h17⟩:=hd;simp only [h5,h15,h16,h17,Bb,Ab,Ap];refine ⟨fun hlt=>?_,fun hge=>?_⟩
  ·have hlt:i<(tk w s).1.length:=by omega
   obtain ⟨c,hc⟩:∃ c,(tk w s).1[i]? =some c:=⟨_,Ge hlt⟩;obtain ⟨a,a1,a2⟩:=hx.rd.at tb hc;have hcl:c.toNat<256:=c.toNat_lt;have hb:=J4 ((tk w s).1.take i);have hb1:=J4 ((tk w s).1.take (i+1));have e1:(tk w s).1.take (i+1)=(tk w s).1.take i++[c]:=by rw [List.take_add_one,hc];rfl
   rw [e1,Jl] at hb1;have hp:(256:Nat)^((tk w s).1.take i++[c]).length≤256^8:=Nat.pow_le_pow_right (by decide) (by rw [← e1,List.length_take];omega);have hp8:(256:Nat)^8=18446744073709551616:=by decide
   simp only [a1,a2,Ab,Xt,AR,Bw];rw [Pa (by decide)];have e76:(EF ((tk w s).1.take i):Int)*2^(min (8:Int).toNat (IntKind.bits .u64))=((EF ((tk w s).1.take i)*256:Nat):Int):=by
    show (EF ((tk w s).1.take i):Int)*2^8=_;rw [Int.natCast_mul];rfl
   rw [e76,wrap_u64 (by omega) (by omega),wrap_u64 (by omega) (by omega),wrap_i64 (by omega) (by omega)];simp only [Ab];rw [Sf,Y7 hcl (by omega)];simp only [Ab];refine AE.2 ⟨(tk w s).1.length-(i+1),by omega,rfl,i+1,x,F',Fo,?_,by omega,hx,ho,k,n,f,hF,rfl⟩;rw [e1,Jl];rfl
  ·have hi:i=(tk w s).1.length:=by omega
   subst hi;rw [List.take_length];exact hk A' F' ho k n f hF
 ·rw [Afi];refine Uv ?_;have hb:((w:Int)==1 || ((w:Int)==2 || ((w:Int)==4 || (w:Int)==8)))=true:=by rcases hw with rfl | rfl | rfl | rfl<;>rfl
  rw [hb];simp only [BC,Ab];refine Ai.2 ⟨fun h=>by simp at h,fun _=>?_⟩;refine XX h hf hA hl (by omega) fun A' x F' Fo ho hx k n f hF hFo=>?_;simp only [hx.rd.len tb,Ab];exact AE.2 ⟨(tk w s).1.length,rfl,0,x,F',Fo,rfl,Nat.zero_le _,hx,ho,k,n,f,hF,rfl⟩
theorem Ya {s:St} (h:OR A r v s.1 s.2 F) (hf:AB A) (hA:A.next+8<Ak) (hl:s.1.length<1000000)
  (hk:∀ A' F',OR A' r v (tx1 s).2.1 (tx1 s).2.2 F'→AA A A' [v]→A'.next≤A.next+4→AB A'→(∀ y∈F',y∈F)→K (.string ⟨⟨(tx1 s).1⟩⟩) A'):Wc Tryz.prog Af W0 m0 142 [.pointer (some ⟨r,0,none⟩),.int .i64 1,.int .i64 255] A K:=by
 refine Aec _ _ _ _ Bu ?_;rw [Afc];simp only [Bh,Ab,Ay];refine ⟨fun h=>by omega,fun _=>?_⟩;refine Yc (w:=1) h hf (by omega) hl (by omega) fun A1 F1 o1 k1 n1 f1 hF1=>?_;have hv1:(nm 1 s).1<256:=by
  have h1:=J4 (tk 1 s).1;have h2:=Q4 1 s
  have:(256:Nat)^(tk 1 s).1.length≤256^1:=Nat.pow_le_pow_right (by decide) h2
  show EF (tk 1 s).1<256;omega
 have hl1:(nm 1 s).2.1.length≤s.1.length:=by
  show (tk 1 s).2.1.length≤_;unfold tk;split
  ·exact Nat.zero_le _
  ·rw [List.length_drop];omega
 have spoil:((nm 1 s).2.2=true∨(nm 1 s).2.1.length<(nm 1 s).1)→Wc Tryz.prog Af W0 m0 201 [.pointer (some ⟨r,0,none⟩)] A1 fun _ A'=>K (.string ⟨⟨[]⟩⟩) A':=fun hb=>by
  refine XY o1 f1 (by omega) fun A' o' k' n' f'=>?_;have e:tx1 s=([],([],true)):=by unfold tx1;rw [if_pos hb]
  rw [e] at hk;exact hk A' [] o' (k1.trans k' (fun y hy=>.inl hy)) (by omega) f' (by simp)
 refine UD o1 ?_;refine Ai.2 ⟨fun hb=>spoil (.inl hb),fun hb=>?_⟩;simp only [Bb,Ab,Ap,LL,AR,Cy];rw [wrap_u64 (n:=255) (by decide) (by decide)];refine ⟨fun h=>by omega,fun _=>⟨fun h=>by omega,fun _=>?_⟩⟩;refine Uy o1 ?_;simp only [LL,AR];rw [wrap_u64 (by omega) (by omega)];simp only [AR,Ab,Ap,Xs,Cy];refine ⟨fun h=>spoil (.inr (by omega)),fun hle=>?_⟩;have hle:(nm 1 s).1≤(nm 1 s).2.1.length:=by omega
 rw [wrap_i64 (by omega) (by omega)];have e:tx1 s=((nm 1 s).2.1.take (nm 1 s).1,((nm 1 s).2.1.drop (nm 1 s).1,false)):=by unfold tx1;rw [Ff (by simp [hb];omega)]
 have et:tk (nm 1 s).1 (nm 1 s).2=((nm 1 s).2.1.take (nm 1 s).1,((nm 1 s).2.1.drop (nm 1 s).1,false)):=by unfold tk;rw [Ff (by simp [hb];omega)]
 refine XX (s:=(nm 1 s).2) (n:=(nm 1 s).1) o1 f1 (by omega) (by omega) (by omega) fun A2 x2 F2 Fo o2 x2s k2 n2 f2 hF2 hFo=>?_;rw [et] at o2 x2s;rw [e] at hk;simp only [x2s.rd.str tb,AR];exact hk A2 F2 o2 (k1.trans k2 (fun y hy=>.inl hy)) (by omega) f2 (fun y hy=>hF1 y (hF2 y hy))
end
variable {A:AW} {K:Value→AW→Prop}
def rnF(s:St):Nat:=(nm 4 s).1
def rnG(s:St):List UInt8:=(tx1 (nm 4 s).2).1
def rnB(s:St):List UInt8:=(tx1 (tx1 (nm 4 s).2).2).1
def rnS(s:St):St:=(tx1 (tx1 (nm 4 s).2).2).2
theorem Te(n:Nat)(s:St):(tk n s).2.1.length≤s.1.length:=by
 unfold tk;split
 ·exact Nat.zero_le _
 ·rw [List.length_drop];omega
theorem Kj(n:Nat)(s:St):(nm n s).2.1.length≤s.1.length:=Te n s
theorem I5(s:St):(tx1 s).2.1.length≤s.1.length:=by
 have:=Kj 1 s
 unfold tx1;split
 ·exact Nat.zero_le _
 ·rw [List.length_drop];omega
theorem Rc(s:St):(rnS s).1.length≤s.1.length:=Nat.le_trans (I5 _) (Nat.le_trans (I5 _) (Kj 4 s))
theorem Yo(w:Nat)(s:St):(nm w s).1<256^w:=Nat.lt_of_lt_of_le (J4 _) (Nat.pow_le_pow_right (by decide) (Q4 w s))
section
variable {W0:World} {m0:Inj Tryz.prog}
theorem Sa {s:ByteArray} (hf:AB A) (h:A.next<Ak)
  (hk:∀ A',Grow A A' 1→RdS 5 A' (.slice (some ⟨A.next,0,none⟩) s.data.toList.length (Bo+s.data.toList.length)) s.data.toList [A.next]→K (.slice (some ⟨A.next,0,none⟩) s.data.toList.length (Bo+s.data.toList.length)) A'):Al (AK Tryz.prog A 9 52 (.string s)) K:=by
 have e:AK Tryz.prog A 9 52 (.string s)=.ok (.slice (some ⟨A.next,0,none⟩) s.data.toList.length (Bo+s.data.toList.length)) (A.push (.row (Az s.data.toList) 5 A.next 0 false)):=by
  unfold AK;simp only [tb.ust,tb.us,tb.ub,tb.sz];unfold AW.new;simp only [Ax.2 h,Ct];rfl
 rw [e];have m:Made A (A.push (.row (Az s.data.toList) 5 A.next 0 false)) (Az s.data.toList) 5:=⟨AW.Cv _ h,rfl,by rw [AW.Cg _ h,if_pos rfl],hf.alone (Nl _),hf.push _ h⟩;refine AR.2 (hk _ (.made m hf) (.inr ⟨A.next,0,s.data.toList.length,_,_,A.next,0,false,[],rfl,.inl rfl,Nl _,m.row,by rw [m.next];omega,rfl,by simp⟩))
theorem Aay {x:Value} {l:List UInt8} {F:List Nat} (h:RdS 5 A x l F) (hf:AB A) (hA:A.next+6<Ak) (hl:l.length<1000000)
  (hk:∀ A' r v F',Grow A A' 4→OR A' r v l false F'→A.next≤r→A.next≤v→(∀ y∈F',A.next≤y)→K (.pointer (some ⟨r,0,none⟩)) A'):Wc Tryz.prog Af W0 m0 125 [x] A K:=by
 refine Aej _ _ Bu ?_;rw [Afj];refine XZ h hf (by omega) hl fun A1 v1 F1 g1 s1 hF1=>?_;have n1:=g1.next;have l1:=g1.le;obtain ⟨o,c,e1⟩:=s1.rd.slice;have hlt:=s1.rd.lt;rw [e1,AbX];simp only [Ab];rw [← e1];refine AH (cs:=[v1,.bool true,.bool false]) g1.Ao (by omega) (by simp [s1.rd.one.1,Vf]) fun A2 m2=>?_;have n2:=m2.next;rw [AbW];simp only [Ab];refine AH (cs:=[.pointer (some ⟨A1.next,0,none⟩)]) m2.Ao (by omega) rfl fun A3 m3=>?_;have n3:=m3.next;have k3:=m3.keeps m2.Ao;refine hk A3 A2.next A1.next F1 ((g1.trans (.made m2 g1.Ao)).trans (.made m3 m2.Ao)) ⟨m3.Bk,⟨v1,m2.Bk.keeps k3 (by simp),(s1.keeps (m2.keeps g1.Ao) (by simp)).keeps k3 (by simp)⟩,by simp,by omega,fun hm=>by have:=hlt _ hm;omega⟩ (by omega) (by omega) hF1
end
end Go.Proofs.YtkjlldaddekegaaGreatDoor.Lt
namespace Go.Proofs.YtkjlldaddekegaaGreatDoor.Lt
open Go.Abs Go.Crc
variable {tb ts tst:TypeId} {A:AW} {a:Option Addr} {len n t:Nat} {l:List UInt8} {F:List Nat} {f:Int} {g b:ByteArray}
def xgE(l:List UInt8):Int:=if (rnS (l,false)).2=true then 4 else Ce ⟨⟨rnG (l,false)⟩⟩ ⟨⟨rnB (l,false)⟩⟩
def xgN(l:List UInt8):Nat:=l.length-(rnS (l,false)).1.length
def xgX(l:List UInt8):Nm:=if xgE l=0 then ⟨rnF (l,false),⟨⟨rnG (l,false)⟩⟩,⟨⟨rnB (l,false)⟩⟩⟩ else ⟨0,⟨⟨[]⟩⟩,⟨⟨[]⟩⟩⟩
def xgK(l:List UInt8):Nat:=if xgE l=0 then xgN l else 0
theorem Un(l:List UInt8):xgK l≤l.length:=by unfold xgK xgN;split<;>omega
theorem Jw{P:Program}(T:BT P tb ts tst){C:Nat}(hc:C<Bo)(hn:n≤C):Cc P A ts (.slice a len C) none (some (.int .i64 (.ofNat n))) (some (.int .i64 (.ofNat n)))=some (.slice (bif Nat.beq n 0 then a else Hy a (0*1)) n n):=by
 unfold Cc;simp only [T.us,T.sz,BA.2 hc,Cf,bounds,IQ,EP,Bj.2 hn,Bj.2 (Nl n),Nat.sub_zero,Option.isSome_some,Bool.true_or,Ct]
theorem PI{P:Program}(T:BT P tb ts tst){c:Nat}(hn:n≤c)(hr:n<Bo):Cc P A ts (.slice a len (Bo+c)) none (some (.int .i64 (.ofNat n))) (some (.int .i64 (.ofNat n)))=some (.slice (Hy a (0*1)) n n):=by
 unfold Cc;simp only [T.us,T.sz,Bj.2 (show Bo≤Bo+c from Nat.le_add_right _ _),Ct,bounds,IQ,EP,Nat.add_sub_cancel_left,Bj.2 hn,Bj.2 (Nl n),Nat.sub_zero,Option.isSome_some,Bool.true_or,Ax.2 hr]
theorem RdS.to3{P:Program}{v:Value}(T:BT P tb ts tst)(h:RdS tb A v l F)(hn:n≤l.length)(hr:n<Bo):
  ∃ v',Cc P A ts v none (some (.int .i64 (n:Int))) (some (.int .i64 (n:Int)))=some v'∧RdS tb A v' (l.take n) F:=by
 show ∃ v',Cc P A ts v none (some (.int .i64 (.ofNat n))) (some (.int .i64 (.ofNat n)))=some v'∧_;rcases h with ⟨rfl,rfl,o,c,rfl,hc,hz⟩ | ⟨r,o,c,C,cs,f,b,ro,rest,rfl,hC,hl,h2,h3,rfl,h5⟩
 ·have hn0:n=0:=Nat.le_zero.1 hn;refine ⟨_,Jw T hc (by omega),.inl ⟨List.take_nil,rfl,o,0,?_,by decide,fun _=>rfl⟩⟩;rw [hn0];rfl
 ·have hd:cs.drop o=Az (l.take n)++(Az (l.drop n)++rest):=by
   rw [h5,Ih,Gw,← Mw,List.take_append_drop]
  have hlen:(l.take n).length=n:=by rw [List.length_take];omega
  have hfin:RdS tb A (.slice (some ⟨r,o,none⟩) n n) (l.take n) [f]:=.inr ⟨r,o,n,n,cs,f,b,ro,_,by rw [hlen],.inr ⟨rfl,hr⟩,by omega,h2,h3,rfl,hd⟩;rcases hC with rfl | ⟨rfl,hc⟩
  ·refine ⟨_,PI T (by omega) hr,?_⟩;rw [FN,Nat.add_zero];exact hfin
  ·refine ⟨_,Jw T hc (by omega),?_⟩;rw [FN,Nat.add_zero];cases Nat.beq n 0
   ·rw [Cf];exact hfin
   ·rw [Ct];exact hfin
theorem WZ(h:n<1000000):n<Bo:=Nat.lt_of_lt_of_le h (by decide)
section
variable {W0:World} {m0:Inj Tryz.prog}
theorem L5 {zs:List Value} {K:AW→Prop} (ht:Go.Abs.AF A t zs 24) (hz:zs.length=3) (hf:AB A) (hA:A.next≤Ak)
  (hk:∀ A',Go.Abs.AF A' t [.int .u32 f,.string g,.string b] 24→AA A A' [t]→A'.next=A.next→AB A'→K A'):AQ (Am Tryz.prog A 24 (.pointer (some ⟨t,0,none⟩)) (.agg ⟨[.int .u32 f,.string g,.string b]⟩)) K:=by
 refine ht.store hf hA (HO _ _ _) rfl (by rw [hz];exact Nl 3) rfl fun A3 t3 k3 n3 f3=>?_;have e:Ee zs 0 (Value.cells (.agg ⟨[.int .u32 f,.string g,.string b]⟩)).toList=[.int .u32 f,.string g,.string b]:=by
  match zs,hz with
  |[z0,z1,z2],_=>rfl
 rw [e] at t3;exact hk A3 t3 k3 n3 f3
theorem Iz(h:Go.Abs.AF A t [.int .u32 f,.string g,.string b] 24):Ad Tryz.prog A 24 (.pointer (some ⟨t,0,none⟩))=some (.agg ⟨[.int .u32 f,.string g,.string b]⟩):=by
 rw [Ec,BH h.row];rfl
theorem Adv {x:Value} {K:Value→AW→Prop} (h:RdS 5 A x l F) (hf:AB A) (hA:A.next+60<Ak) (hl:l.length<1000000)
  (hk:∀ A',Grow A A' 40→K (.tuple ⟨[.agg ⟨(xgX l).cells⟩,.int .i64 (xgK l:Int),.int .i64 (xgE l)]⟩) A'):Wc Tryz.prog Af W0 m0 74 [x] A K:=by
 have zero:∀ A',Grow A A' 40→xgE l≠0→K (.tuple ⟨[.agg ⟨[.int .u32 0,.string ⟨⟨[]⟩⟩,.string ⟨⟨[]⟩⟩]⟩,.int .i64 0,.int .i64 (xgE l)]⟩) A':=fun A' g he=>by
  have:=hk A' g
  unfold xgX xgK at this;rw [Ff he,Ff he] at this;exact this
 obtain ⟨xa,xc,rfl⟩:=h.rd.slice;refine w74 _ _ Bu ?_;rw [e74];refine AX EG hf (by omega) rfl fun A1 m1=>?_;have n1:=m1.next;have T1:Go.Abs.AF A1 A.next [.int .u32 0,.string .empty,.string .empty] 24:=m1.Bk;refine Aay (h.keeps (m1.keeps hf) (by simp)) m1.Ao (by omega) hl fun A2 r v F2 g2 o2 hr2 hv2 hF2=>?_;have n2:=g2.next;have l2:=g2.le;have T2:=T1.keeps g2.keeps (by simp);have hvn:A.next∉[v]:=by simp;omega
 refine Yc (s:=(l,false)) (w:=4) o2 g2.Ao (by omega) hl (by omega) fun A3 F3 o3 k3 n3 f3 hF3=>?_;have l3:=k3.next;have s3:=Kj 4 (l,false);have hn4:(nm 4 (l,false)).1<4294967296:=Yo 4 (l,false);have vlt:v<A3.next:=by obtain ⟨bs,h1,h2⟩:=o3.ex;exact h1.lt
 have rlt:r<A3.next:=o3.rr.lt;have Flt:∀ y∈F3,y<A3.next:=by obtain ⟨bs,h1,h2⟩:=o3.ex;exact h2.rd.lt
 have T3:=T2.keeps k3 hvn;simp only [V7,AR];rw [Ta (by omega) (by omega),AbY];simp only [Ab];refine AX EG f3 (by omega) rfl fun A4 m4=>?_;have n4:=m4.next;have k4:=m4.keeps f3;have o4:=o3.keeps k4 (by simp) (by simp) (by simp);refine m4.Bk.store m4.Ao (by omega) (HO _ _ _) rfl (by simp [Value.cells]) rfl fun A5 p5 k5 n5 f5=>?_;have p5:Go.Abs.AF A5 A3.next [.int .u32 ((nm 4 (l,false)).1:Int),.string .empty,.string .empty] 24:=p5;have o5:=o4.keeps k5 (by simp;omega) (by simp;omega) (fun y hy=>by have:=Flt y hy;simp;omega);have T5:=(T3.keeps k4 (by simp)).keeps k5 (by simp;omega);refine Ya o5 f5 (by omega) (Nat.lt_of_le_of_lt s3 hl) fun A6 F6 o6 k6 n6 f6 hF6=>?_;have l6:=k6.next;have s6:=I5 (nm 4 (l,false)).2;have p6:=p5.keeps k6 (by simp;omega);have T6:=T5.keeps k6 hvn;simp only [Es,Fu,Ab,Nat.zero_add];refine p6.store f6 (by omega) (UT _ _ _) rfl (by simp) rfl fun A7 p7 k7 n7 f7=>?_;have p7:Go.Abs.AF A7 A3.next [.int .u32 ((nm 4 (l,false)).1:Int),.string ⟨⟨(tx1 (nm 4 (l,false)).2).1⟩⟩,.string .empty] 24:=p7;have o7:=o6.keeps k7 (by simp;omega) (by simp;omega) (fun y hy=>by have:=Flt y (hF6 y hy);simp;omega);have T7:=T6.keeps k7 (by simp;omega);refine Ya o7 f7 (by omega) (Nat.lt_of_le_of_lt (Nat.le_trans s6 s3) hl) fun A8 F8 o8 k8 n76 f8 hF8=>?_;have l8:=k8.next;have p8:=p7.keeps k8 (by simp;omega);have T76:=T7.keeps k8 hvn;refine p8.store f8 (by omega) (UT _ _ _) rfl (by simp) rfl fun A9 p9 k9 n9 f9=>?_;have p9:Go.Abs.AF A9 A3.next [.int .u32 (rnF (l,false):Int),.string ⟨⟨rnG (l,false)⟩⟩,.string ⟨⟨rnB (l,false)⟩⟩] 24:=p9;have o9:=o8.keeps k9 (by simp;omega) (by simp;omega) (fun y hy=>by have:=Flt y (hF6 y (hF8 y hy));simp;omega);have o9:OR A9 r v (rnS (l,false)).1 (rnS (l,false)).2 F8:=o9;have T9:=T76.keeps k9 (by simp;omega);have g09:Grow A A9 30:=by
  have a2:=(Grow.made m1 hf).trans g2;have a3:=a2.own k3 (by simp;omega) (m:=2) (by omega) f3;have a5:=(a3.trans (.made m4 f3)).own k5 (by simp;omega) (m:=0) (by omega) f5;have a7:=(a5.own k6 (by simp;omega) (m:=4) (by omega) f6).own k7 (by simp;omega) (m:=0) (by omega) f7;exact ((a7.own k8 (by simp;omega) (m:=4) (by omega) f8).own k9 (by simp;omega) (m:=0) (by omega) f9).more (by omega)
 refine UD o9 ?_;refine Ai.2 ⟨fun hb=>?_,fun hb=>?_⟩
 ·have e4:xgE l=4:=by unfold xgE;rw [if_pos hb]
  rw [NR];simp only [Ab];refine L5 T9 rfl f9 (by omega) fun A10 T82 k10 n82 f10=>?_;rw [Iz T82];simp only [Ab]
  have:=zero A10 ((g09.own k10 (by simp) (m:=0) (by omega) f10).more (by omega)) (by rw [e4];decide)
  rw [e4] at this;exact this
 ·have eE:xgE l=Ce ⟨⟨rnG (l,false)⟩⟩ ⟨⟨rnB (l,false)⟩⟩:=by unfold xgE;rw [Ff (by simp [hb])]
  rw [Iz p9];simp only [Ab];refine QU (f:=(rnF (l,false):Int)) (g:=⟨⟨rnG (l,false)⟩⟩) (b:=⟨⟨rnB (l,false)⟩⟩) f9 (by omega) fun A10 g10=>?_;have n82:=g10.next;have g010:=g09.trans g10;have T82:=T9.keeps g10.keeps (by simp);have p10:=p9.keeps g10.keeps (by simp);have o10:=o9.keeps g10.keeps (by simp) (by simp) (by simp);rw [← eE];simp only [Bn,Ab,AU];refine ⟨fun he=>?_,fun he=>?_⟩
  ·rw [NR];simp only [Ab];refine L5 T82 rfl g10.Ao (by omega) fun A11 T34 k11 n34 f11=>?_;rw [Iz T34];simp only [Ab];exact zero A11 ((g010.own k11 (by simp) (m:=0) (by omega) f11).more (by omega)) he
  ·have hsh:(rnS (l,false)).1.length≤l.length:=Rc (l,false);rw [Iz p10];simp only [JQ,Ab];refine Uy o10 ?_;rw [Iz p10];simp only [Ab,BD,Gy];rw [wrap_i64 (by omega) (by omega)];refine L5 T82 rfl g10.Ao (by omega) fun A11 T34 k11 n34 f11=>?_;rw [Iz T34];simp only [Ab]
   have:=hk A11 ((g010.own k11 (by simp) (m:=0) (by omega) f11).more (by omega))
   have eN:((l.length:Nat):Int)-((rnS (l,false)).1.length:Nat)=(xgN l:Int):=by unfold xgN;omega
   unfold xgX xgK at this;rw [if_pos he,if_pos he,he] at this;rw [eN];exact this
end
variable {l:List UInt8}
theorem AbJ(h4:4≤l.length):DF l=true↔l.drop (l.length-4)=le4 (Eh (l.take (l.length-4))):=by
 unfold DF;rw [decide_eq_true h4,Bool.true_and,beq_iff_eq];constructor
 ·intro h;have h2:=List.take_append_drop (l.length-4) l;have h3:l.take (l.length-4)++l.drop (l.length-4)=l.take (l.length-4)++le4 (Eh (l.take (l.length-4))):=h2.trans h;exact List.append_cancel_left h3
 ·intro h;unfold EC;rw [← h,List.take_append_drop]
theorem NY(h4:4≤l.length):DF l=true↔∀ i,i<4→l[l.length-4+i]? =(le4 (Eh (l.take (l.length-4))))[i]? :=by
 rw [AbJ h4];constructor
 ·intro h i _;rw [← h,List.getElem?_drop]
 ·intro h;refine List.ext_getElem? fun i=>?_;rw [List.getElem?_drop];by_cases hi:i<4
  ·exact h i hi
  ·rw [List.getElem?_eq_none (by omega),List.getElem?_eq_none (by rw [Jf];omega)]
theorem Oy(h:l.length<4):DF l=false:=by
 unfold DF;rw [decide_eq_false (by omega)];rfl
section
variable {W0:World} {m0:Inj Tryz.prog}
theorem Adw {A:AW} {x:Value} {F:List Nat} {K:Value→AW→Prop} (h:RdS 5 A x l F) (hg:Glb A) (hf:AB A) (hA:A.next+5<Ak) (hl:l.length<900000)
  (h1:DF l=true→∀ A' v F',Grow A A' 1→RdS 5 A' v (l.take (l.length-4)) F'→(∀ y∈F',A.next≤y)→K (.tuple ⟨[v,.bool true]⟩) A') (h2:DF l=false→K (.tuple ⟨[.slice none 0 0,.bool false]⟩) A):
  Wc Tryz.prog Af W0 m0 72 [x] A K:=by
 have hroom:room=68719476736:=rfl;let I:Nat→Nat→List Value→AW→Prop:=fun g id vals A'=>id=0∧A'=A∧4≤l.length∧∃ i:Nat,vals=[x,.int .i64 ((l.length-4:Nat):Int),.int .u32 ((Eh (l.take (l.length-4)):Nat):Int),.int .i64 (i:Int)]∧g=4-i∧i≤4∧
  ∀ j,j<i→l[l.length-4+j]? =(le4 (Eh (l.take (l.length-4))))[j]?
 refine w72 _ _ (c72 (I:=I) ?_) ?_
 ·rintro g id vals A' d ⟨rfl,rfl,h4,i,rfl,rfl,hi,hj⟩ hd;rw [Abj];simp only [L72,Mc,Mn,Li,and_true] at hd;obtain ⟨d0,d4,d5,d18⟩:=hd;simp only [d0,d4,d5,d18,Bb,Ab,Ap];refine ⟨fun hlt=>?_,fun hge=>?_⟩
  ·have hlt:i<4:=by omega
   obtain ⟨c,hc⟩:∃ c,l[l.length-4+i]? =some c:=⟨_,Ge (by omega)⟩;obtain ⟨a,a1,a2⟩:=h.rd.at tb hc;simp only [Bw,LR,Ab];rw [wrap_i64 (n:=((l.length-4:Nat):Int)+i) (by omega) (by omega),wrap_i64 (n:=8*(i:Int)) (by omega) (by omega),wrap_i64 (n:=(i:Int)+1) (by omega) (by omega),Gz (by omega)];have e1:((l.length-4:Nat):Int)+(i:Int)=((l.length-4+i:Nat):Int):=by omega
   have e3:min (8*(i:Int)).toNat (IntKind.bits .u32)=8*i:=by show min _ 32=_;omega
   rw [e1,e3];simp only [a1,a2,Ab,LM,AR,Ht,Bn,AU];refine ⟨fun hne=>h2 ?_,fun heq=>?_⟩
   ·cases hs:DF l with
    |false=>rfl
    |true=>
     exfalso
     have:=(NY h4).1 hs i hlt
     rw [hc,OS hlt,Oi] at this;rw [this] at hne;exact hne rfl
   ·refine AE.2 ⟨4-(i+1),by omega,rfl,rfl,h4,i+1,rfl,rfl,by omega,fun j hji=>?_⟩;by_cases hjl:j<i
    ·exact hj j hjl
    ·obtain rfl:j=i:=by omega
     rw [hc,OS hlt,Oi];exact UInt8.toNat_inj.1 (by omega)
  ·have hi':i=4:=by omega
   subst hi';have hs:=(NY h4).2 hj;refine GQ (n:=l.length-4) (c:=l.length-4) tb hf (by omega) (Nl _) (by omega) fun A1 m1=>?_;have n1:=m1.next;have k1:=m1.keeps hf;refine S1 tb m1.Bk (h.rd.keeps k1 (by simp)) m1.Ao (by omega) (by rw [List.length_replicate];omega) fun A2 vv r2 k2 n2 f2=>?_;rw [Nat.min_eq_right (by omega)] at r2;have g2:Grow A' A2 1:=(Grow.made m1 hf).own k2 (by simp) (m:=0) (by omega) f2;have lt:(l.take (l.length-4)).length=l.length-4:=by rw [List.length_take];omega
   have e:Ee (List.replicate (l.length-4) (Value.int .u8 0)) 0 (Az (l.take (l.length-4)))=Az (l.take (l.length-4)):=by
    have:=EZ [] (List.replicate (l.length-4) (Value.int .u8 0)) (Az (l.take (l.length-4))) [] (by rw [List.length_replicate,AV,lt])
    simpa using this
   rw [e] at r2;have b2:=(ZL r2 (by rw [lt];omega)).rdS;rw [lt] at b2;exact h1 hs A2 _ _ g2 b2 (by simp)
 ·rw [e72];simp only [h.rd.len tb,Gy,Ab,Bb];rw [wrap_i64 (by omega) (by omega)];simp only [Ap];refine ⟨fun hlt=>h2 (Oy (by omega)),fun hge=>?_⟩;have e4:(l.length:Int)-4=((l.length-4:Nat):Int):=by omega
  rw [e4];obtain ⟨v,hv,hs⟩:=RdS.to3 tb h (n:=l.length-4) (by omega) (WZ (by omega));rw [hv];simp only [Ab];refine Yb hs.rd hg (by rw [List.length_take];omega) ?_;exact AE.2 ⟨4,rfl,rfl,by omega,0,rfl,rfl,by omega,fun j hj=>by omega⟩
end
variable {a c t kd xa no b q:Nat} {A:AW} {sv:Value} {zs:List Value} {p:Prop} {F:List Nat} {Q:Value→AW→Prop}
theorem YC:C2 Tryz.prog 52=some (.slice none 0 0):=by kernel_rfl
theorem Xa:Bi Tryz.prog (fun _=>undef) (.alloc 38)=some (.row [.int .u8 0,.int .u32 0,.string .empty,.string .empty,.int .u8 0,.int .u16 0,.slice none 0 0] 38):=by kernel_rfl
theorem VJ(p:Nm):Bi Tryz.prog (BJ (Tm.fill ⟨1,.nil⟩ 0 [.agg ⟨p.cells⟩])) (.buildSlice 34 1 #[(0,.tmp 0)])=some (.slice p.cells 24 1):=Xb (p.f:Int) p.g p.b
theorem AbV(k a n:Int):Aw Tryz.prog 38 [(0,.int .u8 k),(2,.int .u8 a),(3,.int .u16 n)]=some (.agg ⟨[.int .u8 k,.int .u32 0,.string ⟨⟨[]⟩⟩,.string ⟨⟨[]⟩⟩,.int .u8 a,.int .u16 n,.slice none 0 0]⟩):=by kernel_rfl
theorem AbH(A:AW)(a:Addr):EL Tryz.prog Af A (.func (.func 73) ⟨[]⟩ ⟨[.pointer (some a)]⟩) []=.ok (.enter 73 [.pointer (some a)]) A:=by kernel_rfl
def x0:Nm:=⟨0,⟨⟨[]⟩⟩,⟨⟨[]⟩⟩⟩
def W1:Value:=EB 0 0 0 x0 (.slice none 0 0)
theorem AbU:Aw Tryz.prog 38 []=some W1:=ZR
theorem VX(a b c:Value):Ar (.tuple ⟨[a,b,c]⟩) 0=some a:=rfl
theorem VW(a b c:Value):Ar (.tuple ⟨[a,b,c]⟩) 1=some b:=rfl
theorem VV(a b c:Value):Ar (.tuple ⟨[a,b,c]⟩) 2=some c:=rfl
theorem AeA(ha:a<256)(hc:c<256):IntKind.u16.wrap ((BitVec.ofInt (IntKind.bits .u16) (IntKind.u16.wrap ((a:Int)*2^(min (8:Int).toNat (IntKind.bits .u16)))) ||| BitVec.ofInt (IntKind.bits .u16) (c:Int)).toNat:Int)=((a*256+c:Nat):Int):=by
 have e76:(a:Int)*2^(min (8:Int).toNat (IntKind.bits .u16))=((a*256:Nat):Int):=by
  show (a:Int)*2^8=_;rw [Int.natCast_mul];rfl
 rw [e76,wrap_u16 (n:=((a*256:Nat):Int)) (by omega) (by omega)];have e:(BitVec.ofInt 16 ((a*256:Nat):Int) ||| BitVec.ofInt 16 (c:Int)).toNat=a*256+c:=by
  have h1:(a*256)%2^16=a*256:=Nat.mod_eq_of_lt (by omega);have h2:c%2^16=c:=Nat.mod_eq_of_lt (by omega);rw [BitVec.toNat_or,BitVec.ofInt_natCast,BitVec.ofInt_natCast,BitVec.toNat_ofNat,BitVec.toNat_ofNat,h1,h2]
  have:=Nat.shiftLeft_add_eq_or_of_lt (i:=8) (show c<2^8 by omega) a
  rw [Nat.shiftLeft_eq] at this;exact this.symm
 show IntKind.u16.wrap ((BitVec.ofInt 16 ((a*256:Nat):Int) ||| BitVec.ofInt 16 (c:Int)).toNat:Int)=_;rw [e,wrap_u16 (by omega) (by omega)]
theorem Aez(ha:a<256)(hc:c<256):IntKind.i64.wrap ((BitVec.ofInt (IntKind.bits .i64) (IntKind.i64.wrap ((a:Int)*2^(min (8:Int).toNat (IntKind.bits .i64)))) ||| BitVec.ofInt (IntKind.bits .i64) (c:Int)).toNat:Int)=((a*256+c:Nat):Int):=by
 have e76:(a:Int)*2^(min (8:Int).toNat (IntKind.bits .i64))=((a*256:Nat):Int):=by
  show (a:Int)*2^8=_;rw [Int.natCast_mul];rfl
 rw [e76,wrap_i64 (n:=((a*256:Nat):Int)) (by omega) (by omega)];have e:(BitVec.ofInt 64 ((a*256:Nat):Int) ||| BitVec.ofInt 64 (c:Int)).toNat=a*256+c:=by
  have h1:(a*256)%2^64=a*256:=Nat.mod_eq_of_lt (by omega);have h2:c%2^64=c:=Nat.mod_eq_of_lt (by omega);rw [BitVec.toNat_or,BitVec.ofInt_natCast,BitVec.ofInt_natCast,BitVec.toNat_ofNat,BitVec.toNat_ofNat,h1,h2]
  have:=Nat.shiftLeft_add_eq_or_of_lt (i:=8) (show c<2^8 by omega) a
  rw [Nat.shiftLeft_eq] at this;exact this.symm
 show IntKind.i64.wrap ((BitVec.ofInt 64 ((a*256:Nat):Int) ||| BitVec.ofInt 64 (c:Int)).toNat:Int)=_;rw [e,wrap_i64 (by omega) (by omega)]
theorem Ot {x:Nm} {K:AW→Prop} (ht:Go.Abs.AF A t zs 38) (hz:zs.length=7) (hs:AP sv=true) (hf:AB A) (hA:A.next≤Ak)
  (hk:∀ A',Go.Abs.AF A' t (Cl kd xa no x sv) 38→AA A A' [t]→A'.next=A.next→AB A'→K A'):AQ (Am Tryz.prog A 38 (.pointer (some ⟨t,0,none⟩)) (EB kd xa no x sv)) K:=by
 refine ht.store hf hA (AaN _ _ _) rfl (by rw [hz];exact Nl 7) (by simp [EB,Cl,Value.cells,Hi,D4,hs]) fun A3 t3 k3 n3 f3=>?_;have e:Ee zs 0 (Value.cells (EB kd xa no x sv)).toList=Cl kd xa no x sv:=by
  match zs,hz with
  |[z0,z1,z2,z3,z4,z5,z6],_=>rfl
 rw [e] at t3;exact hk A3 t3 k3 n3 f3
section
variable {W0:World} {m0:Inj Tryz.prog}
theorem TL(h:A.get b=some (.row [.int .u8 0,.int .u32 0,.string .empty,.string .empty,.int .u8 0,.int .u16 0,.slice none 0 0] 38 b 0 false))(hp:p):Cm (Bi Tryz.prog (fun _=>undef) (.alloc 38)) A (.pointer (some ⟨b,0,none⟩)) p:=by
 refine ⟨⟨_,Xa,?_⟩,hp⟩;simp only [Cb,EH,h,D9,Bool.true_and,Nat.beq_refl];rfl
theorem TM{q:Nm}(h:A.get b=some (.row q.cells 24 b 0 false))(hp:p):Cm (Bi Tryz.prog (BJ (Tm.fill ⟨1,.nil⟩ 0 [.agg ⟨q.cells⟩])) (.buildSlice 34 1 #[(0,.tmp 0)])) A (.slice (some ⟨b,0,none⟩) 1 1) p:=by
 refine ⟨⟨_,VJ q,?_⟩,hp⟩;simp only [Cb,EH,h,Nm.cells,D9,Jz,PL,Bool.and_self,Option.isNone_none,Bool.true_and,Nat.beq_refl]
theorem Z5 {v:Value} {l:List UInt8} {K:Value→AW→Prop} (hq:Go.Abs.AF A q [v] 52) (h:RdS 5 A v l F) (hqF:q∉F) (hf:AB A) (hA:A.next+80<Ak) (hl:l.length<1000000)
  (hk:∀ A' v',Go.Abs.AF A' q [v'] 52→RdS 5 A' v' (l.drop (xgK l)) F→AA A A' [q]→A'.next≤A.next+45→AB A'→K (.agg ⟨(xgX l).cells⟩) A'):Wc Tryz.prog Af W0 m0 73 [.pointer (some ⟨q,0,none⟩)] A K:=by
 have hqlt:=hq.lt;have hFlt:=h.rd.lt;have one:=h.rd.one;refine w73 _ _ Bu ?_;rw [e73];refine AX EG hf (by omega) rfl fun A1 m1=>?_;have n1:=m1.next;have q1:=hq.keeps (m1.keeps hf) (by simp);have h1:=h.keeps (m1.keeps hf) (by simp);have T1:Go.Abs.AF A1 A.next [.int .u32 0,.string .empty,.string .empty] 24:=m1.Bk;simp only [KY,Ag q1.row,cellOf,one.2,Cf,Ab];refine Adv h1 m1.Ao (by omega) hl fun A2 g2=>?_;have n2:=g2.next;have l2:=g2.le;have q2:=q1.keeps g2.keeps (by simp);have h2:=h1.keeps g2.keeps (by simp);have T2:=T1.keeps g2.keeps (by simp);simp only [VX,VW,VV,Ab];refine AX EG g2.Ao (by omega) rfl fun A3 m3=>?_;have n3:=m3.next;refine Ou (p:=xgX l) m3.Bk rfl m3.Ao (by omega) fun A4 X4 k4 n4 f4=>?_;have q4:=(q2.keeps (m3.keeps g2.Ao) (by simp)).keeps k4 (by simp;omega);have h4:=(h2.keeps (m3.keeps g2.Ao) (by simp)).keeps k4 (fun y hy=>by have:=hFlt y hy;simp;omega);have T4:=(T2.keeps (m3.keeps g2.Ao) (by simp)).keeps k4 (by simp;omega);obtain ⟨v5,hv5,s5⟩:=h4.from tb (Un l)
 simp only [Ag q4.row,cellOf,one.2,Cf,Ab,hv5];have one5:=s5.rd.one;obtain ⟨o5,c5,hx⟩:=s5.rd.slice;refine q4.store f4 (by omega) (PF _ _ _) (by rw [hx];rfl) (by simp) (by rw [hx];rfl) fun A5 q5 k5 n5 f5=>?_;have q5:Go.Abs.AF A5 q [v5] 52:=by rw [hx] at q5 ⊢;exact q5
 have X5:=X4.keeps k5 (by simp;omega);have T5:=T4.keeps k5 (by simp;omega);have s5':=s5.keeps k5 (fun y hy=>by simp;intro h0;subst h0;exact hqF hy);rw [Di X5];simp only [Ab];refine Ou (p:=xgX l) T5 rfl f5 (by omega) fun A6 T6 k6 n6 f6=>?_;rw [Di T6];simp only [Ab];refine hk A6 v5 (q5.keeps k6 (by simp;omega)) (s5'.keeps k6 (fun y hy=>by have:=hFlt y hy;simp;omega)) ?_ (by omega) f6;have g3:AA A A3 [q]:=(((Grow.made m1 hf).trans g2).trans (.made m3 g2.Ao)).keeps.more (by simp);exact ((g3.trans k4 (by simp;omega)).trans k5 (fun x hx=>.inl hx)).trans k6 (by simp)
noncomputable def L1(W0:World)(m0:Inj Tryz.prog)(Q:Value→AW→Prop)(d0 d2 d6:Value)(A:AW):Prop:=Aa (Ad Tryz.prog A 38 d6) fun t72=>Wc Tryz.prog Af W0 m0 76 [t72] A fun t73 At73=>Aa (Ar t73 0) fun t74=>Aa (Ar t73 1) fun t75=>Aa (Ah Tryz.prog .neq 28 (.tmp 111) (.const (.int .i64 0)) t75 (.int .i64 0)) fun t76=>Ae t76 (Aa (Aw Tryz.prog 38 []) fun t77=>AQ (Am Tryz.prog At73 38 d2 t77) fun At78=>Aa (Ad Tryz.prog At78 38 d2) fun t79=>Q (.tuple ⟨[t79,(.int .i64 250)]⟩) At78) (Aa (Ah Tryz.prog .neq 9 (.tmp 114) (.tmp 115) t74 d0) fun t80=>Ae t80 (Aa (Aw Tryz.prog 38 []) fun t81=>AQ (Am Tryz.prog At73 38 d2 t81) fun At82=>Aa (Ad Tryz.prog At82 38 d2) fun t83=>Q (.tuple ⟨[t83,(.int .i64 250)]⟩) At82) (Aa (Ad Tryz.prog At73 38 d6) fun t84=>AQ (Am Tryz.prog At73 38 d2 t84) fun At85=>Aa (Ad Tryz.prog At85 38 d2) fun t86=>Q (.tuple ⟨[t86,(.int .i64 0)]⟩) At85))
theorem Jq(ht:Go.Abs.AF A t zs 38)(hz:zs.length=7)(hf:AB A)(hA:A.next≤Ak)(hk:∀ A',AA A A' [t]→A'.next=A.next→AB A'→Q (.tuple ⟨[W1,.int .i64 250]⟩) A'):
  Aa (Aw Tryz.prog 38 []) fun t77=>AQ (Am Tryz.prog A 38 (.pointer (some ⟨t,0,none⟩)) t77) fun At78=>Aa (Ad Tryz.prog At78 38 (.pointer (some ⟨t,0,none⟩))) fun t79=>Q (.tuple ⟨[t79,(.int .i64 250)]⟩) At78:=by
 rw [AbU];simp only [Ab];refine Ot (kd:=0) (xa:=0) (no:=0) (x:=x0) (sv:=.slice none 0 0) ht hz rfl hf hA fun A' t' k n f=>?_;rw [Ea t' rfl];simp only [Ab];exact hk A' k n f
theorem Tf {s:ByteArray} {x:Nm} {l:List Nm} (hkd:kd<256) (hxa:xa<256) (hn0:no<65536) (hxf:x.f<4294967296) (hlf:∀ p∈l,p.f<4294967296)
  (hf:AB A) (hg0:Glb A) (hA:A.next+40000<Ak) (ht:Go.Abs.AF A t zs 38) (hz:zs.length=7) (hq:Go.Abs.AF A q (Cl kd xa no x sv) 38) (hl:RdN A sv l F) (hlen1:l.length≤1) (htq:t≠q) (htF:t∉F)
  (hok:Kr kd xa no x l=0→GG kd xa no x l=s.data.toList→∀ A',AA A A' [t]→A'.next≤A.next+20000→AB A'→RdN A' sv l F→Q (.tuple ⟨[EB kd xa no x sv,.int .i64 0]⟩) A')
  (hno:¬ (Kr kd xa no x l=0∧GG kd xa no x l=s.data.toList)→∀ A',AA A A' [t]→A'.next≤A.next+20000→AB A'→Q (.tuple ⟨[W1,.int .i64 250]⟩) A'):
  L1 W0 m0 Q (.string s) (.pointer (some ⟨t,0,none⟩)) (.pointer (some ⟨q,0,none⟩)) A:=by
 unfold L1;rw [Ea hq hl.one.2];simp only [Ab];refine Adu hkd hxa hn0 hxf hlf hf hg0 (by omega) hl hlen1 fun A1 g1=>?_;have n1:=g1.next;have t1:=ht.keeps g1.keeps (by simp);have q1:=hq.keeps g1.keeps (by simp);have l1:=hl.keeps g1.keeps (by simp);have K1:AA A A1 [t]:=g1.keeps.more (by simp);have one:=hl.one;simp only [NH,NG,Ab,Bn,Nd,AU];refine ⟨fun he=>Jq t1 hz g1.Ao (by omega) fun A2 k2 n2 f2=>hno (fun h=>he h.1) A2 (K1.trans k2 (fun y hy=>.inl hy)) (by omega) f2,fun he=>?_⟩;refine Ai.2 ⟨fun hb=>Jq t1 hz g1.Ao (by omega) fun A2 k2 n2 f2=>hno (fun h=>?_) A2 (K1.trans k2 (fun y hy=>.inl hy)) (by omega) f2,fun hb=>?_⟩
 ·rw [h.2] at hb;simp at hb
 ·have hs:GG kd xa no x l=s.data.toList:=by simpa using hb
  rw [Ea q1 one.2];simp only [Ab];refine Ot t1 hz one.1 g1.Ao (by omega) fun A2 t2 k2 n2 f2=>?_;rw [Ea t2 one.2];simp only [Ab];exact hok he hs A2 (K1.trans k2 (fun y hy=>.inl hy)) (by omega) f2 (l1.keeps k2 (fun y hy=>by simp;intro h0;subst h0;exact htF hy))
end
variable {n:Nat} {r:List UInt8} {A:AW} {K:Value→AW→Prop}
def dB(s:List UInt8):List UInt8:=s.take (s.length-4)
def dkd(b:List UInt8):Nat:=(b.getD 0 0).toNat
def dxa(b:List UInt8):Nat:=(b.getD 1 0).toNat
def dno(b:List UInt8):Nat:=(b.getD 2 0).toNat*256+(b.getD 3 0).toNat
def dR(b:List UInt8):List UInt8:=b.drop 4
def pn:Nat→List Nm→List UInt8→List Nm
 |0,acc,_=>acc
 |n+1,acc,r=>if r.length=0∨200<acc.length then acc else if xgK r=0 then acc++[xgX r] else pn n (acc++[xgX r]) (r.drop (xgK r))
def dX(b:List UInt8):Nm:=if dkd b=5∨dkd b=21 then x0 else xgX (dR b)
def dL(b:List UInt8):List Nm:=if dkd b=21∧2≤(dR b).length then pn (((dR b).getD 0 0).toNat*256+((dR b).getD 1 0).toNat) [] ((dR b).drop 2) else []
noncomputable def J8(s:List UInt8):Prop:=DF s=true∧4≤(dB s).length∧Kr (dkd (dB s)) (dxa (dB s)) (dno (dB s)) (dX (dB s)) (dL (dB s))=0∧GG (dkd (dB s)) (dxa (dB s)) (dno (dB s)) (dX (dB s)) (dL (dB s))=s
theorem ZI(b:List UInt8):dkd b<256:=(b.getD 0 0).toNat_lt
theorem ZG(b:List UInt8):dxa b<256:=(b.getD 1 0).toNat_lt
theorem ZH(b:List UInt8):dno b<65536:=by
 have h1:(b.getD 2 0).toNat<256:=(b.getD 2 0).toNat_lt;have h2:(b.getD 3 0).toNat<256:=(b.getD 3 0).toNat_lt;unfold dno;omega
theorem XQ(l:List UInt8):(xgX l).f<4294967296:=by
 unfold xgX;split
 ·exact Yo 4 (l,false)
 ·show 0<4294967296
  decide
theorem Afl(b:List UInt8):(dX b).f<4294967296:=by
 unfold dX;split
 ·show 0<4294967296
  decide
 ·exact XQ _
theorem OJ{acc:List Nm}(h:n=0∨r.length=0∨200<acc.length):pn n acc r=acc:=by
 cases n with
 |zero=>rfl
 |succ n=>
  unfold pn;rw [if_pos (by omega)]
theorem WR{acc:List Nm}(h0:0<n)(h1:r.length≠0)(h2:acc.length≤200)(h3:xgK r=0):pn n acc r=acc++[xgX r]:=by
 cases n with
 |zero=>omega
 |succ n=>
  unfold pn;rw [Ff (by omega),if_pos h3]
theorem SK{acc:List Nm}(h0:0<n)(h1:r.length≠0)(h2:acc.length≤200)(h3:xgK r≠0):pn n acc r=pn (n-1) (acc++[xgX r]) (r.drop (xgK r)):=by
 cases n with
 |zero=>omega
 |succ n=>
  conv=>lhs;unfold pn
  rw [Ff (by omega),Ff h3];rfl
section
variable {W0:World} {m0:Inj Tryz.prog}
theorem Oj{a:Addr}(h:Wc Tryz.prog Af W0 m0 73 [.pointer (some a)] A K):anW Tryz.prog Af W0 m0 (EL Tryz.prog Af A (.func (.func 73) ⟨[]⟩ ⟨[.pointer (some a)]⟩) []) K:=
 GL (AbH A a) rfl h
theorem Aaa {s : ByteArray} (hf : AB A) (hg0 : Glb A) (hA : A.next + 90000 < Ak) (hs : s.data.toList.length < 700000) (hd1 : (dL (dB s.data.toList)).length ≤ 1)
    (hok : ∀ A' sv F, J8 s.data.toList → Grow A A' 60000 → RdN A' sv (dL (dB s.data.toList)) F → (∀ y ∈ F, A.next ≤ y) → K (.tuple ⟨[EB (dkd (dB s.data.toList)) (dxa (dB s.data.toList)) (dno (dB s.data.toList)) (dX (dB s.data.toList)) sv, .int .i64 0]⟩) A')
    (hno : ∀ A', ¬ J8 s.data.toList → Grow A A' 60000 → K (.tuple ⟨[W1, .int .i64 250]⟩) A') : Wc Tryz.prog Af W0 m0 34 [.string s] A K := by
  obtain ⟨b, hb⟩ : ∃ b, dB s.data.toList = b := ⟨_, rfl⟩
  have hbl : b.length ≤ s.data.toList.length := by rw [← hb]; unfold dB; rw [List.length_take]; omega
  have hG : J8 s.data.toList ↔ DF s.data.toList = true ∧ 4 ≤ b.length ∧ Kr (dkd b) (dxa b) (dno b) (dX b) (dL b) = 0 ∧ GG (dkd b) (dxa b) (dno b) (dX b) (dL b) = s.data.toList := by unfold J8; rw [hb]
  rw [hb] at hok hd1
  have h0 : 1 < A.next := hg0.lt
  have hend : ∀ {A' : AW} {q : Nat} {sv : Value} {F : List Nat} {zs : List Value}, DF s.data.toList = true → 4 ≤ b.length → AA A A' [] → AB A' → A'.next ≤ A.next + 30000 → Go.Abs.AF A' A.next zs 38 → zs.length = 7 → Go.Abs.AF A' q (Cl (dkd b) (dxa b) (dno b) (dX b) sv) 38 →
      RdN A' sv (dL b) F → (∀ p ∈ dL b, p.f < 4294967296) → A.next ≠ q → A.next ∉ F → (∀ y ∈ F, A.next ≤ y) → L1 W0 m0 K (.string s) (.pointer (some ⟨A.next, 0, none⟩)) (.pointer (some ⟨q, 0, none⟩)) A' := by
    intro A' q sv F zs he h4 k f n ht hz hq hl hlf hne hnF hF
    refine Tf (ZI b) (ZG b) (ZH b) (Afl b) hlf f (hg0.keeps k (by simp)) (by omega) ht hz hq hl hd1 hne hnF (fun e1 e2 A2 k2 n2 f2 l2 => ?_) fun hn A2 k2 n2 f2 => ?_
    · exact hok A2 sv F (hG.2 ⟨he, h4, e1, e2⟩) ⟨k.trans k2 (by simp), f2, by omega⟩ l2 hF
    · exact hno A2 (fun h => hn (hG.1 h).2.2) ⟨k.trans k2 (by simp), f2, by omega⟩
  let I : Nat → Nat → List Value → AW → Prop := fun g id vals A' => id = 0 ∧ ∃ (n B1 B2 : Nat) (v sv : Value) (r : List UInt8) (acc : List Nm) (Fr Fa : List Nat) (zs : List Value),
    vals = [.string s, .pointer (some ⟨A.next, 0, none⟩), .pointer (some ⟨B1, 0, none⟩), .pointer (some ⟨B2, 0, none⟩), .func (.func 73) ⟨[]⟩ ⟨[.pointer (some ⟨B2, 0, none⟩)]⟩, .int .i64 (n : Int)] ∧ n ≤ 65535 ∧ acc.length ≤ 201 ∧ pn n acc r = dL b ∧ (∀ p ∈ acc, p.f < 4294967296) ∧
    zs.length = 7 ∧ Go.Abs.AF A' A.next zs 38 ∧ Go.Abs.AF A' B1 (Cl (dkd b) (dxa b) (dno b) (dX b) sv) 38 ∧ Go.Abs.AF A' B2 [v] 52 ∧ RdS 5 A' v r Fr ∧ Nn A' sv acc Fa ∧ (A.next < B1 ∧ B1 < B2) ∧ (∀ y ∈ Fr, A.next < y ∧ y < B1) ∧ (∀ y ∈ Fa, B2 < y) ∧ r.length < 700000 ∧
    AA A A' [] ∧ AB A' ∧ A'.next ≤ A.next + 100 + 60 * acc.length ∧ DF s.data.toList = true ∧ 4 ≤ b.length ∧ g = n
  refine w34 _ _ (c34 (I := I) ?_) ?_
  · rintro g id vals A' d ⟨rfl, n, B1, B2, v, sv, r, acc, Fr, Fa, zs, rfl, hn, hac, hpn, hpf, hz, ht, hq, hr, hv, ho, ⟨hB1, hB2⟩, hFr, hFa, hrl, k, f, nx, he, h4, rfl⟩ hd
    rw [Abn]; unfold JH
    simp only [L34, Mc, Mn, Li, and_true] at hd
    obtain ⟨d0, d2, d6, d7, d8, d11⟩ := hd
    have one := ho.rd.one
    have onev := hv.rd.one
    have stop : pn g acc r = acc → L1 W0 m0 K (.string s) (.pointer (some ⟨A.next, 0, none⟩)) (.pointer (some ⟨B1, 0, none⟩)) A' := fun hp => by
      have hac' : acc = dL b := hp.symm.trans hpn
      have hl := ho.rd
      rw [hac'] at hl hpf
      exact hend he h4 k f (by omega) ht hz hq hl hpf (by omega) (fun hm => by have := hFa _ hm; omega) (fun y hy => by have := hFa y hy; omega)
    simp only [d0, d2, d6, d7, d8, d11, Cy, Ab, Ap]
    refine ⟨fun hgt => ?_, fun hle => stop (OJ (.inl (by omega)))⟩
    simp only [KY, Ag hr.row, cellOf, onev.2, Cf, hv.rd.len tb, Cy, Ab, Ap]
    refine ⟨fun hrgt => ?_, fun hle => stop (OJ (.inr (.inl (by omega))))⟩
    have hsv : A'.cell? ⟨B1, 6, none⟩ = some sv := by rw [Ag hq.row]; simp only [Cl, cellOf, one.2, Cf]
    simp only [DT, E8, Nat.zero_add, hsv, ho.rd.len, C6, Ab, Ap]
    refine ⟨fun hle2 => ?_, fun hgt2 => stop (OJ (.inr (.inr (by omega))))⟩
    refine Oj (Z5 hr hv (fun hm => by have := hFr _ hm; omega) f (by omega) (by omega) fun A2 v2 hr2 hv2 k2 n2 f2 => ?_)
    have l2 := k2.next
    have hq2 := hq.keeps k2 (by simp; omega)
    have ht2 := ht.keeps k2 (by simp; omega)
    have ho2 := ho.keeps k2 (fun y hy => by have := hFa y hy; simp; omega)
    have hsv2 : A2.cell? ⟨B1, 6, none⟩ = some sv := by rw [Ag hq2.row]; simp only [Cl, cellOf, one.2, Cf]
    simp only [hsv2, Ab, BD]
    refine Wi f2 (by omega) fun A3 m3 => ?_
    have n3 := m3.next
    have k3 := m3.keeps f2
    refine TM m3.row ?_
    have hr3 := hr2.keeps k3 (by simp)
    have hv3 := hv2.keeps k3 (by simp)
    have hq3 := hq2.keeps k3 (by simp)
    have ht3 := ht2.keeps k3 (by simp)
    have ho3 := ho2.keeps k3 (by simp)
    have hsv3 : A3.cell? ⟨B1, 6, none⟩ = some sv := by rw [Ag hq3.row]; simp only [Cl, cellOf, one.2, Cf]
    have hB2lt := hr.lt
    simp only [DT, E8, Nat.zero_add, hsv3, Ab, BD]
    refine ho3.append m3.Bk m3.Ao (by omega) (by omega) fun sv4 A4 Fa4 ho4 k4 hFa4 n4 f4 => ?_
    have one4 := ho4.rd.one
    have l4 := k4.next
    have hFn : ∀ y ∈ Fa, B2 < y := hFa
    have hr4 := hr3.keeps k4 (fun hm => by have := hFa _ hm; omega)
    have hv4 := hv3.keeps k4 (fun y hy hm => by have := hFa _ hm; have := hFr y hy; omega)
    have hq4 := hq3.keeps k4 (fun hm => by have := hFa _ hm; omega)
    have ht4 := ht3.keeps k4 (fun hm => by have := hFa _ hm; omega)
    have hFa4' : ∀ y ∈ Fa4, B2 < y := fun y hy => by
      rcases hFa4 y hy with h | h
      · exact hFa y h
      · omega
    obtain ⟨o4, c4, hx4⟩ := ho4.rd.slice
    refine hq4.store f4 (by omega) (UX _ _ _) (by rw [hx4]; rfl) (by simp [Cl]) (by rw [hx4]; rfl) fun A5 hq5 k5 n5 f5 => ?_
    have hq5 : Go.Abs.AF A5 B1 (Cl (dkd b) (dxa b) (dno b) (dX b) sv4) 38 := by rw [hx4] at hq5 ⊢; exact hq5
    have hr5 := hr4.keeps k5 (by simp; omega)
    have hv5 := hv4.keeps k5 (fun y hy => by have := hFr y hy; simp; omega)
    have ht5 := ht4.keeps k5 (by simp; omega)
    have ho5 := ho4.keeps k5 (fun y hy => by have := hFa4' y hy; simp; omega)
    have onev5 := hv5.rd.one
    have K5 : AA A A5 [] := (((k.trans k2 (by simp; omega)).trans k3 (by simp)).trans k4 (fun y hy => .inr (by have := hFa y hy; omega))).trans k5 (by simp; omega)
    have hpf5 : ∀ p ∈ acc ++ [xgX r], p.f < 4294967296 := fun p hp => by
      rcases Mz.1 hp with h | h
      · exact hpf p h
      · rw [Ms.1 h]; exact XQ r
    have hac5 : (acc ++ [xgX r]).length = acc.length + 1 := by simp
    have hkl := Un r
    simp only [KY, Ag hr5.row, cellOf, onev5.2, Cf, hv5.rd.len tb, List.length_drop, Bh, Ab, Ay]
    refine ⟨fun heq => ?_, fun hne => ?_⟩
    · have hac' : acc ++ [xgX r] = dL b := (WR (by omega) (by omega) (by omega) (by omega)).symm.trans hpn
      have hl := ho5.rd
      rw [hac'] at hl hpf5
      exact hend he h4 K5 f5 (by omega) ht5 hz hq5 hl hpf5 (by omega) (fun hm => by have := hFa4' _ hm; omega) (fun y hy => by have := hFa4' y hy; omega)
    · simp only [Gy, Ab]
      rw [wrap_i64 (by omega) (by omega)]
      refine AE.2 ⟨g - 1, by omega, rfl, g - 1, B1, B2, v2, sv4, r.drop (xgK r), acc ++ [xgX r], Fr, Fa4, zs, ?_, by omega, by omega, ?_, hpf5, hz, ht5, hq5, hr5, hv5, ho5, ⟨hB1, hB2⟩, hFr, hFa4', by rw [List.length_drop]; omega, K5, f5, by omega, he, h4, rfl⟩
      · rw [show (g : Int) - 1 = ((g - 1 : Nat) : Int) by omega]
      · rw [← hpn, SK (n := g) (acc := acc) (r := r) (by omega) (by omega) (by omega) (by omega)]
  · rw [e34]; unfold Ro
    refine AX LW hf (by omega) rfl fun A1 m1 => ?_
    have n1 := m1.next
    have k1 := m1.keeps hf
    have T1 : Go.Abs.AF A1 A.next (Cl 0 0 0 x0 (.slice none 0 0)) 38 := m1.Bk
    refine Sa m1.Ao (by omega) fun A2 g2 s2 => ?_
    have n2 := g2.next
    have l2 := g2.le
    have T2 := T1.keeps g2.keeps (by simp)
    have g02 := (Grow.made m1 hf).trans g2
    refine Adw s2 (hg0.keeps g02.keeps (by simp)) g2.Ao (by omega) (by omega) (fun he A3 v F3 g3 s3 hF3 => ?_) fun he => ?_
    · have n3 := g3.next
      have l3 := g3.le
      have T3 := T2.keeps g3.keeps (by simp)
      have g03 := g02.trans g3
      have s3 : RdS 5 A3 v b F3 := by rw [← hb]; exact s3
      simp only [NH, NG, BC, Ab, s3.rd.len tb, Bb]
      refine Ai.2 ⟨fun h => by simp at h, fun _ => Ap.2 ⟨fun hlt => ?_, fun hge => ?_⟩⟩
      · exact Jq T3 rfl g3.Ao (by omega) fun A4 k4 n4 f4 => hno A4 (fun h => by have := (hG.1 h).2.1; omega) ((g03.own k4 (by simp) (m := 0) (by omega) f4).more (by omega))
      · have h4 : 4 ≤ b.length := by omega
        obtain ⟨c0, c1, c2, c3, rest, hbe⟩ : ∃ c0 c1 c2 c3 rest, b = c0 :: c1 :: c2 :: c3 :: rest := by
          match b, h4 with
          | c0 :: c1 :: c2 :: c3 :: rest, _ => exact ⟨c0, c1, c2, c3, rest, rfl⟩
        have ekd : dkd b = c0.toNat := by rw [hbe]; rfl
        have exa : dxa b = c1.toNat := by rw [hbe]; rfl
        have eno : dno b = c2.toNat * 256 + c3.toNat := by rw [hbe]; rfl
        have eR : dR b = rest := by rw [hbe]; rfl
        have hc0 : c0.toNat < 256 := c0.toNat_lt
        have hc2 : c2.toNat < 256 := c2.toNat_lt
        have hc3 : c3.toNat < 256 := c3.toNat_lt
        refine AX LW g3.Ao (by omega) rfl fun A4 m4 => ?_
        have n4 := m4.next
        have k4 := m4.keeps g3.Ao
        refine TL m4.row ?_
        have s4 := s3.keeps k4 (by simp)
        have T4 := T3.keeps k4 (by simp)
        have F3lt := s3.rd.lt
        obtain ⟨p0, a0, b0⟩ := s4.rd.at tb (i := 0) (b := c0) (by rw [hbe]; rfl)
        obtain ⟨p1, a1, b1⟩ := s4.rd.at tb (i := 1) (b := c1) (by rw [hbe]; rfl)
        obtain ⟨p2, a2, b2⟩ := s4.rd.at tb (i := 2) (b := c2) (by rw [hbe]; rfl)
        obtain ⟨p3, a3, b3⟩ := s4.rd.at tb (i := 3) (b := c3) (by rw [hbe]; rfl)
        have a0 : Aj Tryz.prog 52 v (.int .i64 0) = some (.pointer (some p0)) := a0
        have a1 : Aj Tryz.prog 52 v (.int .i64 1) = some (.pointer (some p1)) := a1
        have a2 : Aj Tryz.prog 52 v (.int .i64 2) = some (.pointer (some p2)) := a2
        have a3 : Aj Tryz.prog 52 v (.int .i64 3) = some (.pointer (some p3)) := a3
        simp only [a0, a1, a2, a3, b0, b1, b2, b3, Ab, Xu, AR]
        rw [wrap_u16 (n := (c2.toNat : Int)) (by omega) (by omega), wrap_u16 (n := (c3.toNat : Int)) (by omega) (by omega), Pa (by decide)]
        simp only [Ab]
        rw [Sf, AeA hc2 hc3]
        simp only [Ab]
        rw [AbV]
        simp only [Ab]
        refine Ot (kd := c0.toNat) (xa := c1.toNat) (no := c2.toNat * 256 + c3.toNat) (x := x0) (sv := .slice none 0 0) m4.Bk rfl rfl m4.Ao (by omega) fun A5 q5 k5 n5 f5 => ?_
        have s5 := s4.keeps k5 (fun y hy => by have := F3lt y hy; simp; omega)
        have T5 := T4.keeps k5 (by simp; omega)
        obtain ⟨v6, hv6, s6⟩ := s5.from tb (n := 4) h4
        have hv6 : Cc Tryz.prog A5 52 v (some (.int .i64 4)) none none = some v6 := hv6
        have s6 : RdS 5 A5 v6 rest F3 := by rw [← eR]; exact s6
        simp only [hv6, Ab]
        refine AX YC f5 (by omega) rfl fun A6 m6 => ?_
        have n6 := m6.next
        have k6 := m6.keeps f5
        have s6' := s6.keeps k6 (by simp)
        have T6 := T5.keeps k6 (by simp)
        have q6 := q5.keeps k6 (by simp)
        obtain ⟨o6, c6, hx6⟩ := s6.rd.slice
        refine m6.Bk.store m6.Ao (by omega) (PF _ _ _) (by rw [hx6]; rfl) (by simp [Value.cells]) (by rw [hx6]; rfl) fun A7 r7 k7 n7 f7 => ?_
        have r7 : Go.Abs.AF A7 A5.next [v6] 52 := by rw [hx6] at r7 ⊢; exact r7
        have s7 := s6'.keeps k7 (fun y hy => by have := F3lt y hy; simp; omega)
        have T7 := T6.keeps k7 (by simp; omega)
        have q7 := q6.keeps k7 (by simp; omega)
        have one7 := s7.rd.one
        have K7 : Grow A A7 40 := by
          have a4 := (g03.trans (.made m4 g3.Ao)).own k5 (by simp; omega) (m := 0) (by omega) f5
          exact ((a4.trans (.made m6 f5)).own k7 (by simp; omega) (m := 0) (by omega) f7).more (by omega)
        have hrl : rest.length < 700000 := by have : b.length = rest.length + 4 := by rw [hbe]; rfl
                                              omega
        have hF3' : ∀ y ∈ F3, A.next < y ∧ y < A3.next := fun y hy => ⟨by have := hF3 y hy; omega, F3lt y hy⟩
        simp only [Cw, DV, Ag q7.row, Cl, cellOf, Au, Cf, Ab]
        have q7 : Go.Abs.AF A7 A3.next (Cl (dkd b) (dxa b) (dno b) x0 (.slice none 0 0)) 38 := by rw [ekd, exa, eno]; exact q7
        refine YH (kd := c0.toNat) hc0 fun kk an hkk => ?_
        rw [← ekd] at hkk
        simp only [NH, NG, Ab, Bn, Bh, AU]
        refine ⟨fun hk5 => ?_, fun hk5 => ?_⟩
        · have hnd : ¬ (dkd b = 5 ∨ dkd b = 21) := by omega
          have eX : dX b = xgX rest := by unfold dX; rw [Ff hnd, eR]
          have eL : dL b = [] := by unfold dL; rw [Ff (by omega)]
          refine Oj (Z5 r7 s7 (fun hm => by have := hF3' _ hm; omega) f7 (by omega) (by omega) fun A8 v8 r8 s8 k8 n76 f8 => ?_)
          have l8 := k8.next
          have q8 := q7.keeps k8 (by simp; omega)
          have T76 := T7.keeps k8 (by simp; omega)
          simp only [Er, Ab, Nat.zero_add]
          refine q8.store f8 (by omega) (HO _ _ _) rfl (by simp [Cl, Value.cells, Nm.cells]) rfl fun A9 q9 k9 n9 f9 => ?_
          have q9 : Go.Abs.AF A9 A3.next (Cl (dkd b) (dxa b) (dno b) (dX b) (.slice none 0 0)) 38 := by rw [eX]; exact q9
          have g9 : Grow A A9 100 := ((K7.own k8 (by simp; omega) (m := 45) (by omega) f8).own k9 (by simp; omega) (m := 0) (by omega) f9).more (by omega)
          exact hend he h4 g9.keeps f9 (by have := g9.next; omega) (T76.keeps k9 (by simp; omega)) rfl q9 (by rw [eL]; exact .nil _ _ _) (by rw [eL]; simp) (by omega) (by simp) (by simp)
        · have hnd : dkd b = 5 ∨ dkd b = 21 := by omega
          have eX : dX b = x0 := by unfold dX; rw [if_pos hnd]
          rw [← eX] at q7
          have short : ¬ (dkd b = 21 ∧ 2 ≤ (dR b).length) → L1 W0 m0 K (.string s) (.pointer (some ⟨A.next, 0, none⟩)) (.pointer (some ⟨A3.next, 0, none⟩)) A7 := fun hn => by
            have eL : dL b = [] := by unfold dL; rw [Ff hn]
            exact hend he h4 K7.keeps f7 (by have := K7.next; omega) T7 rfl q7 (by rw [eL]; exact .nil _ _ _) (by rw [eL]; simp) (by omega) (by simp) (by simp)
          refine Ai.2 ⟨fun han => ?_, fun han => short (by rw [han] at hkk; simp at hkk; omega)⟩
          have h21 : dkd b = 21 := by rw [han] at hkk; simp at hkk; omega
          simp only [KY, Ag r7.row, cellOf, one7.2, Cf, s7.rd.len tb, Ab, Dk, Ap]
          refine ⟨fun hge2 => ?_, fun hlt2 => short (by rw [eR]; omega)⟩
          obtain ⟨e0, e1, rr, hre⟩ : ∃ e0 e1 rr, rest = e0 :: e1 :: rr := by
            match rest, hge2 with
            | e0 :: e1 :: rr, _ => exact ⟨e0, e1, rr, rfl⟩
            | [_], h => simp at h
            | [], h => simp at h
          have eL : dL b = pn (e0.toNat * 256 + e1.toNat) [] rr := by unfold dL; rw [if_pos ⟨h21, by rw [eR]; omega⟩, eR, hre]; rfl
          have he0 : e0.toNat < 256 := e0.toNat_lt
          have he1 : e1.toNat < 256 := e1.toNat_lt
          obtain ⟨p4, a4, b4⟩ := s7.rd.at tb (i := 0) (b := e0) (by rw [hre]; rfl)
          obtain ⟨p5, a5, b5⟩ := s7.rd.at tb (i := 1) (b := e1) (by rw [hre]; rfl)
          have a4 : Aj Tryz.prog 52 v6 (.int .i64 0) = some (.pointer (some p4)) := a4
          have a5 : Aj Tryz.prog 52 v6 (.int .i64 1) = some (.pointer (some p5)) := a5
          obtain ⟨v8, hv8, s8⟩ := s7.from tb (n := 2) (by omega)
          have hv8 : Cc Tryz.prog A7 52 v6 (some (.int .i64 2)) none none = some v8 := hv8
          have s8 : RdS 5 A7 v8 rr F3 := by rw [hre] at s8; exact s8
          simp only [a4, b4, Ab, V8, AR]
          rw [wrap_i64 (n := (e0.toNat : Int)) (by omega) (by omega), Pa (by decide)]
          simp only [Ag r7.row, cellOf, one7.2, Cf, a5, b5, Ab, V8, AR]
          rw [wrap_i64 (n := (e1.toNat : Int)) (by omega) (by omega), Sf, Aez he0 he1]
          simp only [Ag r7.row, cellOf, one7.2, Cf, hv8, Ab]
          obtain ⟨o8, c76, hx8⟩ := s8.rd.slice
          refine r7.store f7 (by omega) (PF _ _ _) (by rw [hx8]; rfl) (by simp) (by rw [hx8]; rfl) fun A8 r8 k8 n76 f8 => ?_
          have r8 : Go.Abs.AF A8 A5.next [v8] 52 := by rw [hx8] at r8 ⊢; exact r8
          have g8 := K7.own k8 (by simp; omega) (m := 0) (by omega) f8
          refine AE.2 ⟨e0.toNat * 256 + e1.toNat, rfl, e0.toNat * 256 + e1.toNat, A3.next, A5.next, v8, .slice none 0 0, rr, [], F3, [], Cl 0 0 0 x0 (.slice none 0 0), rfl, by omega, by simp, eL.symm, by simp, rfl, T7.keeps k8 (by simp; omega), q7.keeps k8 (by simp; omega), r8, s8.keeps k8 (fun y hy => by have := hF3' y hy; simp; omega), .nil _, ⟨by omega, by omega⟩, hF3', by simp, ?_, g8.keeps, f8, by have := g8.next; simp; omega, he, h4, rfl⟩
          rw [hre] at hrl
          simp at hrl
          omega
    · simp only [NH, NG, BC, Ab]
      refine Ai.2 ⟨fun _ => ?_, fun h => by simp at h⟩
      exact Jq T2 rfl g2.Ao (by omega) fun A4 k4 n4 f4 => hno A4 (fun h => by have := (hG.1 h).1; rw [he] at this; cases this) ((g02.own k4 (by simp) (m := 0) (by omega) f4).more (by omega))
end
variable {r:List UInt8} {g:ByteArray} {kd xa no:Nat}
def nmO(l:List UInt8):Nm:=⟨rnF (l,false),⟨⟨rnG (l,false)⟩⟩,⟨⟨rnB (l,false)⟩⟩⟩
theorem QJ(r:List UInt8):∀ a,r.foldl (fun a c=>a*256+c.toNat) a=a*256^r.length+EF r:=by
 induction r with
 |nil=>intro a;simp [EF]
 |cons c r ih=>
  intro a;show r.foldl (fun a c=>a*256+c.toNat) (a*256+c.toNat)=_;rw [ih]
  have:EF (c::r)=(0*256+c.toNat)*256^r.length+EF r:=by
   show r.foldl (fun a c=>a*256+c.toNat) (0*256+c.toNat)=_;rw [ih]
  rw [this,Lc,Nat.pow_succ,Nat.zero_mul,Nat.zero_add,Nat.add_mul,Nat.mul_assoc,Nat.mul_comm 256,Nat.add_assoc]
theorem Sg(c:UInt8)(r:List UInt8):EF (c::r)=c.toNat*256^r.length+EF r:=by
 show r.foldl (fun a c=>a*256+c.toNat) (0*256+c.toNat)=_;rw [QJ,Nat.zero_mul,Nat.zero_add]
theorem QK(n:Nat):∀ w,EF (be n w)=n%256^w
 |0=>by rw [Nat.pow_zero,Nat.mod_one];rfl
 |w+1=>by
  rw [be,Sg,BB,QK n w,Nat.pow_succ,Nat.mod_mul,Nat.add_comm,Nat.mul_comm (256^w)]
  congr 2
theorem YZ{a:List UInt8}:tk a.length (a++r,false)=(a,(r,false)):=by
 unfold tk;rw [Ff (by simp)]
 simp
theorem Yp{n w:Nat}(h:n<256^w):nm w (be n w++r,false)=(n,(r,false)):=by
 have:=YZ (a:=be n w) (r:=r)
 rw [BB] at this;unfold nm;rw [this];show (EF (be n w),(r,false))=_;rw [QK,Nat.mod_eq_of_lt h]
theorem UL(h:CW g<256):tx1 (tx g++r,false)=(g.data.toList,(r,false)):=by
 have e:tx g++r=be (CW g) 1++(g.data.toList++r):=by unfold tx;rw [Mw]
 have h1:nm 1 (tx g++r,false)=(CW g,(g.data.toList++r,false)):=by rw [e];exact Yp (by omega)
 unfold tx1;rw [h1];have hl:(g.data.toList++r).length=CW g+r.length:=by rw [Lq];rfl
 rw [Ff (by simp only [hl];simp)];have hs:CW g=g.data.toList.length:=rfl;simp only [hs,List.take_left,List.drop_left]
theorem AaP{f:Nat}{b:ByteArray}(hf:f<4294967296)(hg:CW g<256)(hb:CW b<256):
  rnF (xb f g b++r,false)=f∧rnG (xb f g b++r,false)=g.data.toList∧rnB (xb f g b++r,false)=b.data.toList∧rnS (xb f g b++r,false)=(r,false):=by
 have e:xb f g b++r=be f 4++(tx g++(tx b++r)):=by unfold xb;simp only [Mw]
 have h1:nm 4 (xb f g b++r,false)=(f,(tx g++(tx b++r),false)):=by rw [e];exact Yp (by omega)
 have h2:tx1 (nm 4 (xb f g b++r,false)).2=(g.data.toList,(tx b++r,false)):=by rw [h1];exact UL hg
 have h3:tx1 (tx1 (nm 4 (xb f g b++r,false)).2).2=(b.data.toList,(r,false)):=by rw [h2];exact UL hb
 unfold rnF rnG rnB rnS;rw [h3,h2,h1];exact ⟨rfl,rfl,rfl,rfl⟩
theorem XP{p:Nm}(hf:p.f<4294967296)(h:Ce p.g p.b=0):xgE (nb p++r)=0∧nmO (nb p++r)=p∧xgN (nb p++r)=(nb p).length∧0<(nb p).length:=by
 obtain ⟨h1,h2,h3⟩:=Fz h;obtain ⟨a1,a2,a3,a4⟩:=AaP (f:=p.f) (g:=p.g) (b:=p.b) (r:=r) hf (by omega) (by omega);unfold nb;refine ⟨?_,?_,?_,?_⟩
 ·unfold xgE;rw [a4,Ff (by simp),a2,a3];exact h
 ·unfold nmO;rw [a1,a2,a3]
 ·unfold xgN;rw [a4]
  simp
 ·rw [S9];omega
theorem Um{p:Nm}(hf:p.f<4294967296)(h:Ce p.g p.b=0):xgX (nb p++r)=p∧xgK (nb p++r)=(nb p).length:=by
 obtain ⟨a1,a2,a3,_⟩:=XP (r:=r) hf h;unfold xgX xgK;rw [if_pos a1,if_pos a1];exact ⟨a2,a3⟩
theorem RM(p:Nm)(l:List Nm):DB (p::l)=nb p++DB l:=by simp [DB]
theorem P0:∀ (l acc:List Nm),(∀ p∈l,p.f<4294967296∧Ce p.g p.b=0)→acc.length+l.length≤200→pn l.length acc (DB l)=acc++l
 |[],acc,_,_=>by simp [pn]
 |p::l,acc,h,hl=>by
  obtain ⟨hf,hx⟩:=h p (by simp);obtain ⟨_,_,_,h0⟩:=XP (r:=DB l) hf hx;obtain ⟨e1,e2⟩:=Um (r:=DB l) hf hx;rw [Lc] at hl;rw [RM,SK (n:=(p::l).length) (acc:=acc) (r:=nb p++DB l) (by simp) (by rw [Lq];omega) (by omega) (by omega),e1,e2,List.drop_left]
  have:=P0 l (acc++[p]) (fun q hq=>h q (by simp [hq])) (by simp;omega)
  rw [show (p::l).length-1=l.length by simp,this,Mw];rfl
theorem YB{x:Nm}(h:zi x=1):x=x0:=by
 unfold zi at h;split at h
 ·rename_i hs;exact GO.1 hs
 ·cases h
theorem Gu(b:List UInt8):dB (EC b)=b:=by
 unfold dB;rw [DG,Nat.add_sub_cancel];unfold EC;exact List.take_left
theorem Vz(kd xa no:Nat)(r:List UInt8):FP kd xa no++r=UInt8.ofNat kd::UInt8.ofNat xa::UInt8.ofNat (no/256)::UInt8.ofNat (no%256)::r:=by
 unfold FP;rw [be2];rfl
theorem Zf{z c n:Int}{len:Nat}(h:Lok kd xa no z c n len):kd<256∧xa<256∧no<65536:=by
 obtain ⟨h1,_,_,h4,h5,_⟩:=h;omega
theorem TE{x:Nm}{l:List Nm}(h:Kr kd xa no x l=0):Lok kd xa no (zi x) (Ce x.g x.b) (ni l) l.length:=by
 by_cases hl:Lok kd xa no (zi x) (Ce x.g x.b) (ni l) l.length
 ·exact hl
 ·rw [Hn hl] at h;cases h
theorem Si{x:Nm}{l:List Nm}(h:Lok kd xa no (zi x) (Ce x.g x.b) (ni l) l.length)(hxf:x.f<4294967296)(hlf:∀ p∈l,p.f<4294967296):
  4≤(CD kd xa no x l).length∧dkd (CD kd xa no x l)=kd∧dxa (CD kd xa no x l)=xa∧dno (CD kd xa no x l)=no∧dX (CD kd xa no x l)=x∧dL (CD kd xa no x l)=l:=by
 obtain ⟨hk,hx,hn⟩:=Zf h;obtain ⟨h200,hall⟩:=Kp h;obtain ⟨h1,h2,h3,_,_,_,_,h8,_⟩:=h;have e:CD kd xa no x l=UInt8.ofNat kd::UInt8.ofNat xa::UInt8.ofNat (no/256)::UInt8.ofNat (no%256)::(JR kd x++Gn kd l):=by
  unfold CD;rw [Mw,Vz]
 have ekd:dkd (CD kd xa no x l)=kd:=by
  rw [e];show (UInt8.ofNat kd).toNat=kd;rw [UInt8.toNat_ofNat'];omega
 have exa:dxa (CD kd xa no x l)=xa:=by
  rw [e];show (UInt8.ofNat xa).toNat=xa;rw [UInt8.toNat_ofNat'];omega
 have eno:dno (CD kd xa no x l)=no:=by
  rw [e];show (UInt8.ofNat (no/256)).toNat*256+(UInt8.ofNat (no%256)).toNat=no;rw [UInt8.toNat_ofNat',UInt8.toNat_ofNat'];omega
 have eR:dR (CD kd xa no x l)=JR kd x++Gn kd l:=by rw [e];rfl
 refine ⟨by rw [e];simp,ekd,exa,eno,?_,?_⟩
 ·unfold dX;rw [ekd,eR];by_cases hs:kd=5∨kd=21
  ·rw [if_pos hs,YB (h2 hs)]
  ·have h21:kd≠21:=fun e=>hs (.inr e);rw [Ff hs];unfold JR Gn;rw [Ff hs,Ff h21];exact (Um hxf (h3 (by omega))).1
 ·unfold dL;rw [ekd,eR];by_cases h21:kd=21
  ·have e2:JR kd x++Gn kd l=UInt8.ofNat (l.length/256)::UInt8.ofNat (l.length%256)::DB l:=by
    unfold JR Gn;rw [if_pos (.inr h21),if_pos h21,be2];rfl
   rw [e2,if_pos ⟨h21,by simp⟩];show pn ((UInt8.ofNat (l.length/256)).toNat*256+(UInt8.ofNat (l.length%256)).toNat) [] (DB l)=l;rw [UInt8.toNat_ofNat',UInt8.toNat_ofNat',show l.length/256%2^8*256+l.length%256%2^8=l.length by omega]
   have:=P0 l [] (fun p hp=>⟨hlf p hp,hall p hp⟩) (by simpa using h200)
   simpa using this
  ·rw [Ff (by omega)];exact (List.eq_nil_of_length_eq_zero (by omega)).symm
theorem VI{x:Nm}{l:List Nm}(h:Lok kd xa no (zi x) (Ce x.g x.b) (ni l) l.length)(hxf:x.f<4294967296)(hlf:∀ p∈l,p.f<4294967296):J8 (GG kd xa no x l):=by
 obtain ⟨a0,a1,a2,a3,a4,a5⟩:=Si h hxf hlf;rw [DS h];refine ⟨PK _,?_⟩;rw [Gu,a1,a2,a3,a4,a5,Fj h,DS h];exact ⟨a0,rfl,rfl⟩
end Go.Proofs.YtkjlldaddekegaaGreatDoor.Lt
namespace Go.Proofs.YtkjlldaddekegaaGreatDoor
open Go.Abs
variable {A:AW} {f b n:Nat} {cs:List Value} {s x:ByteArray} {K:Value→AW→Prop} {p:Prop}
theorem GI:∀ (l:List Nat) (A:AW),(∀ i∈l,i<Ak)→(∀ i,i∉l→(BZ l A).get i=A.get i)∧(BZ l A).next=A.next∧(BZ l A).fams=A.fams
 |[],A,_=>⟨fun _ _=>rfl,rfl,rfl⟩
 |x::r,A,hl=>by
  unfold BZ;split
  ·rename_i cs e fam base ro hx;obtain ⟨h1,h2,h3⟩:=GI r (A.put x (.row cs e fam base true)) fun i hi=>hl i (by simp [hi]);refine ⟨fun i hi=>?_,h2,h3⟩;simp only [Mk,not_or] at hi;rw [h1 i hi.2,AW.Cp A x i _ (hl x (by simp)),Ff hi.1]
  ·obtain ⟨h1,h2,h3⟩:=GI r A fun i hi=>hl i (by simp [hi]);exact ⟨fun i hi=>h1 i (fun h=>hi (by simp [h])),h2,h3⟩
theorem frozen(hf:AB A)(hm:∀ i∈A.members f,i<A.next∧∃ cs e b ro,A.get i=some (.row cs e f b ro))(hb:A.next≤Ak):
  AA A (BZ (A.members f) A) [f]∧(BZ (A.members f) A).next=A.next∧AB (BZ (A.members f) A):=by
 obtain ⟨h1,h2,h3⟩:=GI (A.members f) A fun i hi=>Nat.lt_of_lt_of_le (hm i hi).1 hb;refine ⟨⟨by rw [h2];exact Nl _,fun i o hi hlt hn=>?_,fun g _ _=>?_⟩,h2,⟨fun i hi=>?_,fun i hi=>?_⟩⟩
 ·rw [h1 i (fun hmem=>?_)]
  ·exact hi
  ·obtain ⟨_,cs,e,b,ro,hg⟩:=hm i hmem;rw [hg] at hi;cases hi;exact hn (by simp [SV])
 ·have:∀ B C:AW,B.fams=C.fams→B.members g=C.members g:=fun B C h=>by unfold AW.members;rw [h]
  exact this _ _ h3
 ·rw [h3];rw [h2] at hi;exact hf.fams i hi
 ·rw [h2] at hi;rw [h1 i (fun hmem=>by have:=(hm i hmem).1;omega)];exact hf.get i hi
theorem YY:Tryz.prog.underlying 330=some (.pointer 5):=by kernel_rfl
theorem AeC:(Nat.beq (Tryz.prog.cellsOf 5) 1&&sameLayout Tryz.prog Tryz.prog.depth 5 5)=true:=by kernel_rfl
theorem Ael{l:List UInt8}{b0:Nat}(h1:A.cells? ⟨b,0,none⟩ (n+1)=some (Az l))(h2:A.get b=some (.row cs 5 f b0 false))(hn:n+1<room):
  Ca Tryz.prog A .unsafeString [330,3] 9 [.pointer (some ⟨b,0,none⟩),.int .i64 (((n+1:Nat)):Int)]=.ok (.value (.string ⟨⟨l⟩⟩)) (BZ (A.members f) A):=by
 show (match A.cells? ⟨b,0,none⟩ (n+1),A.get b,Tryz.prog.underlying 330 with
  |some cs,some (.row _ e fam _ false),some (.pointer u)=>
   bif Nat.blt (n+1) room&&(Nat.beq (Tryz.prog.cellsOf e) 1&&sameLayout Tryz.prog Tryz.prog.depth e u) then
    (match Bv cs with
    |some l=>(R.ok (AN.value (Value.string ⟨⟨l⟩⟩)) (BZ (A.members fam) A):R AN)
    |none=>.fail "text")
   else .fail "text layout"
  |_,_,_=>.fail "text")=_
 rw [h1,h2,YY];simp only [Ax.2 hn,AeC,Bool.and_self,Ct,Gd]
theorem Ze(w:World)(t:ByteArray):Low w (Lib.bytesWorld w 5 t):=by
 refine ⟨⟨rfl,rfl,rfl,by rw [Lib.bytesWorld_size];omega,fun k hk=>Lib.bytesWorld_at_old w 5 t k (by omega)⟩,?_⟩;simp [Lib.bytesWorld,World.freeze,World.alloc,World.drew,-World.alloc_eq,-World.drew_eq]
theorem Vt(w:World):Low w w:=⟨⟨rfl,rfl,rfl,Nl _,fun _ _=>rfl⟩,Nl _⟩
def Aa1(n:Nat)(er:Value):Value:=.tuple #[.int .u64 (n:Int),er]
def Adf(er:Value):Prop:=er=.nilIface∨∃ c:Int,(c=1∨c=2)∧er=.iface 304 (.int .i64 c)
theorem Va(e:Lib.NumEnd Nat):∃ n er,Lib.uintTuple 304 e=Aa1 n er∧Adf er:=by
 cases e
 case ok n=>exact ⟨n,.nilIface,rfl,.inl rfl⟩
 case range=>exact ⟨18446744073709551615,_,rfl,.inr ⟨1,.inl rfl,rfl⟩⟩
 exact ⟨0,_,rfl,.inr ⟨2,.inr rfl,rfl⟩⟩
section
variable {W0:World} {m0:Inj Tryz.prog}
theorem Abr(s:ByteArray)(hs:s.data.toList.length<100000000):∃ n er,KC.Holds Tryz.prog W0 m0 ⟨212,[.string s,.int .i64 10,.int .i64 64],[Aa1 n er]⟩∧Adf er:=by
 have hsz:s.size=s.data.toList.length:=Lib.size_eq s;have key:∀ (v:Value),(∀ W,Calls Tryz.prog 212 #[.string s,.int .i64 10,.int .i64 64] W fun e W'=>e=.returned v∧Low W W')→KC.Holds Tryz.prog W0 m0 ⟨212,[.string s,.int .i64 10,.int .i64 64],[v]⟩:=fun v hv=>by
  refine ⟨fun h=>absurd h (show (212:Nat)≠DU by decide),fun _ m args' W _ _ ha=>?_⟩;cases ha with
  |cons h1 h2=>
   cases h2 with
   |cons h3 h4=>
    cases h4 with
    |cons h5 h6=>
     cases h6;cases h1;cases h3;cases h5;exact (hv W).mono fun e W' ⟨he,hl⟩=>⟨v,Ms.2 rfl,he,hl⟩
 by_cases h0:s.data.toList=[]
 ·have e:s=⟨#[]⟩:=by
   obtain ⟨⟨l⟩⟩:=s;have h0:l=[]:=h0;rw [h0]
  subst e;exact ⟨0,.iface 304 (.int .i64 2),key _ fun W=>(Any.internal_strconv_ParseUint_empty puX 10 64 W).mono fun e W' ⟨he,hw⟩=>⟨he,hw▸Vt W⟩,.inr ⟨2,.inr rfl,rfl⟩⟩
 ·have hne:s.size≠0:=by rw [hsz];exact fun h=>h0 (List.eq_nil_of_length_eq_zero h)
  obtain ⟨n,er,e,h1⟩:=Va (Lib.parseUint10 0 s.data.toList);exact ⟨n,er,key _ fun W=>(Any.internal_strconv_ParseUint_10_b64 puX s hne (by omega) W).mono fun e' W' ⟨he,hw⟩=>⟨by rw [he];exact congrArg _ e,hw▸Ze W s⟩,h1⟩
theorem Xx {dc:Nat} (hd:Go.Abs.AF A b cs 5) (hf:AB A) (hA:A.next≤Ak) (hn:n=s.data.toList.length) (hcs:s.data.toList.length=cs.length)
  (hk:∀ A' v,Go.Abs.AF A' b (Az s.data.toList) 5→AA A A' [b]→A'.next=A.next→AB A'→K v A'):Al (G0 Tryz.prog A 52 (.slice (some ⟨b,0,none⟩) n dc) (.string s)) K:=by
 have hlt:=hd.lt;obtain ⟨A',h1,w⟩:=DP (new:=Az s.data.toList) (off:=0) hd.row hd.mem (by rw [AV];omega) (EN _) (by omega);have hc:FE A 1 (least s.data.toList.length n) (.string s)=some (Az s.data.toList):=by
  rw [hn,N6,Nat.min_self];show some ((s.data.toList.take s.data.toList.length).map _)=_;rw [List.take_length];rfl
 have e:G0 Tryz.prog A 52 (.slice (some ⟨b,0,none⟩) n dc) (.string s)=.ok (.int .i64 (least s.data.toList.length n:Nat)) A':=by
  unfold G0;simp only [Lt.tb.sl,Lt.tb.sz,show MH (.string s)=some s.data.toList.length from rfl,hc,h1]
 rw [e];have hw:Ee cs 0 (Az s.data.toList)=Az s.data.toList:=by
  have:=EZ [] cs (Az s.data.toList) [] (by rw [AV];omega)
  simpa using this
 have hr:=w.row;rw [hw] at hr;exact AR.2 (hk A' _ ⟨hr,by rw [w.mem];exact hd.mem,by rw [w.next];exact hd.lt⟩ (w.keeps hd.row) w.next (w.Ao hf hd.row))
theorem XS(hl:s.data.toList.length<100000000)(hf:AB A)(hA:A.next+5<Ak)(hk:∀ A',Grow A A' 1→K (.string s) A'):Wc Tryz.prog Af W0 m0 298 [.string s] A K:=by
 have hroom:room=68719476736:=rfl;refine AdI _ _ Bu ?_;rw [AeI];refine Bx (OP _ _) (Bx Bh (Ay.2 ⟨fun h=>?_,fun h=>?_⟩))
 ·have e:s=⟨⟨[]⟩⟩:=by
   obtain ⟨⟨l⟩⟩:=s;have h0:l=[]:=List.eq_nil_of_length_eq_zero (by have h:((l.length:Nat):Int)=0:=h;omega);rw [h0]
  rw [e] at hk;exact hk A ((Grow.refl hf).more (by omega))
 ·obtain ⟨n,hn⟩:∃ n,s.data.toList.length=n+1:=⟨s.data.toList.length-1,by omega⟩;refine Bx (OP _ _) ?_;refine GQ Lt.tb hf (by omega) (Nl _) (by omega) fun A1 m1=>?_;have n1:=m1.next;refine Xx m1.Bk m1.Ao (by omega) rfl (by simp) fun A2 v r2 k2 n2 f2=>?_;have ix:Aj Tryz.prog 52 (.slice (some ⟨A.next,0,none⟩) s.data.toList.length s.data.toList.length) (.int .i64 0)=some (.pointer (some ⟨A.next,0,none⟩)):=by
   have:=Qi A.next 0 s.data.toList.length s.data.toList.length 0 .i64
   rw [Ax.2 (by omega),Ct] at this;exact this
  refine Bx ix (Bx (JQ _ _ _ _) ?_);have hc:A2.cells? ⟨A.next,0,none⟩ (n+1)=some (Az s.data.toList):=by
   rw [BH r2.row,List.drop_zero]
   have:=DW (Az s.data.toList) [] (Hs _)
   rw [List.append_nil,AV,hn] at this;exact this
  rw [hn];refine .inl ⟨_,_,Ael hc r2.row (by omega),?_⟩;obtain ⟨a1,a2,a3⟩:=frozen (f:=A.next) f2 (fun i hi=>by
   have:=r2.mem
   rw [this] at hi;rw [Ms.1 hi];exact ⟨r2.lt,_,_,_,_,r2.row⟩) (by omega)
  refine hk _ ⟨((m1.keeps hf).trans k2 fun x hx=>.inr (by rw [Ms.1 hx];exact Nl _)).trans a1 fun x hx=>.inr (by rw [Ms.1 hx];exact Nl _),a3,by omega⟩
end
structure GE (A:AW):Prop where
 syn:∃ (a f b:Nat) (ro:Bool),A.get 3=some (.row [.iface 348 (.pointer (some ⟨a,0,none⟩))] 214 f b ro)∧f<A.next∧f<10
 ran:∃ (a f b:Nat) (ro:Bool),A.get 4=some (.row [.iface 348 (.pointer (some ⟨a,0,none⟩))] 214 f b ro)∧f<A.next∧f<10
theorem GE.keeps{A':AW}{S:List Nat}(h:GE A)(k:AA A A' S)(hn:∀ x∈S,10≤x):GE A':=by
 obtain ⟨⟨a,f,b,ro,h1,h2,h3⟩,⟨a',f',b',ro',h1',h2',h3'⟩⟩:=h;have hle:=k.next;exact ⟨⟨a,f,b,ro,k.get 3 _ h1 (show f<A.next from h2) (fun hx=>by have:10≤f:=hn _ hx;omega),by omega,h3⟩,⟨a',f',b',ro',k.get 4 _ h1' (show f'<A.next from h2') (fun hx=>by have:10≤f':=hn _ hx;omega),by omega,h3'⟩⟩
theorem VD(A:AW)(a:Addr):Ad Tryz.prog A 214 (.pointer (some a))=A.cell? a:=by kernel_rfl
theorem ckY{r:Option Value}{v:Value}(h:r=some v)(hp:p):Aa r fun t=>eqW t v p:=⟨v,h,rfl,hp⟩
theorem S7(x y:ByteArray)(a:Nat):Aw Tryz.prog 332 [(0,.string x),(1,.string y),(2,.iface 348 (.pointer (some ⟨a,0,none⟩)))]=some (.agg ⟨[.string x,.string y,.iface 348 (.pointer (some ⟨a,0,none⟩))]⟩):=by kernel_rfl
def TV(x y:ByteArray)(a:Nat):List Value:=[.string x,.string y,.iface 348 (.pointer (some ⟨a,0,none⟩))]
theorem Qk{q a:Nat}{y:ByteArray}(h:A.get q=some (.row (TV x y a) 332 q 0 false))(hp:p):Cm (Bi Tryz.prog (fun _=>.agg ⟨TV x y a⟩) (.box 332 (.tmp 0))) A (.pointer (some ⟨q,0,none⟩)) p:=by
 refine ⟨⟨.row (TV x y a) 332,rfl,?_⟩,hp⟩;have ha:Go.Abs.sameAddr ⟨a,0,none⟩ ⟨a,0,none⟩=true:=by simp [Go.Abs.sameAddr]
 simp only [Cb,EH,h,TV,D9,C3,ha,DH,Bool.and_self,Option.isNone_none,Bool.true_and,Nat.beq_refl]
theorem ifP(n:Int):Eo Tryz.prog 304 (.int .i64 n)=some (.iface 304 (.int .i64 n)):=by kernel_rfl
theorem VY(xo yo:Operand):Ah Tryz.prog .eql 214 xo yo (.iface 304 (.int .i64 2)) (.iface 304 (.int .i64 2))=some (.bool true):=by kernel_rfl
theorem VZ(xo yo:Operand):Ah Tryz.prog .eql 214 xo yo (.iface 304 (.int .i64 1)) (.iface 304 (.int .i64 2))=some (.bool false):=by kernel_rfl
theorem V0(xo yo:Operand):Ah Tryz.prog .eql 214 xo yo (.iface 304 (.int .i64 1)) (.iface 304 (.int .i64 1))=some (.bool true):=by kernel_rfl
theorem Vo(n:Nat):Ah Tryz.prog .neq 214 (.tmp n) (.const .nilIface) .nilIface .nilIface=some (.bool false):=by kernel_rfl
theorem WW(xo yo:Operand)(c:Int):Ah Tryz.prog .neq 214 xo yo (.iface 304 (.int .i64 c)) .nilIface=some (.bool true):=by kernel_rfl
def SN(q:Nat):Value:=.iface 306 (.pointer (some ⟨q,0,none⟩))
theorem ifM(q:Nat):Eo Tryz.prog 306 (.pointer (some ⟨q,0,none⟩))=some (SN q):=by kernel_rfl
theorem Xq(n:Nat)(q:Nat):Ah Tryz.prog .eql 214 (.tmp n) (.const .nilIface) (SN q) .nilIface=some (.bool false):=by kernel_rfl
theorem Xp(n:Nat):Ah Tryz.prog .eql 214 (.tmp n) (.const .nilIface) .nilIface .nilIface=some (.bool true):=by kernel_rfl
section
variable {W0:World} {m0:Inj Tryz.prog}
theorem Aaf(hl:s.data.toList.length<100000000)(hg:GE A)(hf:AB A)(hA:A.next+8<Ak)(hk:∀ A' q,Grow A A' 2→K (.pointer (some ⟨q,0,none⟩)) A'):Wc Tryz.prog Af W0 m0 258 [.string x,.string s] A K:=by
 refine AdL _ _ _ Bu ?_;rw [AeL];obtain ⟨⟨a,f,b,ro,h1,h2,h3⟩,_⟩:=hg;have l0:∀ {B:AW},B.get 3=some (.row [.iface 348 (.pointer (some ⟨a,0,none⟩))] 214 f b ro)→Ad Tryz.prog B 214 (.pointer (some ⟨3,0,none⟩))=some (.iface 348 (.pointer (some ⟨a,0,none⟩))):=fun h=>by rw [VD,Ag h];rfl
 refine Bx (l0 h1) ?_;refine XS hl hf (by omega) fun A1 g1=>?_;have n1:=g1.next;have le1:=g1.le;have h6:=g1.keeps.get 3 _ h1 (show f<A.next from h2) (by simp);refine ckY (l0 h6) (BD.2 (Bx (S7 x s a) ?_));refine AH (cs:=TV x s a) g1.Ao (by omega) rfl fun A2 m2=>?_;have n2:=m2.next;have h7:=(m2.keeps g1.Ao).get 3 _ h6 (show f<A1.next by omega) (by simp);refine Qk m2.row (ckY (S7 x s a) (ckY (l0 h7) (BD.2 (BD.2 ?_))));exact hk A2 A1.next ((g1.trans (.made m2 g1.Ao)).more (by omega))
theorem Aae(hl:s.data.toList.length<100000000)(hg:GE A)(hf:AB A)(hA:A.next+8<Ak)(hk:∀ A' q,Grow A A' 2→K (.pointer (some ⟨q,0,none⟩)) A'):Wc Tryz.prog Af W0 m0 259 [.string x,.string s] A K:=by
 refine AdK _ _ _ Bu ?_;rw [AeK];obtain ⟨_,⟨a,f,b,ro,h1,h2,h3⟩⟩:=hg;have l0:∀ {B:AW},B.get 4=some (.row [.iface 348 (.pointer (some ⟨a,0,none⟩))] 214 f b ro)→Ad Tryz.prog B 214 (.pointer (some ⟨4,0,none⟩))=some (.iface 348 (.pointer (some ⟨a,0,none⟩))):=fun h=>by rw [VD,Ag h];rfl
 refine Bx (l0 h1) ?_;refine XS hl hf (by omega) fun A1 g1=>?_;have n1:=g1.next;have le1:=g1.le;have h6:=g1.keeps.get 4 _ h1 (show f<A.next from h2) (by simp);refine ckY (l0 h6) (BD.2 (Bx (S7 x s a) ?_));refine AH (cs:=TV x s a) g1.Ao (by omega) rfl fun A2 m2=>?_;have n2:=m2.next;have h7:=(m2.keeps g1.Ao).get 4 _ h6 (show f<A1.next by omega) (by simp);refine Qk m2.row (ckY (S7 x s a) (ckY (l0 h7) (BD.2 (BD.2 ?_))));exact hk A2 A1.next ((g1.trans (.made m2 g1.Ao)).more (by omega))
theorem Aam{v2 v3:Value}{c:Int}(hc:c=1∨c=2)(hl:s.data.toList.length<100000000)(hg:GE A)(hf:AB A)(hA:A.next+8<Ak)(hk:∀ A' q,Grow A A' 2→K (SN q) A'):Wc Tryz.prog Af W0 m0 213 [.string x,.string s,v2,v3,.iface 304 (.int .i64 c)] A K:=by
 refine AdR _ _ _ _ _ _ Bu ?_;rw [AeR];rcases hc with rfl | rfl
 ·refine Bx (ifP _) (Bx (VZ _ _) (Ai.2 ⟨fun h=>(by cases h),fun _=>?_⟩));refine Bx (ifP _) (Bx (V0 _ _) (Ai.2 ⟨fun _=>?_,fun h=>(by cases h)⟩));exact Aae hl hg hf hA fun A' q g=>Bx (ifM q) (hk A' q g)
 ·refine Bx (ifP _) (Bx (VY _ _) (Ai.2 ⟨fun _=>?_,fun h=>(by cases h)⟩));exact Aaf hl hg hf hA fun A' q g=>Bx (ifM q) (hk A' q g)
theorem Aau (hl:s.data.toList.length<100000000) (hg:GE A) (hf:AB A) (hA:A.next+8<Ak)
  (hk:∀ A' (n:Nat) er,Grow A A' 2→(er=.nilIface∨∃ q,er=SN q)→K (.tuple ⟨[.int .u64 (n:Int),er]⟩) A'):Wc Tryz.prog Af W0 m0 147 [.string s,.int .i64 10,.int .i64 64] A K:=by
 refine Ad7 _ _ _ _ Bu ?_;rw [Ae7];obtain ⟨n,er,hkc,her⟩:=Abr (W0:=W0) (m0:=m0) s hl;rcases her with rfl | ⟨c,hc,rfl⟩
 ·refine .inl ⟨_,by decide,hkc,rfl,fun v hv=>?_⟩;rw [Ms.1 hv];refine Bx (v:=.int .u64 (n:Int)) rfl (Bx (v:=.nilIface) rfl (Bx (Vo _) (Ai.2 ⟨fun h=>(by cases h),fun _=>?_⟩)));exact hk A n _ ((Grow.refl hf).more (by omega)) (.inl rfl)
 ·refine .inl ⟨_,by decide,hkc,by rcases hc with rfl | rfl<;>rfl,fun v hv=>?_⟩;rw [Ms.1 hv];refine Bx (v:=.int .u64 (n:Int)) rfl (Bx (v:=.iface 304 (.int .i64 c)) rfl (Bx (WW _ _ _) (Ai.2 ⟨fun _=>?_,fun h=>(by cases h)⟩)));exact Aam hc hl hg hf hA fun A' q g=>hk A' n _ g (.inr ⟨q,rfl⟩)
theorem Adt{c lg dk rm am:Nat}{out:Value}(hc:CR A c lg dk rm am 1 out)(hout:HE out)(hl:s.data.toList.length<100000000)(hg:GE A)(hf:AB A)(hA:A.next+8<Ak)(hk:∀ A',Grow A A' 2→K (.bool false) A'):
  Wc Tryz.prog Af W0 m0 77 [.pointer (some ⟨c,0,none⟩),.string s] A K:=by
 refine w77 _ _ _ Bu ?_;rw [e77];refine Aau hl hg hf hA fun A' n er g her=>?_;refine Bx (v:=.int .u64 (n:Int)) rfl (Bx (v:=er) rfl ?_);rcases her with rfl | ⟨q,rfl⟩
 ·refine Bx (Xp _) (Ai.2 ⟨fun _=>?_,fun h=>(by cases h)⟩);have hc1:=AF.keeps hc g.keeps (by simp);simp only [Dk,Ab];refine Ap.2 ⟨fun h1=>?_,fun _=>hk A' g⟩;simp only [Bf,Ab,Xg,Abb,Ag hc1.row,cellOf,BG,Au,Ch,hout.noT,Cf,Nat.zero_add,Bb];exact Ap.2 ⟨fun h2=>absurd h2 (by omega),fun _=>hk A' g⟩
 ·refine Bx (Xq _ _) (Ai.2 ⟨fun h=>(by cases h),fun _=>hk A' g⟩)
end
end Go.Proofs.YtkjlldaddekegaaGreatDoor
