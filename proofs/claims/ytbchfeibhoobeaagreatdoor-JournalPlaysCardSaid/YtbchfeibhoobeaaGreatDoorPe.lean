/-
  This text prints what the functions reached ask of their memory, and shows what they answer. Conditions: none for the last theorem, those that each theorem states for the others.
-/
import Derived.Test.YtbchfeibhoobeaaGreatDoorPd
import Derived.ChangeMaps5
import Derived.Deep.Strs
import Derived.KernelRfl
import Derived.LaidMore
import Derived.Lib.LaidTab
import Derived.Lib.SmallJoins
import Derived.SevenTiedAt
import Derived.Shelf.Strconv.AtoiAll
import Derived.Shelf.Strconv.Itoa3
import Derived.Shelf.Strings.OnBuilder
import Derived.Shelf.Strings.Repeat
import Derived.Stop.LaidErr
import Derived.Test.YtbchfeibhoobeaaGreatDoorCards
import Derived.Test.YtbchfeibhoobeaaGreatDoorProg
import Derived.Test.YtbchfeibhoobeaaGreatDoorTie
set_option maxRecDepth 100000
set_option maxHeartbeats 1000000
namespace Go.Proofs.YtbchfeibhoobeaaGreatDoor
open Go.Abs Go.Jr
variable {A:AW} {j d:Nat} {q:JS} {Fl Fr:List Nat} {r:RV} {K:Value->AW->Prop}
noncomputable def Mg(Q:Value->AW->Prop)(a0 t0 b:Value)(A:AW):Prop:=
 Aa (AD a0) λt187=>Aa (Ad Tp 83 t187 5) λt188=>Aa (Af Tp A 3 t188) λt189=>Aa (Bd Tp A 9 b) λt190=>Aa (Ai Tp .add 3 (.tmp 101) (.tmp 103) t189 t190) λt191=>Aa (AD a0) λt192=>Aa (Ad Tp 83 t192 5) λt193=>Bh (Az Tp A 3 t193 t191) λAt194=>Aa (AD a0) λt195=>Aa (Ad Tp 83 t195 6) λt196=>Bh (Az Tp At194 4 t196 (.bool true)) λAt197=>Aa (AD a0) λt198=>Aa (Ad Tp 83 t198 3) λt199=>Aa (Af Tp At197 22 t199) λt200=>Aa (Af Tp At197 35 t0) λt201=>Au (Av Tp At197 22 1 [(0,t201)]) λt202 At202=>Dq (BQ Tp (Co (Tm.fill ⟨1,.nil⟩ 0 [t201])) (.buildSlice 22 1 #[(0,.tmp 0)])) At202 t202 (Aa (Af Tp At202 35 t0) λt203=>eqW t203 t201 (Aa (Af Tp At202 22 t199) λt204=>eqW t204 t200 (Aa (Ad Tp 83 t198 3) λt205=>eqW t205 t199 (Aa (AD a0) λt206=>eqW t206 t198 (eqW a0 a0 (eqW a0 a0 (Au (AJ Tp At202 22 22 t200 t202) λt207 At207=>eqW a0 a0 (Aa (AD a0) λt208=>Aa (Ad Tp 83 t208 3) λt209=>Bh (Az Tp At207 22 t209 t207) λAt210=>Q (.int .i64 0) At210))))))))
section
variable {W0:World} {m0:Inj Tp}
theorem Ug {t0:Nat} {b:ByteArray} {K:Value->AW->Prop} (h:Jn A j d q Fl Fr) (hjl:j∉Fl) (hjr:j∉Fr) (hlr:∀ y∈Fl,y∉Fr) (ht:Go.Abs.AS A t0 (fR r) 35) (ht1:t0∉Fl) (ht2:t0≠j) (hf:Aw A) (hA:A.next+5<Am) (hl:q.l.length<1000000) (hs:q.size+b.data.toList.length<4611686018427387904)
  (hk:∀ A' Fl',Jn A' j d { q with size:=q.size+b.data.toList.length,some:=true,l:=q.l++[toR r] } Fl' Fr->(∀ y∈Fl',y∈Fl\/A.next<=y)->Aj A A' (j::Fl)->A'.next<=A.next+2->Aw A'->K (.int .i64 0) A'):Mg K (ptr j) (ptr t0) (.string b) A:=by
 obtain ⟨vl,vr,rl,j1,o1,hql,o2⟩:=h;have hjlt:=j1.lt;have htlt:=ht.lt;have hvl:=o1.one;have hvr:=o2.one;have hlls:=o1.lt;have hrls:=o2.lt;have ht:Go.Abs.AS A t0 [.int .u8 r.1.toNat,.string r.2] 35:=ht;have hrl:rl.length=q.l.length:=by rw [hql,List.length_map]
 unfold Mg;simp only [ptr,Al,Ll,Lj,Lh,D4,Ea,Ae j1.row,cellOf,Ax,AG,AE,Bt,hvl.2,hvr.2,Cf,Ab,AY];rw [wrap_i64 (by omega) (by omega)];have es:(q.size:Int)+(b.data.toList.length:Int)=((q.size+b.data.toList.length:Nat):Int):=by omega
 rw [es];refine j1.store hf (by omega) (J0 _ _ _) rfl (by show 0+5+1<=8;omega) rfl λA2 j2 k2 n2 f2=>?_;have j2:Go.Abs.AS A2 j [pP d 0,.int .i64 q.limit,.string ⟨⟨q.state⟩⟩,vl,vr,.int .i64 ((q.size+b.data.toList.length:Nat):Int),.bool q.some,.bool q.broken] 83:=j2;have k2:Aj A A2 [j]:=k2;refine j2.store f2 (by omega) (JZ _ _ _) rfl (by show 0+6+1<=8;omega) rfl λA3 j3 k3 n3 f3=>?_;have j3:Go.Abs.AS A3 j [pP d 0,.int .i64 q.limit,.string ⟨⟨q.state⟩⟩,vl,vr,.int .i64 ((q.size+b.data.toList.length:Nat):Int),.bool true,.bool q.broken] 83:=j3;have k3:Aj A2 A3 [j]:=k3;have K3:Aj A A3 [j]:=k2.trans k3 (by simp);have t3:=ht.keeps K3 (by simpa using ht2);have hcells:∀ B,Go.Abs.AS B t0 [.int .u8 r.1.toNat,.string r.2] 35->B.cells? ⟨t0,0,none⟩ 2=some [.int .u8 r.1.toNat,.string r.2]:=λB hB=>by rw [Cg hB.row];rfl
 simp only [JO,JL,hcells A3 t3,Ae j3.row,cellOf,Ax,AG,AE,hvl.2,Cf,Ab,Nat.zero_add];refine MI (c:=r.1) (s:=r.2) f3 (by omega) λA4 m4=>?_;have n4:=m4.next;have k4:=m4.keeps f3;refine ⟨⟨_,UC _ _,?_⟩,?_⟩
 ·have:=m4.row
  simp only [Cj,Fy,this,fR,EF,GD,IL,Bool.and_self,Option.isNone_none,Nat.beq_refl]
 have j4:=j3.keeps k4 (by simp);have t4:=t3.keeps k4 (by simp);simp only [hcells A4 t4,Ae j4.row,cellOf,Ax,AG,AE,hvl.2,Cf,Ab,AR];have K4:Aj A A4 [j]:=K3.trans k4 (by simp);refine (o1.keeps K4 λy hy=>by simp;intro h;subst h;exact hjl hy).append etR (p:=r) m4.BB m4.Ay (by omega) (by omega) λv5 A5 F5 o5 k5 hF5 n5 f5=>?_;have j5:=j4.keeps k5 hjl;obtain ⟨so,sc,hv5⟩:=o5.slice;refine j5.store f5 (by omega) (Nu _ _ _) (by rw [hv5];rfl) (by show 3+1<=8;omega) (by rw [hv5];rfl) λA6 j6 k6 n6 f6=>?_;have j6:Go.Abs.AS A6 j [pP d 0,.int .i64 q.limit,.string ⟨⟨q.state⟩⟩,v5,vr,.int .i64 ((q.size+b.data.toList.length:Nat):Int),.bool true,.bool q.broken] 83:=by rw [hv5] at j6 ⊢;exact j6
 have k6:Aj A5 A6 [j]:=k6;have K6:Aj A A6 (j::Fl):=((K4.more (by simp)).trans k5 (λy hy=>.inl (by simp [hy]))).trans k6 (by simp);have le4:=K4.next;have hF5':∀ y∈F5,y∈Fl\/A.next<=y:=λy hy=>(hF5 y hy).imp (λh=>h) λh=>by omega
 refine hk A6 F5 ⟨v5,vr,rl++[r],j6,o5.keeps k6 λy hy=>?_,?_,o2.keeps K6 λy hy hm=>?_⟩ hF5' K6 (by omega) f6
 ·simp
  rintro rfl;rcases hF5' y hy with h | h
  ·exact hjl h
  ·omega
 ·show q.l++[toR r]=_;rw [hql,List.map_append];rfl
 ·rcases Mk.1 hm with h | h
  ·subst h;exact hjr hy
  ·exact hlr y h hy
theorem Agm(W0:World)(m0:Inj Tp)(S:Nat->List Value->AW->Prop)(Q:Value->AW->Prop)(a0 a1:Value)(A:AW):gE W0 m0 S Q 10 119 Tz Lz [a0,a1] A=(Au (DF A (Value.cells a1).toList 35) λt0 At0=>Wc Tp An W0 m0 53 [a0] At0 λt1 At1=>Aa (unA Tp .not t1) λt2=>Ah t2 (Q (.int .i64 1) At1) (Aa (Ad Tp 35 t0 0) λt3=>Aa (Af Tp At1 5 t3) λt4=>Aa (Ai Tp .eql 5 (.tmp 16) (.const (.int .u8 0)) t4 (.int .u8 0)) λt5=>Ah t5 (Q (.int .i64 2) At1) (Wc Tp An W0 m0 54 [a0] At1 λt6 At6=>Aa (Ai Tp .neq 30 (.tmp 20) (.const (.int .i64 0)) t6 (.int .i64 0)) λt7=>Ah t7 (Q t6 At6) (Aa (Af Tp At6 35 t0) λt8=>Au (Av Tp At6 22 1 [(0,t8)]) λt9 At9=>Wc Tp An W0 m0 55 [t9] At9 λt10 At10=>Aa (Ap t10 0) λt11=>Aa (Ap t10 1) λt12=>Aa (Ai Tp .neq 30 (.tmp 29) (.const (.int .i64 0)) t12 (.int .i64 0)) λt13=>Ah t13 (Q t12 At10) (Wc Tp An W0 m0 56 [a0] At10 λt14 At14=>Aa (AD a0) λt15=>Aa (Ad Tp 83 t15 6) λt16=>Aa (Af Tp At14 4 t16) λt17=>Ah t17 (Aa (Bd Tp At14 9 t11) λt18=>Aa (AD a0) λt19=>Aa (Ad Tp 83 t19 1) λt20=>Aa (Af Tp At14 3 t20) λt21=>Aa (AD a0) λt22=>Aa (Ad Tp 83 t22 5) λt23=>Aa (Af Tp At14 3 t23) λt24=>Aa (Ai Tp .sub 3 (.tmp 44) (.tmp 48) t21 t24) λt25=>Aa (Ai Tp .gtr 3 (.tmp 40) (.tmp 49) t18 t25) λt26=>Ah t26 (Aa (Ai Tp .eql 3 (.tmp 53) (.const (.int .i64 99999999)) t14 (.int .i64 99999999)) λt27=>Ah t27 (Q (.int .i64 6) At14) (Aa (AD a0) λt28=>Aa (Ad Tp 83 t28 0) λt29=>Aa (Af Tp At14 27 t29) λt30=>knW Tp W0 m0 47 [t14] At14 λt31 At31=>Aa (Af Tp At31 27 t29) λt32=>eqW t32 t30 (Aa (Ad Tp 83 t28 0) λt33=>eqW t33 t29 (Aa (AD a0) λt34=>eqW t34 t28 (eqW a0 a0 (Wc Tp An W0 m0 44 [t30,t31] At31 λt35 At35=>Aa (Ai Tp .neq 30 (.tmp 62) (.const (.int .i64 0)) t35 (.int .i64 0)) λt36=>Ah t36 (Wc Tp An W0 m0 57 [a0,t35] At35 λt37 At37=>Q t37 At37) (Aa (Ai Tp .add 3 (.tmp 67) (.const (.int .i64 1)) t14 (.int .i64 1)) λt38=>Aa (AD a0) λt39=>Aa (Ad Tp 83 t39 0) λt40=>Aa (Af Tp At35 27 t40) λt41=>knW Tp W0 m0 47 [t38] At35 λt42 At42=>eqW t11 t11 (Aa (Af Tp At42 27 t40) λt43=>eqW t43 t41 (Aa (Ad Tp 83 t39 0) λt44=>eqW t44 t40 (Aa (AD a0) λt45=>eqW t45 t39 (eqW a0 a0 (Wc Tp An W0 m0 13 [t41,t42,t11] At42 λt46 At46=>Aa (Ai Tp .neq 30 (.tmp 77) (.const (.int .i64 0)) t46 (.int .i64 0)) λt47=>Ah t47 (Wc Tp An W0 m0 57 [a0,t46] At46 λt48 At48=>Q t48 At48) (Ah t26 (Aa (AD a0) λt49=>Aa (Ad Tp 83 t49 4) λt50=>Aa (Af Tp At46 46 t50) λt51=>Au (Av Tp At46 46 1 [(0,t38)]) λt52 At52=>Au (AJ Tp At52 46 46 t51 t52) λt53 At53=>Aa (AD a0) λt54=>Aa (Ad Tp 83 t54 4) λt55=>Bh (Az Tp At53 46 t55 t53) λAt56=>Aa (AD a0) λt57=>Aa (Ad Tp 83 t57 5) λt58=>Bh (Az Tp At56 3 t58 (.int .i64 0)) λAt59=>Mg Q a0 t0 t11 At59) (Mg Q a0 t0 t11 At46)))))))))))))) (Aa (AD a0) λt108=>Aa (Ad Tp 83 t108 0) λt109=>Aa (Af Tp At14 27 t109) λt110=>knW Tp W0 m0 47 [t14] At14 λt111 At111=>eqW t11 t11 (Aa (Af Tp At111 27 t109) λt112=>eqW t112 t110 (Aa (Ad Tp 83 t108 0) λt113=>eqW t113 t109 (Aa (AD a0) λt114=>eqW t114 t108 (eqW a0 a0 (Wc Tp An W0 m0 13 [t110,t111,t11] At111 λt115 At115=>Aa (Ai Tp .neq 30 (.tmp 77) (.const (.int .i64 0)) t115 (.int .i64 0)) λt116=>Ah t116 (Wc Tp An W0 m0 57 [a0,t115] At115 λt117 At117=>Q t117 At117) (Ah t26 (Aa (AD a0) λt118=>Aa (Ad Tp 83 t118 4) λt119=>Aa (Af Tp At115 46 t119) λt120=>Au (Av Tp At115 46 1 [(0,t14)]) λt121 At121=>Au (AJ Tp At121 46 46 t120 t121) λt122 At122=>Aa (AD a0) λt123=>Aa (Ad Tp 83 t123 4) λt124=>Bh (Az Tp At122 46 t124 t122) λAt125=>Aa (AD a0) λt126=>Aa (Ad Tp 83 t126 5) λt127=>Bh (Az Tp At125 3 t127 (.int .i64 0)) λAt128=>Mg Q a0 t0 t11 At128) (Mg Q a0 t0 t11 At115))))))))) (Aa (AD a0) λt177=>Aa (Ad Tp 83 t177 0) λt178=>Aa (Af Tp At14 27 t178) λt179=>knW Tp W0 m0 47 [t14] At14 λt180 At180=>eqW t11 t11 (Aa (Af Tp At180 27 t178) λt181=>eqW t181 t179 (Aa (Ad Tp 83 t177 0) λt182=>eqW t182 t178 (Aa (AD a0) λt183=>eqW t183 t177 (eqW a0 a0 (Wc Tp An W0 m0 13 [t179,t180,t11] At180 λt184 At184=>Aa (Ai Tp .neq 30 (.tmp 77) (.const (.int .i64 0)) t184 (.int .i64 0)) λt185=>Ah t185 (Wc Tp An W0 m0 57 [a0,t184] At184 λt186 At186=>Q t186 At186) (Mg Q a0 t0 t11 At184)))))))))))):=by kernel_rfl
theorem Z6 {mp k n : Nat} {s : DS} (h : JD A j d mp q s Fl Fr) (hg : Glb A) (hok : OkS k s) (hk9 : k < 9000) (hf : Aw A) (hA : A.next < 900000000000) (h0 : 0 ≠ j /\ 0 ≠ d /\ 0 ≠ mp) (hr : r.2.data.toList.length <= 65536)
    (hl : q.l.length < 1000000) (hrw : q.row.length < 1000000) (hn : q.row.getLast? = some n) (hn8 : n < 100000000) (hsz : q.size < 1099511627776) (hl1 : 1 <= q.limit) (hl2 : q.limit < 9223372036854775808) (hN : EO W0 m0 n) (hN1 : n ≠ 99999999 -> EO W0 m0 (n + 1))
    (hk : ∀ A' Fl' Fr', JD A' j d mp (Cw s q (toR r)).2.1 (Cw s q (toR r)).1 Fl' Fr' -> (∀ y ∈ Fl', y ∈ Fl \/ A.next <= y) -> (∀ y ∈ Fr', y ∈ Fr \/ A.next <= y) -> Aj A A' (j :: d :: mp :: (Fl ++ Fr)) -> A'.next <= A.next + 100 + k -> Aw A' -> K (.int .i64 (Cw s q (toR r)).2.2) A') :
    Wc Tp An W0 m0 10 [ptr j, .agg ⟨fR r⟩] A K := by
  have hmax : Am = 1099511627776 := rfl
  have hfew := hok.few
  have hjd := h
  refine w10 _ _ _ BF ?_
  rw [Agm]
  refine Bk (cs := fR r) hf (by omega) rfl λA1 m1 => ?_
  have n1 := m1.next
  have k1 := m1.keeps hf
  have t1 : Go.Abs.AS A1 A.next [.int .u8 r.1.toNat, .string r.2] 35 := m1.BB
  have J1 := h.keeps k1 (by simp) (by simp) (by simp) (by simp) (by simp)
  refine PJ J1.jn ?_
  simp only [Bg, Ab]
  refine Ag.2 ⟨λh => by simp at h, λ_ => ?_⟩
  simp only [E5, Kg, Ae t1.row, cellOf, AG, Cf, Ab, Bo]
  have stay : ∀ e : Int, Cw s q (toR r) = (s, q, e) -> ∀ A', Grow A A' 90 -> K (.int .i64 e) A' := λe he A' g => by
    rw [he] at hk
    exact hk A' Fl Fr (hjd.keeps g.keeps (by simp) (by simp) (by simp) (by simp) (by simp)) (λy hy => .inl hy) (λy hy => .inl hy) (g.keeps.more (by simp)) (by have := g.next; omega) g.Ay
  have g1 : Grow A A1 1 := .made m1 hf
  refine Be.2 ⟨λhz => ?_, λhz => ?_⟩
  · have hz0 : (toR r).1 = 0 := UInt8.toNat_inj.1 (by show r.1.toNat = 0; omega)
    exact stay 2 (by unfold Cw; rw [if_pos hz0]) A1 (g1.more (by omega))
  have hz0 : (toR r).1 ≠ 0 := λh0 => hz (by have : r.1 = 0 := h0; rw [this]; rfl)
  refine UW J1.jn ?_
  simp only [BC, Ab]
  refine Bb.2 ⟨λhb => ?_, λhb => ?_⟩
  · have hb' : q.broken = true := by
      cases hq : q.broken with
      | true => rfl
      | false => rw [hq] at hb; simp at hb
    rw [if_pos hb']
    exact stay 100 (by unfold Cw; rw [if_neg hz0, if_pos hb']) A1 (g1.more (by omega))
  have hb' : q.broken = false := by
    cases hq : q.broken with
    | false => rfl
    | true => rw [hq] at hb; simp at hb
  have hcells : ∀ B, Go.Abs.AS B A.next [.int .u8 r.1.toNat, .string r.2] 35 -> B.cells? ⟨A.next, 0, none⟩ 2 = some [.int .u8 r.1.toNat, .string r.2] := λB hB => by rw [Cg hB.row]; rfl
  simp only [JL, hcells A1 t1, Ab]
  refine MI (c := r.1) (s := r.2) m1.Ay (by omega) λA2 m2 => ?_
  have n2 := m2.next
  have g2 := g1.trans (.made m2 m1.Ay)
  have hrd : RdE 1 fR A2 (.slice (some ⟨A1.next, 0, none⟩) 1 1) [r] [A1.next] := .inr ⟨A1.next, 0, 1, _, _, A1.next, 0, false, rfl, m2.row, by omega, rfl, λi p hi => by
    cases i with
    | zero => obtain rfl : r = p := by simpa using hi
              exact ⟨[], rfl⟩
    | succ i => simp at hi⟩
  have hp : Cr ([r].map toR) = Bc (toR r) := by simp [Cr]
  have hpl : (Bc (toR r)).length = 13 + r.2.data.toList.length := Cn _
  refine AbF hrd (hg.keeps g2.keeps (by simp)) m2.Ay (by simp) (by simpa using hr) (by simp; omega) (by rw [hp, hpl]; omega) λA3 g3 => ?_
  have g3 : Grow A2 A3 20 := g3
  have g3' := g2.trans g3
  have n3 := g3'.next
  have le3 := g3'.le
  rw [hp]
  simp only [Bw, Bv, Ab, BC]
  refine Bb.2 ⟨λh => by simp at h, λ_ => ?_⟩
  have J3 := hjd.keeps g3'.keeps (by simp) (by simp) (by simp) (by simp) (by simp)
  refine YC J3.jn hn hrw ?_
  have t3 := t1.keeps ((Grow.made m2 m1.Ay).trans g3).keeps (by simp)
  have hJn3 := J3.jn
  obtain ⟨vl, vr, rl, j3, o1, hql, o2⟩ := J3.jn
  have hvl := o1.one
  have hvr := o2.one
  have elast : q.row.getLast?.getD 0 = n := by rw [hn]; rfl
  have hjA := hjd.jn.lt
  have hdA := hjd.dk.lt
  have hFlA : ∀ y ∈ Fl, y < A.next := by obtain ⟨_, _, _, _, a, _, _⟩ := hjd.jn; exact a.lt
  have hFrA : ∀ y ∈ Fr, y < A.next := by obtain ⟨_, _, _, _, _, _, a⟩ := hjd.jn; exact a.lt
  have hjFl : j ∉ Fl := λhm => (hjd.fl j hm).2.2.1 rfl
  have hjFr : j ∉ Fr := λhm => (hjd.fr j hm).2.2 rfl
  have plain : ¬ (q.some = true /\ q.limit - q.size < ((Bc (toR r)).length : Int)) -> ∀ T : AW -> Prop, (∀ A4, Mg K (ptr j) (ptr A.next) (.string ⟨⟨Bc (toR r)⟩⟩) A4 -> T A4) -> knW Tp W0 m0 47 [.int .i64 (n : Int)] A3 λt180 At180 => Aa (At180.cell? ⟨j, 0, none⟩) λt181 => eqW t181 (ptr d) (Wc Tp An W0 m0 13 [ptr d, t180, .string ⟨⟨Bc (toR r)⟩⟩] At180 λt184 At184 => Aa (Ai Tp .neq 30 (.tmp 77) (.const (.int .i64 0)) t184 (.int .i64 0)) λt185 => Ah t185 (Wc Tp An W0 m0 57 [ptr j, t184] At184 λt186 At186 => K t186 At186) (T At184)) := by
    intro hno T hT
    refine Hb (by decide) hN rfl ?_
    simp only [ptr, Ae j3.row, cellOf, Ax, Cf, Ab, AR]
    refine Wk (n := ⟨⟨Jr.nm n⟩⟩) (b := ⟨⟨Bc (toR r)⟩⟩) J3.dk (hok.d (by omega)) hok.n (by show (Bc (toR r)).length < _; rw [hpl]; omega) g3'.Ay (by omega) λA4 d4 k4 n4 f4 => ?_
    have ed : (⟨⟨Jr.nm n⟩⟩ : ByteArray).data.toList = Jr.nm n := rfl
    have eb : (⟨⟨Bc (toR r)⟩⟩ : ByteArray).data.toList = Bc (toR r) := rfl
    rw [ed, eb] at d4 ⊢
    have J4 : JD A4 j d mp q _ Fl Fr := J3.CQ k4 d4
    have le4 := k4.next
    have K4 : Aj A A4 (j :: d :: mp :: (Fl ++ Fr)) := (g3'.keeps.more (by simp)).trans k4 (λy hy => .inl (by simp only [Mk, List.not_mem_nil, or_false] at hy; rcases hy with rfl | rfl <;> simp))
    have eap : Cw s q (toR r) = (let y := BG s (Jr.nm n) (Bc (toR r)); if y.2 ≠ 0 then (y.1, DA q y.2, y.2) else (y.1, { q with size := q.size + (Bc (toR r)).length, some := true, l := q.l ++ [toR r] }, 0)) := by
      unfold Cw
      rw [if_neg hz0, if_neg (by rw [hb']; simp), elast]
      simp only
      rw [if_neg hno]
    simp only at eap
    simp only [BC, Ab]
    refine Bb.2 ⟨λhe => ?_, λhe => ?_⟩
    · rw [if_pos he] at eap
      rw [eap] at hk
      refine SP J4.jn f4 (by omega) hjFl hjFr λA5 j5 k5 n5 f5 => ?_
      refine hk A5 Fl Fr ⟨j5, J4.dk.keeps k5 (by simp; exact λh => hjd.nd.1 h.symm) (by simp; exact λh => hjd.nd.2 h.symm), hjd.nd, hjd.fl, hjd.fr⟩ (λy hy => .inl hy) (λy hy => .inl hy) (K4.trans k5 (λy hy => .inl (by simp [Ms.1 hy]))) (by omega) f5
    · rw [if_neg (by simpa using he)] at eap
      rw [eap] at hk
      have t4 := t3.keeps k4 (by simp; omega)
      refine hT _ (Ug J4.jn hjFl hjFr (λy hy => (hjd.fl y hy).2.2.2) t4 (λhm => by have := hFlA _ hm; omega) (by omega) f4 (by omega) hl (by rw [eb, hpl]; omega) λA5 Fl5 j5 hF5 k5 n5 f5 => ?_)
      have hF5' : ∀ y ∈ Fl5, y ∈ Fl \/ A.next <= y := λy hy => (hF5 y hy).imp (λh => h) λh => by omega
      refine hk A5 Fl5 Fr ⟨j5, J4.dk.keeps k5 (λhm => ?_) (λhm => ?_), hjd.nd, λy hy => ?_, hjd.fr⟩ hF5' (λy hy => .inl hy) (K4.trans k5 (λy hy => .inl ?_)) (by omega) f5
      · rcases Mk.1 hm with h | h
        · exact hjd.nd.1 h.symm
        · exact (hjd.fl d h).1 rfl
      · rcases Mk.1 hm with h | h
        · exact hjd.nd.2 h.symm
        · exact (hjd.fl mp h).2.1 rfl
      · rcases hF5' y hy with h | h
        · exact hjd.fl y h
        · exact ⟨by omega, by omega, by omega, λhm => by have := hFrA y hm; omega⟩
      · rcases Mk.1 hy with h | h
        · simp [h]
        · simp [h]
  have hj3 : Go.Abs.AS A3 j [pP d 0, .int .i64 q.limit, .string ⟨⟨q.state⟩⟩, vl, vr, .int .i64 (q.size : Int), .bool q.some, .bool q.broken] 83 := j3
  simp only [ptr] at plain ⊢
  simp only [Al, Jt, Zf, Lj, Lh, Nat.zero_add, D4, Fh, Cx, Ae hj3.row, cellOf, Ax, AG, AE, Bt, hvl.2, hvr.2, Cf, Ab, Ea, Ci, BN, AR]
  have ebl : ((⟨⟨Bc (toR r)⟩⟩ : ByteArray).data.toList.length : Int) = ((Bc (toR r)).length : Int) := rfl
  rw [wrap_i64 (n := q.limit - (q.size : Int)) (by omega) (by omega), ebl]
  refine Ag.2 ⟨λhsome => ?_, λhsome => ?_⟩
  rotate_left
  · exact plain (λhh => by rw [hsome] at hh; cases hh.1) _ λA4 h => h
  refine Ao.2 ⟨λhturn => ?_, λhturn => plain (λhh => hturn hh.2) _ λA4 h => Ao.2 ⟨λhc => absurd hc hturn, λ_ => h⟩⟩
  have htn : q.some = true /\ q.limit - q.size < ((Bc (toR r)).length : Int) := ⟨hsome, hturn⟩
  simp only [Bo, Ab]
  refine Be.2 ⟨λhmx => ?_, λhmx => ?_⟩
  · have hmx : n = 99999999 := by omega
    refine stay 6 ?_ A3 (g3'.more (by simp))
    unfold Cw
    rw [if_neg hz0, if_neg (by rw [hb']; simp), elast]
    simp only
    rw [if_pos htn, if_pos hmx]
  have hmx : n ≠ 99999999 := by omega
  have eap : Cw s q (toR r) = (let x := Bn s (Jr.nm n); if x.2 ≠ 0 then (x.1, DA q x.2, x.2) else let y := BG x.1 (Jr.nm (n + 1)) (Bc (toR r)); if y.2 ≠ 0 then (y.1, DA q y.2, y.2) else (y.1, { q with row := q.row ++ [n + 1], size := (Bc (toR r)).length, some := true, l := q.l ++ [toR r] }, 0)) := by
    unfold Cw
    rw [if_neg hz0, if_neg (by rw [hb']; simp), elast]
    simp only
    rw [if_pos htn, if_neg hmx]
  simp only at eap
  refine Hb (by decide) hN rfl ?_
  simp only [Ae hj3.row, cellOf, Ax, Cf, Ab, AR]
  refine Wj (n := ⟨⟨Jr.nm n⟩⟩) J3.dk hok.n g3'.Ay (by omega) λA4 d4 k4 n4 f4 => ?_
  have ed : (⟨⟨Jr.nm n⟩⟩ : ByteArray).data.toList = Jr.nm n := rfl
  have eb : (⟨⟨Bc (toR r)⟩⟩ : ByteArray).data.toList = Bc (toR r) := rfl
  rw [ed] at d4 ⊢
  have J4 : JD A4 j d mp q _ Fl Fr := J3.CQ k4 d4
  have le4 := k4.next
  have hsub : ∀ y ∈ [d, mp], y ∈ j :: d :: mp :: (Fl ++ Fr) := λy hy => by simp only [Mk, List.not_mem_nil, or_false] at hy; rcases hy with rfl | rfl <;> simp
  have K4 : Aj A A4 (j :: d :: mp :: (Fl ++ Fr)) := (g3'.keeps.more (by simp)).trans k4 (λy hy => .inl (hsub y hy))
  simp only [BC, Ab]
  refine Bb.2 ⟨λhe => ?_, λhe => ?_⟩
  · rw [if_pos he] at eap
    rw [eap] at hk
    refine SP J4.jn f4 (by omega) hjFl hjFr λA5 j5 k5 n5 f5 => ?_
    exact hk A5 Fl Fr ⟨j5, J4.dk.keeps k5 (by simp; exact λh => hjd.nd.1 h.symm) (by simp; exact λh => hjd.nd.2 h.symm), hjd.nd, hjd.fl, hjd.fr⟩ (λy hy => .inl hy) (λy hy => .inl hy) (K4.trans k5 (λy hy => .inl (by simp [Ms.1 hy]))) (by omega) f5
  rw [if_neg (by simpa using he)] at eap
  have j4 := hj3.keeps k4 (by simp; exact hjd.nd)
  simp only [AY, Ae j4.row, cellOf, Ax, Cf, Ab]
  rw [wrap_i64 (n := (n : Int) + 1) (by omega) (by omega)]
  have en1 : (n : Int) + 1 = ((n + 1 : Nat) : Int) := by omega
  rw [en1]
  refine Hb (by decide) (hN1 hmx) rfl ?_
  simp only [Ae j4.row, cellOf, Ax, Cf, Ab, AR]
  have hok4 : OkS (k + 1) (Bn s (Jr.nm n)).1 := KA hok _
  have hfew4 := hok4.few
  refine Wk (n := ⟨⟨Jr.nm (n + 1)⟩⟩) (b := ⟨⟨Bc (toR r)⟩⟩) J4.dk (hok4.d (by omega)) hok4.n (by show (Bc (toR r)).length < _; rw [hpl]; omega) f4 (by omega) λA5 d5 k5 n5 f5 => ?_
  have ed1 : (⟨⟨Jr.nm (n + 1)⟩⟩ : ByteArray).data.toList = Jr.nm (n + 1) := rfl
  rw [ed1, eb] at d5 ⊢
  have J5 : JD A5 j d mp q _ Fl Fr := J4.CQ k5 d5
  have le5 := k5.next
  have K5 : Aj A A5 (j :: d :: mp :: (Fl ++ Fr)) := K4.trans k5 (λy hy => .inl (hsub y hy))
  simp only [BC, Ab]
  refine Bb.2 ⟨λhe2 => ?_, λhe2 => ?_⟩
  · rw [if_pos he2] at eap
    rw [eap] at hk
    refine SP J5.jn f5 (by omega) hjFl hjFr λA6 j6 k6 n6 f6 => ?_
    exact hk A6 Fl Fr ⟨j6, J5.dk.keeps k6 (by simp; exact λh => hjd.nd.1 h.symm) (by simp; exact λh => hjd.nd.2 h.symm), hjd.nd, hjd.fl, hjd.fr⟩ (λy hy => .inl hy) (λy hy => .inl hy) (K5.trans k6 (λy hy => .inl (by simp [Ms.1 hy]))) (by omega) f6
  rw [if_neg (by simpa using he2)] at eap
  rw [eap] at hk
  refine Ao.2 ⟨λ_ => ?_, λh => absurd hturn h⟩
  obtain ⟨vl5, vr5, rl5, j5, p1, hql5, p2⟩ := J5.jn
  have hvl5 := p1.one
  have hvr5 := p2.one
  have t5 := (t3.keeps k4 (by simp; omega)).keeps k5 (by simp; omega)
  simp only [Lk, Nat.zero_add, Po, Ae j5.row, cellOf, Ax, AG, AE, hvl5.2, hvr5.2, Cf, Ab]
  refine Io (X6 A5 ((n + 1 : Nat) : Int)) rfl f5 (by omega) λA6 m6 => ?_
  have n6 := m6.next
  have k6 := m6.keeps f5
  refine C3.LF esI (p := n + 1) (p2.keeps k6 (by simp)) m6.BB m6.Ay (by omega) hrw λw7 A7 Fr7 o7 k7 hF7 n7 f7 => ?_
  obtain ⟨wo, wc, hw7⟩ := o7.slice
  have j7 := (j5.keeps k6 (by simp)).keeps k7 hjFr
  refine j7.store f7 (by omega) (Ui _ _ _) (by rw [hw7]; rfl) (by show 4 + 1 <= 8; omega) (by rw [hw7]; rfl) λA8 j8 k8 n8 f8 => ?_
  have j8 : Go.Abs.AS A8 j [pP d 0, .int .i64 q.limit, .string ⟨⟨q.state⟩⟩, vl5, w7, .int .i64 (q.size : Int), .bool q.some, .bool q.broken] 83 := by rw [hw7] at j8 ⊢; exact j8
  have k8 : Aj A7 A8 [j] := k8
  refine j8.store f8 (by omega) (J0 _ _ _) rfl (by show 5 + 1 <= 8; omega) rfl λA9 j9 k9 n9 f9 => ?_
  have j9 : Go.Abs.AS A9 j [pP d 0, .int .i64 q.limit, .string ⟨⟨q.state⟩⟩, vl5, w7, .int .i64 ((0 : Nat) : Int), .bool q.some, .bool q.broken] 83 := j9
  have k9 : Aj A8 A9 [j] := k9
  have k79 : Aj A7 A9 [j] := k8.trans k9 (by simp)
  have K59 : Aj A5 A9 (j :: Fr) := ((k6.more (T := j :: Fr) (by simp)).trans k7 (λy hy => .inl (by simp [hy]))).trans k79 (λy hy => .inl (by simp [Ms.1 hy]))
  have hF7' : ∀ y ∈ Fr7, y ∈ Fr \/ A.next <= y := λy hy => (hF7 y hy).imp (λh => h) λh => by omega
  have hjFr7 : j ∉ Fr7 := λhm => by
    rcases hF7' _ hm with h | h
    · exact hjFr h
    · omega
  have hlr7 : ∀ y ∈ Fl, y ∉ Fr7 := λy hy hm => by
    rcases hF7' _ hm with h | h
    · exact (hjd.fl y hy).2.2.2 h
    · have := hFlA y hy; omega
  have J9 : Jn A9 j d { q with row := q.row ++ [n + 1], size := 0 } Fl Fr7 := ⟨vl5, w7, rl5, j9, p1.keeps K59 λy hy hm => by
      rcases Mk.1 hm with h | h
      · subst h; exact hjFl hy
      · exact (hjd.fl y hy).2.2.2 h, hql5, o7.keeps k79 λy hy => by simp; rintro rfl; exact hjFr7 hy⟩
  have t9 := t5.keeps K59 λhm => by
    rcases Mk.1 hm with h | h
    · omega
    · have := hFrA _ h; omega
  refine Ug J9 hjFl hjFr7 hlr7 t9 (λhm => by have := hFlA _ hm; omega) (by omega) f9 (by omega) hl (by rw [eb, hpl]; show 0 + _ < _; omega) λA10 Fl10 j10 hF10 k10 n10 f10 => ?_
  have e0 : 0 + (Bc (toR r)).length = (Bc (toR r)).length := by omega
  have j10 : Jn A10 j d { q with row := q.row ++ [n + 1], size := 0 + (Bc (toR r)).length, some := true, l := q.l ++ [toR r] } Fl10 Fr7 := j10
  rw [e0] at j10
  have le9 := K59.next
  have hF10' : ∀ y ∈ Fl10, y ∈ Fl \/ A9.next <= y := hF10
  have K10 : Aj A5 A10 (j :: (Fl ++ Fr)) := (K59.more (T := j :: (Fl ++ Fr)) (λy hy => by
      rcases Mk.1 hy with h | h
      · simp [h]
      · simp [h])).trans k10 (λy hy => .inl (by
      rcases Mk.1 hy with h | h
      · simp [h]
      · simp [h]))
  have hdm : ∀ z, (z = d \/ z = mp) -> z ∉ j :: (Fl ++ Fr) := λz hz hm => by
    rcases Mk.1 hm with hh | hh
    · rcases hz with hz | hz
      · exact hjd.nd.1 (hh.symm.trans hz)
      · exact hjd.nd.2 (hh.symm.trans hz)
    · rcases Mz.1 hh with hh | hh
      · have := hjd.fl z hh
        exact hz.elim this.1 this.2.1
      · have := hjd.fr z hh
        exact hz.elim this.1 this.2.1
  have o7l := o7.lt
  refine hk A10 Fl10 Fr7 ⟨j10, J5.dk.keeps K10 (hdm d (.inl rfl)) (hdm mp (.inr rfl)), hjd.nd, λy hy => ?_, λy hy => ?_⟩ (λy hy => (hF10' y hy).imp (λh => h) λh => by omega) hF7' (K5.trans K10 (λy hy => .inl ?_)) (by omega) f10
  · rcases hF10' y hy with h | h
    · have := hjd.fl y h
      exact ⟨this.1, this.2.1, this.2.2.1, hlr7 y h⟩
    · exact ⟨by omega, by omega, by omega, λhm => by have := o7l y hm; omega⟩
  · rcases hF7' y hy with h | h
    · exact hjd.fr y h
    · exact ⟨by omega, by omega, by omega⟩
  · rcases Mk.1 hy with h | h
    · simp [h]
    · simp only [Mk]; exact .inr (.inr (.inr h))
end
end Go.Proofs.YtbchfeibhoobeaaGreatDoor
namespace Go.Jr
def B5(s:DS):List Nat->DS × Int
 |[]=>(s,0)
 |k::r=>if (AQ s (nm k)).2≠0 then AQ s (nm k) else B5 (AQ s (nm k)).1 r
def Bs(s:DS)(names:List (List UInt8))(q:JS)(st:List UInt8):DS × JS × Int:=
 if q.broken=true then (s,q,100) else
 if 65536<st.length then (s,q,3) else
 let n:=q.row.getLast?.getD 0+1
 if 99999999<n then (s,q,6) else
 let x0:=if fresh∈names then AQ s fresh else (s,0)
 if x0.2≠0 then (x0.1,DA q x0.2,x0.2) else
 let x1:=BG x0.1 fresh (Bc (0,st))
 if x1.2≠0 then (x1.1,DA q x1.2,x1.2) else
 let x2:=Bn x1.1 fresh
 if x2.2≠0 then (x2.1,DA q x2.2,x2.2) else
 let x3:=CR x2.1 fresh (nm n)
 if x3.2≠0 then (x3.1,DA q x3.2,x3.2) else
 let q':JS:={ q with state:=st,l:=[],row:=[n],size:=(Bc (0,st)).length,some:=true };let y:=B5 x3.1 q.row
 if y.2≠0 then (y.1,DA q' y.2,y.2) else (y.1,q',0)
def CZ(s:DS)(n:Int):DS:=if s.down=true then s else { s with B9:=max n 0 }
def Hl(s:DS):DS:={ s with down:=true,B9:=0 }
def EU(f:Fil)(k:Option Int):Fil:=
 match k with
 |none=>(f.1.take f.2,f.2)
 |some k=>(f.1.take (f.2+(min (max k 0) ((f.1.length:Int)-f.2)).toNat),f.2+(min (max k 0) ((f.1.length:Int)-f.2)).toNat)
def Gz(D:Fls)(keep:List Int):List (List UInt8)->Nat->Fls
 |[],_=>D
 |p::r,i=>Gz (Cm D p (EU (fileOf D p) keep[i]?)) keep r (i+1)
def QV(s:DS)(names:List (List UInt8))(keep:List Int):DS:=if s.down=true then ⟨Gz s.D keep names 0,s.room,s.B9,false⟩ else s
end Go.Jr
namespace Go.Proofs.YtbchfeibhoobeaaGreatDoor
open Go.Abs
noncomputable def T4:Nat->List Item:=λi=>match i with
 |0=>[(.code (cd 4 [1,1,1,1,0,1,0,0])),(.inLoop (cd 4 [1,1,1,1,0,1,0,0])),(.inBlock 0),(.code (cd 4 [1,1,1,1,1]))]
 |_=>[]
section
variable (W0:World) (m0:Inj Tp) (S:Nat->List Value->AW->Prop) (Q:Value->AW->Prop) (d:Nat->Value) (a0 a1 a2 a3 a4 a5 a6:Value) (A:AW)
theorem e14:gE W0 m0 S Q 14 20 Tz Lz [a0] A=(Au (DF A (Value.cells a0).toList 48) λt0 At0=>Aa (Ad Tp 48 t0 1) λt1=>Aa (Ad Tp 35 t1 1) λt2=>Aa (Af Tp At0 9 t2) λt3=>Aa (Bd Tp At0 9 t3) λt4=>Aa (Ai Tp .gtr 3 (.tmp 6) (.const (.int .i64 200)) t4 (.int .i64 200)) λt5=>Ah t5 (Q (.bool true) At0) (Aa (Ad Tp 48 t0 3) λt6=>Aa (Af Tp At0 46 t6) λt7=>Aa (Bd Tp At0 46 t7) λt8=>Aa (Ai Tp .gtr 3 (.tmp 11) (.const (.int .i64 20)) t8 (.int .i64 20)) λt9=>Ah t9 (Q (.bool true) At0) (Aa (Ad Tp 48 t0 4) λt10=>Aa (Af Tp At0 9 t10) λt11=>Aa (Bd Tp At0 9 t11) λt12=>Aa (Ai Tp .gtr 3 (.tmp 17) (.const (.int .i64 60)) t12 (.int .i64 60)) λt13=>Q t13 At0))):=by kernel_rfl
theorem w14:Wf1 14 20 Tz Lz:=wf1 (λ_=>by kernel_rfl) (by decide) λ_=>rfl
noncomputable def T20:Nat->List Item:=λi=>match i with
 |0=>[(.code (cd 20 [1,1,0,1,0,0])),(.inLoop (cd 20 [1,1,0,1,0,0])),(.inBlock 0),(.code (cd 20 [1,1,1]))]
 |_=>[]
def L20:Nat->List Tmp:=λi=>match i with
 |0=>[0,1,5]
 |_=>[]
theorem e20:gE W0 m0 S Q 20 26 T20 L20 [a0,a1] A=(Aa (Bd Tp A 22 a0) λt0=>Aa (Bd Tp A 22 a1) λt1=>Aa (Ai Tp .neq 3 (.tmp 7) (.tmp 9) t0 t1) λt2=>Ah t2 (Q (.bool false) A) (Bm (T20 0) (T20 0) (S 0 [a0,a1,(.int .i64 0)] A))):=by kernel_rfl
theorem Ads:gL W0 m0 S Q 20 26 T20 L20 d 0 A=(Aa (Bd Tp A 22 (d 0)) λt0=>Aa (Ai Tp .lss 3 (.tmp 11) (.tmp 13) (d 5) t0) λt1=>Ah t1 (Aa (Ak Tp 22 (d 0) (d 5)) λt2=>Aa (Af Tp A 35 t2) λt3=>Aa (Ak Tp 22 (d 1) (d 5)) λt4=>Aa (Af Tp A 35 t4) λt5=>Aa (Ai Tp .neq 35 (.tmp 20) (.tmp 24) t3 t5) λt6=>Ah t6 (Q (.bool false) A) (Aa (Ai Tp .add 3 (.tmp 15) (.const (.int .i64 1)) (d 5) (.int .i64 1)) λt7=>Bm (T20 0) (T20 0) (S 0 [(d 0),(d 1),t7] A))) (Q (.bool true) A)):=by kernel_rfl
theorem w20:Wf2 20 26 T20 L20:=wf2 (λ_ _=>by kernel_rfl) (by decide) λ_ _=>rfl
theorem c20:DX 20 26 T20 L20:=D0 (by decide)
end
end Go.Proofs.YtbchfeibhoobeaaGreatDoor
namespace Go.Proofs.YtbchfeibhoobeaaGreatDoor
open Go.Abs Go.Jr
variable {j d mp:Nat} {Fl Fr:List Nat} {A:AW} {q:JS} {s:DS} {K:Value->AW->Prop}
section
variable {W0:World} {m0:Inj Tp}
theorem XN:∀ y∈[d,mp],y∈j::d::mp::(Fl++Fr):=λy hy=>by
 simp only [Mk,List.not_mem_nil,or_false] at hy;rcases hy with rfl | rfl<;>simp
theorem AeJ {k n:Nat} (h:JD A j d mp q s Fl Fr) (hok:OkS k s) (hf:Aw A) (hA:A.next<900000000000) (hrw:q.row.length<1000000) (hn:q.row.getLast? =some n) (hN:EO W0 m0 n)
  (hk:∀ A',JD A' j d mp (Iu s q).2.1 (Iu s q).1 Fl Fr->Aj A A' [j,d,mp]->A'.next<=A.next+20->Aw A'->K (.int .i64 (Iu s q).2.2) A'):
  Wc Tp An W0 m0 15 [ptr j] A K:=by
 have hmax:Am=1099511627776:=rfl;have hjd:=h;refine w15 _ _ BF ?_;rw [e15];refine PJ h.jn ?_;simp only [Bg,Ab];refine Ag.2 ⟨λh=>by simp at h,λ_=>?_⟩;refine UW h.jn ?_;simp only [BC,Ab];unfold Iu at hk;refine Bb.2 ⟨λhb=>?_,λhb=>?_⟩
 ·have hb':q.broken=true:=by
   cases hq:q.broken with
   |true=>rfl
   |false=>rw [hq] at hb;simp at hb
  rw [if_pos hb'] at hk;rw [if_pos hb'];exact hk A hjd (.refl _ _) (by omega) hf
 have hb':q.broken=false:=by
  cases hq:q.broken with
  |false=>rfl
  |true=>rw [hq] at hb;simp at hb
 rw [if_neg (by rw [hb'];simp)] at hk;have elast:q.row.getLast?.getD 0=n:=by rw [hn];rfl
 rw [elast] at hk;have hJn:=h.jn;obtain ⟨vl,vr,rl,j1,o1,hql,o2⟩:=h.jn;have hjA:=j1.lt;simp only [ptr,Al,Jt,Cx,Ae j1.row,cellOf,Ax,Cf,Ab];refine YC hJn hn hrw ?_;simp only [Ae j1.row,cellOf,Ax,Cf,Ab,AR];refine Hb (by decide) hN rfl ?_;simp only [Ae j1.row,cellOf,Ax,Cf,Ab,AR];refine Wj (n:=⟨⟨Jr.nm n⟩⟩) h.dk hok.n hf (by omega) λA2 d2 k2 n2 f2=>?_;have ed:(⟨⟨Jr.nm n⟩⟩:ByteArray).data.toList=Jr.nm n:=rfl;rw [ed] at d2 ⊢;have J2:JD A2 j d mp q _ Fl Fr:=hjd.CQ k2 d2;refine SP J2.jn f2 (by omega) (λhm=>(hjd.fl j hm).2.2.1 rfl) (λhm=>(hjd.fr j hm).2.2 rfl) λA3 j3 k3 n3 f3=>?_;refine hk A3 ⟨j3,J2.dk.keeps k3 (by simp;exact λh=>hjd.nd.1 h.symm) (by simp;exact λh=>hjd.nd.2 h.symm),hjd.nd,hjd.fl,hjd.fr⟩ ((k2.more (T:=[j,d,mp]) (λy hy=>.inl (by simp only [Mk,List.not_mem_nil,or_false] at hy ⊢;exact .inr hy))).trans k3 (λy hy=>.inl (by simp [Ms.1 hy]))) (by omega) f3
theorem AbS(h:Jn A j d q Fl Fr)(hk:K (.string ⟨⟨q.state⟩⟩) A):Wc Tp An W0 m0 17 [ptr j] A K:=by
 refine w17 _ _ BF ?_;rw [e17];refine PJ h ?_;simp only [Bg,Ab];refine Ag.2 ⟨λh=>by simp at h,λ_=>?_⟩;obtain ⟨vl,vr,rl,j1,o1,hql,o2⟩:=h;simp only [ptr,Al,Qn,CG,Ae j1.row,cellOf,Ax,AG,AE,Cf,Ab,Nat.zero_add];exact hk
theorem V8{l:List RV}{v:Value}{F:List Nat}(h:C3 35 1 fR A v l F):∀ c,v=.slice none 0 c->c=0:=by
 intro c hv;rcases h with h | ⟨b,h1,_⟩
 ·rcases h with ⟨h1,_⟩ | ⟨b,f,h1,_⟩
  ·rw [hv] at h1;simpa using h1
  ·rw [hv] at h1;simp at h1
 ·rw [hv] at h1;simp at h1
theorem AbR (h:Jn A j d q Fl Fr) (hf:Aw A) (hA:A.next<900000000000) (hl:q.l.length<1000000)
  (hk:∀ A' v (R:List RV) F',q.l=R.map toR->C3 35 1 fR A' v R F'->(∀ y∈F',A.next<=y)->Grow A A' 2->K v A'):Wc Tp An W0 m0 18 [ptr j] A K:=by
 have hmax:Am=1099511627776:=rfl;refine w18 _ _ BF ?_;rw [e18];refine PJ h ?_;simp only [Bg,Ab];refine Ag.2 ⟨λh=>by simp at h,λ_=>?_⟩;obtain ⟨vl,vr,rl,j1,o1,hql,o2⟩:=h;have hvl:=o1.one;simp only [ptr,Al,Ll,JO,Ae j1.row,cellOf,Ax,AG,AE,hvl.2,Cf,Ab,Nat.zero_add];refine AbG (o1.rd etR.len) (V8 o1) hf (by omega) (by rw [hql,List.length_map] at hl;exact hl) λA2 v2 F2 o2' hF2 g2=>?_;exact hk A2 v2 rl F2 hql o2' hF2 g2
theorem AeG {n:Int} (h:Dk A d mp s) (hf:Aw A) (hA:A.next<900000000000)
  (hk:∀ A',Dk A' d mp (CZ s n)->Aj A A' [d]->A'.next=A.next->Aw A'->K (.tuple ⟨[]⟩) A'):Wc Tp An W0 m0 21 [ptr d,.int .i64 n] A K:=by
 have hmax:Am=1099511627776:=rfl;refine w21 _ _ _ BF ?_;rw [e21];have h0:=h;refine QT h ?_;refine Ag.2 ⟨λ_=>?_,λh=>by simp at h⟩;obtain ⟨es,c,hr,hm,hne,hD⟩:=h;unfold CZ at hk;simp only [ptr,Al,Ij,Na,Fh,Ae hr.row,cellOf,Cc,AG,Bt,Cf,Ab,Nat.zero_add,Bg,Vw];refine Ag.2 ⟨λhd=>?_,λhd=>?_⟩
 ·rw [if_neg (by simpa using hd)] at hk;refine hr.store hf (by omega) (J0 _ _ _) rfl (by show 2+1<=4;omega) rfl λA2 r2 k2 n2 f2=>?_;have k2:Aj A A2 [d]:=k2;exact hk A2 ⟨es,c,r2,hm.keeps k2 (by simp;exact λh=>hne h.symm),hne,hD⟩ k2 n2 f2
 ·rw [if_pos (by simpa using hd)] at hk;exact hk A h0 (.refl _ _) rfl hf
theorem AeF (h:Dk A d mp s) (hf:Aw A) (hA:A.next<900000000000)
  (hk:∀ A',Dk A' d mp (Hl s)->Aj A A' [d]->A'.next=A.next->Aw A'->K (.tuple ⟨[]⟩) A'):Wc Tp An W0 m0 22 [ptr d] A K:=by
 have hmax:Am=1099511627776:=rfl;refine w22 _ _ BF ?_;rw [e22];refine QT h ?_;refine Ag.2 ⟨λ_=>?_,λh=>by simp at h⟩;obtain ⟨es,c,hr,hm,hne,hD⟩:=h;simp only [ptr,Al,Ij,Na,Ab,Nat.zero_add];refine hr.store hf (by have:=hr.lt;omega) (JZ _ _ _) rfl (by show 3+1<=4;omega) rfl λA2 r2 k2 n2 f2=>?_;have r2:Go.Abs.AS A2 d [.map (some mp),.int .i64 s.room,.int .i64 s.B9,.bool true] 76:=r2;have k2:Aj A A2 [d]:=k2;refine r2.store f2 (by omega) (J0 _ _ _) rfl (by show 2+1<=4;omega) rfl λA3 r3 k3 n3 f3=>?_;have r3:Go.Abs.AS A3 d [.map (some mp),.int .i64 s.room,.int .i64 0,.bool true] 76:=r3;have k3:Aj A2 A3 [d]:=k3;have K3:Aj A A3 [d]:=k2.trans k3 (by simp);exact hk A3 ⟨es,c,r3,hm.keeps K3 (by simp;exact λh=>hne h.symm),hne,hD⟩ K3 (by omega) f3
end
variable {A:AW} {j d mp k n:Nat} {q:JS} {s:DS} {Fl Fr:List Nat} {K:Value->AW->Prop} {S:Nat->List Value->AW->Prop} {st:ByteArray}
noncomputable def ckT(W0:World)(m0:Inj Tp)(S:Nat->List Value->AW->Prop)(Q:Value->AW->Prop)(a0 a1 t7:Value)(A:AW):Prop:=
 Wc Tp An W0 m0 41 [a1] A λt20 At20=>Aa (AD a0) λt21=>Aa (Ad Tp 83 t21 0) λt22=>Aa (Af Tp At20 27 t22) λt23=>Wc Tp An W0 m0 13 [t23,(.string ⟨⟨[106,46,110,101,119]⟩⟩),t20] At20 λt24 At24=>Aa (Ai Tp .neq 30 (.tmp 56) (.const (.int .i64 0)) t24 (.int .i64 0)) λt25=>Ah t25 (Wc Tp An W0 m0 57 [a0,t24] At24 λt26 At26=>Q t26 At26) (Aa (AD a0) λt27=>Aa (Ad Tp 83 t27 0) λt28=>Aa (Af Tp At24 27 t28) λt29=>Wc Tp An W0 m0 44 [t29,(.string ⟨⟨[106,46,110,101,119]⟩⟩)] At24 λt30 At30=>Aa (Ai Tp .neq 30 (.tmp 66) (.const (.int .i64 0)) t30 (.int .i64 0)) λt31=>Ah t31 (Wc Tp An W0 m0 57 [a0,t30] At30 λt32 At32=>Q t32 At32) (Aa (AD a0) λt33=>Aa (Ad Tp 83 t33 0) λt34=>Aa (Af Tp At30 27 t34) λt35=>knW Tp W0 m0 47 [t7] At30 λt36 At36=>Aa (Af Tp At36 27 t34) λt37=>eqW t37 t35 (Aa (Ad Tp 83 t33 0) λt38=>eqW t38 t34 (Aa (AD a0) λt39=>eqW t39 t33 (eqW a0 a0 (Wc Tp An W0 m0 46 [t35,(.string ⟨⟨[106,46,110,101,119]⟩⟩),t36] At36 λt40 At40=>Aa (Ai Tp .neq 30 (.tmp 78) (.const (.int .i64 0)) t40 (.int .i64 0)) λt41=>Ah t41 (Wc Tp An W0 m0 57 [a0,t40] At40 λt42 At42=>Q t42 At42) (Aa (AD a0) λt43=>Aa (Ad Tp 83 t43 4) λt44=>Aa (Af Tp At40 46 t44) λt45=>Au (Av Tp At40 46 1 [(0,t7)]) λt46 At46=>Aa (Bd Tp At46 9 t20) λt47=>Aa (AD a0) λt48=>Aa (Ad Tp 83 t48 2) λt49=>Bh (Az Tp At46 9 t49 a1) λAt50=>Aa (AD a0) λt51=>Aa (Ad Tp 83 t51 3) λt52=>Bh (Az Tp At50 22 t52 (.slice none 0 0)) λAt53=>Aa (AD a0) λt54=>Aa (Ad Tp 83 t54 4) λt55=>Bh (Az Tp At53 46 t55 t46) λAt56=>Aa (AD a0) λt57=>Aa (Ad Tp 83 t57 5) λt58=>Bh (Az Tp At56 3 t58 t47) λAt59=>Aa (AD a0) λt60=>Aa (Ad Tp 83 t60 6) λt61=>Bh (Az Tp At59 4 t61 (.bool true)) λAt62=>Aa (Bd Tp At62 46 t45) λt63=>Bm (T16 0) (T16 0) (S 0 [a0,t45,t63,(.int .i64 0)] At62))))))))
theorem Zi(W0:World)(m0:Inj Tp)(S:Nat->List Value->AW->Prop)(Q:Value->AW->Prop)(a0 a1:Value)(A:AW):gE W0 m0 S Q 16 126 T16 L16 [a0,a1] A=(Wc Tp An W0 m0 53 [a0] A λt0 At0=>Aa (unA Tp .not t0) λt1=>Ah t1 (Q (.int .i64 1) At0) (Wc Tp An W0 m0 54 [a0] At0 λt2 At2=>Aa (Ai Tp .neq 30 (.tmp 21) (.const (.int .i64 0)) t2 (.int .i64 0)) λt3=>Ah t3 (Q t2 At2) (Aa (Bd Tp At2 9 a1) λt4=>Aa (Ai Tp .gtr 3 (.tmp 25) (.const (.int .i64 65536)) t4 (.int .i64 65536)) λt5=>Ah t5 (Q (.int .i64 3) At2) (Wc Tp An W0 m0 56 [a0] At2 λt6 At6=>Aa (Ai Tp .add 3 (.tmp 28) (.const (.int .i64 1)) t6 (.int .i64 1)) λt7=>Aa (Ai Tp .gtr 3 (.tmp 30) (.const (.int .i64 99999999)) t7 (.int .i64 99999999)) λt8=>Ah t8 (Q (.int .i64 6) At6) (Aa (AD a0) λt9=>Aa (Ad Tp 83 t9 0) λt10=>Aa (Af Tp At6 27 t10) λt11=>Wc Tp An W0 m0 11 [t11] At6 λt12 At12=>Wc Tp An W0 m0 38 [t12,(.string ⟨⟨[106,46,110,101,119]⟩⟩)] At12 λt13 At13=>Ah t13 (Aa (AD a0) λt14=>Aa (Ad Tp 83 t14 0) λt15=>Aa (Af Tp At13 27 t15) λt16=>Wc Tp An W0 m0 40 [t16,(.string ⟨⟨[106,46,110,101,119]⟩⟩)] At13 λt17 At17=>Aa (Ai Tp .neq 30 (.tmp 43) (.const (.int .i64 0)) t17 (.int .i64 0)) λt18=>Ah t18 (Wc Tp An W0 m0 57 [a0,t17] At17 λt19 At19=>Q t19 At19) (ckT W0 m0 S Q a0 a1 t7 At17)) (ckT W0 m0 S Q a0 a1 t7 At13)))))):=by kernel_rfl
def CI(A:AW)(j d mp k:Nat)(Fl Fr:List Nat)(s:DS)(q:JS)(old:List Nat)(vo:Value):Nat->Nat->List Value->AW->Prop:=λg id vals A'=>id=0/\∃ (i:Nat) (s1:DS) (Fr':List Nat),vals=[ptr j,vo,.int .i64 (old.length:Int),.int .i64 (i:Int)]/\i<=old.length/\g=old.length-i/\
 JD A' j d mp q s1 [] Fr'/\(∀ y∈Fr',A.next<=y)/\C3 3 0 fI A' vo old Fr/\B5 s old=B5 s1 (old.drop i)/\OkS (k+4+i) s1/\Aj A A' (j::d::mp::(Fl++Fr))/\Aw A'/\A'.next<=A.next+200+10*k+10*i
section
variable {W0:World} {m0:Inj Tp}
theorem Zm {A':AW} {g:Nat} {old:List Nat} {vo:Value} {vals:List Value} {dd:Nat->Value} (hjd:∀ x∈Fr,x<A.next/\x≠d/\x≠mp/\x≠j) (hA:A.next<800000000000) (hk9:k+old.length<8000) (hN:∀ x∈old,EO W0 m0 x)
  (hk:∀ A' Fr',JD A' j d mp (if (B5 s old).2≠0 then DA q (B5 s old).2 else q) (B5 s old).1 [] Fr'->(∀ y∈Fr',A.next<=y)->Aj A A' (j::d::mp::(Fl++Fr))->A'.next<=A.next+200+10*k+10*old.length+10->Aw A'->K (.int .i64 (B5 s old).2) A')
  (hS:∀ g2 id v A'',g2<g->CI A j d mp k Fl Fr s q old vo g2 id v A''->S id v A'')
  (h:CI A j d mp k Fl Fr s q old vo g 0 vals A') (hd':(L16 0).map dd=vals):gL W0 m0 S K 16 126 T16 L16 dd 0 A':=by
 have hmax:Am=1099511627776:=rfl;obtain ⟨_,i,s1,Fr',rfl,hi,rfl,hJ,hFr',hvo,hrm,hok,hkp,hf,hn⟩:=h;rw [Adt];simp only [L16,Mc,Mn,Li,and_true] at hd';obtain ⟨h0,h107,h108,h109⟩:=hd';simp only [h0,h107,h108,h109,AU,Ab,Ao];have hle:=hkp.next;refine ⟨λhlt=>?_,λhge=>?_⟩
 ·have hlt:i<old.length:=by omega
  obtain ⟨p,hp⟩:∃ p,old[i]? =some p:=⟨_,Ge hlt⟩;obtain ⟨a,a1,a2⟩:=esI.at (hvo.rd esI.len) hp rfl;obtain ⟨vl,vr,rl,j1,o1,hql,o2⟩:=hJ.jn;rw [Lt hp] at hrm;have hrm:B5 s old=if (AQ s1 (Jr.nm p)).2≠0 then AQ s1 (Jr.nm p) else B5 (AQ s1 (Jr.nm p)).1 (old.drop (i+1)):=hrm
  simp only [a1,a2,Ab,ptr,Al,Jt,Cx,Ae j1.row,cellOf,Ax,Cf];refine Hb (by decide) (hN p (List.mem_of_getElem? hp)) rfl ?_;simp only [Ae j1.row,cellOf,Ax,Cf,Ab,AR];refine YD (n:=⟨⟨Jr.nm p⟩⟩) hJ.dk hok.n hf (by omega) λA2 d2 k2 n2 f2=>?_;have ed:(⟨⟨Jr.nm p⟩⟩:ByteArray).data.toList=Jr.nm p:=rfl;rw [ed] at d2 ⊢;have J2:JD A2 j d mp q _ [] Fr':=hJ.CQ k2 d2;have K2:Aj A A2 (j::d::mp::(Fl++Fr)):=hkp.trans k2 λy hy=>.inl (XN y hy);simp only [BC,AY,Ab];rw [wrap_i64 (by omega) (by omega)];refine Bb.2 ⟨λhe=>?_,λhe=>?_⟩
  ·rw [if_pos he] at hrm;rw [hrm,if_pos he] at hk;refine SP J2.jn f2 (by omega) (by simp) (λhm=>(hJ.fr j hm).2.2 rfl) λA3 j3 k3 n3 f3=>?_;exact hk A3 Fr' ⟨j3,J2.dk.keeps k3 (by simp;exact λh=>hJ.nd.1 h.symm) (by simp;exact λh=>hJ.nd.2 h.symm),hJ.nd,by simp,hJ.fr⟩ hFr' (K2.trans k3 λy hy=>.inl (by simp [Ms.1 hy])) (by omega) f3
  ·rw [if_neg (by simpa using he)] at hrm;refine Ar.2 (hS (old.length-(i+1)) 0 _ A2 (by omega) ⟨rfl,i+1,_,Fr',rfl,by omega,rfl,J2,hFr',hvo.keeps k2 (λy hy=>by have:=hjd y hy;simp;exact ⟨this.2.1,this.2.2.1⟩),hrm,(H6 hok _).more (by omega),K2,f2,by omega⟩)
 ·have hi':i=old.length:=by omega
  subst hi';rw [List.drop_length] at hrm;have hrm:B5 s old=(s1,0):=hrm;rw [hrm] at hk;exact hk A' Fr' hJ hFr' hkp (by omega) hf
def ckS(s:DS)(q:JS)(st:List UInt8):DS × JS × Int:=
 let n:=q.row.getLast?.getD 0+1;let x1:=BG s fresh (Bc (0,st))
 if x1.2≠0 then (x1.1,DA q x1.2,x1.2) else
 let x2:=Bn x1.1 fresh
 if x2.2≠0 then (x2.1,DA q x2.2,x2.2) else
 let x3:=CR x2.1 fresh (Jr.nm n)
 if x3.2≠0 then (x3.1,DA q x3.2,x3.2) else
 let q':JS:={ q with state:=st,l:=[],row:=[n],size:=(Bc (0,st)).length,some:=true };let y:=B5 x3.1 q.row
 if y.2≠0 then (y.1,DA q' y.2,y.2) else (y.1,q',0)
def ckI(A:AW)(j d mp k:Nat)(Fl Fr:List Nat)(s:DS)(q:JS)(st:List UInt8):Nat->Nat->List Value->AW->Prop:=λg id vals A'=>∃ vo,((BG s fresh (Bc (0,st))).2=0/\(Bn (BG s fresh (Bc (0,st))).1 fresh).2=0/\(CR (Bn (BG s fresh (Bc (0,st))).1 fresh).1 fresh (Jr.nm (q.row.getLast?.getD 0+1))).2=0)/\CI A j d mp k Fl Fr
 (CR (Bn (BG s fresh (Bc (0,st))).1 fresh).1 fresh (Jr.nm (q.row.getLast?.getD 0+1))).1 { q with state:=st,l:=[],row:=[q.row.getLast?.getD 0+1],size:=(Bc (0,st)).length,some:=true } q.row vo g id vals A'
theorem ZU {A1:AW} (h:JD A1 j d mp q s Fl Fr) (hg:Glb A1) (hok:OkS k s) (hk9:k<8000) (hf:Aw A1) (hA:A.next<800000000000) (hAA:Aj A A1 (j::d::mp::(Fl++Fr))) (hAn:A1.next<=A.next+50+6*k) (h0:0≠j/\0≠d/\0≠mp) (hst:st.data.toList.length<=65536)
  (hS:∀ g2 id v A',ckI A j d mp k Fl Fr s q st.data.toList g2 id v A'->S id v A')
  (hn:q.row.getLast? =some n) (hn8:n+1<100000000) (hN:EO W0 m0 (n+1)) (hlt:j<A.next/\(∀ x∈Fl,x<A.next)/\∀ x∈Fr,x<A.next)
  (hk:(ckS s q st.data.toList).2.2≠0->∀ A' Fl' Fr',JD A' j d mp (ckS s q st.data.toList).2.1 (ckS s q st.data.toList).1 Fl' Fr'->(∀ y∈Fl',y∈Fl\/A.next<=y)->(∀ y∈Fr',y∈Fr\/A.next<=y)->Aj A A' (j::d::mp::(Fl++Fr))->A'.next<=A.next+200+10*k+10*q.row.length+10->Aw A'->K (.int .i64 (ckS s q st.data.toList).2.2) A'):
  ckT W0 m0 S K (ptr j) (.string st) (.int .i64 ((n+1:Nat):Int)) A1:=by
 have hmax:Am=1099511627776:=rfl;have hfew:=hok.few;have hle0:=hAA.next;have elast:q.row.getLast?.getD 0=n:=by rw [hn];rfl
 have hjFl:j∉Fl:=λhm=>(h.fl j hm).2.2.1 rfl;have hjFr:j∉Fr:=λhm=>(h.fr j hm).2.2 rfl;unfold ckT;refine Z2 hg hf hst (by omega) λA2 g2=>?_;have n2:=g2.next;have le2:=g2.le;have J2:=h.keeps g2.keeps (by simp) (by simp) (by simp) (by simp) (by simp);have hjn2:=J2.jn;obtain ⟨vl,vr,rl,j2,o1,hql,o2⟩:=J2.jn;have hpl:(Bc (0,st.data.toList)).length=13+st.data.toList.length:=Cn _;simp only [ptr,Al,Jt,Cx,Ae j2.row,cellOf,Ax,Cf,Ab];have eb:(⟨⟨Bc (0,st.data.toList)⟩⟩:ByteArray).data.toList=Bc (0,st.data.toList):=rfl;have efr:(⟨⟨[106,46,110,101,119]⟩⟩:ByteArray).data.toList=fresh:=rfl;have K2:Aj A A2 (j::d::mp::(Fl++Fr)):=hAA.trans g2.keeps (by simp);unfold ckS at hk;rw [elast] at hk;refine Wk (n:=⟨⟨[106,46,110,101,119]⟩⟩) (b:=⟨⟨Bc (0,st.data.toList)⟩⟩) J2.dk (hok.d (by omega)) hok.n (by rw [eb,hpl];omega) g2.Ay (by omega) λA3 d3 k3 n3 f3=>?_;rw [efr,eb] at d3 ⊢;have J3:JD A3 j d mp q _ Fl Fr:=J2.CQ k3 d3;have le3:=k3.next;have K3:Aj A A3 (j::d::mp::(Fl++Fr)):=K2.trans k3 λy hy=>.inl (XN y hy);have fail:∀ (A4:AW) (s4:DS) (e:Int),JD A4 j d mp q s4 Fl Fr->Aj A A4 (j::d::mp::(Fl++Fr))->Aw A4->A4.next<=A.next+200+10*k+10->(∀ A' Fl' Fr',JD A' j d mp (DA q e) s4 Fl' Fr'->(∀ y∈Fl',y∈Fl\/A.next<=y)->(∀ y∈Fr',y∈Fr\/A.next<=y)->Aj A A' (j::d::mp::(Fl++Fr))->A'.next<=A.next+200+10*k+10*q.row.length+10->Aw A'->K (.int .i64 e) A')->
   Wc Tp An W0 m0 57 [pP j 0,.int .i64 e] A4 λt26 At26=>K t26 At26:=by
  intro A4 s4 e hJ hK hF hN4 hk4;refine SP hJ.jn hF (by omega) hjFl hjFr λA5 j5 k5 n5 f5=>?_;exact hk4 A5 Fl Fr ⟨j5,hJ.dk.keeps k5 (by simp;exact λh=>hJ.nd.1 h.symm) (by simp;exact λh=>hJ.nd.2 h.symm),hJ.nd,hJ.fl,hJ.fr⟩ (λy hy=>.inl hy) (λy hy=>.inl hy) (hK.trans k5 λy hy=>.inl (by simp [Ms.1 hy])) (by omega) f5
 simp only [BC,Ab];refine Bb.2 ⟨λhe=>?_,λhe=>?_⟩
 ·simp only [if_pos he] at hk;exact fail A3 _ _ J3 K3 f3 (by omega) (hk he)
 simp only [if_neg (by simpa using he:¬ (BG s fresh (Bc (0,st.data.toList))).2≠0)] at hk;have hok3:OkS (k+1) (BG s fresh (Bc (0,st.data.toList))).1:=Og hok _ _;have j3:=j2.keeps k3 (by simp;exact h.nd);simp only [Ae j3.row,cellOf,Ax,Cf,Ab];refine Wj (n:=⟨⟨[106,46,110,101,119]⟩⟩) J3.dk hok3.n f3 (by omega) λA4 d4 k4 n4 f4=>?_;rw [efr] at d4 ⊢;have J4:JD A4 j d mp q _ Fl Fr:=J3.CQ k4 d4;have le4:=k4.next;have K4:Aj A A4 (j::d::mp::(Fl++Fr)):=K3.trans k4 λy hy=>.inl (XN y hy);simp only [BC,Ab];refine Bb.2 ⟨λhe2=>?_,λhe2=>?_⟩
 ·simp only [if_pos he2] at hk;exact fail A4 _ _ J4 K4 f4 (by omega) (hk he2)
 simp only [if_neg (by simpa using he2:¬ (Bn (BG s fresh (Bc (0,st.data.toList))).1 fresh).2≠0)] at hk;have hok4:OkS (k+2) (Bn (BG s fresh (Bc (0,st.data.toList))).1 fresh).1:=KA hok3 _;have j4:=j3.keeps k4 (by simp;exact h.nd);simp only [Ae j4.row,cellOf,Ax,Cf,Ab];refine Hb (by decide) hN rfl ?_;simp only [Ae j4.row,cellOf,Ax,Cf,Ab,AR];refine AbH (n:=⟨⟨[106,46,110,101,119]⟩⟩) (t:=⟨⟨Jr.nm (n+1)⟩⟩) J4.dk hok4.n f4 (by omega) λA5 d5 k5 n5 f5=>?_;have en:(⟨⟨Jr.nm (n+1)⟩⟩:ByteArray).data.toList=Jr.nm (n+1):=rfl;rw [efr,en] at d5 ⊢;have J5:JD A5 j d mp q _ Fl Fr:=J4.CQ k5 d5;have le5:=k5.next;have K5:Aj A A5 (j::d::mp::(Fl++Fr)):=K4.trans k5 λy hy=>.inl (XN y hy);simp only [BC,Ab];refine Bb.2 ⟨λhe3=>?_,λhe3=>?_⟩
 ·simp only [if_pos he3] at hk;exact fail A5 _ _ J5 K5 f5 (by omega) (hk he3)
 have hok5:OkS (k+3) (CR (Bn (BG s fresh (Bc (0,st.data.toList))).1 fresh).1 fresh (Jr.nm (n+1))).1:=ND hok4 _ _;obtain ⟨wl,wr,rl5,j5,p1,hql5,p2⟩:=J5.jn;have hwl:=p1.one;have hwr:=p2.one;simp only [Qn,Ll,Lk,Lj,Lh,Nat.zero_add,Po,Ae j5.row,cellOf,Ax,AG,AE,hwl.2,hwr.2,Cf,Ab];refine Io (X6 A5 ((n+1:Nat):Int)) rfl f5 (by omega) λA6 m6=>?_;have n6:=m6.next;have k6:=m6.keeps f5;have j6:=j5.keeps k6 (by simp);simp only [Ea,eb,Ab];refine j6.store m6.Ay (by omega) (S2 _ _ _) rfl (by show 2+1<=8;omega) rfl λA7 j7 k7 n7 f7=>?_;have j7:Go.Abs.AS A7 j [pP d 0,.int .i64 q.limit,.string st,wl,wr,.int .i64 (q.size:Int),.bool q.some,.bool q.broken] 83:=j7;have k7:Aj A6 A7 [j]:=k7;refine j7.store f7 (by omega) (Nu _ _ _) rfl (by show 3+1<=8;omega) rfl λA8 j8 k8 n8 f8=>?_;have j8:Go.Abs.AS A8 j [pP d 0,.int .i64 q.limit,.string st,.slice none 0 0,wr,.int .i64 (q.size:Int),.bool q.some,.bool q.broken] 83:=j8;have k8:Aj A7 A8 [j]:=k8;refine j8.store f8 (by omega) (Ui _ _ _) rfl (by show 4+1<=8;omega) rfl λA9 j9 k9 n9 f9=>?_;have j9:Go.Abs.AS A9 j [pP d 0,.int .i64 q.limit,.string st,.slice none 0 0,.slice (some ⟨A5.next,0,none⟩) 1 1,.int .i64 (q.size:Int),.bool q.some,.bool q.broken] 83:=j9;have k9:Aj A8 A9 [j]:=k9;refine j9.store f9 (by omega) (J0 _ _ _) rfl (by show 5+1<=8;omega) rfl λA10 j10 k10 n10 f10=>?_;have j10:Go.Abs.AS A10 j [pP d 0,.int .i64 q.limit,.string st,.slice none 0 0,.slice (some ⟨A5.next,0,none⟩) 1 1,.int .i64 ((Bc (0,st.data.toList)).length:Int),.bool q.some,.bool q.broken] 83:=j10;have k10:Aj A9 A10 [j]:=k10;refine j10.store f10 (by omega) (JZ _ _ _) rfl (by show 6+1<=8;omega) rfl λA11 j11 k11 n11 f11=>?_;have j11:Go.Abs.AS A11 j [pP d 0,.int .i64 q.limit,.string st,.slice none 0 0,.slice (some ⟨A5.next,0,none⟩) 1 1,.int .i64 ((Bc (0,st.data.toList)).length:Int),.bool true,.bool q.broken] 83:=j11;have k11:Aj A10 A11 [j]:=k11;have k611:Aj A6 A11 [j]:=(((k7.trans k8 (by simp)).trans k9 (by simp)).trans k10 (by simp)).trans k11 (by simp);have k511:Aj A5 A11 [j]:=(k6.more (by simp)).trans k611 (by simp);have r6:Go.Abs.AS A6 A5.next (flat fI [n+1]) 3:=m6.BB;have hjlt:=j5.lt;have r11:=r6.keeps k611 (by simp;omega);have hvo:C3 3 0 fI A11 wr q.row Fr:=p2.keeps k511 λy hy=>by simp;rintro rfl;exact hjFr hy
 rw [esI.HG (hvo.rd esI.len)];simp only [Ab];have est:(⟨⟨st.data.toList⟩⟩:ByteArray)=st:=rfl;have dk11:=J5.dk.keeps k511 (by simp;exact λh'=>h.nd.1 h'.symm) (by simp;exact λh'=>h.nd.2 h'.symm);have hdl:=J5.dk.lt;refine Ar.2 (hS q.row.length 0 _ _ ⟨wr,⟨he,he2,by rw [elast];exact he3⟩,rfl,0,_,[A5.next],rfl,by omega,rfl,⟨⟨.slice none 0 0,.slice (some ⟨A5.next,0,none⟩) 1 1,[],j11,C3.nil _,rfl,.inr ⟨A5.next,by rw [elast];rfl,by simp,by rw [elast];exact r11,rfl⟩⟩,by rw [elast];exact dk11,h.nd,by simp,λy hy=>?_⟩,λy hy=>?_,hvo,rfl,by rw [elast];exact hok5.more (by omega),K5.trans k511 (λy hy=>.inl (by simp [Ms.1 hy])),f11,by omega⟩)
 ·rw [Ms.1 hy];exact ⟨by omega,by omega,by omega⟩
 ·rw [Ms.1 hy];omega
theorem Aa7(s:DS)(names:List (List UInt8))(q:JS)(st:List UInt8)(hb:q.broken=false)(hst:¬ 65536<st.length)(hn:¬ 99999999<q.row.getLast?.getD 0+1):Bs s names q st=
  (if (if fresh∈names then AQ s fresh else (s,0)).2≠0 then ((if fresh∈names then AQ s fresh else (s,0)).1,DA q (if fresh∈names then AQ s fresh else (s,0)).2,(if fresh∈names then AQ s fresh else (s,0)).2) else ckS (if fresh∈names then AQ s fresh else (s,0)).1 q st):=by
 unfold Bs ckS;rw [if_neg (by rw [hb];simp),if_neg hst];simp only;rw [if_neg hn]
theorem AeI (h:JD A j d mp q s Fl Fr) (hg:Glb A) (hok:OkS k s) (hk9:k+q.row.length<7000) (hf:Aw A) (hA:A.next<800000000000) (h0:0≠j/\0≠d/\0≠mp) (hst:st.data.toList.length<=65536)
  (hn:q.row.getLast? =some n) (hn8:n+1<100000000) (hN:EO W0 m0 (n+1)) (hNr:∀ x∈q.row,EO W0 m0 x)
  (hk:∀ A' Fl' Fr',JD A' j d mp (Bs s (namesS s.D) q st.data.toList).2.1 (Bs s (namesS s.D) q st.data.toList).1 Fl' Fr'->(∀ y∈Fl',y∈Fl\/A.next<=y)->(∀ y∈Fr',y∈Fr\/A.next<=y)->Aj A A' (j::d::mp::(Fl++Fr))->A'.next<=A.next+240+10*k+10*q.row.length->Aw A'->K (.int .i64 (Bs s (namesS s.D) q st.data.toList).2.2) A'):
  Wc Tp An W0 m0 16 [ptr j,.string st] A K:=by
 have hmax:Am=1099511627776:=rfl;have hfew:=hok.few;have hjd:=h;have hjA:=h.jn.lt;have hFlA:∀ y∈Fl,y<A.next:=by obtain ⟨_,_,_,_,a,_,_⟩:=h.jn;exact a.lt
 have hFrA:∀ y∈Fr,y<A.next:=by obtain ⟨_,_,_,_,_,_,a⟩:=h.jn;exact a.lt
 have elast:q.row.getLast?.getD 0=n:=by rw [hn];rfl
 have hloop:∀ x∈Fr,x<A.next/\x≠d/\x≠mp/\x≠j:=λx hx=>⟨hFrA x hx,h.fr x hx⟩;by_cases hb:q.broken=true
 ·have he:Bs s (namesS s.D) q st.data.toList=(s,q,100):=by unfold Bs;rw [if_pos hb]
  rw [he] at hk;refine w16 _ _ _ BF ?_;rw [Zi];refine PJ h.jn ?_;simp only [Bg,Ab];refine Ag.2 ⟨λh=>by simp at h,λ_=>?_⟩;refine UW h.jn ?_;rw [if_pos hb];simp only [BC,Ab];exact Bb.2 ⟨λ_=>hk A Fl Fr hjd (λy hy=>.inl hy) (λy hy=>.inl hy) (.refl _ _) (by omega) hf,λh=>by simp at h⟩
 have hb:q.broken=false:=by simpa using hb
 rw [Aa7 s (namesS s.D) q st.data.toList hb (by omega) (by rw [elast];omega)] at hk;obtain ⟨x0,hx0⟩:∃ x0,(if fresh∈namesS s.D then AQ s fresh else (s,0))=x0:=⟨_,rfl⟩;rw [hx0] at hk;have hokx:OkS (k+1) x0.1:=by
  rw [<- hx0];split
  ·exact H6 hok _
  ·exact hok.more (by omega)
 have hJ0:∀ A1,Jn A1 j d q Fl Fr->Dk A1 d mp x0.1->JD A1 j d mp q x0.1 Fl Fr:=λA1 h1 h2=>⟨h1,h2,hjd.nd,hjd.fl,hjd.fr⟩;refine w16 _ _ _ (c16 (I:=λg id vals A'=>x0.2=0/\ckI A j d mp (k+1) Fl Fr x0.1 q st.data.toList g id vals A') λg id vals A' dd hI hd'=>?_) ?_
 ·obtain ⟨hx2,vo,⟨hz1,hz2,hz3⟩,hCI⟩:=hI;obtain rfl:id=0:=hCI.1;rw [if_neg (by simpa using hx2)] at hk;unfold ckS at hk;simp only [if_neg (by simpa using hz1:¬ (BG x0.1 fresh (Bc (0,st.data.toList))).2≠0),if_neg (by simpa using hz2:¬ (Bn (BG x0.1 fresh (Bc (0,st.data.toList))).1 fresh).2≠0),if_neg (by simpa using hz3:¬ (CR (Bn (BG x0.1 fresh (Bc (0,st.data.toList))).1 fresh).1 fresh (Jr.nm (q.row.getLast?.getD 0+1))).2≠0)] at hk;refine Zm (k:=k+1) hloop hA (by omega) hNr (λA2 Fr' h1 h2 h3 h4 h5=>?_) (λg2 id v A'' hg2 hc=>⟨g2,hg2,hx2,vo,⟨hz1,hz2,hz3⟩,hc⟩) hCI hd';refine (λhk0=>?_:_->_) hk;by_cases hy:(B5 (CR (Bn (BG x0.1 fresh (Bc (0,st.data.toList))).1 fresh).1 fresh (Jr.nm (q.row.getLast?.getD 0+1))).1 q.row).2=0
  ·rw [if_neg (by simpa using hy)] at hk0 h1
   have:=hk0 A2 [] Fr' h1 (by simp) (λy hy=>.inr (h2 y hy)) h3 (by omega) h5
   rw [hy];exact this
  ·rw [if_pos hy] at hk0 h1;exact hk0 A2 [] Fr' h1 (by simp) (λy hy=>.inr (h2 y hy)) h3 (by omega) h5
 rw [Zi];refine PJ h.jn ?_;simp only [Bg,Ab];refine Ag.2 ⟨λh=>by simp at h,λ_=>?_⟩;refine UW h.jn ?_;rw [if_neg (by rw [hb];simp)];simp only [BC,Ab,Ea,BN,Ao];refine Bb.2 ⟨λh=>by simp at h,λ_=>⟨λh=>by omega,λ_=>?_⟩⟩;refine YC h.jn hn (by omega) ?_;obtain ⟨vl,vr,rl,j1,o1,hql,o2⟩:=h.jn;simp only [AY,Ab,BN];rw [wrap_i64 (by omega) (by omega)];have en1:(n:Int)+1=((n+1:Nat):Int):=by omega
 simp only [Ao];refine ⟨λh=>by omega,λ_=>?_⟩;simp only [ptr,Al,Jt,Cx,Ae j1.row,cellOf,Ax,Cf,Ab];refine SQ h.dk hf (by omega) (by omega) λA1 sv Fn h1 hFn k1 n1 f1=>?_;have hrd:=HE h1;have hnl:(namesS s.D).length=s.D.length:=by unfold namesS;rw [List.length_mergeSort,List.length_map]
 refine AbI (k:=⟨⟨[106,46,110,101,119]⟩⟩) hrd (by omega) ?_;have efr:(⟨⟨[106,46,110,101,119]⟩⟩:ByteArray).data.toList=fresh:=rfl;rw [efr];have J1:=hjd.keeps k1 (by simp) (by simp) (by simp) (by simp) (by simp);have le1:=k1.next;have K1:Aj A A1 (j::d::mp::(Fl++Fr)):=k1.more (by simp);have hjlt:j<A.next/\(∀ x∈Fl,x<A.next)/\∀ x∈Fr,x<A.next:=⟨hjA,hFlA,hFrA⟩;refine Ag.2 ⟨λhin=>?_,λhin=>?_⟩
 ·have hin:fresh∈namesS s.D:=by simpa using hin
  rw [if_pos hin] at hx0;have j1':=j1.keeps k1 (by simp);simp only [Ae j1'.row,cellOf,Ax,Cf,Ab];refine YD (n:=⟨⟨[106,46,110,101,119]⟩⟩) J1.dk hok.n f1 (by omega) λA2 d2 k2 n2 f2=>?_;rw [efr,hx0] at d2 ⊢;have J2:=J1.CQ k2 d2;have le2:=k2.next;have K2:Aj A A2 (j::d::mp::(Fl++Fr)):=K1.trans k2 λy hy=>.inl (XN y hy);simp only [BC,Ab];refine Bb.2 ⟨λhe=>?_,λhe=>?_⟩
  ·rw [if_pos he] at hk;refine SP J2.jn f2 (by omega) (λhm=>(hjd.fl j hm).2.2.1 rfl) (λhm=>(hjd.fr j hm).2.2 rfl) λA3 j3 k3 n3 f3=>?_;exact hk A3 Fl Fr ⟨j3,J2.dk.keeps k3 (by simp;exact λh=>hjd.nd.1 h.symm) (by simp;exact λh=>hjd.nd.2 h.symm),hjd.nd,hjd.fl,hjd.fr⟩ (λy hy=>.inl hy) (λy hy=>.inl hy) (K2.trans k3 λy hy=>.inl (by simp [Ms.1 hy])) (by omega) f3
  ·have he:x0.2=0:=by simpa using he
   rw [if_neg (by simpa using he)] at hk;rw [en1];exact (ZU (W0:=W0) (m0:=m0) (A:=A) (K:=K) J2 ((hg.keeps k1 (by simp)).keeps k2 (by simp;exact h0.2)) (hokx.more (Nl _)) (by omega) f2 hA K2 (by omega) h0 hst (λg2 id v A' hh=>⟨g2,he,hh⟩) hn hn8 hN hjlt (λhne A' Fl' Fr' a1 a2 a3 a4 a5 a6=>hk A' Fl' Fr' a1 a2 a3 a4 (by omega) a6))
 ·have hin:fresh∉namesS s.D:=by simpa using hin
  rw [if_neg hin] at hx0;subst hx0;rw [if_neg (by simp)] at hk;rw [en1];exact (ZU (W0:=W0) (m0:=m0) (A:=A) (K:=K) J1 (hg.keeps k1 (by simp)) hokx (by omega) f1 hA K1 (by omega) h0 hst (λg2 id v A' hh=>⟨g2,rfl,hh⟩) hn hn8 hN hjlt (λhne A' Fl' Fr' a1 a2 a3 a4 a5 a6=>hk A' Fl' Fr' a1 a2 a3 a4 (by omega) a6))
end
end Go.Proofs.YtbchfeibhoobeaaGreatDoor
namespace Go.Proofs.YtbchfeibhoobeaaGreatDoor
open Go Go.Abs Go.ChangeShapes Go.WideShapes Go.ChangeAt Go.RowKit Go.Joins Go.Deep
def Qy:List Int:=[0,274646895,549293790,820201905,1098587580,1361435347,1640403810,1905808397,2197175160,2460548119,2722870694,2987750089,3280807620,3553878443,3811616794,4084100981]
def rowsG:List (Nat × List Value × TypeId):=[(0,Qy.map (Value.int .u32 ·),204)]
theorem Tryz.nG:Tp.globals.size=7:=by kernel_rfl
theorem Tryz.okG:okG Tp.globals.size rowsG=true:=by kernel_rfl
theorem Tryz.cells5:Tp.cellsOf 5=1:=by kernel_rfl
theorem Tryz.cells9:Tp.cellsOf 9=1:=by kernel_rfl
theorem Tryz.cells35:Tp.cellsOf 35=2:=by kernel_rfl
theorem Aby(p:RV):(fR p).all (AM 4)=true:=rfl
theorem Abx(p:RV):(fR p).length=2:=rfl
section
variable {H:Type} {enc:TypeId × Value->H} {w:World} {q:Nat}
theorem Rm{t:TypeId}{c0:Value}{k:IntKind}{y:DataW H × List MemPlace}(hu:Tp.underlying t=some (.int k))(hmin:k.min=0)(h:DataW.trod enc Tp w 0 (λ_=>true) true q t [c0]=some y):∃ n:Nat,c0=.int k (n:Int)/\(n:Int)<=k.max:=by
 obtain ⟨k,e0,_,wk⟩:=DataW.trod_int hu h;cases e0;simp only [Lit.wf,Bq,decide_eq_true_eq] at wk;have hk0:0<=k:=by have:=wk.1;rw [hmin] at this;exact this
 refine ⟨k.toNat,?_,?_⟩
 ·rw [Int.toNat_of_nonneg hk0]
 ·rw [Int.toNat_of_nonneg hk0];exact wk.2
theorem Rl{c0:Value}{y:DataW H × List MemPlace}(h:DataW.trod enc Tp w 0 (λ_=>true) true q 9 [c0]=some y):∃ g:ByteArray,c0=.string g:=by
 obtain ⟨g,e1,_,h1⟩:=DataW.trod_string Tryz.underlying9 h;cases e1;exact ⟨g,rfl⟩
theorem WU{cs:List Value}{y:DataW H × List MemPlace}(h:DataW.trod enc Tp w 0 (λ_=>true) true q 35 cs=some y):∃ p:RV,cs=fR p/\True:=by
 obtain ⟨xs,n,_,_,hl,hlen,hg⟩:=DataW.trod_struct Tryz.underlying35 h;have hl:cs.length=2:=hl.trans Tryz.cells35
 match cs,hl,xs,hlen with
 |[c0,c1],_,[y0,y1],_=>
  have g0:DataW.trod enc Tp w 0 (λ_=>true) true n 5 [c0]=some y0:=by simpa [Tryz.cells5] using hg 0 _ rfl
  have g1:DataW.trod enc Tp w 0 (λ_=>true) true n 9 [c1]=some y1:=by simpa [Tryz.cells9] using hg 1 _ rfl
  obtain ⟨m0,rfl,hm0⟩:=Rm Tryz.underlying5 rfl g0;obtain ⟨g,rfl⟩:=Rl g1;have hm0:(m0:Int)<=255:=hm0;refine ⟨(UInt8.ofNat m0,g),?_,trivial⟩;show [Value.int .u8 (m0:Int),.string g]=[.int .u8 ((UInt8.ofNat m0).toNat:Int),.string g];rw [UInt8.toNat_ofNat',Nat.mod_eq_of_lt (by omega)]
end
theorem Xy{L:List Arg}(hk:Tp.globals.size+L.length+1<=Am):Glb (wR Tp.globals.size rowsG L):=by
 refine ⟨?_,by show 0<Tp.globals.size+L.length+1;omega⟩;show (Ma _ _ L _).get? _=_;rw [FX _ L _ _ _ (by omega),if_pos (by rw [Tryz.nG];decide)];rfl
theorem Tryz.own:ownKnob Tp.godebug=none:=by kernel_rfl
theorem Tryz.laidOut:laidOutB Tp=true:=by kernel_rfl
end Go.Proofs.YtbchfeibhoobeaaGreatDoor
namespace Go.Proofs.YtbchfeibhoobeaaGreatDoor
open Go.Abs Go.Jr
variable {A:AW} {x:Value} {n:Nat} {F:List Nat} {K:Value->AW->Prop}
def fZ(n:Int):List Value:=[.int .i64 n]
structure AV where
 what:UInt8
 r:RV
 n:Int
 o:Option Addr
 len:Nat
 cap:Nat
 file:ByteArray
def fA(x:AV):List Value:=[.int .u8 x.what.toNat,.int .u8 x.r.1.toNat,.string x.r.2,.int .i64 x.n,.slice x.o x.len x.cap,.string x.file]
theorem etA:ET Tp 45 48 5 fA where
 us:=by kernel_rfl
 sz:=by kernel_rfl
 ag:=by kernel_rfl
 by':=⟨80,by kernel_rfl,by decide⟩
 hz:=by kernel_rfl
 len:=λ_=>rfl
 one:=λ_=>rfl
 noT:=λ_=>rfl
theorem zA:Ei Tp 48=some (.agg ⟨[.int .u8 0,.int .u8 0,.string ⟨⟨[]⟩⟩,.int .i64 0,.slice none 0 0,.string ⟨⟨[]⟩⟩]⟩):=by kernel_rfl
def RdA(A:AW)(x:Value)(n:Nat)(l:List AV)(F:List Nat):Prop:=∃ o c,x=.slice o n c/\l.length<=n/\RdE 5 fA A (.slice o l.length c) l F
theorem RdA.keeps{A':AW}{l:List AV}{S:List Nat}(h:RdA A x n l F)(k:Aj A A' S)(hd:∀ y∈F,y∉S):RdA A' x n l F:=by
 obtain ⟨o,c,h1,h2,h3⟩:=h;exact ⟨o,c,h1,h2,h3.keeps k hd⟩
theorem RdA.len{B:AW}{l:List AV}(h:RdA A x n l F):Bd Tp B 45 x=some (.int .i64 (n:Int)):=by
 obtain ⟨o,c,rfl,_,_⟩:=h;exact AcU _ _ _ _
theorem RdA.at{A:AW}{x:Value}{n:Nat}{l:List AV}{F:List Nat}(h:RdA A x n l F){i:Nat}{p:AV}(hi:l[i]? =some p):
  ∃ r o,Ak Tp 45 x (.int .i64 (i:Int))=some (pP r o)/\A.cells? ⟨r,o,none⟩ 6=some (fA p)/\Af Tp A 48 (pP r o)=some (.agg ⟨fA p⟩):=by
 obtain ⟨o,c,rfl,h2,h3⟩:=h;have hlt:i<l.length:=(Gs.1 hi).1;obtain ⟨r,o',a1,a2,a3⟩:=h3.at etA hi;refine ⟨r,o',?_,a2,a3⟩;rcases h3 with ⟨rfl,_⟩ | ⟨r2,o2,c2,cs,e,g,b,ro,hs,_⟩
 ·simp at hi
 ·simp only [Value.slice.injEq] at hs;obtain ⟨rfl,_,rfl⟩:=hs;rw [M8 etA hlt] at a1;rw [M8 etA (by omega)];exact a1
def big(x:AV):Bool:=decide (200<x.r.2.data.toList.length) || (decide (20<x.len) || decide (60<x.file.data.toList.length))
theorem Yd{a b:ByteArray}(h:a.data.toList=b.data.toList):a=b:=by
 cases a with | mk a=>cases b with | mk b=>cases a;cases b;simpa using h
theorem AfK:quiet Tp (underlying 35)=some (.struct (Tp.fieldsOf 35)):=by kernel_rfl
noncomputable def F35(i:Nat):Field:=(Tp.fieldsOf 35).toList.getD i default
theorem AfL:(Tp.fieldsOf 35).toList=[F35 0,F35 1]:=by kernel_rfl
theorem W3(n:Int)(b:ByteArray):quiet Tp (part (F35 0).type ⟨[.int .u8 n,.string b]⟩ (F35 0).offset)=some (.int .u8 n):=by kernel_rfl
theorem W2(n:Int)(b:ByteArray):quiet Tp (part (F35 1).type ⟨[.int .u8 n,.string b]⟩ (F35 1).offset)=some (.string b):=by kernel_rfl
theorem Aah:(F35 0).type=5:=by kernel_rfl
theorem Aag:(F35 1).type=9:=by kernel_rfl
theorem ut5:quiet Tp (underlying 5)=some (.int .u8):=by kernel_rfl
def Ny(p q:RV):Bool:=((p.1.toNat:Int)==(q.1.toNat:Int))&&p.2.data.toList==q.2.data.toList
theorem Pa{p q:RV}:Ny p q=true↔p=q:=by
 unfold Ny;simp only [Bq,beq_iff_eq];constructor
 ·rintro ⟨h1,h2⟩;obtain ⟨a,b⟩:=p;obtain ⟨c,d⟩:=q;have h3:=Yd h2;have h1:(a.toNat:Int)=(c.toNat:Int):=h1;have h1:a.toNat=c.toNat:=by omega
  simp only at h3;rw [UInt8.toNat_inj.1 h1,h3]
 ·rintro rfl;exact ⟨rfl,rfl⟩
theorem YR(n:Nat)(p q:RV):quiet Tp (Op.equalIn (n+1+1) 35 (.agg ⟨fR p⟩) (.agg ⟨fR q⟩))=some (Ny p q):=by
 show quiet Tp (Op.equalIn (n+1+1) 35 (.agg ⟨[.int .u8 p.1.toNat,.string p.2]⟩) (.agg ⟨[.int .u8 q.1.toNat,.string q.2]⟩))=_;rw [P3 (n+1) 35 _ _ AfK (by kernel_rfl),AfL];rw [KM (by kernel_rfl) (W3 _ p.2) (W3 _ q.2) (by rw [Aah];exact P4 n 5 _ _ _ _ ut5)];rw [KM (by kernel_rfl) (W2 _ p.2) (W2 _ q.2) (by rw [Aag];exact Pd ut9)];unfold Ny;cases (p.1.toNat:Int)==(q.1.toNat:Int)<;>cases p.2.data.toList==q.2.data.toList<;>rfl
theorem AfA(p q:RV)(xo yo:Operand):Ai Tp .neq 35 xo yo (.agg ⟨fR p⟩) (.agg ⟨fR q⟩)=some (.bool !(Ny p q)):=by
 have hg:FP Tp 35 xo yo (.agg ⟨fR p⟩) (.agg ⟨fR q⟩)=true:=by
  show (!Tp.eqGuardType Tp.depth 35)=true
  kernel_rfl
 have he:eqA Tp 35 (.agg ⟨fR p⟩) (.agg ⟨fR q⟩)=some (Ny p q):=by
  unfold eqA;have hc:(AM 4 (.agg ⟨fR p⟩)&&AM 4 (.agg ⟨fR q⟩))=true:=rfl;rw [hc,Ct];exact YR 9998 p q
 show (bif FP Tp 35 xo yo (.agg ⟨fR p⟩) (.agg ⟨fR q⟩) then (match eqA Tp 35 (.agg ⟨fR p⟩) (.agg ⟨fR q⟩) with | some b=>some (Value.bool !b) | none=>none) else none)=_;rw [hg,Ct,he]
section
variable {W0:World} {m0:Inj Tp}
theorem AeK{x:AV}(hf:Aw A)(hA:A.next<Am)(hk:∀ A',Grow A A' 1->K (.bool (big x)) A'):Wc Tp An W0 m0 14 [.agg ⟨fA x⟩] A K:=by
 refine w14 _ _ BF ?_;rw [e14];refine Bk (cs:=fA x) hf hA rfl λA1 m1=>?_;have g1:=Grow.made m1 hf;have r1:Go.Abs.AS A1 A.next [.int .u8 x.what.toNat,.int .u8 x.r.1.toNat,.string x.r.2,.int .i64 x.n,.slice x.o x.len x.cap,.string x.file] 48:=m1.BB;have hk1:=hk A1 g1;unfold big at hk1;simp only [Ju,UF,UE,Ec,CG,Po,Ae r1.row,cellOf,isTuple,Cf,Ab,Ea,AcT,BN,Ao,Nat.zero_add];refine ⟨λh=>?_,λh1=>⟨λh=>?_,λh2=>?_⟩⟩
 ·rw [decide_eq_true (by omega),Bool.true_or] at hk1;exact hk1
 ·rw [decide_eq_false (by omega),Bool.false_or,decide_eq_true (show 20<x.len by omega),Bool.true_or] at hk1;exact hk1
 ·rw [decide_eq_false (by omega),Bool.false_or,decide_eq_false (show ¬ 20<x.len by omega),Bool.false_or] at hk1;have e:decide ((60:Int)<(x.file.data.toList.length:Int))=decide (60<x.file.data.toList.length):=by
   by_cases h:60<x.file.data.toList.length
   ·rw [decide_eq_true h,decide_eq_true (by omega)]
   ·rw [decide_eq_false h,decide_eq_false (by omega)]
  rw [e];exact hk1
theorem AeH{a b:Value}{la lb:List RV}{Fa Fb:List Nat}(ha:RdE 1 fR A a la Fa)(hb:RdE 1 fR A b lb Fb)(hl:lb.length<1000000)(hk:∀ r:Bool,(r=true↔la=lb)->K (.bool r) A):Wc Tp An W0 m0 20 [a,b] A K:=by
 let I:Nat->Nat->List Value->AW->Prop:=λg id vals A'=>id=0/\A'=A/\∃ i:Nat,vals=[a,b,.int .i64 (i:Int)]/\i<=la.length/\g=la.length-i/\la.length=lb.length/\la.take i=lb.take i;refine w20 _ _ _ (c20 (I:=I) λg id vals A' d hI hd'=>?_) ?_
 ·obtain ⟨rfl,rfl,i,rfl,hi,rfl,hll,htk⟩:=hI;rw [Ads];simp only [L20,Mc,Mn,Li,and_true] at hd';obtain ⟨h0,h1,h5⟩:=hd';simp only [h0,h1,h5,ha.len etR,AU,Ab,Ao];refine ⟨λhlt=>?_,λhge=>?_⟩
  ·have hlt:i<la.length:=by omega
   obtain ⟨p,hp⟩:∃ p,la[i]? =some p:=⟨_,Ge hlt⟩;obtain ⟨q,hq⟩:∃ q,lb[i]? =some q:=⟨_,Ge (by omega)⟩;obtain ⟨r,o,a1,a2,a3⟩:=ha.at etR hp;obtain ⟨r',o',b1,b2,b3⟩:=hb.at etR hq;simp only [a1,a3,b1,b3,Ab,AfA];refine Ag.2 ⟨λhne=>hk false ⟨λh=>by simp at h,λh=>?_⟩,λheq=>?_⟩
   ·subst h;rw [hp] at hq;obtain rfl:p=q:=by simpa using hq
    rw [Pa.2 rfl] at hne;simp at hne
   ·have hpq:p=q:=by
     cases hs:Ny p q with
     |true=>exact Pa.1 hs
     |false=>rw [hs] at heq;simp at heq
    subst hpq;simp only [AY,Ab];rw [wrap_i64 (by omega) (by omega)];refine Ar.2 ⟨la.length-(i+1),by omega,rfl,rfl,i+1,by simp,by omega,rfl,hll,?_⟩;rw [List.take_add_one,List.take_add_one,hp,hq,htk]
  ·have hi':i=la.length:=by omega
   subst hi';refine hk true ⟨λ_=>?_,λ_=>rfl⟩;rw [List.take_length] at htk;rw [htk,hll,List.take_length]
 ·rw [e20];simp only [ha.len etR,hb.len etR,Ab,BC];refine Bb.2 ⟨λh=>hk false ⟨λh=>by simp at h,λh2=>absurd (by rw [h2]) h⟩,λh=>?_⟩;exact Ar.2 ⟨la.length-0,rfl,rfl,0,rfl,by omega,rfl,by omega,by simp⟩
end
end Go.Proofs.YtbchfeibhoobeaaGreatDoor
namespace Go.Proofs.YtbchfeibhoobeaaGreatDoor
open Go Go.Abs Go.ChangeShapes Go.WideShapes Go.ChangeAt Go.RowKit Go.Joins Go.Deep
variable {W:World} {s:Value} {cs:List Value}
theorem VM(p:Int):(fZ p).all (AM 4)=true:=rfl
theorem VL(p:Int):(fZ p).length=0+1:=rfl
theorem FD(p:AV):(fA p).length=5+1:=rfl
def QO(W:World)(p:AV)(kl:List Int)(ka:Arg):Prop:=DL W fZ (.slice p.o p.len p.cap) kl ka
structure Kx (m:Inj Tp) (p' p:AV):Prop where
 what:p'.what=p.what
 r:p'.r=p.r
 n:p'.n=p.n
 file:p'.file=p.file
 keep:AL m (.slice p'.o p'.len p'.cap) (.slice p.o p.len p.cap)
theorem Kx.cells{m:Inj Tp}{p' p:AV}(h:Kx m p' p):∀ (i:Nat) v,(fA p')[i]? =some v->∃ v',(fA p)[i]? =some v'/\AL m v v':=by
 obtain ⟨h1,h2,h3,h4,h5⟩:=h;obtain ⟨w,r,n,o,len,cap,file⟩:=p;obtain ⟨w',r',n',o',len',cap',file'⟩:=p';simp only at h1 h2 h3 h4 h5;subst h1 h2 h3 h4;intro i v hv
 match i,hv with
 |0,hv=>cases hv;exact ⟨_,rfl,.int _ _⟩
 |1,hv=>cases hv;exact ⟨_,rfl,.int _ _⟩
 |2,hv=>cases hv;exact ⟨_,rfl,.string _⟩
 |3,hv=>cases hv;exact ⟨_,rfl,.int _ _⟩
 |4,hv=>cases hv;exact ⟨_,rfl,h5⟩
 |5,hv=>cases hv;exact ⟨_,rfl,.string _⟩
 |i+6,hv=>simp [fA] at hv
theorem RY{m:Inj Tp}:∀ {l' l:List AV},l'.length<=l.length->(∀ (i:Nat) p' p,l'[i]? =some p'->l[i]? =some p->Kx m p' p)->∀ (i:Nat) v,(flat fA l')[i]? =some v->∃ v',(flat fA l)[i]? =some v'/\AL m v v'
 |[],l,_,_,i,v,hv=>by simp [flat] at hv
 |p'::r',[],h,_,i,v,hv=>by simp at h
 |p'::r',p::r,h,ha,i,v,hv=>by
  have e1:flat fA (p'::r')=fA p'++flat fA r':=by simp [flat]
  have e2:flat fA (p::r)=fA p++flat fA r:=by simp [flat]
  rw [e1] at hv;rw [e2];by_cases hi:i<6
  ·rw [List.getElem?_append_left (by rw [FD];exact hi)] at hv;rw [List.getElem?_append_left (by rw [FD];exact hi)];exact (ha 0 p' p rfl rfl).cells i v hv
  ·rw [List.getElem?_append_right (by rw [FD];omega),FD] at hv;rw [List.getElem?_append_right (by rw [FD];omega),FD];exact RY (by simpa using h) (λj a b ha' hb=>ha (j+1) a b (by simpa using ha') (by simpa using hb)) (i-6) v hv
theorem V4{l:List AV}{La:Arg}(h:DL W fA s l La)(hok:∀ p∈l,∃ kl ka,QO W p kl ka):
  ∃ (L:List Arg) (s':Value) (l':List AV),L.length<=41/\Zz Tp W L/\AL (mR Tp L) s' s/\l'.length=min l.length 40/\(∀ (i:Nat) p' p,l'[i]? =some p'->l[i]? =some p->p'.n=p.n)/\
   ∀ gl,Tp.globals.size+L.length+1<=Am->∃ F,RdA (wR Tp.globals.size gl L) s' l.length l' F/\∀ p'∈l',∃ (kl:List Int) (F':List Nat),RdE 0 fZ (wR Tp.globals.size gl L) (.slice p'.o p'.len p'.cap) kl F':=by
 cases h with
 |nil hl hs h0=>
  subst hl;obtain ⟨o,c,rfl⟩:=h0;let L:List Arg:=[(placeOf (.slice o 0 c),none)];obtain ⟨o',n',c',hv⟩:=hs.rel (P:=Tp) (l:=L.map (·.1)) 0 rfl;have hn':n'=0:=by cases hv<;>rfl
  subst hn';refine ⟨L,_,[],by simp [L],?_,hv,by simp,by simp,λgl hk=>⟨[],⟨o',c',rfl,by simp,.nil _ _ _⟩,by simp⟩⟩;intro j p cs e hj
  match j,hj with
  |0,hj=>simp [L] at hj
  |j+1,hj=>simp [L] at hj
 |blk a c cs e' fr hs hc hc2 hsp hb ho hg=>
  obtain ⟨K,hK⟩:∃ K:AV->Arg,∀ p,p∈l->∃ kl,QO W p kl (K p):=by
   refine Classical.axiomOfChoice (r:=λp ka=>p∈l->∃ kl,QO W p kl ka) λp=>?_;by_cases hp:p∈l
   ·obtain ⟨kl,ka,h⟩:=hok p hp;exact ⟨ka,λ_=>⟨kl,h⟩⟩
   ·exact ⟨((0,0),none),λh=>absurd h hp⟩
  let t:=l.take 40;have htl:∀ p∈t,p∈l:=λp hp=>List.mem_of_mem_take hp;let L0:List Arg:=((a.block,a.off),none)::t.map K;have hrel:∀ (i:Nat) p,t[i]? =some p->∃ p',Kx (mR Tp L0) p' p/\∃ kl:List Int,(kl=[]/\p'.len=0)\/∃ q e,p'.o=some ⟨Tp.globals.size+(i+1),0,none⟩/\p'.len=kl.length/\L0[i+1]? =some (q,some (flat fZ kl,e)):=by
   intro i p hp;obtain ⟨kl,hkl⟩:=hK p (htl p (List.mem_of_getElem? hp));have hLi:L0[i+1]? =some (K p):=by
    show (t.map K)[i]? =_;rw [List.getElem?_map,hp];rfl
   obtain ⟨s',hv,hcase⟩:=DL.rel (P:=Tp) hkl hLi;rcases hcase with ⟨h1,o,c,rfl⟩ | ⟨c,q,e,rfl,h2⟩
   ·exact ⟨⟨p.what,p.r,p.n,o,0,c,p.file⟩,⟨rfl,rfl,rfl,rfl,hv⟩,kl,.inl ⟨h1,rfl⟩⟩
   ·exact ⟨⟨p.what,p.r,p.n,_,kl.length,c,p.file⟩,⟨rfl,rfl,rfl,rfl,hv⟩,kl,.inr ⟨q,e,rfl,rfl,h2⟩⟩
  obtain ⟨G,hG⟩:∃ G:Nat->AV,∀ (i:Nat),∀ p,t[i]? =some p->Kx (mR Tp L0) (G i) p/\∃ kl:List Int,(kl=[]/\(G i).len=0)\/∃ q e,(G i).o=some ⟨Tp.globals.size+(i+1),0,none⟩/\(G i).len=kl.length/\L0[i+1]? =some (q,some (flat fZ kl,e)):=by
   refine Classical.axiomOfChoice (r:=λ(i:Nat) (p':AV)=>∀ p,t[i]? =some p->Kx (mR Tp L0) p' p/\∃ kl:List Int,(kl=[]/\p'.len=0)\/∃ q e,p'.o=some ⟨Tp.globals.size+(i+1),0,none⟩/\p'.len=kl.length/\L0[i+1]? =some (q,some (flat fZ kl,e))) λi=>?_;cases hq:t[i]? with
   |none=>exact ⟨⟨0,(0,.empty),0,none,0,0,.empty⟩,λp h=>by cases h⟩
   |some p=>
    obtain ⟨p',h1,h2⟩:=hrel i p hq;exact ⟨p',λp2 h=>by cases h;exact ⟨h1,h2⟩⟩
  let l':List AV:=(List.range t.length).map G;have hl':∀ (i:Nat) p',l'[i]? =some p'->i<t.length/\p'=G i:=by
   intro i p' hp;have hp:((List.range t.length).map G)[i]? =some p':=hp;rw [List.getElem?_map] at hp;by_cases hi:i<t.length
   ·rw [List.getElem?_range hi] at hp;exact ⟨hi,by simpa using hp.symm⟩
   ·rw [List.getElem?_eq_none (by rw [List.length_range];omega)] at hp;cases hp
  have hll:l'.length=t.length:=by simp [l']
  have htlen:t.length=min l.length 40:=by rw [List.length_take,Nat.min_comm]
  let L:List Arg:=((a.block,a.off),some (flat fA l',e'))::t.map K;have hLm:L.map (·.1)=L0.map (·.1):=rfl;have hmR:mR Tp L=mR Tp L0:=by unfold mR;rw [hLm]
  have hact:∀ (i:Nat) p' p,l'[i]? =some p'->t[i]? =some p->Kx (mR Tp L0) p' p:=by
   intro i p' p h1 h2;obtain ⟨_,rfl⟩:=hl' i p' h1;exact (hG i p h2).1
  refine ⟨L,.slice (some ⟨Tp.globals.size+0,0,none⟩) l.length c,l',?_,?_,?_,by rw [hll,htlen],?_,λgl hk=>⟨[Tp.globals.size+L.length],⟨_,_,rfl,?_,?_⟩,?_⟩⟩
  ·show (t.map K).length+1<=41;rw [List.length_map,htlen];omega
  ·intro j p cs2 e hj;cases j with
   |zero=>
    have hj:some (((a.block,a.off),some (flat fA l',e')):Arg)=some (p,some (cs2,e)):=hj;simp only [Oi,Pj] at hj;obtain ⟨rfl,rfl,rfl⟩:=hj;refine ⟨cs,fr,hb,ho,λi v hv=>?_⟩;obtain ⟨v',h1,h2⟩:=RY (l:=t) (by rw [hll];exact Nl _) hact i v hv;refine ⟨v',hg i v' ?_,by rw [hmR];exact h2⟩;have et:flat fA l=flat fA t++flat fA (l.drop 40):=by
     have h3:flat fA (l.take 40++l.drop 40)=flat fA (l.take 40)++flat fA (l.drop 40):=by unfold flat;rw [List.flatMap_append]
     rw [List.take_append_drop] at h3;exact h3
    rw [et,List.getElem?_append_left]
    ·exact h1
    ·exact (Gs.1 h1).1
   |succ j=>
    have hj:(t.map K)[j]? =some (p,some (cs2,e)):=hj;rw [List.getElem?_map] at hj;cases hq:t[j]? with
    |none=>rw [hq] at hj;cases hj
    |some y=>
     rw [hq] at hj;obtain ⟨kl,hkl⟩:=hK y (htl y (List.mem_of_getElem? hq));exact DL.args hkl VM (by simpa using hj)
  ·rw [hs];refine .slice (.inl ⟨hc2,rfl⟩) hc λ_=>⟨rfl,hsp,a.off,?_,rfl⟩;show mA Tp (L.map (·.1)) (Tp.globals.size+0)=_;rw [Ke];rfl
  ·intro i p' p h1 h2;obtain ⟨hi,rfl⟩:=hl' i p' h1;have h2:t[i]? =some p:=by
    rw [List.getElem?_take_of_lt (by omega)];exact h2
   exact (hG i p h2).1.n
  ·rw [hll,htlen];omega
  ·exact Up FD hk rfl
  ·intro p' hp';obtain ⟨i,hi⟩:=List.mem_iff_getElem?.1 hp';obtain ⟨hit,rfl⟩:=hl' i p' hi;obtain ⟨p,hp⟩:∃ p,t[i]? =some p:=⟨_,Ge hit⟩;obtain ⟨_,kl,hkl⟩:=hG i p hp;rcases hkl with ⟨rfl,h0⟩ | ⟨q,e,h1,h2,h3⟩
   ·rw [h0];exact ⟨[],[],.nil _ _ _⟩
   ·rw [h1,h2];exact ⟨kl,_,Up (j:=i+1) VL hk h3⟩
theorem Tryz.cells3:Tp.cellsOf 3=1:=by kernel_rfl
theorem Tryz.cells46:Tp.cellsOf 46=1:=by kernel_rfl
theorem Tryz.cells48:Tp.cellsOf 48=6:=by kernel_rfl
section
variable {H:Type} {enc:TypeId × Value->H} {w:World} {q:Nat}
theorem KK{t:TypeId}{k:IntKind}{y:DataW H × List MemPlace}(hu:Tp.underlying t=some (.int k))(h:DataW.trod enc Tp w 0 (λ_=>true) true q t cs=some y):∃ n:Int,cs=[.int k n]/\k.min<=n/\n<=k.max:=by
 obtain ⟨n,e0,_,wk⟩:=DataW.trod_int hu h;simp only [Lit.wf,Bq,decide_eq_true_eq] at wk;exact ⟨n,e0,wk.1,wk.2⟩
theorem Vk{y:DataW H × List MemPlace}(h:DataW.trod enc Tp w 0 (λ_=>true) true q 46 cs=some y):∃ (s:Value) (l:List Int) (La:Arg),cs=[s]/\DL w fZ s l La:=by
 obtain ⟨s,l,La,hc,hs,_⟩:=Pc (f:=fZ) (ok:=λ_=>True) 0 Tryz.underlying46 (by rw [Tryz.cells3];decide) (λf=>by rw [Tryz.cells3];rfl) (λq cs y hy=>by
  obtain ⟨n,rfl,_⟩:=KK Tryz.underlying3 hy;exact ⟨n,rfl,trivial⟩) h
 exact ⟨s,l,La,hc,hs⟩
theorem OG{β:Type}{f:β->List Value}{l:List β}{La:Arg}(h:DL W f s l La):∃ o n c,s=.slice o n c:=by
 cases h with
 |nil _ _ h0=>obtain ⟨o,c,rfl⟩:=h0;exact ⟨_,_,_,rfl⟩
 |blk a c cs e' fr hs=>exact ⟨_,_,_,hs⟩
def OkA(W:World)(p:AV):Prop:=(∃ kl ka,QO W p kl ka)/\-9223372036854775808<=p.n/\p.n<=9223372036854775807
theorem WV{y:DataW H × List MemPlace}(h:DataW.trod enc Tp w 0 (λ_=>true) true q 48 cs=some y):∃ p:AV,cs=fA p/\OkA w p:=by
 obtain ⟨xs,n,_,_,hl,hlen,hg⟩:=DataW.trod_struct Tryz.underlying48 h;have hl:cs.length=6:=hl.trans Tryz.cells48
 match cs,hl,xs,hlen with
 |[c0,c1,c2,c3,c4,c5],_,[y0,y1,y2,y3,y4],_=>
  have g0:DataW.trod enc Tp w 0 (λ_=>true) true n 5 [c0]=some y0:=by simpa [Tryz.cells5] using hg 0 _ rfl
  have g1:DataW.trod enc Tp w 0 (λ_=>true) true n 35 [c1,c2]=some y1:=by simpa [Tryz.cells35] using hg 1 _ rfl
  have g2:DataW.trod enc Tp w 0 (λ_=>true) true n 3 [c3]=some y2:=by simpa [Tryz.cells3] using hg 2 _ rfl
  have g3:DataW.trod enc Tp w 0 (λ_=>true) true n 46 [c4]=some y3:=by simpa [Tryz.cells46] using hg 3 _ rfl
  have g4:DataW.trod enc Tp w 0 (λ_=>true) true n 9 [c5]=some y4:=by simpa [Tryz.cells9] using hg 4 _ rfl
  obtain ⟨m0,rfl,hm0⟩:=Rm Tryz.underlying5 rfl g0;obtain ⟨r,hr,_⟩:=WU g1;obtain ⟨z,hz,hz1,hz2⟩:=KK Tryz.underlying3 g2;obtain ⟨s,kl,ka,hs,hin⟩:=Vk g3;obtain ⟨fl,rfl⟩:=Rl g4;obtain ⟨o,ln,cp,rfl⟩:=OG hin;have hm0:(m0:Int)<=255:=hm0;simp only [fR,Li,and_true] at hr hz hs;obtain ⟨rfl,rfl⟩:=hr;subst hz;subst hs;refine ⟨⟨UInt8.ofNat m0,r,z,o,ln,cp,fl⟩,?_,⟨kl,ka,hin⟩,hz1,hz2⟩;show [Value.int .u8 (m0:Int),_,_,_,_,_]=[.int .u8 ((UInt8.ofNat m0).toNat:Int),_,_,_,_,_];rw [UInt8.toNat_ofNat',Nat.mod_eq_of_lt (by omega)]
theorem Vl{b0:Nat}{v:Value}{d:DataW H}{p:List MemPlace}(hv:Value.okWide Tp w .any b0 45 v)(h:DataW.Trod enc Tp w 0 (λ_=>true) true 45 v d p):
  ∃ (l:List AV) (La:Arg),DL w fA v l La/\∀ p∈l,OkA w p:=by
 obtain ⟨fuel,hf⟩:=h;obtain ⟨s,l,La,hc,hs,hw⟩:=Pc (f:=fA) (ok:=OkA w) ⟨0,(0,.empty),0,none,0,0,.empty⟩ Tryz.underlying45 (by rw [Tryz.cells48];decide) (λf=>by rw [Tryz.cells48];rfl) (λq cs y hy=>WV hy) hf;have hv0:v=s:=by
  obtain ⟨a,n,c,rfl⟩:=okWide_slice Tryz.underlying45 hv
  simpa [Value.cells] using hc
 subst hv0;exact ⟨l,La,hs,hw⟩
end
end Go.Proofs.YtbchfeibhoobeaaGreatDoor
namespace Go.Proofs.YtbchfeibhoobeaaGreatDoor
def aR:Go.Shelf.Ren:=⟨λ| 99=>118 | 105=>97 | 170=>121 | 206=>142 | 212=>117 | 263=>140 | 264=>141 | 129=>156 | 171=>95 | 172=>111 | 205=>185 | 243=>115 | 244=>134 | 245=>135 | 246=>139 | 247=>161 | 279=>162 | 280=>163 | 281=>164 | 282=>165 | 283=>168 | 284=>169 | 285=>170 | 286=>171 | 287=>183 | 316=>184 | 317=>188 | 318=>189 | 319=>190 | 320=>191 | 321=>193 | 322=>194 | 337=>195 | 338=>196 | 156=>116 | 165=>119 | 166=>120 | 169=>122 | 240=>143 | 241=>144 | 276=>172 | 277=>173 | x=>x,λ| 109=>151 | 146=>174 | 148=>176 | 31=>37 | 37=>41 | 46=>42 | 51=>24 | 53=>134 | 70=>154 | 72=>156 | 75=>142 | 76=>143 | 80=>52 | 85=>193 | 127=>178 | 143=>225 | 145=>227 | 164=>202 | 167=>192 | 168=>195 | 171=>198 | 173=>200 | 175=>213 | 210=>216 | 212=>219 | 213=>220 | 232=>228 | 233=>229 | x=>x,λ| 15=>1 | 16=>2 | 17=>3 | 18=>5 | 19=>6 | x=>x⟩
theorem atX:LaysC.n172 Tryz.prog aR:=by
 apply LaysC.n172.mk<;>first | (intros;kernel_rfl) | (apply LaysM.n172.mk<;>first | (intros;kernel_rfl) | (apply Lays.n172.mk<;>(intros;kernel_rfl)))
theorem joX:Lays.n156 Tryz.prog aR:=by apply Lays.n156.mk<;>(intros;kernel_rfl)
theorem rpX:Lays.n105 Tryz.prog aR:=by apply Lays.n105.mk<;>(intros;kernel_rfl)
theorem nuX:LaysM.n171 Tryz.prog aR:={ atX with }
theorem exX:Builder.Extra Tryz.prog aR:=by
 apply Builder.Extra.mk<;>first | (intros;kernel_rfl) | (apply Builder.X72.mk<;>(intros;kernel_rfl)) | (show (156:Nat)≠5;decide)
end Go.Proofs.YtbchfeibhoobeaaGreatDoor
set_option linter.all false
namespace Go.Proofs.YtbchfeibhoobeaaGreatDoor
open Go.Abs
noncomputable def T6:Nat->List Item:=λi=>match i with
 |0=>[(.code (cd 6 [1,1,1,1,1,0,1,0,0])),(.inLoop (cd 6 [1,1,1,1,1,0,1,0,0])),(.inBlock 0),(.code (cd 6 [1,1,1,1,1,1]))]
 |_=>[]
def L6:Nat->List Tmp:=λi=>match i with
 |0=>[1,2,7,8,9,10,11,12,13]
 |_=>[]
section
variable (W0:World) (m0:Inj Tp) (S:Nat->List Value->AW->Prop) (Q:Value->AW->Prop) (d:Nat->Value) (a0 a1 a2 a3 a4 a5 a6:Value) (A:AW)
theorem e6:gE W0 m0 S Q 6 191 T6 L6 [a0,a1,a2] A=(Wc Tp An W0 m0 7 [a0] A λt0 At0=>Wc Tp An W0 m0 25 [a0] At0 λt1 At1=>Wc Tp An W0 m0 8 [t0,a1] At1 λt2 At2=>Aa (Ap t2 0) λt3=>Aa (Ap t2 1) λt4=>Wc Tp An W0 m0 26 [t1,a1] At2 λt5 At5=>Aa (Ap t5 0) λt6=>Aa (Ap t5 1) λt7=>Bm (T6 0) (T6 0) (S 0 [a1,a2,t0,t1,t3,t4,t6,t7,(.int .i64 0)] At5)):=by kernel_rfl
theorem w6:Wf3 6 191 T6 L6:=wf3 (λ_ _ _=>by kernel_rfl) (by decide) λ_ _ _=>rfl
theorem c6:DX 6 191 T6 L6:=D0 (by decide)
theorem e25:gE W0 m0 S Q 25 7 Tz Lz [a0] A=(Aa (OD a0 [(.int .i64 0)]) λt0=>Aa (Bp Tp 108 [(1,t0)]) λt1=>Au (DF A (Value.cells t1).toList 108) λt2 At2=>Q t2 At2):=by kernel_rfl
theorem w25:Wf1 25 7 Tz Lz:=wf1 (λ_=>by kernel_rfl) (by decide) λ_=>rfl
noncomputable def T26:Nat->List Item:=λi=>match i with
 |0=>[(.code (cd 26 [1,1,1,1,1,1,1,0,1,1,1,0,1,0,0])),(.inLoop (cd 26 [1,1,1,1,1,1,1,0,1,1,1,0,1,0,0])),(.inBlock 0),(.code (cd 26 [1,1,1,1,1,1,1,0,1,1,1,1])),(.code (cd 26 [1,1,1,1,1,1,1,1]))]
 |_=>[]
def L26:Nat->List Tmp:=λi=>match i with
 |0=>[0,1,6,7,8,10,11,12]
 |_=>[]
theorem w26:Wf2 26 117 T26 L26:=wf2 (λ_ _=>by kernel_rfl) (by decide) λ_ _=>rfl
theorem c26:DX 26 117 T26 L26:=D0 (by decide)
noncomputable def T27:Nat->List Item:=λi=>match i with
 |0=>[(.code (cd 27 [1,1,1,0,1,0,0])),(.inLoop (cd 27 [1,1,1,0,1,0,0])),(.inBlock 0),(.code (cd 27 [1,1,1,1]))]
 |2=>[(.code (cd 27 [1,1,1,1,0,1,0,0])),(.inLoop (cd 27 [1,1,1,1,0,1,0,0])),(.inBlock 2),(.code (cd 27 [1,1,1,1,1]))]
 |_=>[]
def L27:Nat->List Tmp:=λi=>match i with
 |0=>[0,1,5,6,7]
 |2=>[0,1,8]
 |_=>[]
theorem e27:gE W0 m0 S Q 27 118 T27 L27 [a0,a1] A=(Wc Tp An W0 m0 11 [a0] A λt0 At0=>Wc Tp An W0 m0 78 [a1] At0 λt1 At1=>Aa (Bd Tp At1 37 t0) λt2=>Aa (Bd Tp At1 37 t1) λt3=>Aa (Ai Tp .neq 3 (.tmp 18) (.tmp 20) t2 t3) λt4=>Ah t4 (eqW undef undef (eqW undef undef (eqW undef undef (eqW undef undef (Q (.bool false) At1))))) (Aa (AD a1) λt5=>Aa (Ad Tp 108 t5 3) λt6=>Aa (Af Tp At1 4 t6) λt7=>Wc Tp An W0 m0 23 [a0] At1 λt8 At8=>Aa (Af Tp At8 4 t6) λt9=>eqW t9 t7 (Aa (Ad Tp 108 t5 3) λt10=>eqW t10 t6 (Aa (AD a1) λt11=>eqW t11 t5 (eqW a1 a1 (Aa (Ai Tp .neq 4 (.tmp 24) (.tmp 28) t8 t7) λt12=>Ah t12 (Q (.bool false) At8) (Bm (T27 0) (T27 0) (S 0 [a0,a1,t0,t1,(.int .i64 0)] At8)))))))):=by kernel_rfl
theorem Adq:gL W0 m0 S Q 27 118 T27 L27 d 0 A=(Aa (Bd Tp A 37 (d 5)) λt0=>Aa (Ai Tp .lss 3 (.tmp 31) (.tmp 33) (d 7) t0) λt1=>Ah t1 (Aa (Ak Tp 37 (d 5) (d 7)) λt2=>Aa (Af Tp A 9 t2) λt3=>Aa (Ak Tp 37 (d 6) (d 7)) λt4=>Aa (Af Tp A 9 t4) λt5=>Aa (Ai Tp .neq 9 (.tmp 40) (.tmp 44) t3 t5) λt6=>Ah t6 (Q (.bool false) A) (Aa (Ai Tp .add 3 (.tmp 35) (.const (.int .i64 1)) (d 7) (.int .i64 1)) λt7=>Bm (T27 0) (T27 0) (S 0 [(d 0),(d 1),(d 5),(d 6),t7] A))) (Bm (T27 2) (T27 2) (S 2 [(d 0),(d 1),(.int .i64 0)] A))):=by kernel_rfl
theorem Adp:gL W0 m0 S Q 27 118 T27 L27 d 2 A=(Aa (AD (d 1)) λt0=>Aa (Ad Tp 108 t0 0) λt1=>Aa (Af Tp A 106 t1) λt2=>Aa (Bd Tp A 106 t2) λt3=>Aa (Ai Tp .lss 3 (.tmp 46) (.tmp 51) (d 8) t3) λt4=>Ah t4 (Aa (AD (d 1)) λt5=>Aa (Ad Tp 108 t5 3) λt6=>Aa (Af Tp A 4 t6) λt7=>Aa (unA Tp .not t7) λt8=>Ah t8 (Aa (AD (d 1)) λt9=>Aa (Ad Tp 108 t9 0) λt10=>Aa (Af Tp A 106 t10) λt11=>Aa (Ak Tp 106 t11 (d 8)) λt12=>Aa (Ad Tp 118 t12 0) λt13=>Aa (Af Tp A 9 t13) λt14=>Wc Tp An W0 m0 12 [(d 0),t14] A λt15 At15=>Aa (Ap t15 0) λt16=>Aa (Ap t15 1) λt17=>Aa (AD (d 1)) λt18=>Aa (Ad Tp 108 t18 0) λt19=>Aa (Af Tp At15 106 t19) λt20=>Aa (Ak Tp 106 t20 (d 8)) λt21=>Aa (Ad Tp 118 t21 0) λt22=>Aa (Af Tp At15 9 t22) λt23=>Wc Tp An W0 m0 79 [(d 0),t23] At15 λt24 At24=>Aa (Ap t24 0) λt25=>Aa (Ap t24 1) λt26=>Aa (Ai Tp .neq 30 (.tmp 88) (.const (.int .i64 0)) t17 (.int .i64 0)) λt27=>Ah t27 (Q (.bool false) At24) (Aa (Ai Tp .neq 30 (.tmp 91) (.const (.int .i64 0)) t26 (.int .i64 0)) λt28=>Ah t28 (Q (.bool false) At24) (Aa (AD (d 1)) λt29=>Aa (Ad Tp 108 t29 0) λt30=>Aa (Af Tp At24 106 t30) λt31=>Aa (Ak Tp 106 t31 (d 8)) λt32=>Aa (Ad Tp 118 t32 1) λt33=>Aa (Af Tp At24 9 t33) λt34=>Aa (Ai Tp .neq 9 (.tmp 95) (.tmp 103) t16 t34) λt35=>Ah t35 (Q (.bool false) At24) (Aa (AD (d 1)) λt36=>Aa (Ad Tp 108 t36 0) λt37=>Aa (Af Tp At24 106 t37) λt38=>Aa (Ak Tp 106 t38 (d 8)) λt39=>Aa (Ad Tp 118 t39 2) λt40=>Aa (Af Tp At24 3 t40) λt41=>Aa (Ai Tp .neq 3 (.tmp 107) (.tmp 115) t25 t41) λt42=>Ah t42 (Q (.bool false) At24) (Aa (Ai Tp .add 3 (.tmp 60) (.const (.int .i64 1)) (d 8) (.int .i64 1)) λt43=>Bm (T27 2) (T27 2) (S 2 [(d 0),(d 1),t43] At24)))))) (Q (.bool true) A)) (Q (.bool true) A)):=by kernel_rfl
theorem w27:Wf2 27 118 T27 L27:=wf2 (λ_ _=>by kernel_rfl) (by decide) λ_ _=>rfl
theorem c27:DX 27 118 T27 L27:=D0 (by decide)
theorem e28:gE W0 m0 S Q 28 30 Tz Lz [a0,a1] A=(Aa (AD a1) λt0=>Aa (Ad Tp 116 t0 2) λt1=>Aa (Af Tp A 9 t1) λt2=>Wc Tp An W0 m0 17 [a0] A λt3 At3=>Aa (Af Tp At3 9 t1) λt4=>eqW t4 t2 (Aa (Ad Tp 116 t0 2) λt5=>eqW t5 t1 (Aa (AD a1) λt6=>eqW t6 t0 (eqW a1 a1 (Aa (Ai Tp .eql 9 (.tmp 6) (.tmp 10) t3 t2) λt7=>Ah t7 (Aa (AD a1) λt8=>Aa (Ad Tp 116 t8 3) λt9=>Aa (Af Tp At3 22 t9) λt10=>Wc Tp An W0 m0 18 [a0] At3 λt11 At11=>Aa (Af Tp At11 22 t9) λt12=>eqW t12 t10 (Aa (Ad Tp 116 t8 3) λt13=>eqW t13 t9 (Aa (AD a1) λt14=>eqW t14 t8 (eqW a1 a1 (Wc Tp An W0 m0 20 [t11,t10] At11 λt15 At15=>Ah t15 (Aa (AD a1) λt16=>Aa (Ad Tp 116 t16 4) λt17=>Aa (Af Tp At15 4 t17) λt18=>Wc Tp An W0 m0 80 [a0] At15 λt19 At19=>Aa (Af Tp At19 4 t17) λt20=>eqW t20 t18 (Aa (Ad Tp 116 t16 4) λt21=>eqW t21 t17 (Aa (AD a1) λt22=>eqW t22 t16 (eqW a1 a1 (Aa (Ai Tp .eql 4 (.tmp 23) (.tmp 27) t19 t18) λt23=>Q t23 At19))))) (eqW undef undef (eqW undef undef (eqW undef undef (eqW undef undef (Q (.bool false) At15)))))))))) (eqW undef undef (eqW undef undef (eqW undef undef (eqW undef undef (eqW undef undef (eqW undef undef (eqW undef undef (eqW undef undef (Q (.bool false) At3)))))))))))))):=by kernel_rfl
theorem w28:Wf2 28 30 Tz Lz:=wf2 (λ_ _=>by kernel_rfl) (by decide) λ_ _=>rfl
theorem e29:gE W0 m0 S Q 29 14 Tz Lz [a0,a1] A=(Aa (AD a0) λt0=>Aa (Ad Tp 108 t0 3) λt1=>Aa (Af Tp A 4 t1) λt2=>Aa (unA Tp .not t2) λt3=>Ah t3 (Aa (OD a1 [(.int .i64 0)]) λt4=>Aa (AD a0) λt5=>Aa (Ad Tp 108 t5 2) λt6=>Bh (Az Tp A 3 t6 t4) λAt7=>Q (.tuple ⟨[]⟩) At7) (Q (.tuple ⟨[]⟩) A)):=by kernel_rfl
theorem w29:Wf2 29 14 Tz Lz:=wf2 (λ_ _=>by kernel_rfl) (by decide) λ_ _=>rfl
theorem e30:gE W0 m0 S Q 30 8 Tz Lz [a0] A=(Aa (AD a0) λt0=>Aa (Ad Tp 108 t0 3) λt1=>Bh (Az Tp A 4 t1 (.bool true)) λAt2=>Aa (AD a0) λt3=>Aa (Ad Tp 108 t3 2) λt4=>Bh (Az Tp At2 3 t4 (.int .i64 0)) λAt5=>Q (.tuple ⟨[]⟩) At5):=by kernel_rfl
theorem w30:Wf1 30 8 Tz Lz:=wf1 (λ_=>by kernel_rfl) (by decide) λ_=>rfl
noncomputable def T31:Nat->List Item:=λi=>match i with
 |0=>[(.code (cd 31 [1,1,1,0,0])),(.inLoop (cd 31 [1,1,1,0,0])),(.inBlock 0)]
 |_=>[]
def L31:Nat->List Tmp:=λi=>match i with
 |0=>[0,1,4]
 |_=>[]
theorem e31:gE W0 m0 S Q 31 65 T31 L31 [a0,a1] A=(Aa (AD a0) λt0=>Aa (Ad Tp 108 t0 3) λt1=>Aa (Af Tp A 4 t1) λt2=>Aa (unA Tp .not t2) λt3=>Ah t3 (Q (.tuple ⟨[]⟩) A) (Aa (AD a0) λt4=>Aa (Ad Tp 108 t4 3) λt5=>Bh (Az Tp A 4 t5 (.bool false)) λAt6=>Bm (T31 0) (T31 0) (S 0 [a0,a1,(.int .i64 0)] At6))):=by kernel_rfl
theorem Ado:gL W0 m0 S Q 31 65 T31 L31 d 0 A=(Aa (AD (d 0)) λt0=>Aa (Ad Tp 108 t0 0) λt1=>Aa (Af Tp A 106 t1) λt2=>Aa (Bd Tp A 106 t2) λt3=>Aa (Ai Tp .lss 3 (.tmp 15) (.tmp 20) (d 4) t3) λt4=>Ah t4 (Aa (AD (d 0)) λt5=>Aa (Ad Tp 108 t5 0) λt6=>Aa (Af Tp A 106 t6) λt7=>Aa (Ak Tp 106 t7 (d 4)) λt8=>Aa (Af Tp A 118 t8) λt9=>Au (Cz Tp A 118) λt10 At10=>Bh (Az Tp At10 118 t10 t9) λAt11=>Aa (Bd Tp At11 46 (d 1)) λt12=>Aa (Ai Tp .lss 3 (.tmp 31) (.tmp 33) (d 4) t12) λt13=>Ah t13 (Aa (Ak Tp 46 (d 1) (d 4)) λt14=>Aa (Af Tp At11 3 t14) λt15=>Aa (OD t15 [(.int .i64 0)]) λt16=>Aa (Ad Tp 118 t10 1) λt17=>Aa (Af Tp At11 9 t17) λt18=>Aa (Bd Tp At11 9 t18) λt19=>Aa (Ad Tp 118 t10 2) λt20=>Aa (Af Tp At11 3 t20) λt21=>Aa (Ai Tp .sub 3 (.tmp 42) (.tmp 44) t19 t21) λt22=>Aa (RC t16 [t22]) λt23=>Aa (Ad Tp 118 t10 2) λt24=>Aa (Af Tp At11 3 t24) λt25=>Aa (Ai Tp .add 3 (.tmp 48) (.tmp 49) t25 t23) λt26=>Aa (Ad Tp 118 t10 2) λt27=>Bh (Az Tp At11 3 t27 t26) λAt28=>Aa (Ad Tp 118 t10 1) λt29=>Aa (Af Tp At28 9 t29) λt30=>Aa (Ad Tp 118 t10 2) λt31=>Aa (Af Tp At28 3 t31) λt32=>Aa (AP Tp At28 9 t30 none (some t32) none) λt33=>Aa (Ad Tp 118 t10 1) λt34=>Bh (Az Tp At28 9 t34 t33) λAt35=>Aa (AD (d 0)) λt36=>Aa (Ad Tp 108 t36 0) λt37=>Aa (Af Tp At35 106 t37) λt38=>Aa (Af Tp At35 118 t10) λt39=>Aa (Ak Tp 106 t38 (d 4)) λt40=>Bh (Az Tp At35 118 t40 t39) λAt41=>Aa (Ai Tp .add 3 (.tmp 22) (.const (.int .i64 1)) (d 4) (.int .i64 1)) λt42=>Bm (T31 0) (T31 0) (S 0 [(d 0),(d 1),t42] At41)) (Aa (Ad Tp 118 t10 2) λt43=>Aa (Af Tp At11 3 t43) λt44=>Aa (Ai Tp .add 3 (.tmp 48) (.tmp 49) t44 (.int .i64 0)) λt45=>Aa (Ad Tp 118 t10 2) λt46=>Bh (Az Tp At11 3 t46 t45) λAt47=>Aa (Ad Tp 118 t10 1) λt48=>Aa (Af Tp At47 9 t48) λt49=>Aa (Ad Tp 118 t10 2) λt50=>Aa (Af Tp At47 3 t50) λt51=>Aa (AP Tp At47 9 t49 none (some t51) none) λt52=>Aa (Ad Tp 118 t10 1) λt53=>Bh (Az Tp At47 9 t53 t52) λAt54=>Aa (AD (d 0)) λt55=>Aa (Ad Tp 108 t55 0) λt56=>Aa (Af Tp At54 106 t56) λt57=>Aa (Af Tp At54 118 t10) λt58=>Aa (Ak Tp 106 t57 (d 4)) λt59=>Bh (Az Tp At54 118 t59 t58) λAt60=>Aa (Ai Tp .add 3 (.tmp 22) (.const (.int .i64 1)) (d 4) (.int .i64 1)) λt61=>Bm (T31 0) (T31 0) (S 0 [(d 0),(d 1),t61] At60))) (Q (.tuple ⟨[]⟩) A)):=by kernel_rfl
theorem w31:Wf2 31 65 T31 L31:=wf2 (λ_ _=>by kernel_rfl) (by decide) λ_ _=>rfl
theorem c31:DX 31 65 T31 L31:=D0 (by decide)
theorem e32:gE W0 m0 S Q 32 71 Tz Lz [a0,a1,a2] A=(Aa (AD a0) λt0=>Aa (Ad Tp 108 t0 3) λt1=>Aa (Af Tp A 4 t1) λt2=>Ah t2 (Q (.int .i64 100) A) (Wc Tp An W0 m0 81 [a1] A λt3 At3=>Aa (unA Tp .not t3) λt4=>Ah t4 (Q (.int .i64 2) At3) (Wc Tp An W0 m0 69 [a0,a1] At3 λt5 At5=>Aa (Ai Tp .geq 3 (.tmp 19) (.const (.int .i64 0)) t5 (.int .i64 0)) λt6=>Ah t6 (Aa (AD a0) λt7=>Aa (Ad Tp 108 t7 0) λt8=>Aa (Af Tp At5 106 t8) λt9=>Aa (Ak Tp 106 t9 t5) λt10=>Aa (Ad Tp 118 t10 1) λt11=>Aa (Af Tp At5 9 t11) λt12=>Aa (Bd Tp At5 9 t12) λt13=>Aa (Bd Tp At5 9 a2) λt14=>Aa (Ai Tp .sub 3 (.const (.int .i64 1048576)) (.tmp 32) (.int .i64 1048576) t13) λt15=>Aa (Ai Tp .gtr 3 (.tmp 31) (.tmp 33) t14 t15) λt16=>Ah t16 (Q (.int .i64 3) At5) (Aa (Bd Tp At5 9 a2) λt17=>Aa (AD a0) λt18=>Aa (Ad Tp 108 t18 1) λt19=>Aa (Af Tp At5 3 t19) λt20=>Wc Tp An W0 m0 82 [a0] At5 λt21 At21=>Aa (Af Tp At21 3 t19) λt22=>eqW t22 t20 (Aa (Ad Tp 108 t18 1) λt23=>eqW t23 t19 (Aa (AD a0) λt24=>eqW t24 t18 (eqW a0 a0 (Aa (Bd Tp At21 9 a2) λt25=>eqW t25 t17 (eqW a2 a2 (Aa (Ai Tp .sub 3 (.tmp 40) (.tmp 42) t20 t21) λt26=>Aa (Ai Tp .gtr 3 (.tmp 36) (.tmp 43) t17 t26) λt27=>Ah t27 (Q (.int .i64 6) At21) (Aa (Ai Tp .lss 3 (.tmp 45) (.const (.int .i64 0)) t5 (.int .i64 0)) λt28=>Ah t28 (Aa (Bp Tp 118 [(0,a1),(1,a2)]) λt29=>Wc Tp An W0 m0 83 [a0,t29] At21 λt30 At30=>Wc Tp An W0 m0 84 [a0] At30 λt31 At31=>Ah t31 (Q (.int .i64 100) At31) (Q (.int .i64 0) At31)) (Aa (AD a0) λt32=>Aa (Ad Tp 108 t32 0) λt33=>Aa (Af Tp At21 106 t33) λt34=>Aa (AD a0) λt35=>Aa (Ad Tp 108 t35 0) λt36=>Aa (Af Tp At21 106 t36) λt37=>Aa (Ak Tp 106 t37 t5) λt38=>Aa (Ad Tp 118 t38 1) λt39=>Aa (Af Tp At21 9 t39) λt40=>Aa (Ai Tp .add 9 (.tmp 64) (.tmp 65) t40 a2) λt41=>Aa (Ak Tp 106 t34 t5) λt42=>Aa (Ad Tp 118 t42 1) λt43=>Bh (Az Tp At21 9 t43 t41) λAt44=>Wc Tp An W0 m0 84 [a0] At44 λt45 At45=>Ah t45 (Q (.int .i64 100) At45) (Q (.int .i64 0) At45))))))))))) (Aa (Bd Tp At5 9 a2) λt46=>Aa (Ai Tp .sub 3 (.const (.int .i64 1048576)) (.tmp 32) (.int .i64 1048576) (.int .i64 0)) λt47=>Aa (Ai Tp .gtr 3 (.tmp 31) (.tmp 33) t46 t47) λt48=>Ah t48 (Q (.int .i64 3) At5) (Aa (Bd Tp At5 9 a2) λt49=>Aa (AD a0) λt50=>Aa (Ad Tp 108 t50 1) λt51=>Aa (Af Tp At5 3 t51) λt52=>Wc Tp An W0 m0 82 [a0] At5 λt53 At53=>Aa (Af Tp At53 3 t51) λt54=>eqW t54 t52 (Aa (Ad Tp 108 t50 1) λt55=>eqW t55 t51 (Aa (AD a0) λt56=>eqW t56 t50 (eqW a0 a0 (Aa (Bd Tp At53 9 a2) λt57=>eqW t57 t49 (eqW a2 a2 (Aa (Ai Tp .sub 3 (.tmp 40) (.tmp 42) t52 t53) λt58=>Aa (Ai Tp .gtr 3 (.tmp 36) (.tmp 43) t49 t58) λt59=>Ah t59 (Q (.int .i64 6) At53) (Aa (Ai Tp .lss 3 (.tmp 45) (.const (.int .i64 0)) t5 (.int .i64 0)) λt60=>Ah t60 (Aa (Bp Tp 118 [(0,a1),(1,a2)]) λt61=>Wc Tp An W0 m0 83 [a0,t61] At53 λt62 At62=>Wc Tp An W0 m0 84 [a0] At62 λt63 At63=>Ah t63 (Q (.int .i64 100) At63) (Q (.int .i64 0) At63)) (Aa (AD a0) λt64=>Aa (Ad Tp 108 t64 0) λt65=>Aa (Af Tp At53 106 t65) λt66=>Aa (AD a0) λt67=>Aa (Ad Tp 108 t67 0) λt68=>Aa (Af Tp At53 106 t68) λt69=>Aa (Ak Tp 106 t69 t5) λt70=>Aa (Ad Tp 118 t70 1) λt71=>Aa (Af Tp At53 9 t71) λt72=>Aa (Ai Tp .add 9 (.tmp 64) (.tmp 65) t72 a2) λt73=>Aa (Ak Tp 106 t66 t5) λt74=>Aa (Ad Tp 118 t74 1) λt75=>Bh (Az Tp At53 9 t75 t73) λAt76=>Wc Tp An W0 m0 84 [a0] At76 λt77 At77=>Ah t77 (Q (.int .i64 100) At77) (Q (.int .i64 0) At77)))))))))))))):=by kernel_rfl
theorem w32:Wf3 32 71 Tz Lz:=wf3 (λ_ _ _=>by kernel_rfl) (by decide) λ_ _ _=>rfl
theorem e33:gE W0 m0 S Q 33 17 Tz Lz [a0] A=(Aa (AD a0) λt0=>Aa (Ad Tp 116 t0 4) λt1=>Aa (Af Tp A 4 t1) λt2=>Ah t2 (Q (.int .i64 100) A) (Aa (AD a0) λt3=>Aa (Ad Tp 116 t3 0) λt4=>Aa (Af Tp A 62 t4) λt5=>Wc Tp An W0 m0 86 [a0] A λt6 At6=>Aa (Af Tp At6 62 t4) λt7=>eqW t7 t5 (Aa (Ad Tp 116 t3 0) λt8=>eqW t8 t4 (Aa (AD a0) λt9=>eqW t9 t3 (eqW a0 a0 (eqW a0 a0 (Wc Tp An W0 m0 74 [t6] At6 λt10 At10=>Aa (Af Tp At10 62 t4) λt11=>eqW t11 t5 (Aa (Ad Tp 116 t3 0) λt12=>eqW t12 t4 (Aa (AD a0) λt13=>eqW t13 t3 (eqW a0 a0 (eqW a0 a0 (Wc Tp An W0 m0 72 [t5,t10] At10 λt14 At14=>eqW a0 a0 (Wc Tp An W0 m0 85 [a0,t14] At14 λt15 At15=>Q t15 At15))))))))))))):=by kernel_rfl
theorem w33:Wf1 33 17 Tz Lz:=wf1 (λ_=>by kernel_rfl) (by decide) λ_=>rfl
noncomputable def T34:Nat->List Item:=λi=>match i with
 |0=>[(.code (cd 34 [1,1,1,1,1,1,1,1,1,1,1,1,1,1,0,1,0,0])),(.inLoop (cd 34 [1,1,1,1,1,1,1,1,1,1,1,1,1,1,0,1,0,0])),(.inBlock 0),(.code (cd 34 [1,1,1,1,1,1,1,1,1,1,1,1,1,1,1]))]
 |_=>[]
def L34:Nat->List Tmp:=λi=>match i with
 |0=>[0,5,7,8]
 |_=>[]
theorem Adn:gL W0 m0 S Q 34 103 T34 L34 d 0 A=(Aa (Bd Tp A 46 (d 7)) λt0=>Aa (Ai Tp .lss 3 (.tmp 74) (.tmp 76) (d 8) t0) λt1=>Ah t1 (Aa (Ak Tp 46 (d 7) (d 8)) λt2=>Aa (Af Tp A 3 t2) λt3=>Aa (Ai Tp .leq 3 (.tmp 82) (.tmp 83) t3 (d 5)) λt4=>Ah t4 (Aa (AD (d 0)) λt5=>Aa (Ad Tp 116 t5 0) λt6=>Aa (Af Tp A 62 t6) λt7=>Aa (Ak Tp 46 (d 7) (d 8)) λt8=>Aa (Af Tp A 3 t8) λt9=>Wc Tp An W0 m0 74 [t9] A λt10 At10=>Aa (Af Tp At10 62 t6) λt11=>eqW t11 t7 (Aa (Ad Tp 116 t5 0) λt12=>eqW t12 t6 (Aa (AD (d 0)) λt13=>eqW t13 t5 (eqW (d 0) (d 0) (Wc Tp An W0 m0 70 [t7,t10] At10 λt14 At14=>Aa (Ai Tp .neq 3 (.tmp 98) (.const (.int .i64 0)) t14 (.int .i64 0)) λt15=>Ah t15 (Wc Tp An W0 m0 85 [(d 0),t14] At14 λt16 At16=>Q t16 At16) (Aa (Ai Tp .add 3 (.tmp 86) (.const (.int .i64 1)) (d 8) (.int .i64 1)) λt17=>Bm (T34 0) (T34 0) (S 0 [(d 0),(d 5),(d 7),t17] At14))))))) (Q (.int .i64 0) A)) (Q (.int .i64 0) A)):=by kernel_rfl
theorem w34:Wf2 34 103 T34 L34:=wf2 (λ_ _=>by kernel_rfl) (by decide) λ_ _=>rfl
theorem c34:DX 34 103 T34 L34:=D0 (by decide)
theorem w35:Wf2 35 99 Tz Lz:=wf2 (λ_ _=>by kernel_rfl) (by decide) λ_ _=>rfl
noncomputable def T68:Nat->List Item:=λi=>match i with
 |0=>[(.code (cd 68 [1,1,1,1,0,1,0,0])),(.inLoop (cd 68 [1,1,1,1,0,1,0,0])),(.inBlock 0),(.code (cd 68 [1,1,1,1,1]))]
 |2=>[(.code (cd 68 [1,1,1,1,1,1,1,0,1,0,0])),(.inLoop (cd 68 [1,1,1,1,1,1,1,0,1,0,0])),(.inBlock 2),(.code (cd 68 [1,1,1,1,1,1,1,1]))]
 |4=>[(.code (cd 68 [1,1,1,1,1,1,1,1,0,1,0,0])),(.inLoop (cd 68 [1,1,1,1,1,1,1,1,0,1,0,0])),(.inBlock 4),(.code (cd 68 [1,1,1,1,1,1,1,1,1]))]
 |_=>[]
def L68:Nat->List Tmp:=λi=>match i with
 |0=>[0,6,7,8]
 |2=>[0,6,7,12,13]
 |4=>[6,7,12,17]
 |_=>[]
theorem e68:gE W0 m0 S Q 68 122 T68 L68 [a0] A=(Wc Tp An W0 m0 75 [a0] A λt0 At0=>Aa (Bd Tp At0 46 t0) λt1=>Aa (Ai Tp .eql 3 (.tmp 21) (.const (.int .i64 0)) t1 (.int .i64 0)) λt2=>Ah t2 (Q (.tuple ⟨[(.int .i64 0),(.string ⟨⟨[]⟩⟩),(.slice none 0 0),(.bool true)]⟩) At0) (Bm (T68 0) (T68 0) (S 0 [a0,t0,(.int .i64 (-1)),(.int .i64 0)] At0))):=by kernel_rfl
theorem Adf:gL W0 m0 S Q 68 122 T68 L68 d 0 A=(Aa (Bd Tp A 46 (d 6)) λt0=>Aa (Ai Tp .lss 3 (.tmp 23) (.tmp 25) (d 8) t0) λt1=>Ah t1 (Aa (Ak Tp 46 (d 6) (d 8)) λt2=>Aa (Af Tp A 3 t2) λt3=>Wc Tp An W0 m0 76 [(d 0),t3] A λt4 At4=>Aa (Ap t4 0) λt5=>Aa (Ap t4 1) λt6=>Aa (Ap t4 2) λt7=>Aa (Bd Tp At4 22 t5) λt8=>Aa (Ai Tp .gtr 3 (.tmp 40) (.const (.int .i64 0)) t8 (.int .i64 0)) λt9=>Ah t9 (Aa (Ak Tp 22 t5 (.int .i64 0)) λt10=>Aa (Ad Tp 35 t10 0) λt11=>Aa (Af Tp At4 5 t11) λt12=>Aa (Ai Tp .eql 5 (.tmp 46) (.const (.int .u8 0)) t12 (.int .u8 0)) λt13=>Ah t13 (Aa (Ai Tp .add 3 (.tmp 27) (.const (.int .i64 1)) (d 8) (.int .i64 1)) λt14=>Bm (T68 0) (T68 0) (S 0 [(d 0),(d 6),(d 8),t14] At4)) (Aa (Ai Tp .add 3 (.tmp 27) (.const (.int .i64 1)) (d 8) (.int .i64 1)) λt15=>Bm (T68 0) (T68 0) (S 0 [(d 0),(d 6),(d 7),t15] At4))) (Aa (Ai Tp .add 3 (.tmp 27) (.const (.int .i64 1)) (d 8) (.int .i64 1)) λt16=>Bm (T68 0) (T68 0) (S 0 [(d 0),(d 6),(d 7),t16] At4))) (Aa (Ai Tp .lss 3 (.tmp 50) (.const (.int .i64 0)) (d 7) (.int .i64 0)) λt17=>Ah t17 (Q (.tuple ⟨[(.int .i64 0),(.string ⟨⟨[]⟩⟩),(.slice none 0 0),(.bool false)]⟩) A) (Bm (T68 2) (T68 2) (S 2 [(d 0),(d 6),(d 7),(.slice none 0 0),(d 7)] A)))):=by kernel_rfl
theorem Ade:gL W0 m0 S Q 68 122 T68 L68 d 2 A=(Aa (Bd Tp A 46 (d 6)) λt0=>Aa (Ai Tp .lss 3 (.tmp 53) (.tmp 55) (d 13) t0) λt1=>Ah t1 (Aa (Ak Tp 46 (d 6) (d 13)) λt2=>Aa (Af Tp A 3 t2) λt3=>Wc Tp An W0 m0 76 [(d 0),t3] A λt4 At4=>Aa (Ap t4 0) λt5=>Aa (Ap t4 1) λt6=>Aa (Ap t4 2) λt7=>Aa (Ak Tp 46 (d 6) (d 13)) λt8=>Aa (Af Tp At4 3 t8) λt9=>Aa (Ak Tp 46 (d 6) (d 7)) λt10=>Aa (Af Tp At4 3 t10) λt11=>Aa (Ai Tp .add 3 (.tmp 76) (.tmp 77) t11 (d 13)) λt12=>Aa (Ai Tp .sub 3 (.tmp 78) (.tmp 79) t12 (d 7)) λt13=>Aa (Ai Tp .neq 3 (.tmp 72) (.tmp 80) t9 t13) λt14=>Ah t14 (Q (.tuple ⟨[(.int .i64 0),(.string ⟨⟨[]⟩⟩),(.slice none 0 0),(.bool false)]⟩) At4) (Aa (Ai Tp .eql 3 (.tmp 83) (.const (.int .i64 2)) t7 (.int .i64 2)) λt15=>Ah t15 (Q (.tuple ⟨[(.int .i64 0),(.string ⟨⟨[]⟩⟩),(.slice none 0 0),(.bool false)]⟩) At4) (Aa (Ai Tp .eql 3 (.tmp 87) (.const (.int .i64 1)) t7 (.int .i64 1)) λt16=>Ah t16 (Aa (Ai Tp .add 3 (.tmp 90) (.const (.int .i64 1)) (d 13) (.int .i64 1)) λt17=>Aa (Bd Tp At4 46 (d 6)) λt18=>Aa (Ai Tp .lss 3 (.tmp 91) (.tmp 93) t17 t18) λt19=>Ah t19 (Q (.tuple ⟨[(.int .i64 0),(.string ⟨⟨[]⟩⟩),(.slice none 0 0),(.bool false)]⟩) At4) (Au (AJ Tp At4 22 22 (d 12) t5) λt20 At20=>Aa (Ai Tp .add 3 (.tmp 57) (.const (.int .i64 1)) (d 13) (.int .i64 1)) λt21=>Bm (T68 2) (T68 2) (S 2 [(d 0),(d 6),(d 7),t20,t21] At20))) (Au (AJ Tp At4 22 22 (d 12) t5) λt22 At22=>Aa (Ai Tp .add 3 (.tmp 57) (.const (.int .i64 1)) (d 13) (.int .i64 1)) λt23=>Bm (T68 2) (T68 2) (S 2 [(d 0),(d 6),(d 7),t22,t23] At22))))) (Bm (T68 4) (T68 4) (S 4 [(d 6),(d 7),(d 12),(.int .i64 1)] A))):=by kernel_rfl
theorem Adc:gL W0 m0 S Q 68 122 T68 L68 d 4 A=(Aa (Bd Tp A 22 (d 12)) λt0=>Aa (Ai Tp .lss 3 (.tmp 100) (.tmp 102) (d 17) t0) λt1=>Ah t1 (Aa (Ak Tp 22 (d 12) (d 17)) λt2=>Aa (Ad Tp 35 t2 0) λt3=>Aa (Af Tp A 5 t3) λt4=>Aa (Ai Tp .eql 5 (.tmp 110) (.const (.int .u8 0)) t4 (.int .u8 0)) λt5=>Ah t5 (Q (.tuple ⟨[(.int .i64 0),(.string ⟨⟨[]⟩⟩),(.slice none 0 0),(.bool false)]⟩) A) (Aa (Ai Tp .add 3 (.tmp 104) (.const (.int .i64 1)) (d 17) (.int .i64 1)) λt6=>Bm (T68 4) (T68 4) (S 4 [(d 6),(d 7),(d 12),t6] A))) (Aa (Ak Tp 46 (d 6) (d 7)) λt7=>Aa (Af Tp A 3 t7) λt8=>Aa (Ak Tp 22 (d 12) (.int .i64 0)) λt9=>Aa (Ad Tp 35 t9 1) λt10=>Aa (Af Tp A 9 t10) λt11=>Aa (AP Tp A 22 (d 12) (some (.int .i64 1)) none none) λt12=>Aa (AP Tp A 22 (d 12) (some (.int .i64 1)) none none) λt13=>eqW t13 t12 (eqW (d 12) (d 12) (Aa (Af Tp A 9 t10) λt14=>eqW t14 t11 (Aa (Ad Tp 35 t9 1) λt15=>eqW t15 t10 (Aa (Ak Tp 22 (d 12) (.int .i64 0)) λt16=>eqW t16 t9 (eqW (d 12) (d 12) (Aa (AP Tp A 22 (d 12) (some (.int .i64 1)) none none) λt17=>eqW t17 t12 (eqW (d 12) (d 12) (Q (.tuple ⟨[t8,t11,t12,(.bool true)]⟩) A)))))))))):=by kernel_rfl
theorem w68:Wf1 68 122 T68 L68:=wf1 (λ_=>by kernel_rfl) (by decide) λ_=>rfl
theorem c68:DX 68 122 T68 L68:=D0 (by decide)
noncomputable def T69:Nat->List Item:=λi=>match i with
 |0=>[(.code (cd 69 [1,0,1,0,0])),(.inLoop (cd 69 [1,0,1,0,0])),(.inBlock 0),(.code (cd 69 [1,1]))]
 |_=>[]
def L69:Nat->List Tmp:=λi=>match i with
 |0=>[0,1,5]
 |_=>[]
theorem e69:gE W0 m0 S Q 69 26 T69 L69 [a0,a1] A=(Bm (T69 0) (T69 0) (S 0 [a0,a1,(.int .i64 0)] A)):=by kernel_rfl
theorem Adb:gL W0 m0 S Q 69 26 T69 L69 d 0 A=(Aa (AD (d 0)) λt0=>Aa (Ad Tp 108 t0 0) λt1=>Aa (Af Tp A 106 t1) λt2=>Aa (Bd Tp A 106 t2) λt3=>Aa (Ai Tp .lss 3 (.tmp 6) (.tmp 11) (d 5) t3) λt4=>Ah t4 (Aa (AD (d 0)) λt5=>Aa (Ad Tp 108 t5 0) λt6=>Aa (Af Tp A 106 t6) λt7=>Aa (Ak Tp 106 t7 (d 5)) λt8=>Aa (Ad Tp 118 t8 0) λt9=>Aa (Af Tp A 9 t9) λt10=>Aa (Ai Tp .eql 9 (.tmp 22) (.tmp 23) t10 (d 1)) λt11=>Ah t11 (Q (d 5) A) (Aa (Ai Tp .add 3 (.tmp 13) (.const (.int .i64 1)) (d 5) (.int .i64 1)) λt12=>Bm (T69 0) (T69 0) (S 0 [(d 0),(d 1),t12] A))) (Q (.int .i64 (-1)) A)):=by kernel_rfl
theorem w69:Wf2 69 26 T69 L69:=wf2 (λ_ _=>by kernel_rfl) (by decide) λ_ _=>rfl
theorem c69:DX 69 26 T69 L69:=D0 (by decide)
theorem e70:gE W0 m0 S Q 70 20 Tz Lz [a0,a1] A=(Wc Tp An W0 m0 69 [a0,a1] A λt0 At0=>Aa (AD a0) λt1=>Aa (Ad Tp 108 t1 3) λt2=>Aa (Af Tp At0 4 t2) λt3=>Ah t3 (Q (.int .i64 100) At0) (Aa (Ai Tp .lss 3 (.tmp 13) (.const (.int .i64 0)) t0 (.int .i64 0)) λt4=>Ah t4 (Q (.int .i64 7) At0) (Wc Tp An W0 m0 84 [a0] At0 λt5 At5=>Ah t5 (Q (.int .i64 100) At5) (Wc Tp An W0 m0 105 [a0,t0] At5 λt6 At6=>Q (.int .i64 0) At6)))):=by kernel_rfl
theorem w70:Wf2 70 20 Tz Lz:=wf2 (λ_ _=>by kernel_rfl) (by decide) λ_ _=>rfl
theorem e71:gE W0 m0 S Q 71 13 Tz Lz [a0] A=(Aa (Bp Tp 35 [(1,a0)]) λt0=>Au (Av Tp A 22 1 [(0,t0)]) λt1 At1=>Wc Tp An W0 m0 87 [t1] At1 λt2 At2=>Aa (Ap t2 0) λt3=>Aa (Ap t2 1) λt4=>Q t3 At2):=by kernel_rfl
theorem w71:Wf1 71 13 Tz Lz:=wf1 (λ_=>by kernel_rfl) (by decide) λ_=>rfl
theorem e72:gE W0 m0 S Q 72 33 Tz Lz [a0,a1] A=(Wc Tp An W0 m0 69 [a0,a1] A λt0 At0=>Aa (AD a0) λt1=>Aa (Ad Tp 108 t1 3) λt2=>Aa (Af Tp At0 4 t2) λt3=>Ah t3 (Q (.int .i64 100) At0) (Aa (Ai Tp .lss 3 (.tmp 13) (.const (.int .i64 0)) t0 (.int .i64 0)) λt4=>Ah t4 (Q (.int .i64 7) At0) (Wc Tp An W0 m0 84 [a0] At0 λt5 At5=>Ah t5 (Q (.int .i64 100) At5) (Aa (AD a0) λt6=>Aa (Ad Tp 108 t6 0) λt7=>Aa (Af Tp At5 106 t7) λt8=>Aa (AD a0) λt9=>Aa (Ad Tp 108 t9 0) λt10=>Aa (Af Tp At5 106 t10) λt11=>Aa (Ak Tp 106 t11 t0) λt12=>Aa (Ad Tp 118 t12 1) λt13=>Aa (Af Tp At5 9 t13) λt14=>Aa (Bd Tp At5 9 t14) λt15=>Aa (Ak Tp 106 t8 t0) λt16=>Aa (Ad Tp 118 t16 2) λt17=>Bh (Az Tp At5 3 t17 t15) λAt18=>Q (.int .i64 0) At18)))):=by kernel_rfl
theorem w72:Wf2 72 33 Tz Lz:=wf2 (λ_ _=>by kernel_rfl) (by decide) λ_ _=>rfl
theorem e73:gE W0 m0 S Q 73 52 Tz Lz [a0,a1,a2] A=(Wc Tp An W0 m0 69 [a0,a1] A λt0 At0=>Aa (AD a0) λt1=>Aa (Ad Tp 108 t1 3) λt2=>Aa (Af Tp At0 4 t2) λt3=>Ah t3 (Q (.int .i64 100) At0) (Wc Tp An W0 m0 81 [a1] At0 λt4 At4=>Aa (unA Tp .not t4) λt5=>Ah t5 (Q (.int .i64 2) At4) (Wc Tp An W0 m0 81 [a2] At4 λt6 At6=>Aa (unA Tp .not t6) λt7=>Ah t7 (Q (.int .i64 2) At6) (Aa (Ai Tp .lss 3 (.tmp 25) (.const (.int .i64 0)) t0 (.int .i64 0)) λt8=>Ah t8 (Q (.int .i64 7) At6) (Wc Tp An W0 m0 84 [a0] At6 λt9 At9=>Ah t9 (Q (.int .i64 100) At9) (Aa (AD a0) λt10=>Aa (Ad Tp 108 t10 0) λt11=>Aa (Af Tp At9 106 t11) λt12=>Aa (Ak Tp 106 t12 t0) λt13=>Aa (Af Tp At9 118 t13) λt14=>Au (Cz Tp At9 118) λt15 At15=>Bh (Az Tp At15 118 t15 t14) λAt16=>Wc Tp An W0 m0 105 [a0,t0] At16 λt17 At17=>Wc Tp An W0 m0 69 [a0,a2] At17 λt18 At18=>Aa (Ai Tp .geq 3 (.tmp 42) (.const (.int .i64 0)) t18 (.int .i64 0)) λt19=>Ah t19 (Wc Tp An W0 m0 105 [a0,t18] At18 λt20 At20=>Aa (Ad Tp 118 t15 0) λt21=>Bh (Az Tp At20 9 t21 a2) λAt22=>Aa (Af Tp At22 118 t15) λt23=>Wc Tp An W0 m0 83 [a0,t23] At22 λt24 At24=>Q (.int .i64 0) At24) (Aa (Ad Tp 118 t15 0) λt25=>Bh (Az Tp At18 9 t25 a2) λAt26=>Aa (Af Tp At26 118 t15) λt27=>Wc Tp An W0 m0 83 [a0,t27] At26 λt28 At28=>Q (.int .i64 0) At28))))))):=by kernel_rfl
theorem w73:Wf3 73 52 Tz Lz:=wf3 (λ_ _ _=>by kernel_rfl) (by decide) λ_ _ _=>rfl
noncomputable def T74:Nat->List Item:=λi=>match i with
 |0=>[(.code (cd 74 [1,1,0,1,0,0])),(.inLoop (cd 74 [1,1,0,1,0,0])),(.inBlock 0),(.code (cd 74 [1,1,1]))]
 |_=>[]
def L74:Nat->List Tmp:=λi=>match i with
 |0=>[0,3,4]
 |_=>[]
theorem e74:gE W0 m0 S Q 74 21 T74 L74 [a0] A=(Bm (T74 0) (T74 0) (S 0 [a0,(.string ⟨⟨[]⟩⟩),(.int .i64 0)] A)):=by kernel_rfl
theorem Ac9:gL W0 m0 S Q 74 21 T74 L74 d 0 A=(Aa (Ai Tp .lss 3 (.tmp 5) (.const (.int .i64 8)) (d 4) (.int .i64 8)) λt0=>Ah t0 (Aa (Ai Tp .rem 3 (.tmp 9) (.const (.int .i64 10)) (d 0) (.int .i64 10)) λt1=>Aa (Ai Tp .add 3 (.const (.int .i64 48)) (.tmp 10) (.int .i64 48) t1) λt2=>Au (AX Tp A 3 5 t2) λt3 At3=>Au (Av Tp At3 41 1 [(0,t3)]) λt4 At4=>Au (AX Tp At4 41 9 t4) λt5 At5=>Aa (Ai Tp .add 9 (.tmp 14) (.tmp 15) t5 (d 3)) λt6=>Aa (Ai Tp .quo 3 (.tmp 17) (.const (.int .i64 10)) (d 0) (.int .i64 10)) λt7=>Aa (Ai Tp .add 3 (.tmp 7) (.const (.int .i64 1)) (d 4) (.int .i64 1)) λt8=>Bm (T74 0) (T74 0) (S 0 [t7,t6,t8] At5)) (Aa (Ai Tp .add 9 (.const (.string ⟨⟨[106,46]⟩⟩)) (.tmp 19) (.string ⟨⟨[106,46]⟩⟩) (d 3)) λt9=>Q t9 A)):=by kernel_rfl
theorem w74:Wf1 74 21 T74 L74:=wf1 (λ_=>by kernel_rfl) (by decide) λ_=>rfl
theorem c74:DX 74 21 T74 L74:=D0 (by decide)
noncomputable def T75:Nat->List Item:=λi=>match i with
 |0=>[(.code (cd 75 [1,1,0,1,0,0])),(.inLoop (cd 75 [1,1,0,1,0,0])),(.inBlock 0),(.code (cd 75 [1,1,1]))]
 |_=>[]
def L75:Nat->List Tmp:=λi=>match i with
 |0=>[0,3,4]
 |_=>[]
theorem e75:gE W0 m0 S Q 75 31 T75 L75 [a0] A=(Bm (T75 0) (T75 0) (S 0 [a0,(.slice none 0 0),(.int .i64 0)] A)):=by kernel_rfl
theorem Ac8:gL W0 m0 S Q 75 31 T75 L75 d 0 A=(Aa (AD (d 0)) λt0=>Aa (Ad Tp 108 t0 0) λt1=>Aa (Af Tp A 106 t1) λt2=>Aa (Bd Tp A 106 t2) λt3=>Aa (Ai Tp .lss 3 (.tmp 6) (.tmp 11) (d 4) t3) λt4=>Ah t4 (Aa (AD (d 0)) λt5=>Aa (Ad Tp 108 t5 0) λt6=>Aa (Af Tp A 106 t6) λt7=>Aa (Ak Tp 106 t7 (d 4)) λt8=>Aa (Ad Tp 118 t8 0) λt9=>Aa (Af Tp A 9 t9) λt10=>Wc Tp An W0 m0 106 [t10] A λt11 At11=>Aa (Ai Tp .gtr 3 (.tmp 24) (.const (.int .i64 0)) t11 (.int .i64 0)) λt12=>Ah t12 (Au (Av Tp At11 46 1 [(0,t11)]) λt13 At13=>Au (AJ Tp At13 46 46 (d 3) t13) λt14 At14=>Aa (Ai Tp .add 3 (.tmp 13) (.const (.int .i64 1)) (d 4) (.int .i64 1)) λt15=>Bm (T75 0) (T75 0) (S 0 [(d 0),t14,t15] At14)) (Aa (Ai Tp .add 3 (.tmp 13) (.const (.int .i64 1)) (d 4) (.int .i64 1)) λt16=>Bm (T75 0) (T75 0) (S 0 [(d 0),(d 3),t16] At11))) (Q (d 3) A)):=by kernel_rfl
theorem w75:Wf1 75 31 T75 L75:=wf1 (λ_=>by kernel_rfl) (by decide) λ_=>rfl
theorem c75:DX 75 31 T75 L75:=D0 (by decide)
theorem e76:gE W0 m0 S Q 76 22 Tz Lz [a0,a1] A=(Aa (AD a0) λt0=>Aa (Ad Tp 108 t0 0) λt1=>Aa (Af Tp A 106 t1) λt2=>Wc Tp An W0 m0 74 [a1] A λt3 At3=>eqW a0 a0 (Aa (Af Tp At3 106 t1) λt4=>eqW t4 t2 (Aa (Ad Tp 108 t0 0) λt5=>eqW t5 t1 (Aa (AD a0) λt6=>eqW t6 t0 (eqW a0 a0 (Wc Tp An W0 m0 69 [a0,t3] At3 λt7 At7=>Aa (Af Tp At7 106 t1) λt8=>eqW t8 t2 (Aa (Ad Tp 108 t0 0) λt9=>eqW t9 t1 (Aa (AD a0) λt10=>eqW t10 t0 (eqW a0 a0 (Aa (Ak Tp 106 t2 t7) λt11=>Aa (Ad Tp 118 t11 1) λt12=>Aa (Af Tp At7 9 t12) λt13=>Wc Tp An W0 m0 107 [t13] At7 λt14 At14=>Aa (Ap t14 0) λt15=>Aa (Ap t14 1) λt16=>Aa (Ap t14 2) λt17=>Q (.tuple ⟨[t15,t16,t17]⟩) At14)))))))))):=by kernel_rfl
theorem w76:Wf2 76 22 Tz Lz:=wf2 (λ_ _=>by kernel_rfl) (by decide) λ_ _=>rfl
theorem e77:gE W0 m0 S Q 77 66 Tz Lz [a0,a1,a2] A=(Wc Tp An W0 m0 69 [a0,a1] A λt0 At0=>Aa (AD a0) λt1=>Aa (Ad Tp 108 t1 3) λt2=>Aa (Af Tp At0 4 t2) λt3=>Ah t3 (Q (.int .i64 100) At0) (Aa (Ai Tp .lss 3 (.tmp 15) (.const (.int .i64 0)) a2 (.int .i64 0)) λt4=>Ah t4 (Q (.int .i64 2) At0) (Aa (Ai Tp .lss 3 (.tmp 17) (.const (.int .i64 0)) t0 (.int .i64 0)) λt5=>Ah t5 (Q (.int .i64 7) At0) (Aa (AD a0) λt6=>Aa (Ad Tp 108 t6 0) λt7=>Aa (Af Tp At0 106 t7) λt8=>Aa (Ak Tp 106 t8 t0) λt9=>Aa (Ad Tp 118 t9 1) λt10=>Aa (Af Tp At0 9 t10) λt11=>Aa (Bd Tp At0 9 t11) λt12=>Aa (Ai Tp .gtr 3 (.tmp 19) (.tmp 28) a2 t12) λt13=>Ah t13 (Q (.int .i64 2) At0) (Wc Tp An W0 m0 84 [a0] At0 λt14 At14=>Ah t14 (Q (.int .i64 100) At14) (Aa (AD a0) λt15=>Aa (Ad Tp 108 t15 0) λt16=>Aa (Af Tp At14 106 t16) λt17=>Aa (AD a0) λt18=>Aa (Ad Tp 108 t18 0) λt19=>Aa (Af Tp At14 106 t19) λt20=>Aa (Ak Tp 106 t20 t0) λt21=>Aa (Ad Tp 118 t21 1) λt22=>Aa (Af Tp At14 9 t22) λt23=>Aa (AP Tp At14 9 t23 none (some a2) none) λt24=>Aa (Ak Tp 106 t17 t0) λt25=>Aa (Ad Tp 118 t25 1) λt26=>Bh (Az Tp At14 9 t26 t24) λAt27=>Aa (AD a0) λt28=>Aa (Ad Tp 108 t28 0) λt29=>Aa (Af Tp At27 106 t29) λt30=>Aa (AD a0) λt31=>Aa (Ad Tp 108 t31 0) λt32=>Aa (Af Tp At27 106 t32) λt33=>Aa (Ak Tp 106 t33 t0) λt34=>Aa (Ad Tp 118 t34 2) λt35=>Aa (Af Tp At27 3 t35) λt36=>Aa (RC t36 [a2]) λt37=>Aa (Ak Tp 106 t30 t0) λt38=>Aa (Ad Tp 118 t38 2) λt39=>Bh (Az Tp At27 3 t39 t37) λAt40=>Q (.int .i64 0) At40)))))):=by kernel_rfl
theorem w77:Wf3 77 66 Tz Lz:=wf3 (λ_ _ _=>by kernel_rfl) (by decide) λ_ _ _=>rfl
noncomputable def T78:Nat->List Item:=λi=>match i with
 |0=>[(.code (cd 78 [1,1,0,1,0,0])),(.inLoop (cd 78 [1,1,0,1,0,0])),(.inBlock 0),(.code (cd 78 [1,1,1]))]
 |_=>[]
def L78:Nat->List Tmp:=λi=>match i with
 |0=>[0,3,4]
 |_=>[]
theorem e78:gE W0 m0 S Q 78 26 T78 L78 [a0] A=(Bm (T78 0) (T78 0) (S 0 [a0,(.slice none 0 0),(.int .i64 0)] A)):=by kernel_rfl
theorem Ac7:gL W0 m0 S Q 78 26 T78 L78 d 0 A=(Aa (AD (d 0)) λt0=>Aa (Ad Tp 108 t0 0) λt1=>Aa (Af Tp A 106 t1) λt2=>Aa (Bd Tp A 106 t2) λt3=>Aa (Ai Tp .lss 3 (.tmp 5) (.tmp 10) (d 4) t3) λt4=>Ah t4 (Aa (AD (d 0)) λt5=>Aa (Ad Tp 108 t5 0) λt6=>Aa (Af Tp A 106 t6) λt7=>Aa (Ak Tp 106 t7 (d 4)) λt8=>Aa (Ad Tp 118 t8 0) λt9=>Aa (Af Tp A 9 t9) λt10=>Au (Av Tp A 37 1 [(0,t10)]) λt11 At11=>Au (AJ Tp At11 37 37 (d 3) t11) λt12 At12=>Aa (Ai Tp .add 3 (.tmp 12) (.const (.int .i64 1)) (d 4) (.int .i64 1)) λt13=>Bm (T78 0) (T78 0) (S 0 [(d 0),t12,t13] At12)) (Q (d 3) A)):=by kernel_rfl
theorem w78:Wf1 78 26 T78 L78:=wf1 (λ_=>by kernel_rfl) (by decide) λ_=>rfl
theorem c78:DX 78 26 T78 L78:=D0 (by decide)
noncomputable def T81:Nat->List Item:=λi=>match i with
 |0=>[(.code (cd 81 [1,0,1,0,0])),(.inLoop (cd 81 [1,0,1,0,0])),(.inBlock 0),(.code (cd 81 [1,1]))]
 |_=>[]
def L81:Nat->List Tmp:=λi=>match i with
 |0=>[0,3]
 |_=>[]
theorem e81:gE W0 m0 S Q 81 28 T81 L81 [a0] A=(Bm (T81 0) (T81 0) (S 0 [a0,(.int .i64 0)] A)):=by kernel_rfl
theorem Ac6:gL W0 m0 S Q 81 28 T81 L81 d 0 A=(Aa (Bd Tp A 9 (d 0)) λt0=>Aa (Ai Tp .lss 3 (.tmp 4) (.tmp 6) (d 3) t0) λt1=>Ah t1 (Aa (DU Tp 9 (d 0) (d 3)) λt2=>Aa (Ai Tp .leq 5 (.tmp 12) (.const (.int .u8 32)) t2 (.int .u8 32)) λt3=>Ah t3 (Q (.bool false) A) (Aa (DU Tp 9 (d 0) (d 3)) λt4=>Aa (Ai Tp .geq 5 (.tmp 17) (.const (.int .u8 127)) t4 (.int .u8 127)) λt5=>Ah t5 (Q (.bool false) A) (Aa (Ai Tp .add 3 (.tmp 8) (.const (.int .i64 1)) (d 3) (.int .i64 1)) λt6=>Bm (T81 0) (T81 0) (S 0 [(d 0),t6] A)))) (Aa (Bd Tp A 9 (d 0)) λt7=>Aa (Ai Tp .geq 3 (.tmp 21) (.const (.int .i64 1)) t7 (.int .i64 1)) λt8=>Ah t8 (Aa (Bd Tp A 9 (d 0)) λt9=>Aa (Ai Tp .leq 3 (.tmp 25) (.const (.int .i64 40)) t9 (.int .i64 40)) λt10=>Q t10 A) (Q (.bool false) A))):=by kernel_rfl
theorem w81:Wf1 81 28 T81 L81:=wf1 (λ_=>by kernel_rfl) (by decide) λ_=>rfl
theorem c81:DX 81 28 T81 L81:=D0 (by decide)
noncomputable def T82:Nat->List Item:=λi=>match i with
 |0=>[(.code (cd 82 [1,1,0,1,0,0])),(.inLoop (cd 82 [1,1,0,1,0,0])),(.inBlock 0),(.code (cd 82 [1,1,1]))]
 |_=>[]
def L82:Nat->List Tmp:=λi=>match i with
 |0=>[0,3,4]
 |_=>[]
theorem e82:gE W0 m0 S Q 82 26 T82 L82 [a0] A=(Bm (T82 0) (T82 0) (S 0 [a0,(.int .i64 0),(.int .i64 0)] A)):=by kernel_rfl
theorem Ac5:gL W0 m0 S Q 82 26 T82 L82 d 0 A=(Aa (AD (d 0)) λt0=>Aa (Ad Tp 108 t0 0) λt1=>Aa (Af Tp A 106 t1) λt2=>Aa (Bd Tp A 106 t2) λt3=>Aa (Ai Tp .lss 3 (.tmp 5) (.tmp 10) (d 4) t3) λt4=>Ah t4 (Aa (AD (d 0)) λt5=>Aa (Ad Tp 108 t5 0) λt6=>Aa (Af Tp A 106 t6) λt7=>Aa (Ak Tp 106 t7 (d 4)) λt8=>Aa (Ad Tp 118 t8 1) λt9=>Aa (Af Tp A 9 t9) λt10=>Aa (Bd Tp A 9 t10) λt11=>Aa (Ai Tp .add 3 (.tmp 14) (.tmp 23) (d 3) t11) λt12=>Aa (Ai Tp .add 3 (.tmp 12) (.const (.int .i64 1)) (d 4) (.int .i64 1)) λt13=>Bm (T82 0) (T82 0) (S 0 [(d 0),t12,t13] A)) (Q (d 3) A)):=by kernel_rfl
theorem w82:Wf1 82 26 T82 L82:=wf1 (λ_=>by kernel_rfl) (by decide) λ_=>rfl
theorem c82:DX 82 26 T82 L82:=D0 (by decide)
noncomputable def T83:Nat->List Item:=λi=>match i with
 |0=>[(.code (cd 83 [1,1,1,0,0,0])),(.inLoop (cd 83 [1,1,1,0,0,0])),(.inBlock 0),(.code (cd 83 [1,1,1,1]))]
 |_=>[]
def L83:Nat->List Tmp:=λi=>match i with
 |0=>[0,3,4,5]
 |_=>[]
theorem e83:gE W0 m0 S Q 83 51 T83 L83 [a0,a1] A=(Au (DF A (Value.cells a1).toList 118) λt0 At0=>Bm (T83 0) (T83 0) (S 0 [a0,t0,(.slice none 0 0),(.int .i64 0)] At0)):=by kernel_rfl
theorem Ac4:gL W0 m0 S Q 83 51 T83 L83 d 0 A=(Aa (AD (d 0)) λt0=>Aa (Ad Tp 108 t0 0) λt1=>Aa (Af Tp A 106 t1) λt2=>Aa (Bd Tp A 106 t2) λt3=>Aa (Ai Tp .lss 3 (.tmp 6) (.tmp 11) (d 5) t3) λt4=>Ah t4 (Aa (AD (d 0)) λt5=>Aa (Ad Tp 108 t5 0) λt6=>Aa (Af Tp A 106 t6) λt7=>Aa (Ak Tp 106 t7 (d 5)) λt8=>Aa (Ad Tp 118 t8 0) λt9=>Aa (Af Tp A 9 t9) λt10=>Aa (Ad Tp 118 (d 3) 0) λt11=>Aa (Af Tp A 9 t11) λt12=>Aa (Ai Tp .lss 9 (.tmp 21) (.tmp 23) t10 t12) λt13=>Ah t13 (Aa (Ai Tp .add 3 (.tmp 26) (.const (.int .i64 1)) (d 5) (.int .i64 1)) λt14=>Bm (T83 0) (T83 0) (S 0 [(d 0),(d 3),(d 4),t14] A)) (Aa (AD (d 0)) λt15=>Aa (Ad Tp 108 t15 0) λt16=>Aa (Af Tp A 106 t16) λt17=>Aa (AP Tp A 106 t17 none (some (d 5)) none) λt18=>Au (AJ Tp A 106 106 (d 4) t18) λt19 At19=>Aa (Af Tp At19 118 (d 3)) λt20=>Au (Av Tp At19 106 1 [(0,t20)]) λt21 At21=>Au (AJ Tp At21 106 106 t19 t21) λt22 At22=>Aa (AD (d 0)) λt23=>Aa (Ad Tp 108 t23 0) λt24=>Aa (Af Tp At22 106 t24) λt25=>Aa (AP Tp At22 106 t25 (some (d 5)) none none) λt26=>Au (AJ Tp At22 106 106 t22 t26) λt27 At27=>Aa (AD (d 0)) λt28=>Aa (Ad Tp 108 t28 0) λt29=>Bh (Az Tp At27 106 t29 t27) λAt30=>Q (.tuple ⟨[]⟩) At30)) (Aa (AD (d 0)) λt31=>Aa (Ad Tp 108 t31 0) λt32=>Aa (Af Tp A 106 t32) λt33=>Aa (AP Tp A 106 t33 none (some (d 5)) none) λt34=>Au (AJ Tp A 106 106 (d 4) t34) λt35 At35=>Aa (Af Tp At35 118 (d 3)) λt36=>Au (Av Tp At35 106 1 [(0,t36)]) λt37 At37=>Au (AJ Tp At37 106 106 t35 t37) λt38 At38=>Aa (AD (d 0)) λt39=>Aa (Ad Tp 108 t39 0) λt40=>Aa (Af Tp At38 106 t40) λt41=>Aa (AP Tp At38 106 t41 (some (d 5)) none none) λt42=>Au (AJ Tp At38 106 106 t38 t42) λt43 At43=>Aa (AD (d 0)) λt44=>Aa (Ad Tp 108 t44 0) λt45=>Bh (Az Tp At43 106 t45 t43) λAt46=>Q (.tuple ⟨[]⟩) At46)):=by kernel_rfl
theorem w83:Wf2 83 51 T83 L83:=wf2 (λ_ _=>by kernel_rfl) (by decide) λ_ _=>rfl
theorem c83:DX 83 51 T83 L83:=D0 (by decide)
theorem e84:gE W0 m0 S Q 84 27 Tz Lz [a0] A=(Aa (AD a0) λt0=>Aa (Ad Tp 108 t0 2) λt1=>Aa (Af Tp A 3 t1) λt2=>Aa (Ai Tp .eql 3 (.tmp 6) (.const (.int .i64 0)) t2 (.int .i64 0)) λt3=>Ah t3 (Q (.bool false) A) (Aa (AD a0) λt4=>Aa (Ad Tp 108 t4 2) λt5=>Aa (Af Tp A 3 t5) λt6=>Aa (Ai Tp .sub 3 (.tmp 11) (.const (.int .i64 1)) t6 (.int .i64 1)) λt7=>Aa (AD a0) λt8=>Aa (Ad Tp 108 t8 2) λt9=>Bh (Az Tp A 3 t9 t7) λAt10=>Aa (AD a0) λt11=>Aa (Ad Tp 108 t11 2) λt12=>Aa (Af Tp At10 3 t12) λt13=>Aa (Ai Tp .eql 3 (.tmp 19) (.const (.int .i64 0)) t13 (.int .i64 0)) λt14=>Aa (AD a0) λt15=>Aa (Ad Tp 108 t15 3) λt16=>Bh (Az Tp At10 4 t16 t14) λAt17=>Aa (AD a0) λt18=>Aa (Ad Tp 108 t18 3) λt19=>Aa (Af Tp At17 4 t19) λt20=>Q t20 At17)):=by kernel_rfl
theorem w84:Wf1 84 27 Tz Lz:=wf1 (λ_=>by kernel_rfl) (by decide) λ_=>rfl
theorem e85:gE W0 m0 S Q 85 11 Tz Lz [a0,a1] A=(Aa (Ai Tp .eql 3 (.tmp 5) (.const (.int .i64 100)) a1 (.int .i64 100)) λt0=>Ah t0 (Aa (AD a0) λt1=>Aa (Ad Tp 116 t1 4) λt2=>Bh (Az Tp A 4 t2 (.bool true)) λAt3=>Q a1 At3) (Q a1 A)):=by kernel_rfl
theorem w85:Wf2 85 11 Tz Lz:=wf2 (λ_ _=>by kernel_rfl) (by decide) λ_ _=>rfl
theorem e86:gE W0 m0 S Q 86 15 Tz Lz [a0] A=(Aa (AD a0) λt0=>Aa (Ad Tp 116 t0 0) λt1=>Aa (Af Tp A 62 t1) λt2=>Wc Tp An W0 m0 75 [t2] A λt3 At3=>Aa (Bd Tp At3 46 t3) λt4=>Aa (Ai Tp .sub 3 (.tmp 11) (.const (.int .i64 1)) t4 (.int .i64 1)) λt5=>Aa (Ak Tp 46 t3 t5) λt6=>Aa (Af Tp At3 3 t6) λt7=>Q t7 At3):=by kernel_rfl
theorem w86:Wf1 86 15 Tz Lz:=wf1 (λ_=>by kernel_rfl) (by decide) λ_=>rfl
noncomputable def T87:Nat->List Item:=λi=>match i with
 |0=>[(.code (cd 87 [1,1,0,1,0,0])),(.inLoop (cd 87 [1,1,0,1,0,0])),(.inBlock 0),(.code (cd 87 [1,1,1]))]
 |_=>[]
def L87:Nat->List Tmp:=λi=>match i with
 |0=>[0,4,5]
 |_=>[]
theorem e87:gE W0 m0 S Q 87 37 T87 L87 [a0] A=(Bm (T87 0) (T87 0) (S 0 [a0,(.string ⟨⟨[]⟩⟩),(.int .i64 0)] A)):=by kernel_rfl
theorem Ac3:gL W0 m0 S Q 87 37 T87 L87 d 0 A=(Aa (Bd Tp A 22 (d 0)) λt0=>Aa (Ai Tp .lss 3 (.tmp 6) (.tmp 8) (d 5) t0) λt1=>Ah t1 (Aa (Ak Tp 22 (d 0) (d 5)) λt2=>Aa (Ad Tp 35 t2 1) λt3=>Aa (Af Tp A 9 t3) λt4=>Aa (Bd Tp A 9 t4) λt5=>Aa (Ai Tp .gtr 3 (.tmp 17) (.const (.int .i64 65536)) t5 (.int .i64 65536)) λt6=>Ah t6 (Q (.tuple ⟨[(.string ⟨⟨[]⟩⟩),(.int .i64 3)]⟩) A) (Aa (Ak Tp 22 (d 0) (d 5)) λt7=>Aa (Af Tp A 35 t7) λt8=>Aa (Ak Tp 22 (d 0) (d 5)) λt9=>Aa (Ad Tp 35 t9 1) λt10=>Aa (Af Tp A 9 t10) λt11=>Au (AX Tp A 9 41 t11) λt12 At12=>Dq (BQ Tp (λ_=>t11) (.convert 9 41 (.tmp 0))) At12 t12 (Aa (Af Tp At12 9 t10) λt13=>eqW t13 t11 (Aa (Ad Tp 35 t9 1) λt14=>eqW t14 t10 (Aa (Ak Tp 22 (d 0) (d 5)) λt15=>eqW t15 t9 (eqW (d 5) (d 5) (eqW (d 0) (d 0) (Aa (Af Tp At12 35 t7) λt16=>eqW t16 t8 (Aa (Ak Tp 22 (d 0) (d 5)) λt17=>eqW t17 t7 (eqW (d 5) (d 5) (eqW (d 0) (d 0) (eqW (d 4) (d 4) (Wc Tp An W0 m0 108 [t8] At12 λt18 At18=>Dq (BQ Tp (λ_=>t11) (.convert 9 41 (.tmp 0))) At18 t12 (Aa (Af Tp At18 9 t10) λt19=>eqW t19 t11 (Aa (Ad Tp 35 t9 1) λt20=>eqW t20 t10 (Aa (Ak Tp 22 (d 0) (d 5)) λt21=>eqW t21 t9 (eqW (d 5) (d 5) (eqW (d 0) (d 0) (eqW (d 4) (d 4) (Au (AX Tp At18 41 9 t18) λt22 At22=>Aa (Ai Tp .add 9 (.tmp 19) (.tmp 25) (d 4) t22) λt23=>Wc Tp An W0 m0 109 [t12] At22 λt24 At24=>Aa (Ai Tp .add 9 (.tmp 19) (.tmp 25) (d 4) t22) λt25=>eqW t25 t23 (Au (AX Tp At24 41 9 t18) λt26 _=>eqW t26 t22 (eqW (d 4) (d 4) (Au (AX Tp At24 41 9 t24) λt27 At27=>Aa (Ai Tp .add 9 (.tmp 26) (.tmp 34) t23 t27) λt28=>Aa (Ai Tp .add 3 (.tmp 10) (.const (.int .i64 1)) (d 5) (.int .i64 1)) λt29=>Bm (T87 0) (T87 0) (S 0 [(d 0),t28,t29] At27)))))))))))))))))))))))) (Q (.tuple ⟨[(d 4),(.int .i64 0)]⟩) A)):=by kernel_rfl
theorem w87:Wf1 87 37 T87 L87:=wf1 (λ_=>by kernel_rfl) (by decide) λ_=>rfl
theorem c87:DX 87 37 T87 L87:=D0 (by decide)
theorem Agr:gE W0 m0 S Q 105 25 Tz Lz [a0,a1] A=(Aa (AD a0) λt0=>Aa (Ad Tp 108 t0 0) λt1=>Aa (Af Tp A 106 t1) λt2=>Aa (AP Tp A 106 t2 none (some a1) none) λt3=>Au (AJ Tp A 106 106 (.slice none 0 0) t3) λt4 At4=>Aa (AD a0) λt5=>Aa (Ad Tp 108 t5 0) λt6=>Aa (Af Tp At4 106 t6) λt7=>Aa (Ai Tp .add 3 (.tmp 19) (.const (.int .i64 1)) a1 (.int .i64 1)) λt8=>Aa (AP Tp At4 106 t7 (some t8) none none) λt9=>Au (AJ Tp At4 106 106 t4 t9) λt10 At10=>Aa (AD a0) λt11=>Aa (Ad Tp 108 t11 0) λt12=>Bh (Az Tp At10 106 t12 t10) λAt13=>Q (.tuple ⟨[]⟩) At13):=by kernel_rfl
theorem Afm:Wf2 105 25 Tz Lz:=wf2 (λ_ _=>by kernel_rfl) (by decide) λ_ _=>rfl
noncomputable def SJ:Nat->List Item:=λi=>match i with
 |0=>[(.code (cd 106 [1,1,1,0,1,0,0])),(.inLoop (cd 106 [1,1,1,0,1,0,0])),(.inBlock 0),(.code (cd 106 [1,1,1,1]))]
 |_=>[]
def Yt:Nat->List Tmp:=λi=>match i with
 |0=>[0,3,4]
 |_=>[]
theorem Agq:gE W0 m0 S Q 106 41 SJ Yt [a0] A=(Aa (Bd Tp A 9 a0) λt0=>Aa (Ai Tp .neq 3 (.tmp 6) (.const (.int .i64 10)) t0 (.int .i64 10)) λt1=>Ah t1 (Q (.int .i64 0) A) (Aa (DU Tp 9 a0 (.int .i64 0)) λt2=>Aa (Ai Tp .neq 5 (.tmp 10) (.const (.int .u8 106)) t2 (.int .u8 106)) λt3=>Ah t3 (Q (.int .i64 0) A) (Aa (DU Tp 9 a0 (.int .i64 1)) λt4=>Aa (Ai Tp .neq 5 (.tmp 15) (.const (.int .u8 46)) t4 (.int .u8 46)) λt5=>Ah t5 (Q (.int .i64 0) A) (Bm (SJ 0) (SJ 0) (S 0 [a0,(.int .i64 0),(.int .i64 2)] A))))):=by kernel_rfl
theorem AaZ:gL W0 m0 S Q 106 41 SJ Yt d 0 A=(Aa (Ai Tp .lss 3 (.tmp 18) (.const (.int .i64 10)) (d 4) (.int .i64 10)) λt0=>Ah t0 (Aa (DU Tp 9 (d 0) (d 4)) λt1=>Aa (Ai Tp .lss 5 (.tmp 24) (.const (.int .u8 48)) t1 (.int .u8 48)) λt2=>Ah t2 (Q (.int .i64 0) A) (Aa (DU Tp 9 (d 0) (d 4)) λt3=>Aa (Ai Tp .gtr 5 (.tmp 29) (.const (.int .u8 57)) t3 (.int .u8 57)) λt4=>Ah t4 (Q (.int .i64 0) A) (Aa (Ai Tp .mul 3 (.const (.int .i64 10)) (.tmp 32) (.int .i64 10) (d 3)) λt5=>Aa (DU Tp 9 (d 0) (d 4)) λt6=>Aa (Ai Tp .sub 5 (.tmp 36) (.const (.int .u8 48)) t6 (.int .u8 48)) λt7=>Au (AX Tp A 5 3 t7) λt8 At8=>Aa (Ai Tp .add 3 (.tmp 33) (.tmp 38) t5 t8) λt9=>Aa (Ai Tp .add 3 (.tmp 20) (.const (.int .i64 1)) (d 4) (.int .i64 1)) λt10=>Bm (SJ 0) (SJ 0) (S 0 [(d 0),t9,t10] At8)))) (Q (d 3) A)):=by kernel_rfl
theorem Afl:Wf1 106 41 SJ Yt:=wf1 (λ_=>by kernel_rfl) (by decide) λ_=>rfl
theorem Agy:DX 106 41 SJ Yt:=D0 (by decide)
noncomputable def SI:Nat->List Item:=λi=>match i with
 |0=>[(.code (cd 107 [1,1,1,0,0])),(.inLoop (cd 107 [1,1,1,0,0])),(.inBlock 0)]
 |_=>[]
def Ys:Nat->List Tmp:=λi=>match i with
 |0=>[0,5,6]
 |_=>[]
theorem Agp:gE W0 m0 S Q 107 30 SI Ys [a0] A=(Bm (SI 0) (SI 0) (S 0 [a0,(.slice none 0 0),(.int .i64 0)] A)):=by kernel_rfl
theorem AaY:gL W0 m0 S Q 107 30 SI Ys d 0 A=(Aa (AP Tp A 9 (d 0) (some (d 6)) none none) λt0=>Wc Tp An W0 m0 130 [t0] A λt1 At1=>Aa (Ap t1 0) λt2=>Aa (Ap t1 1) λt3=>Aa (Ap t1 2) λt4=>Au (Cz Tp At1 35) λt5 At5=>Bh (Az Tp At5 35 t5 t2) λAt6=>Aa (Ai Tp .eql 3 (.tmp 18) (.const (.int .i64 0)) t3 (.int .i64 0)) λt7=>Ah t7 (Q (.tuple ⟨[(d 5),(d 6),t4]⟩) At6) (Aa (Af Tp At6 35 t5) λt8=>Au (Av Tp At6 22 1 [(0,t8)]) λt9 At9=>Au (AJ Tp At9 22 22 (d 5) t9) λt10 At10=>Aa (Ai Tp .add 3 (.tmp 27) (.tmp 28) (d 6) t3) λt11=>Bm (SI 0) (SI 0) (S 0 [(d 0),t10,t11] At10))):=by kernel_rfl
theorem Afk:Wf1 107 30 SI Ys:=wf1 (λ_=>by kernel_rfl) (by decide) λ_=>rfl
theorem c107:DX 107 30 SI Ys:=D0 (by decide)
theorem Ago:gE W0 m0 S Q 108 13 Tz Lz [a0] A=(Au (DF A (Value.cells a0).toList 35) λt0 At0=>Aa (Ad Tp 35 t0 0) λt1=>Aa (Af Tp At0 5 t1) λt2=>Au (Av Tp At0 41 1 [(0,t2)]) λt3 At3=>Dq (BQ Tp (Co (Tm.fill ⟨1,.nil⟩ 0 [t2])) (.buildSlice 41 1 #[(0,.tmp 0)])) At3 t3 (Aa (Af Tp At3 5 t1) λt4=>eqW t4 t2 (Aa (Ad Tp 35 t0 0) λt5=>eqW t5 t1 (Aa (Ad Tp 35 t0 1) λt6=>Aa (Af Tp At3 9 t6) λt7=>Aa (Bd Tp At3 9 t7) λt8=>Au (AX Tp At3 3 134 t8) λt9 At9=>Wc Tp An W0 m0 131 [t9,(.int .i64 4)] At9 λt10 At10=>Dq (BQ Tp (Co (Tm.fill ⟨1,.nil⟩ 0 [t2])) (.buildSlice 41 1 #[(0,.tmp 0)])) At10 t3 (Aa (Af Tp At10 5 t1) λt11=>eqW t11 t2 (Aa (Ad Tp 35 t0 0) λt12=>eqW t12 t1 (Au (AJ Tp At10 41 41 t3 t10) λt13 At13=>Wc Tp An W0 m0 109 [t13] At13 λt14 At14=>Q t14 At14))))))):=by kernel_rfl
theorem Afj:Wf1 108 13 Tz Lz:=wf1 (λ_=>by kernel_rfl) (by decide) λ_=>rfl
theorem Agn:gE W0 m0 S Q 109 24 Tz Lz [a0] A=(Wc Tp An W0 m0 132 [a0] A λt0 At0=>Au (AJ Tp At0 41 41 (.slice none 0 0) a0) λt1 At1=>Au (AX Tp At1 24 5 t0) λt2 At2=>Aa (Ai Tp .shr 24 (.tmp 13) (.const (.int .u64 8)) t0 (.int .u64 8)) λt3=>Au (AX Tp At2 24 5 t3) λt4 At4=>Aa (Ai Tp .shr 24 (.tmp 16) (.const (.int .u64 16)) t0 (.int .u64 16)) λt5=>Au (AX Tp At4 24 5 t5) λt6 At6=>Aa (Ai Tp .shr 24 (.tmp 19) (.const (.int .u64 24)) t0 (.int .u64 24)) λt7=>Au (AX Tp At6 24 5 t7) λt8 At8=>Au (Av Tp At8 41 4 [(0,t2),(1,t4),(2,t6),(3,t8)]) λt9 At9=>Au (AJ Tp At9 41 41 t1 t9) λt10 At10=>Q t10 At10):=by kernel_rfl
theorem Afi:Wf1 109 24 Tz Lz:=wf1 (λ_=>by kernel_rfl) (by decide) λ_=>rfl
theorem Agb:gE W0 m0 S Q 130 63 Tz Lz [a0] A=(Au (Cz Tp A 35) λt0 At0=>Aa (Ai Tp .eql 9 (.tmp 11) (.const (.string ⟨⟨[]⟩⟩)) a0 (.string ⟨⟨[]⟩⟩)) λt1=>Ah t1 (Aa (Bp Tp 35 []) λt2=>Bh (Az Tp At0 35 t0 t2) λAt3=>Aa (Af Tp At3 35 t0) λt4=>Q (.tuple ⟨[t4,(.int .i64 0),(.int .i64 0)]⟩) At3) (Aa (Bd Tp At0 9 a0) λt5=>Aa (Ai Tp .lss 3 (.tmp 15) (.const (.int .i64 9)) t5 (.int .i64 9)) λt6=>Ah t6 (Aa (Bp Tp 35 []) λt7=>Bh (Az Tp At0 35 t0 t7) λAt8=>Aa (Af Tp At8 35 t0) λt9=>Q (.tuple ⟨[t9,(.int .i64 0),(.int .i64 1)]⟩) At8) (Aa (AP Tp At0 9 a0 none (some (.int .i64 9)) none) λt10=>Au (AX Tp At0 9 41 t10) λt11 At11=>Wc Tp An W0 m0 157 [t11] At11 λt12 At12=>Aa (Ap t12 0) λt13=>Aa (Ap t12 1) λt14=>Aa (unA Tp .not t14) λt15=>Ah t15 (Aa (Bp Tp 35 []) λt16=>Bh (Az Tp At12 35 t0 t16) λAt17=>Aa (Af Tp At17 35 t0) λt18=>Q (.tuple ⟨[t18,(.int .i64 0),(.int .i64 2)]⟩) At17) (Wc Tp An W0 m0 158 [t13] At12 λt19 At19=>Wc Tp An W0 m0 159 [t19,(.int .i64 1)] At19 λt20 At20=>Wc Tp An W0 m0 159 [t19,(.int .i64 4)] At20 λt21 At21=>Au (AX Tp At21 134 3 t21) λt22 At22=>Aa (Ai Tp .gtr 3 (.tmp 35) (.const (.int .i64 65536)) t22 (.int .i64 65536)) λt23=>Ah t23 (Aa (Bp Tp 35 []) λt24=>Bh (Az Tp At22 35 t0 t24) λAt25=>Aa (Af Tp At25 35 t0) λt26=>Q (.tuple ⟨[t26,(.int .i64 0),(.int .i64 2)]⟩) At25) (Aa (Bd Tp At22 9 a0) λt27=>Aa (Ai Tp .add 3 (.tmp 40) (.const (.int .i64 13)) t22 (.int .i64 13)) λt28=>Aa (Ai Tp .lss 3 (.tmp 39) (.tmp 41) t27 t28) λt29=>Ah t29 (Aa (Bp Tp 35 []) λt30=>Bh (Az Tp At22 35 t0 t30) λAt31=>Aa (Af Tp At31 35 t0) λt32=>Q (.tuple ⟨[t32,(.int .i64 0),(.int .i64 1)]⟩) At31) (Aa (Ai Tp .add 3 (.tmp 46) (.const (.int .i64 13)) t22 (.int .i64 13)) λt33=>Aa (AP Tp At22 9 a0 (some (.int .i64 9)) (some t33) none) λt34=>Au (AX Tp At22 9 41 t34) λt35 At35=>Wc Tp An W0 m0 157 [t35] At35 λt36 At36=>Aa (Ap t36 0) λt37=>Aa (Ap t36 1) λt38=>Aa (unA Tp .not t38) λt39=>Ah t39 (Aa (Bp Tp 35 []) λt40=>Bh (Az Tp At36 35 t0 t40) λAt41=>Aa (Af Tp At41 35 t0) λt42=>Q (.tuple ⟨[t42,(.int .i64 0),(.int .i64 2)]⟩) At41) (Au (AX Tp At36 134 5 t20) λt43 At43=>Au (AX Tp At43 41 9 t37) λt44 At44=>Aa (Bp Tp 35 [(0,t43),(1,t44)]) λt45=>Aa (Ai Tp .add 3 (.tmp 61) (.const (.int .i64 13)) t22 (.int .i64 13)) λt46=>Bh (Az Tp At44 35 t0 t45) λAt47=>Aa (Af Tp At47 35 t0) λt48=>Q (.tuple ⟨[t48,t46,(.int .i64 0)]⟩) At47))))))):=by kernel_rfl
theorem Ae7:Wf1 130 63 Tz Lz:=wf1 (λ_=>by kernel_rfl) (by decide) λ_=>rfl
noncomputable def SE:Nat->List Item:=λi=>match i with
 |0=>[(.code (cd 131 [1,1,0,1,0,0])),(.inLoop (cd 131 [1,1,0,1,0,0])),(.inBlock 0),(.code (cd 131 [1,1,1]))]
 |_=>[]
def Yp:Nat->List Tmp:=λi=>match i with
 |0=>[0,1,5,6]
 |_=>[]
theorem Aga:gE W0 m0 S Q 131 21 SE Yp [a0,a1] A=(Bm (SE 0) (SE 0) (S 0 [a0,a1,(.slice none 0 0),(.int .i64 0)] A)):=by kernel_rfl
theorem AaU:gL W0 m0 S Q 131 21 SE Yp d 0 A=(Aa (Ai Tp .lss 3 (.tmp 7) (.tmp 8) (d 6) (d 1)) λt0=>Ah t0 (Aa (Ai Tp .rem 134 (.tmp 12) (.const (.int .u64 256)) (d 0) (.int .u64 256)) λt1=>Au (AX Tp A 134 5 t1) λt2 At2=>Au (Av Tp At2 41 1 [(0,t2)]) λt3 At3=>Au (AJ Tp At3 41 41 t3 (d 5)) λt4 At4=>Aa (Ai Tp .quo 134 (.tmp 18) (.const (.int .u64 256)) (d 0) (.int .u64 256)) λt5=>Aa (Ai Tp .add 3 (.tmp 10) (.const (.int .i64 1)) (d 6) (.int .i64 1)) λt6=>Bm (SE 0) (SE 0) (S 0 [t5,(d 1),t4,t6] At4)) (Q (d 5) A)):=by kernel_rfl
theorem Ae6:Wf2 131 21 SE Yp:=wf2 (λ_ _=>by kernel_rfl) (by decide) λ_ _=>rfl
theorem c131:DX 131 21 SE Yp:=D0 (by decide)
theorem Af9:gE W0 m0 S Q 132 5 Tz Lz [a0] A=(Wc Tp An W0 m0 160 [(.int .u32 0),a0] A λt0 At0=>Q t0 At0):=by kernel_rfl
theorem Ae5:Wf1 132 5 Tz Lz:=wf1 (λ_=>by kernel_rfl) (by decide) λ_=>rfl
theorem Af1:gE W0 m0 S Q 157 23 Tz Lz [a0] A=(Aa (Bd Tp A 41 a0) λt0=>Aa (Ai Tp .lss 3 (.tmp 7) (.const (.int .i64 4)) t0 (.int .i64 4)) λt1=>Ah t1 (Q (.tuple ⟨[(.slice none 0 0),(.bool false)]⟩) A) (Aa (Bd Tp A 41 a0) λt2=>Aa (Ai Tp .sub 3 (.tmp 11) (.const (.int .i64 4)) t2 (.int .i64 4)) λt3=>Aa (AP Tp A 41 a0 none (some t3) none) λt4=>Au (AX Tp A 41 9 a0) λt5 At5=>Wc Tp An W0 m0 109 [t4] At5 λt6 At6=>Au (AX Tp At6 41 9 a0) λt7 _=>eqW t7 t5 (eqW a0 a0 (Au (AX Tp At6 41 9 t6) λt8 At8=>Aa (Ai Tp .neq 9 (.tmp 16) (.tmp 18) t8 t5) λt9=>Ah t9 (Q (.tuple ⟨[(.slice none 0 0),(.bool false)]⟩) At8) (Au (AJ Tp At8 41 41 (.slice none 0 0) t4) λt10 At10=>Q (.tuple ⟨[t10,(.bool true)]⟩) At10))))):=by kernel_rfl
theorem AeX:Wf1 157 23 Tz Lz:=wf1 (λ_=>by kernel_rfl) (by decide) λ_=>rfl
theorem Af0:gE W0 m0 S Q 158 9 Tz Lz [a0] A=(Au (AJ Tp A 41 41 (.slice none 0 0) a0) λt0 At0=>Aa (Bp Tp 212 [(0,t0)]) λt1=>Au (DF At0 (Value.cells t1).toList 212) λt2 At2=>Q t2 At2):=by kernel_rfl
theorem AeW:Wf1 158 9 Tz Lz:=wf1 (λ_=>by kernel_rfl) (by decide) λ_=>rfl
noncomputable def SC:Nat->List Item:=λi=>match i with
 |0=>[(.code (cd 159 [1,1,1,1,0,1,0,0])),(.inLoop (cd 159 [1,1,1,1,0,1,0,0])),(.inBlock 0),(.code (cd 159 [1,1,1,1,1]))]
 |_=>[]
def Yn:Nat->List Tmp:=λi=>match i with
 |0=>[5,6,7]
 |_=>[]
theorem AfZ:gE W0 m0 S Q 159 31 SC Yn [a0,a1] A=(Wc Tp An W0 m0 180 [a1] A λt0 At0=>Aa (unA Tp .not t0) λt1=>Ah t1 (Wc Tp An W0 m0 181 [a0] At0 λt2 At2=>Q (.int .u64 0) At2) (Wc Tp An W0 m0 182 [a0,a1] At0 λt3 At3=>Bm (SC 0) (SC 0) (S 0 [t3,(.int .u64 0),(.int .i64 0)] At3))):=by kernel_rfl
theorem AaS:gL W0 m0 S Q 159 31 SC Yn d 0 A=(Aa (Bd Tp A 41 (d 5)) λt0=>Aa (Ai Tp .lss 3 (.tmp 16) (.tmp 18) (d 7) t0) λt1=>Ah t1 (Aa (Ai Tp .mul 134 (.const (.int .u64 256)) (.tmp 22) (.int .u64 256) (d 6)) λt2=>Aa (Ak Tp 41 (d 5) (d 7)) λt3=>Aa (Af Tp A 5 t3) λt4=>Au (AX Tp A 5 134 t4) λt5 At5=>Aa (Ai Tp .add 134 (.tmp 23) (.tmp 28) t2 t5) λt6=>Aa (Ai Tp .add 3 (.tmp 20) (.const (.int .i64 1)) (d 7) (.int .i64 1)) λt7=>Bm (SC 0) (SC 0) (S 0 [(d 5),t6,t7] At5)) (Q (d 6) A)):=by kernel_rfl
theorem AeV:Wf2 159 31 SC Yn:=wf2 (λ_ _=>by kernel_rfl) (by decide) λ_ _=>rfl
theorem c159:DX 159 31 SC Yn:=D0 (by decide)
noncomputable def Kw:Nat->List Item:=λi=>match i with
 |0=>[(.code (cd 160 [1,1,0,1,0,0])),(.inLoop (cd 160 [1,1,0,1,0,0])),(.inBlock 0),(.code (cd 160 [1,1,1]))]
 |2=>[(.code (cd 160 [1,1,0,1,0,0,1,0,0,1,1,0,0])),(.inLoop (cd 160 [1,1,0,1,0,0,1,0,0,1,1,0,0])),(.inBlock 2),(.inBlock 1),(.code (cd 160 [1,1,0,1,0,0,1,1])),(.inLoop (cd 160 [1,1,0,1,0,0])),(.inBlock 0),(.code (cd 160 [1,1,1]))]
 |_=>[]
def T9:Nat->List Tmp:=λi=>match i with
 |0=>[1,5,6]
 |2=>[1,5,6,7]
 |_=>[]
theorem AfY:gE W0 m0 S Q 160 38 Kw T9 [a0,a1] A=(Aa (unA Tp .xor a0) λt0=>Bm (Kw 0) (Kw 0) (S 0 [a1,t0,(.int .i64 0)] A)):=by kernel_rfl
theorem AaR:gL W0 m0 S Q 160 38 Kw T9 d 0 A=(Aa (Bd Tp A 41 (d 1)) λt0=>Aa (Ai Tp .lss 3 (.tmp 11) (.tmp 13) (d 6) t0) λt1=>Ah t1 (Aa (Ak Tp 41 (d 1) (d 6)) λt2=>Aa (Af Tp A 5 t2) λt3=>Au (AX Tp A 5 24 t3) λt4 At4=>Aa (Ai Tp .xor 24 (.tmp 17) (.tmp 22) (d 5) t4) λt5=>Bm (Kw 2) (Kw 2) (S 2 [(d 1),t5,(d 6),(.int .i64 0)] At4)) (Aa (unA Tp .xor (d 5)) λt6=>Q t6 A)):=by kernel_rfl
theorem AaQ:gL W0 m0 S Q 160 38 Kw T9 d 2 A=(Aa (Ai Tp .lss 3 (.tmp 24) (.const (.int .i64 8)) (d 7) (.int .i64 8)) λt0=>Ah t0 (Aa (Ai Tp .rem 24 (.tmp 28) (.const (.int .u32 2)) (d 5) (.int .u32 2)) λt1=>Aa (Ai Tp .quo 24 (.tmp 30) (.const (.int .u32 2)) (d 5) (.int .u32 2)) λt2=>Aa (Ai Tp .eql 24 (.tmp 32) (.const (.int .u32 1)) t1 (.int .u32 1)) λt3=>Ah t3 (Aa (Ai Tp .xor 24 (.tmp 34) (.const (.int .u32 2197175160)) t2 (.int .u32 2197175160)) λt4=>Aa (Ai Tp .add 3 (.tmp 26) (.const (.int .i64 1)) (d 7) (.int .i64 1)) λt5=>Bm (Kw 2) (Kw 2) (S 2 [(d 1),t4,(d 6),t5] A)) (Aa (Ai Tp .add 3 (.tmp 26) (.const (.int .i64 1)) (d 7) (.int .i64 1)) λt6=>Bm (Kw 2) (Kw 2) (S 2 [(d 1),t2,(d 6),t6] A))) (Aa (Ai Tp .add 3 (.tmp 15) (.const (.int .i64 1)) (d 6) (.int .i64 1)) λt7=>Bm (Kw 0) (Kw 0) (S 0 [(d 1),(d 5),t7] A))):=by kernel_rfl
theorem AeU:Wf2 160 38 Kw T9:=wf2 (λ_ _=>by kernel_rfl) (by decide) λ_ _=>rfl
theorem c160:DX 160 38 Kw T9:=D0 (by decide)
theorem AfT:gE W0 m0 S Q 180 17 Tz Lz [a0] A=(Aa (Ai Tp .eql 3 (.tmp 3) (.const (.int .i64 1)) a0 (.int .i64 1)) λt0=>Ah t0 (Q (.bool true) A) (Aa (Ai Tp .eql 3 (.tmp 6) (.const (.int .i64 2)) a0 (.int .i64 2)) λt1=>Ah t1 (Q (.bool true) A) (Aa (Ai Tp .eql 3 (.tmp 10) (.const (.int .i64 4)) a0 (.int .i64 4)) λt2=>Ah t2 (Q (.bool true) A) (Aa (Ai Tp .eql 3 (.tmp 14) (.const (.int .i64 8)) a0 (.int .i64 8)) λt3=>Q t3 A)))):=by kernel_rfl
theorem AeP:Wf1 180 17 Tz Lz:=wf1 (λ_=>by kernel_rfl) (by decide) λ_=>rfl
theorem AfS:gE W0 m0 S Q 181 8 Tz Lz [a0] A=(Aa (AD a0) λt0=>Aa (Ad Tp 212 t0 1) λt1=>Bh (Az Tp A 4 t1 (.bool true)) λAt2=>Aa (AD a0) λt3=>Aa (Ad Tp 212 t3 0) λt4=>Bh (Az Tp At2 41 t4 (.slice none 0 0)) λAt5=>Q (.tuple ⟨[]⟩) At5):=by kernel_rfl
theorem AeO:Wf1 181 8 Tz Lz:=wf1 (λ_=>by kernel_rfl) (by decide) λ_=>rfl
theorem AfR:gE W0 m0 S Q 182 43 Tz Lz [a0,a1] A=(Aa (AD a0) λt0=>Aa (Ad Tp 212 t0 1) λt1=>Aa (Af Tp A 4 t1) λt2=>Ah t2 (Wc Tp An W0 m0 181 [a0] A λt3 At3=>Q (.slice none 0 0) At3) (Aa (Ai Tp .lss 3 (.tmp 11) (.const (.int .i64 0)) a1 (.int .i64 0)) λt4=>Ah t4 (Wc Tp An W0 m0 181 [a0] A λt5 At5=>Q (.slice none 0 0) At5) (Aa (AD a0) λt6=>Aa (Ad Tp 212 t6 0) λt7=>Aa (Af Tp A 41 t7) λt8=>Aa (Bd Tp A 41 t8) λt9=>Aa (Ai Tp .gtr 3 (.tmp 15) (.tmp 20) a1 t9) λt10=>Ah t10 (Wc Tp An W0 m0 181 [a0] A λt11 At11=>Q (.slice none 0 0) At11) (Aa (AD a0) λt12=>Aa (Ad Tp 212 t12 0) λt13=>Aa (Af Tp A 41 t13) λt14=>Aa (AP Tp A 41 t14 none (some a1) none) λt15=>Au (AJ Tp A 41 41 (.slice none 0 0) t15) λt16 At16=>Aa (AD a0) λt17=>Aa (Ad Tp 212 t17 0) λt18=>Aa (Af Tp At16 41 t18) λt19=>Aa (AP Tp At16 41 t19 (some a1) none none) λt20=>Aa (AD a0) λt21=>Aa (Ad Tp 212 t21 0) λt22=>Bh (Az Tp At16 41 t22 t20) λAt23=>Q t16 At23)))):=by kernel_rfl
theorem AeN:Wf2 182 43 Tz Lz:=wf2 (λ_ _=>by kernel_rfl) (by decide) λ_ _=>rfl
end
end Go.Proofs.YtbchfeibhoobeaaGreatDoor
namespace Go.Proofs.YtbchfeibhoobeaaGreatDoor
open Go.Abs
theorem BM(b o:Nat):Ad Tp 108 (pP b o) 0=some (pP b o):=by kernel_rfl
theorem Lp(b o:Nat):Ad Tp 108 (pP b o) 1=some (pP b (o+1)):=by kernel_rfl
theorem N0(b o:Nat):Ad Tp 108 (pP b o) 2=some (pP b (o+2)):=by kernel_rfl
theorem Da(b o:Nat):Ad Tp 108 (pP b o) 3=some (pP b (o+3)):=by kernel_rfl
theorem CA(b o:Nat):Ad Tp 116 (pP b o) 0=some (pP b o):=by kernel_rfl
theorem XF(b o:Nat):Ad Tp 116 (pP b o) 1=some (pP b (o+1)):=by kernel_rfl
theorem NZ(b o:Nat):Ad Tp 116 (pP b o) 2=some (pP b (o+2)):=by kernel_rfl
theorem Lo(b o:Nat):Ad Tp 116 (pP b o) 3=some (pP b (o+3)):=by kernel_rfl
theorem HK(b o:Nat):Ad Tp 116 (pP b o) 4=some (pP b (o+4)):=by kernel_rfl
theorem GP(b o:Nat):Ad Tp 118 (pP b o) 0=some (pP b o):=by kernel_rfl
theorem Dr(b o:Nat):Ad Tp 118 (pP b o) 1=some (pP b (o+1)):=by kernel_rfl
theorem FN(b o:Nat):Ad Tp 118 (pP b o) 2=some (pP b (o+2)):=by kernel_rfl
theorem R5(b o:Nat):Ad Tp 212 (pP b o) 0=some (pP b o):=by kernel_rfl
theorem R4(b o:Nat):Ad Tp 212 (pP b o) 1=some (pP b (o+1)):=by kernel_rfl
theorem Fj(A:AW)(a:Addr):Af Tp A 62 (.pointer (some a))=A.cell? a:=by kernel_rfl
theorem Cs(A:AW)(a:Addr):Af Tp A 106 (.pointer (some a))=A.cell? a:=by kernel_rfl
theorem NR(A:AW)(a:Addr):Af Tp A 118 (.pointer (some a))=(match A.cells? a 3 with | some l=>some (.agg ⟨l⟩) | none=>none):=by kernel_rfl
theorem WD(A:AW)(a:Addr)(v:Value):Az Tp A 106 (.pointer (some a)) v=(bif Nat.beq v.cells.toList.length 1 then A.setCells a v.cells.toList else none):=by kernel_rfl
theorem S3(A:AW)(a:Addr)(v:Value):Az Tp A 118 (.pointer (some a)) v=(bif Nat.beq v.cells.toList.length 3 then A.setCells a v.cells.toList else none):=by kernel_rfl
end Go.Proofs.YtbchfeibhoobeaaGreatDoor
set_option linter.all false
namespace Go.Proofs.YtbchfeibhoobeaaGreatDoor
open Go.Abs
variable {f sz:Nat} {T:Nat->List Item} {L:Nat->List Tmp}
def DC:Bz:={ known:=[47,95,97,116,134,184] }
def Yf1(f sz:Nat)(T:Nat->List Item)(L:Nat->List Tmp):Prop:=∀ {W0:World} {m0:Inj Tp} {S:Nat->List Value->AW->Prop} {Q:Value->AW->Prop} (a0:Value) (A:AW),LJ Tp DC W0 m0 f T L S Q sz->CE Tp DC W0 m0 f T L S Q none 4000 (Tm.fill ⟨sz,.nil⟩ 0 [a0]) [.code (cd f [])] false 0 0 0 [] A->Wc Tp DC W0 m0 f [a0] A Q
theorem yf1(n:∀ (a0:Value),CM Tp f [a0] .normal=some (frM f (Tm.fill ⟨sz,.nil⟩ 0 [a0]) [.code (cd f [])] false))(hs:sz<Am)(hz:∀ (a0:Value),(Tm.fill ⟨sz,.nil⟩ 0 [a0]).sz=sz):Yf1 f sz T L:=λa0 _ hc h=>Md gP hs hc (n a0) (hz a0) h
def Yf2(f sz:Nat)(T:Nat->List Item)(L:Nat->List Tmp):Prop:=∀ {W0:World} {m0:Inj Tp} {S:Nat->List Value->AW->Prop} {Q:Value->AW->Prop} (a0 a1:Value) (A:AW),LJ Tp DC W0 m0 f T L S Q sz->CE Tp DC W0 m0 f T L S Q none 4000 (Tm.fill ⟨sz,.nil⟩ 0 [a0,a1]) [.code (cd f [])] false 0 0 0 [] A->Wc Tp DC W0 m0 f [a0,a1] A Q
theorem yf2(n:∀ (a0 a1:Value),CM Tp f [a0,a1] .normal=some (frM f (Tm.fill ⟨sz,.nil⟩ 0 [a0,a1]) [.code (cd f [])] false))(hs:sz<Am)(hz:∀ (a0 a1:Value),(Tm.fill ⟨sz,.nil⟩ 0 [a0,a1]).sz=sz):Yf2 f sz T L:=λa0 a1 _ hc h=>Md gP hs hc (n a0 a1) (hz a0 a1) h
def Yf5(f sz:Nat)(T:Nat->List Item)(L:Nat->List Tmp):Prop:=∀ {W0:World} {m0:Inj Tp} {S:Nat->List Value->AW->Prop} {Q:Value->AW->Prop} (a0 a1 a2 a3 a4:Value) (A:AW),LJ Tp DC W0 m0 f T L S Q sz->CE Tp DC W0 m0 f T L S Q none 4000 (Tm.fill ⟨sz,.nil⟩ 0 [a0,a1,a2,a3,a4]) [.code (cd f [])] false 0 0 0 [] A->Wc Tp DC W0 m0 f [a0,a1,a2,a3,a4] A Q
theorem yf5(n:∀ (a0 a1 a2 a3 a4:Value),CM Tp f [a0,a1,a2,a3,a4] .normal=some (frM f (Tm.fill ⟨sz,.nil⟩ 0 [a0,a1,a2,a3,a4]) [.code (cd f [])] false))(hs:sz<Am)(hz:∀ (a0 a1 a2 a3 a4:Value),(Tm.fill ⟨sz,.nil⟩ 0 [a0,a1,a2,a3,a4]).sz=sz):Yf5 f sz T L:=λa0 a1 a2 a3 a4 _ hc h=>Md gP hs hc (n a0 a1 a2 a3 a4) (hz a0 a1 a2 a3 a4) h
theorem Xq(A:AW)(a:Addr):Af Tp A 142 (.pointer (some a))=A.cell? a:=by kernel_rfl
section
variable (W0:World) (m0:Inj Tp) (S:Nat->List Value->AW->Prop) (Q:Value->AW->Prop) (d:Nat->Value) (a0 a1 a2 a3 a4 a5 a6:Value) (A:AW)
theorem e47:CE Tp DC W0 m0 47 Tz Lz S Q none 4000 (Tm.fill ⟨13,.nil⟩ 0 [a0]) [.code (cd 47 [])] false 0 0 0 [] A=(knW Tp W0 m0 95 [a0] A λt0 At0=>Aa (Bd Tp At0 9 t0) λt1=>Aa (Ai Tp .sub 3 (.const (.int .i64 8)) (.tmp 7) (.int .i64 8) t1) λt2=>knW Tp W0 m0 97 [(.string ⟨⟨[48]⟩⟩),t2] At0 λt3 At3=>Au (Av Tp At3 37 3 [(0,(.string ⟨⟨[106,46]⟩⟩)),(1,t3),(2,t0)]) λt4 At4=>Wc Tp DC W0 m0 96 [t4] At4 λt5 At5=>Q t5 At5):=by kernel_rfl
theorem n47(a0:Value):CM Tp 47 [a0] .normal=some (frM 47 (Tm.fill ⟨13,.nil⟩ 0 [a0]) [.code (cd 47 [])] false):=by kernel_rfl
theorem w47:Yf1 47 13 Tz Lz:=yf1 n47 (by decide) λ_=>rfl
theorem e96:CE Tp DC W0 m0 96 Tz Lz S Q none 4000 (Tm.fill ⟨5,.nil⟩ 0 [a0]) [.code (cd 96 [])] false 0 0 0 [] A=(knW Tp W0 m0 116 [a0,(.string ⟨⟨[]⟩⟩)] A λt0 At0=>Q t0 At0):=by kernel_rfl
theorem n96(a0:Value):CM Tp 96 [a0] .normal=some (frM 96 (Tm.fill ⟨5,.nil⟩ 0 [a0]) [.code (cd 96 [])] false):=by kernel_rfl
theorem w96:Yf1 96 5 Tz Lz:=yf1 n96 (by decide) λ_=>rfl
theorem e88:CE Tp DC W0 m0 88 Tz Lz S Q none 4000 (Tm.fill ⟨38,.nil⟩ 0 [a0]) [.code (cd 88 [])] false 0 0 0 [] A=(Wc Tp DC W0 m0 110 [a0,(.string ⟨⟨[106,46]⟩⟩)] A λt0 At0=>Aa (Ap t0 0) λt1=>Aa (Ap t0 1) λt2=>Wc Tp DC W0 m0 111 [t1] At0 λt3 At3=>Aa (Ap t3 0) λt4=>Aa (Ap t3 1) λt5=>Aa (unA Tp .not t2) λt6=>Ah t6 (Q (.int .i64 0) At3) (Aa (Ai Tp .neq 142 (.tmp 20) (.const .nilIface) t5 .nilIface) λt7=>Ah t7 (Q (.int .i64 0) At3) (Aa (Ai Tp .lss 3 (.tmp 24) (.const (.int .i64 1)) t4 (.int .i64 1)) λt8=>Ah t8 (Q (.int .i64 0) At3) (Aa (Ai Tp .gtr 3 (.tmp 28) (.const (.int .i64 99999999)) t4 (.int .i64 99999999)) λt9=>Ah t9 (Q (.int .i64 0) At3) (knW Tp W0 m0 47 [t4] At3 λt10 At10=>Aa (Ai Tp .neq 9 (.tmp 33) (.tmp 34) t10 a0) λt11=>Ah t11 (Q (.int .i64 0) At10) (Q t4 At10)))))):=by kernel_rfl
theorem n88(a0:Value):CM Tp 88 [a0] .normal=some (frM 88 (Tm.fill ⟨38,.nil⟩ 0 [a0]) [.code (cd 88 [])] false):=by kernel_rfl
theorem w88:Yf1 88 38 Tz Lz:=yf1 n88 (by decide) λ_=>rfl
theorem Agl:CE Tp DC W0 m0 110 Tz Lz S Q none 4000 (Tm.fill ⟨11,.nil⟩ 0 [a0,a1]) [.code (cd 110 [])] false 0 0 0 [] A=(Wc Tp DC W0 m0 133 [a0,a1] A λt0 At0=>Aa (Ap t0 0) λt1=>Aa (Ap t0 1) λt2=>Q (.tuple ⟨[t1,t2]⟩) At0):=by kernel_rfl
theorem n110(a0 a1:Value):CM Tp 110 [a0,a1] .normal=some (frM 110 (Tm.fill ⟨11,.nil⟩ 0 [a0,a1]) [.code (cd 110 [])] false):=by kernel_rfl
theorem Afh:Yf2 110 11 Tz Lz:=yf2 n110 (by decide) λ_ _=>rfl
theorem Af8:CE Tp DC W0 m0 133 Tz Lz S Q none 4000 (Tm.fill ⟨15,.nil⟩ 0 [a0,a1]) [.code (cd 133 [])] false 0 0 0 [] A=(Wc Tp DC W0 m0 142 [a0,a1] A λt0 At0=>Aa (unA Tp .not t0) λt1=>Ah t1 (Q (.tuple ⟨[a0,(.bool false)]⟩) At0) (Aa (Bd Tp At0 9 a1) λt2=>Aa (AP Tp At0 9 a0 (some t2) none none) λt3=>Q (.tuple ⟨[t3,(.bool true)]⟩) At0)):=by kernel_rfl
theorem n133(a0 a1:Value):CM Tp 133 [a0,a1] .normal=some (frM 133 (Tm.fill ⟨15,.nil⟩ 0 [a0,a1]) [.code (cd 133 [])] false):=by kernel_rfl
theorem Ae4:Yf2 133 15 Tz Lz:=yf2 n133 (by decide) λ_ _=>rfl
theorem Af3:CE Tp DC W0 m0 142 Tz Lz S Q none 4000 (Tm.fill ⟨18,.nil⟩ 0 [a0,a1]) [.code (cd 142 [])] false 0 0 0 [] A=(Aa (Bd Tp A 9 a0) λt0=>Aa (Bd Tp A 9 a1) λt1=>Aa (Ai Tp .geq 3 (.tmp 6) (.tmp 8) t0 t1) λt2=>Ah t2 (Aa (Bd Tp A 9 a1) λt3=>Aa (AP Tp A 9 a0 none (some t3) none) λt4=>Aa (Ai Tp .eql 9 (.tmp 14) (.tmp 15) t4 a1) λt5=>Q t5 A) (Q (.bool false) A)):=by kernel_rfl
theorem n142(a0 a1:Value):CM Tp 142 [a0,a1] .normal=some (frM 142 (Tm.fill ⟨18,.nil⟩ 0 [a0,a1]) [.code (cd 142 [])] false):=by kernel_rfl
theorem AeZ:Yf2 142 18 Tz Lz:=yf2 n142 (by decide) λ_ _=>rfl
theorem Agk:CE Tp DC W0 m0 111 Tz Lz S Q none 4000 (Tm.fill ⟨18,.nil⟩ 0 [a0]) [.code (cd 111 [])] false 0 0 0 [] A=(knW Tp W0 m0 134 [a0] A λt0 At0=>Aa (Ap t0 0) λt1=>Aa (Ap t0 1) λt2=>Aa (Ai Tp .neq 142 (.tmp 11) (.const .nilIface) t2 .nilIface) λt3=>Ah t3 (Wc Tp DC W0 m0 135 [(.string ⟨⟨[65,116,111,105]⟩⟩),a0,(.int .i64 0),(.int .i64 0),t2] At0 λt4 At4=>Q (.tuple ⟨[t1,t4]⟩) At4) (Q (.tuple ⟨[t1,.nilIface]⟩) At0)):=by kernel_rfl
theorem n111(a0:Value):CM Tp 111 [a0] .normal=some (frM 111 (Tm.fill ⟨18,.nil⟩ 0 [a0]) [.code (cd 111 [])] false):=by kernel_rfl
theorem Afg:Yf1 111 18 Tz Lz:=yf1 n111 (by decide) λ_=>rfl
theorem Af7:CE Tp DC W0 m0 135 Tz Lz S Q none 4000 (Tm.fill ⟨43,.nil⟩ 0 [a0,a1,a2,a3,a4]) [.code (cd 135 [])] false 0 0 0 [] A=(Aa (Gc Tp 192 (.int .i64 2)) λt0=>Aa (Ai Tp .eql 142 (.tmp 11) (.tmp 13) a4 t0) λt1=>Ah t1 (Wc Tp DC W0 m0 162 [a0,a1] A λt2 At2=>Aa (Gc Tp 195 t2) λt3=>Q t3 At2) (Aa (Gc Tp 192 (.int .i64 1)) λt4=>Aa (Ai Tp .eql 142 (.tmp 11) (.tmp 20) a4 t4) λt5=>Ah t5 (Wc Tp DC W0 m0 163 [a0,a1] A λt6 At6=>Aa (Gc Tp 195 t6) λt7=>Q t7 At6) (Aa (Gc Tp 192 (.int .i64 3)) λt8=>Aa (Ai Tp .eql 142 (.tmp 11) (.tmp 27) a4 t8) λt9=>Ah t9 (Wc Tp DC W0 m0 164 [a0,a1,a2] A λt10 At10=>Aa (Gc Tp 195 t10) λt11=>Q t11 At10) (Aa (Gc Tp 192 (.int .i64 4)) λt12=>Aa (Ai Tp .eql 142 (.tmp 11) (.tmp 35) a4 t12) λt13=>Ah t13 (Wc Tp DC W0 m0 165 [a0,a1,a3] A λt14 At14=>Aa (Gc Tp 195 t14) λt15=>Q t15 At14) (Q a4 A))))):=by kernel_rfl
theorem n135(a0 a1 a2 a3 a4:Value):CM Tp 135 [a0,a1,a2,a3,a4] .normal=some (frM 135 (Tm.fill ⟨43,.nil⟩ 0 [a0,a1,a2,a3,a4]) [.code (cd 135 [])] false):=by kernel_rfl
theorem Ae3:Yf5 135 43 Tz Lz:=yf5 n135 (by decide) λ_ _ _ _ _=>rfl
theorem AfX:CE Tp DC W0 m0 162 Tz Lz S Q none 4000 (Tm.fill ⟨11,.nil⟩ 0 [a0,a1]) [.code (cd 162 [])] false 0 0 0 [] A=(Aa (Af Tp A 142 (pP 1 0)) λt0=>knW Tp W0 m0 184 [a1] A λt1 At1=>Aa (Af Tp At1 142 (pP 1 0)) λt2=>eqW t2 t0 (eqW a0 a0 (Aa (Bp Tp 216 [(0,a0),(1,t1),(2,t0)]) λt3=>Au (DF At1 (Value.cells t3).toList 216) λt4 At4=>Dq (BQ Tp (λ_=>t3) (.box 216 (.tmp 0))) At4 t4 (Aa (Bp Tp 216 [(0,a0),(1,t1),(2,t0)]) λt5=>eqW t5 t3 (Aa (Af Tp At4 142 (pP 1 0)) λt6=>eqW t6 t0 (eqW a1 a1 (eqW a0 a0 (Q t4 At4)))))))):=by kernel_rfl
theorem n162(a0 a1:Value):CM Tp 162 [a0,a1] .normal=some (frM 162 (Tm.fill ⟨11,.nil⟩ 0 [a0,a1]) [.code (cd 162 [])] false):=by kernel_rfl
theorem AeT:Yf2 162 11 Tz Lz:=yf2 n162 (by decide) λ_ _=>rfl
theorem AfW:CE Tp DC W0 m0 163 Tz Lz S Q none 4000 (Tm.fill ⟨11,.nil⟩ 0 [a0,a1]) [.code (cd 163 [])] false 0 0 0 [] A=(Aa (Af Tp A 142 (pP 2 0)) λt0=>knW Tp W0 m0 184 [a1] A λt1 At1=>Aa (Af Tp At1 142 (pP 2 0)) λt2=>eqW t2 t0 (eqW a0 a0 (Aa (Bp Tp 216 [(0,a0),(1,t1),(2,t0)]) λt3=>Au (DF At1 (Value.cells t3).toList 216) λt4 At4=>Dq (BQ Tp (λ_=>t3) (.box 216 (.tmp 0))) At4 t4 (Aa (Bp Tp 216 [(0,a0),(1,t1),(2,t0)]) λt5=>eqW t5 t3 (Aa (Af Tp At4 142 (pP 2 0)) λt6=>eqW t6 t0 (eqW a1 a1 (eqW a0 a0 (Q t4 At4)))))))):=by kernel_rfl
theorem n163(a0 a1:Value):CM Tp 163 [a0,a1] .normal=some (frM 163 (Tm.fill ⟨11,.nil⟩ 0 [a0,a1]) [.code (cd 163 [])] false):=by kernel_rfl
theorem AeS:Yf2 163 11 Tz Lz:=yf2 n163 (by decide) λ_ _=>rfl
end
end Go.Proofs.YtbchfeibhoobeaaGreatDoor
namespace Go.Jr
variable {k:List UInt8} {s q:DS}
def Aq(D:Fls):List (List UInt8):=D.map (·.1)
theorem VH{α:Type}{p:α->Bool}:∀ {l m:List α},l.Perm m->(∀ x∈l,∀ y∈l,p x=true->p y=true->x=y)->l.find? p=m.find? p:=by
 intro l m h hu;have hm:∀ x,x∈l↔x∈m:=λx=>h.mem_iff;cases hl:l.find? p with
 |none=>
  rw [List.find?_eq_none] at hl
  symm
  rw [List.find?_eq_none];exact λx hx=>hl x ((hm x).2 hx)
 |some a=>
  have ha:=List.find?_some hl;have hal:=List.mem_of_find?_eq_some hl;cases hq:m.find? p with
  |none=>
   rw [List.find?_eq_none] at hq;exact absurd ha (hq a ((hm a).1 hal))
  |some b=>
   have hb:=List.find?_some hq;have hbl:=(hm b).2 (List.mem_of_find?_eq_some hq);rw [hu a hal b hbl ha hb]
theorem Pr{D:Fls}(h:(Aq D).Nodup){x y:List UInt8 × Fil}(hx:x∈D)(hy:y∈D)(he:x.1=y.1):x=y:=by
 induction D with
 |nil=>cases hx
 |cons a D ih=>
  unfold Aq at h;simp only [List.map_cons,List.nodup_cons] at h;rcases List.mem_cons.1 hx with hx1 | hx1
  ·rcases List.mem_cons.1 hy with hy1 | hy1
   ·rw [hx1,hy1]
   ·exact absurd (List.mem_map.2 ⟨y,hy1,by rw [<- he,hx1]⟩) h.1
  ·rcases List.mem_cons.1 hy with hy1 | hy1
   ·exact absurd (List.mem_map.2 ⟨x,hx1,by rw [he,hy1]⟩) h.1
   ·exact ih h.2 hx1 hy1
theorem Jp{D E:Fls}(h:D.Perm E)(hn:(Aq D).Nodup)(k:List UInt8):AB D k=AB E k:=by
 unfold AB;rw [VH h];intro x hx y hy h1 h2;exact Pr hn hx hy ((beq_iff_eq.1 h1).trans (beq_iff_eq.1 h2).symm)
theorem keys_perm{D E:Fls}(h:D.Perm E):(Aq D).Perm (Aq E):=h.map _
theorem U3{D E:Fls}(h:D.Perm E):Eg D=Eg E:=by
 unfold Eg
 induction h with
 |nil=>rfl
 |cons x _ ih=>simp only [List.map_cons,List.foldr_cons,ih]
 |swap x y l=>simp only [List.map_cons,List.foldr_cons];omega
 |trans _ _ h1 h2=>exact h1.trans h2
theorem Lu{D E:Fls}(h:D.Perm E)(k:List UInt8):(Cu D k).Perm (Cu E k):=h.filter _
theorem Hz{D:Fls}(hn:(Aq D).Nodup)(k:List UInt8)(v:Fil):(Cm D k v).Perm ((k,v)::Cu D k):=by
 induction D with
 |nil=>exact List.Perm.refl _
 |cons a D ih=>
  unfold Aq at hn;simp only [List.map_cons,List.nodup_cons] at hn;unfold Cm Cu;rw [List.filter_cons];by_cases h:a.1=k
  ·have hf:D.filter (λe=>!(e.1==k))=D:=by
    rw [List.filter_eq_self];intro x hx
    have:x.1≠k:=λhe=>hn.1 (List.mem_map.2 ⟨x,hx,by rw [he,h]⟩)
    simp [this]
   rw [if_pos (by simp [h]),if_neg (by simp [h]),hf]
  ·rw [if_neg (by simp [h]),if_pos (by simp [h])];exact ((ih hn.2).cons a).trans (List.Perm.swap _ _ _)
theorem Ji{D E:Fls}(h:D.Perm E)(hn:(Aq D).Nodup)(k:List UInt8)(v:Fil):(Cm D k v).Perm (Cm E k v):=
 (Hz hn k v).trans (((Lu h k).cons (k,v)).trans (Hz ((keys_perm h).nodup_iff.1 hn) k v).symm)
theorem GV(D:Fls)(k:List UInt8):Aq (Cu D k)=(Aq D).filter (λe=>!(e==k)):=by
 unfold Aq Cu;rw [List.filter_map];rfl
theorem FE{D:Fls}(hn:(Aq D).Nodup)(k:List UInt8):(Aq (Cu D k)).Nodup:=by rw [GV];exact hn.filter _
theorem Fz{D:Fls}(hn:(Aq D).Nodup)(k:List UInt8)(v:Fil):(Aq (Cm D k v)).Nodup:=by
 refine (keys_perm (Hz hn k v)).nodup_iff.2 ?_;show (k::Aq (Cu D k)).Nodup;rw [List.nodup_cons];refine ⟨λh=>?_,FE hn k⟩;rw [GV] at h
 have:=(List.mem_filter.1 h).2
 simp at this
def Ii(lt:List UInt8->List UInt8->Bool):Fls->List UInt8->Fil->Fls
 |[],k,v=>[(k,v)]
 |e::r,k,v=>if lt e.1 k=true then e::Ii lt r k v else (k,v)::e::r
theorem HH(lt:List UInt8->List UInt8->Bool)(k:List UInt8)(v:Fil):∀ D:Fls,(Ii lt D k v).Perm ((k,v)::D)
 |[]=>List.Perm.refl _
 |e::r=>by
  unfold Ii;split
  ·exact ((HH lt k v r).cons e).trans (List.Perm.swap _ _ _)
  ·exact List.Perm.refl _
theorem Lv{D:Fls}(h:k∉Aq D):Cu D k=D:=by
 unfold Cu;rw [List.filter_eq_self];intro x hx
 have:x.1≠k:=λhe=>h (List.mem_map.2 ⟨x,hx,he⟩)
 simp [this]
theorem Uz(lt:List UInt8->List UInt8->Bool){D:Fls}(hn:(Aq D).Nodup)(h:k∉Aq D)(v:Fil):(Ii lt D k v).Perm (Cm D k v):=
 (HH lt k v D).trans (by have:=(Hz hn k v).symm;rw [Lv h] at this;exact this)
structure Fm (s q:DS):Prop where
 d:s.D.Perm q.D
 n:(Aq s.D).Nodup
 room:s.room=q.room
 B9:s.B9=q.B9
 down:s.down=q.down
theorem Fm.look(h:Fm s q)(k:List UInt8):AB s.D k=AB q.D k:=Jp h.d h.n k
theorem Fm.file(h:Fm s q)(k:List UInt8):fileOf s.D k=fileOf q.D k:=by unfold fileOf;rw [h.look]
theorem Fm.used(h:Fm s q):Eg s.D=Eg q.D:=U3 h.d
theorem Fm.CZ{s q:DS}(h:Fm s q)(n:Int):Fm (CZ s n) (CZ q n):=by
 unfold Go.Jr.CZ;rw [<- h.down];split
 ·exact h
 ·exact ⟨h.d,h.n,h.room,rfl,rfl⟩
theorem Fm.Hl{s q:DS}(h:Fm s q):Fm (Hl s) (Hl q):=⟨h.d,h.n,h.room,rfl,rfl⟩
structure LtK (lt:List UInt8->List UInt8->Bool):Prop where
 irr:∀ a,lt a a=false
 tr:∀ a b c,lt a b=true->lt b c=true->lt a c=true
 tot:∀ a b,lt a b=false->lt b a=false->a=b
def Ris(lt:List UInt8->List UInt8->Bool)(l:List (List UInt8)):Prop:=l.Pairwise λa b=>lt a b=true
section
variable {lt:List UInt8->List UInt8->Bool}
theorem Ris.nodup(hl:LtK lt){l:List (List UInt8)}(h:Ris lt l):l.Nodup:=h.imp λ{a b} hab he=>by
 subst he;rw [hl.irr] at hab;cases hab
theorem Rf(hl:LtK lt):∀ {l m:List (List UInt8)},Ris lt l->Ris lt m->(∀ x,x∈l↔x∈m)->l=m
 |[],[],_,_,_=>rfl
 |[],b::m,_,_,h=>by have:=(h b).2 List.mem_cons_self;cases this
 |a::l,[],_,_,h=>by have:=(h a).1 List.mem_cons_self;cases this
 |a::l,b::m,h1,h2,h=>by
  have g1:=List.pairwise_cons.1 h1;have g2:=List.pairwise_cons.1 h2;have hab:a=b:=by
   rcases List.mem_cons.1 ((h a).1 List.mem_cons_self) with e | e
   ·exact e
   ·rcases List.mem_cons.1 ((h b).2 List.mem_cons_self) with e2 | e2
    ·exact e2.symm
    ·have x1:=g2.1 a e;have x2:=g1.1 b e2
     have:=hl.tr _ _ _ x1 x2
     rw [hl.irr] at this;cases this
  subst hab;have hn1:=Ris.nodup hl h1;have hn2:=Ris.nodup hl h2;rw [List.nodup_cons] at hn1 hn2;rw [Rf hl g1.2 g2.2 λx=>?_];constructor
  ·intro hx;rcases List.mem_cons.1 ((h x).1 (List.mem_cons_of_mem _ hx)) with e | e
   ·exact absurd (e▸hx) hn1.1
   ·exact e
  ·intro hx;rcases List.mem_cons.1 ((h x).2 (List.mem_cons_of_mem _ hx)) with e | e
   ·exact absurd (e▸hx) hn2.1
   ·exact e
theorem Xu(lt:List UInt8->List UInt8->Bool)(k:List UInt8)(v:Fil)(D:Fls)(x:List UInt8):x∈Aq (Ii lt D k v)↔x=k\/x∈Aq D:=by
 rw [(keys_perm (HH lt k v D)).mem_iff];exact List.mem_cons
theorem M7(hl:LtK lt){k:List UInt8}(v:Fil):∀ {D:Fls},Ris lt (Aq D)->k∉Aq D->Ris lt (Aq (Ii lt D k v))
 |[],_,_=>by
  show Ris lt [k];exact List.pairwise_singleton _ _
 |e::r,h,hk=>by
  have g:=List.pairwise_cons.1 (show Ris lt (e.1::Aq r) from h);have hk2:k≠e.1/\k∉Aq r:=by
   constructor
   ·exact λhe=>hk (he▸List.mem_cons_self)
   ·exact λhh=>hk (List.mem_cons_of_mem _ hh)
  unfold Ii;split
  ·rename_i hlt;show Ris lt (e.1::Aq (Ii lt r k v));refine List.pairwise_cons.2 ⟨λx hx=>?_,M7 hl v g.2 hk2.2⟩;rcases (Xu lt k v r x).1 hx with rfl | hx
   ·exact hlt
   ·exact g.1 x hx
  ·rename_i hlt;have hke:lt k e.1=true:=by
    cases hq:lt k e.1 with
    |true=>rfl
    |false=>exact absurd (hl.tot k e.1 hq (by simpa using hlt)) hk2.1
   show Ris lt (k::e.1::Aq r);refine List.pairwise_cons.2 ⟨λx hx=>?_,h⟩;rcases List.mem_cons.1 hx with rfl | hx
   ·exact hke
   ·exact hl.tr _ _ _ hke (g.1 x hx)
theorem IP(k:List UInt8)(v:Fil):∀ {D:Fls},k∈Aq D->Aq (Cm D k v)=Aq D
 |[],h=>by cases h
 |e::r,h=>by
  unfold Cm;split
  ·rename_i he;show k::Aq r=e.1::Aq r;rw [beq_iff_eq.1 he]
  ·rename_i he;show e.1::Aq (Cm r k v)=e.1::Aq r;rcases List.mem_cons.1 (show k∈e.1::Aq r from h) with h | h
   ·exact absurd (by simp [h]) he
   ·rw [IP k v h]
theorem Jw{D:Fls}(h:Ris lt (Aq D))(k:List UInt8):Ris lt (Aq (Cu D k)):=by
 rw [GV];exact h.filter _
theorem B0{D:Fls}{k:List UInt8}:(AB D k).isSome=true↔k∈Aq D:=by
 unfold AB Aq;rw [Option.isSome_map,List.find?_isSome,List.mem_map];constructor
 ·rintro ⟨x,hx,h⟩;exact ⟨x,hx,beq_iff_eq.1 h⟩
 ·rintro ⟨x,hx,h⟩;exact ⟨x,hx,beq_iff_eq.2 h⟩
theorem Jm(hl:LtK lt){s q:DS}{names:List (List UInt8)}(h:Fm s q)(hq:Ris lt (Aq q.D))(hn:Ris lt names)(hp:names.Perm (Aq s.D)):names=Aq q.D:=
 Rf hl hn hq λx=>by rw [hp.mem_iff,(keys_perm h.d).mem_iff]
end
variable {s q:DS}
def upF(lt:List UInt8->List UInt8->Bool)(D:Fls)(k:List UInt8)(v:Fil):Fls:=if (AB D k).isSome=true then Cm D k v else Ii lt D k v
def BA(lt:List UInt8->List UInt8->Bool)(s:DS)(n b:List UInt8):DS × Int:=
 if s.down=true then (s,100) else
 if Df n=false then (s,2) else
 if 1048576-((fileOf s.D n).1.length:Int)<b.length then (s,3) else
 if s.room-(Eg s.D:Int)<b.length then (s,6) else
 C5 s (λD=>upF lt D n ((fileOf s.D n).1++b,(fileOf s.D n).2)) true
def B4(lt:List UInt8->List UInt8->Bool)(s:DS)(n t:List UInt8):DS × Int:=
 if s.down=true then (s,100) else
 if (Df n&&Df t)=false then (s,2) else
 match AB s.D n with
 |none=>(s,7)
 |some f=>C5 s (λD=>Ii lt (Cu (Cu D n) t) t f) false
section
variable {lt:List UInt8->List UInt8->Bool}
theorem PQ{D:Fls}(hn:(Aq D).Nodup)(k:List UInt8)(v:Fil):(upF lt D k v).Perm (Cm D k v):=by
 unfold upF;split
 ·exact List.Perm.refl _
 ·rename_i h;exact Uz lt hn (λhk=>h (B0.2 hk)) v
theorem Wu(hl:LtK lt){D:Fls}(h:Ris lt (Aq D))(k:List UInt8)(v:Fil):Ris lt (Aq (upF lt D k v)):=by
 unfold upF;split
 ·rename_i hk;rw [IP k v (B0.1 hk)];exact h
 ·rename_i hk;exact M7 hl v h λhh=>hk (B0.2 hh)
structure RQ (lt:List UInt8->List UInt8->Bool) (s q:DS):Prop where
 s:Fm s q
 r:Ris lt (Aq q.D)
theorem Fm.Ad0(h:Fm s q){f g:Fls->Fls}(hf:(f s.D).Perm (g q.D))(hn:(Aq (f s.D)).Nodup)(though:Bool):Fm (C5 s f though).1 (C5 q g though).1/\(C5 s f though).2=(C5 q g though).2:=by
 unfold C5;rw [<- h.B9];split
 ·split
  ·refine ⟨?_,rfl⟩;cases though
   ·exact ⟨h.d,h.n,h.room,rfl,rfl⟩
   ·exact ⟨hf,hn,h.room,rfl,rfl⟩
  ·exact ⟨⟨hf,hn,h.room,rfl,h.down⟩,rfl⟩
 ·exact ⟨⟨hf,hn,h.room,rfl,h.down⟩,rfl⟩
theorem Zw{g:Fls->Fls}(h:Ris lt (Aq q.D))(hg:Ris lt (Aq (g q.D)))(though:Bool):Ris lt (Aq (C5 q g though).1.D):=by
 unfold C5;split
 ·split
  ·cases though
   ·exact h
   ·exact hg
  ·exact hg
 ·exact hg
theorem RQ.act(h:RQ lt s q){f g:Fls->Fls}(hf:(f s.D).Perm (g q.D))(hn:(Aq (f s.D)).Nodup)(hg:Ris lt (Aq (g q.D)))(though:Bool):RQ lt (C5 s f though).1 (C5 q g though).1/\(C5 s f though).2=(C5 q g though).2:=
 ⟨⟨(h.s.Ad0 hf hn though).1,Zw h.r hg though⟩,(h.s.Ad0 hf hn though).2⟩
theorem RQ.append(hl:LtK lt)(h:RQ lt s q)(n b:List UInt8):RQ lt (BG s n b).1 (BA lt q n b).1/\(BG s n b).2=(BA lt q n b).2:=by
 have hq:(Aq q.D).Nodup:=(keys_perm h.s.d).nodup_iff.1 h.s.n;unfold BG BA;rw [<- h.s.down,<- h.s.file,<- h.s.used,<- h.s.room];split
 ·exact ⟨h,rfl⟩
 split
 ·exact ⟨h,rfl⟩
 split
 ·exact ⟨h,rfl⟩
 split
 ·exact ⟨h,rfl⟩
 ·exact h.act ((Ji h.s.d h.s.n _ _).trans (PQ hq _ _).symm) (Fz h.s.n _ _) (Wu hl h.r _ _) _
theorem RQ.rename(hl:LtK lt)(h:RQ lt s q)(n t:List UInt8):RQ lt (CR s n t).1 (B4 lt q n t).1/\(CR s n t).2=(B4 lt q n t).2:=by
 unfold CR B4;rw [<- h.s.down,<- h.s.look];split
 ·exact ⟨h,rfl⟩
 split
 ·exact ⟨h,rfl⟩
 cases AB s.D n with
 |none=>exact ⟨h,rfl⟩
 |some f=>
  have hk:t∉Aq (Cu (Cu q.D n) t):=λhh=>by
   rw [GV] at hh
   have:=(List.mem_filter.1 hh).2
   simp at this
  refine h.act ?_ (Fz (FE h.s.n _) _ _) (M7 hl f (Jw (Jw h.r n) t) hk) _;exact (Hz (FE h.s.n n) t f).trans (((Lu (Lu h.s.d n) t).cons (t,f)).trans (HH lt t f _).symm)
theorem RQ.sync(h:RQ lt s q)(n:List UInt8):RQ lt (Bn s n).1 (Bn q n).1/\(Bn s n).2=(Bn q n).2:=by
 unfold Bn;rw [<- h.s.down,<- h.s.look];split
 ·exact ⟨h,rfl⟩
 cases hk:AB s.D n with
 |none=>exact ⟨h,rfl⟩
 |some f=>
  have hin:n∈Aq q.D:=B0.1 (by rw [<- h.s.look,hk];rfl);exact h.act (Ji h.s.d h.s.n _ _) (Fz h.s.n _ _) (by rw [IP n _ hin];exact h.r) _
theorem RQ.remove(h:RQ lt s q)(n:List UInt8):RQ lt (AQ s n).1 (AQ q n).1/\(AQ s n).2=(AQ q n).2:=by
 unfold AQ;rw [<- h.s.down,<- h.s.look];split
 ·exact ⟨h,rfl⟩
 cases AB s.D n with
 |none=>exact ⟨h,rfl⟩
 |some f=>exact h.act (Lu h.s.d _) (FE h.s.n _) (Jw h.r _) _
theorem RQ.cut(h:RQ lt s q)(n:List UInt8)(k:Int):RQ lt (FF s n k).1 (FF q n k).1/\(FF s n k).2=(FF q n k).2:=by
 unfold FF;rw [<- h.s.down,<- h.s.look];split
 ·exact ⟨h,rfl⟩
 split
 ·exact ⟨h,rfl⟩
 cases hk:AB s.D n with
 |none=>exact ⟨h,rfl⟩
 |some f=>
  have hin:n∈Aq q.D:=B0.1 (by rw [<- h.s.look,hk];rfl);simp only;split
  ·exact ⟨h,rfl⟩
  ·exact h.act (Ji h.s.d h.s.n _ _) (Fz h.s.n _ _) (by rw [IP n _ hin];exact h.r) _
end
def Gh(keep:List Int):Nat->Fls->Fls
 |_,[]=>[]
 |i,e::r=>(e.1,EU e.2 keep[i]?)::Gh keep (i+1) r
theorem HV(keep:List Int):∀ (i:Nat) (D:Fls),Aq (Gh keep i D)=Aq D
 |_,[]=>rfl
 |i,e::r=>by
  show e.1::Aq (Gh keep (i+1) r)=e.1::Aq r;rw [HV keep (i+1) r]
theorem Uq(k:List UInt8)(v w:Fil)(post:Fls):∀ {pre:Fls},k∉Aq pre->Cm (pre++(k,w)::post) k v=pre++(k,v)::post
 |[],_=>by
  show (if (k==k)=true then (k,v)::post else _)=_;rw [if_pos (by simp)];rfl
 |e::r,h=>by
  have h1:e.1≠k:=λhe=>h (he▸List.mem_cons_self);have h2:k∉Aq r:=λhh=>h (List.mem_cons_of_mem _ hh);show (if (e.1==k)=true then _ else e::Cm (r++(k,w)::post) k v)=_;rw [if_neg (by simp [h1]),Uq k v w post h2];rfl
theorem XC(k:List UInt8)(w:Fil)(post:Fls){pre:Fls}(h:k∉Aq pre):fileOf (pre++(k,w)::post) k=w:=by
 unfold fileOf AB
 have:(pre++(k,w)::post).find? (λe=>e.1==k)=some (k,w):=by
  rw [List.find?_append];have hn:pre.find? (λe=>e.1==k)=none:=by
   rw [List.find?_eq_none];intro x hx he;exact h (List.mem_map.2 ⟨x,hx,beq_iff_eq.1 he⟩)
  rw [hn]
  simp
 rw [this];rfl
theorem QU(keep:List Int):∀ (post pre:Fls) (i:Nat),(Aq (pre++post)).Nodup->Gz (pre++post) keep (Aq post) i=pre++Gh keep i post
 |[],pre,i,_=>rfl
 |e::r,pre,i,h=>by
  have hk:e.1∉Aq pre:=by
   unfold Aq at h ⊢;rw [List.map_append,List.nodup_append] at h;exact λhh=>h.2.2 e.1 hh e.1 (by simp) rfl
  show Gz (Cm (pre++(e.1,e.2)::r) e.1 (EU (fileOf (pre++(e.1,e.2)::r) e.1) keep[i]?)) keep (Aq r) (i+1)=_;rw [XC e.1 e.2 r hk,Uq e.1 _ e.2 r hk];have hk2:Aq ((pre++[(e.1,EU e.2 keep[i]?)])++r)=Aq (pre++e::r):=by unfold Aq;simp
  have:=QU keep r (pre++[(e.1,EU e.2 keep[i]?)]) (i+1) (by rw [hk2];exact h)
  rw [List.append_assoc,List.singleton_append] at this;rw [this,List.append_assoc];rfl
theorem OZ(keep:List Int):∀ (names:List (List UInt8)) (i:Nat) {D E:Fls},D.Perm E->(Aq D).Nodup->(Gz D keep names i).Perm (Gz E keep names i)/\(Aq (Gz D keep names i)).Nodup
 |[],_,_,_,h,hn=>⟨h,hn⟩
 |p::r,i,D,E,h,hn=>by
  have hf:fileOf D p=fileOf E p:=by unfold fileOf;rw [Jp h hn]
  show (Gz (Cm D p (EU (fileOf D p) keep[i]?)) keep r (i+1)).Perm (Gz (Cm E p (EU (fileOf E p) keep[i]?)) keep r (i+1))/\_;rw [<- hf];exact OZ keep r (i+1) (Ji h hn _ _) (Fz hn _ _)
def Me(q:DS)(keep:List Int):DS:=if q.down=true then ⟨Gh keep 0 q.D,q.room,q.B9,false⟩ else q
theorem RQ.Wp{lt:List UInt8->List UInt8->Bool}(hl:LtK lt){s q:DS}(h:RQ lt s q){names:List (List UInt8)}(hn:Ris lt names)(hp:names.Perm (Aq s.D))(keep:List Int):RQ lt (QV s names keep) (Me q keep):=by
 have hq:(Aq q.D).Nodup:=(keys_perm h.s.d).nodup_iff.1 h.s.n;have he:=Jm hl h.s h.r hn hp;unfold QV Me;rw [<- h.s.down];split
 ·have hw:=QU keep q.D [] 0 hq;rw [List.nil_append,List.nil_append,<- he] at hw;obtain ⟨h1,h2⟩:=OZ keep names 0 h.s.d h.s.n;rw [hw] at h1;exact ⟨⟨h1,h2,h.s.room,h.s.B9,rfl⟩,by show Ris lt (Aq (Gh keep 0 q.D));rw [HV];exact h.r⟩
 ·exact h
def Ac.EP(lt:List UInt8->List UInt8->Bool)(s:DS):Ac->DS × Int
 |.rmF=>AQ s fresh
 |.ap0=>BA lt s fresh Gd
 |.syF=>Bn s fresh
 |.rn1=>B4 lt s fresh (nm 1)
 |.rm n=>AQ s (nm n)
 |.ct n k=>FF s (nm n) k
 |.sy n=>Bn s (nm n)
def BI(lt:List UInt8->List UInt8->Bool)(s:DS):List Ac->DS × Int
 |[]=>(s,0)
 |a::r=>if (a.EP lt s).2=0 then BI lt (a.EP lt s).1 r else a.EP lt s
section
variable {lt:List UInt8->List UInt8->Bool}
theorem RQ.ac(hl:LtK lt){s q:DS}(h:RQ lt s q)(a:Ac):RQ lt (a.run s).1 (a.EP lt q).1/\(a.run s).2=(a.EP lt q).2:=by
 cases a with
 |rmF=>exact h.remove _
 |ap0=>exact h.append hl _ _
 |syF=>exact h.sync _
 |rn1=>exact h.rename hl _ _
 |rm n=>exact h.remove _
 |ct n k=>exact h.cut _ _
 |sy n=>exact h.sync _
theorem RQ.acs(hl:LtK lt):∀ (l:List Ac) {s q:DS},RQ lt s q->RQ lt (Fu s l).1 (BI lt q l).1/\(Fu s l).2=(BI lt q l).2
 |[],_,_,h=>⟨h,rfl⟩
 |a::r,s,q,h=>by
  obtain ⟨h1,h2⟩:=h.ac hl a;unfold Fu BI;rw [<- h2];split
  ·exact RQ.acs hl r h1
  ·exact ⟨h1,h2⟩
theorem Vb{s q:DS}(h:Fm s q)(names:List (List UInt8)):Bi s.D names=Bi q.D names:=by
 unfold Bi
 congr 1
 funext f
 rw [h.file]
def EZ(lt:List UInt8->List UInt8->Bool)(s:DS)(limit:Int):DS × Option JS × Int:=
 if limit<1 then (s,none,2) else
 if s.down=true then (s,none,100) else
 match Ga (Bi s.D (Aq s.D)) with
 |none=>(s,none,120)
 |some (r,f)=>
  let q:=BI lt s (Du (Aq s.D) (Bi s.D (Aq s.D)) r f)
  if q.2=0 then (q.1,some (EH limit r),0) else (q.1,none,q.2)
theorem RQ.open(hl:LtK lt){s q:DS}(h:RQ lt s q){names:List (List UInt8)}(hn:Ris lt names)(hp:names.Perm (Aq s.D))(limit:Int):
  RQ lt (EY s names limit).1 (EZ lt q limit).1/\(EY s names limit).2=(EZ lt q limit).2:=by
 have he:=Jm hl h.s h.r hn hp;have hs:=Vb h.s names;unfold EY EZ;rw [<- h.s.down,<- he,hs];split
 ·exact ⟨h,rfl⟩
 split
 ·exact ⟨h,rfl⟩
 cases Ga (Bi q.D names) with
 |none=>exact ⟨h,rfl⟩
 |some x=>
  obtain ⟨r,f⟩:=x;obtain ⟨h1,h2⟩:=h.acs hl (Du names (Bi q.D names) r f);simp only;rw [<- h2];split
  ·exact ⟨h1,rfl⟩
  ·exact ⟨h1,rfl⟩
end
theorem Dg:∀ (k n:Nat),(dig k n).length=k
 |0,_=>rfl
 |k+1,n=>by unfold dig;rw [List.length_append,Dg k];rfl
theorem digit(m:Nat)(h:m<10):48<=UInt8.ofNat (48+m)/\UInt8.ofNat (48+m)<=57/\(UInt8.ofNat (48+m)).toNat-48=m:=by
 have:∀ m,m<10->48<=UInt8.ofNat (48+m)/\UInt8.ofNat (48+m)<=57/\(UInt8.ofNat (48+m)).toNat-48=m:=by decide
 exact this m h
theorem Qv:∀ (k n:Nat),(dig k n).all (λc=>decide (48<=c)&&decide (c<=57))=true
 |0,_=>rfl
 |k+1,n=>by
  unfold dig;obtain ⟨h1,h2,_⟩:=digit (n%10) (Nat.mod_lt _ (by decide));rw [List.all_append,Qv k];show (true&&((decide (48<=UInt8.ofNat (48+n%10))&&decide (UInt8.ofNat (48+n%10)<=57))&&true))=true;rw [decide_eq_true h1,decide_eq_true h2];rfl
theorem UI:∀ (k n a:Nat),n<10^k->(dig k n).foldl (λn c=>10*n+(c.toNat-48)) a=a*10^k+n
 |0,n,a,h=>by
  have:n=0:=by simpa using h
  subst this;simp [dig]
 |k+1,n,a,h=>by
  have h10:n/10<10^k:=by rw [Nat.div_lt_iff_lt_mul (by decide)];rw [Nat.pow_succ] at h;exact h
  unfold dig;rw [List.foldl_append,UI k (n/10) a h10];obtain ⟨_,_,h3⟩:=digit (n%10) (Nat.mod_lt _ (by decide));show 10*(a*10^k+n/10)+((UInt8.ofNat (48+n%10)).toNat-48)=_;rw [h3,Nat.pow_succ,Nat.mul_add,<- Nat.mul_assoc a,Nat.mul_comm 10 (a*10^k)];omega
theorem KW{n:Nat}(h:n<100000000):numOf (Jr.nm n)=n:=by
 unfold numOf Jr.nm;have hl:([106,46]++dig 8 n).length=10:=by rw [List.length_append,Dg];rfl
 have hd:([106,46]++dig 8 n).drop 2=dig 8 n:=rfl;rw [hd,if_pos ⟨rfl,hl,Qv 8 n⟩,UI 8 n 0 h];omega
theorem E0{m n:Nat}(hm:m<100000000)(hn:n<100000000)(h:Jr.nm m=Jr.nm n):m=n:=by rw [<- KW hm,<- KW hn,h]
theorem HC(f:List UInt8):numOf f<100000000\/numOf f=0:=by
 unfold numOf;split
 ·rename_i h
  left
  have key:∀ (l:List UInt8) (a:Nat),l.all (λc=>decide (48<=c)&&decide (c<=57))=true->l.foldl (λn c=>10*n+(c.toNat-48)) a+1<=(a+1)*10^l.length:=by
   intro l
   induction l with
   |nil=>intro a _;simp
   |cons c r ih=>
    intro a hh;simp only [List.all_cons,Bool.and_eq_true,decide_eq_true_eq] at hh;have h1:=ih (10*a+(c.toNat-48)) hh.2;have h2:c.toNat<=57:=UInt8.le_iff_toNat_le.1 hh.1.2;have h3:10*a+(c.toNat-48)+1<=(a+1)*10:=by omega
    show r.foldl _ (10*a+(c.toNat-48))+1<=(a+1)*10^(r.length+1);refine Nat.le_trans h1 ?_;rw [Nat.pow_succ,Nat.mul_comm (10^r.length) 10,<- Nat.mul_assoc];exact Nat.mul_le_mul_right _ h3
  have hk:=key (f.drop 2) 0 h.2.2;have hl:(f.drop 2).length=8:=by rw [List.length_drop,h.2.1]
  rw [hl] at hk;omega
 ·exact .inr rfl
theorem Aa9{c:UInt8}(h1:48<=c)(h2:c<=57):UInt8.ofNat (48+(c.toNat-48))=c:=by
 have h1:48<=c.toNat:=UInt8.le_iff_toNat_le.1 h1;rw [show 48+(c.toNat-48)=c.toNat by omega]
 simp
theorem XO:∀ (k:Nat) (l:List UInt8),l.length=k->l.all (λc=>decide (48<=c)&&decide (c<=57))=true->dig k (l.foldl (λn c=>10*n+(c.toNat-48)) 0)=l
 |0,l,hl,_=>by
  obtain rfl:=List.eq_nil_of_length_eq_zero hl;rfl
 |k+1,l,hl,ha=>by
  have hne:l≠[]:=λh=>by rw [h] at hl;cases hl
  obtain ⟨r,c,rfl⟩:∃ r c,l=r++[c]:=⟨l.dropLast,l.getLast hne,(List.dropLast_concat_getLast hne).symm⟩;rw [List.length_append] at hl;have hr:r.length=k:=by simpa using hl
  simp only [List.all_append,List.all_cons,List.all_nil,Bool.and_true,Bool.and_eq_true,decide_eq_true_eq] at ha;obtain ⟨hra,hc1,hc2⟩:=ha;have h2:c.toNat<=57:=UInt8.le_iff_toNat_le.1 hc2;rw [List.foldl_append];show dig (k+1) (10*(r.foldl (λn c=>10*n+(c.toNat-48)) 0)+(c.toNat-48))=_;generalize hv:r.foldl (λn c=>10*n+(c.toNat-48)) 0=v;unfold dig;rw [show (10*v+(c.toNat-48))/10=v by omega,show (10*v+(c.toNat-48))%10=c.toNat-48 by omega,Aa9 hc1 hc2,<- hv,XO k r hr hra]
theorem KX{f:List UInt8}(h:numOf f≠0):f=Jr.nm (numOf f):=by
 unfold numOf at h ⊢;split at h
 ·rename_i hc;rw [if_pos hc];unfold Jr.nm;rw [XO 8 (f.drop 2) (by rw [List.length_drop,hc.2.1]) hc.2.2,<- hc.1,List.take_append_drop]
 ·exact absurd rfl h
def AA(D:Fls):List Nat:=(Aq D).filterMap λf=>if numOf f=0 then none else some (numOf f)
theorem BK{D:Fls}{n:Nat}:n∈AA D↔n≠0/\n<100000000/\Jr.nm n∈Aq D:=by
 unfold AA;rw [List.mem_filterMap];constructor
 ·rintro ⟨f,hf,he⟩;split at he
  ·cases he
  ·rename_i h0;cases he;refine ⟨h0,?_,by rw [<- KX h0];exact hf⟩;rcases HC f with h | h
   ·exact h
   ·exact absurd h h0
 ·rintro ⟨h0,h1,h2⟩;exact ⟨Jr.nm n,h2,by rw [KW h1,if_neg h0]⟩
def ltB(x y:List UInt8):Bool:=decide (x<y)
theorem ltk:LtK ltB where
 irr a:=by unfold ltB;exact decide_eq_false (List.lt_irrefl a)
 tr a b c h1 h2:=by
  unfold ltB at *;rw [decide_eq_true_iff] at *;exact List.lt_trans h1 h2
 tot a b h1 h2:=by
  unfold ltB at *;rw [decide_eq_false_iff_not] at *;exact List.le_antisymm (List.not_lt.1 h2) (List.not_lt.1 h1)
theorem Xi:∀ {a b:List UInt8} (x y:List UInt8),a.length=b.length->a<b->a++x<b++y
 |[],[],_,_,_,h=>absurd h (List.lt_irrefl _)
 |[],_::_,_,_,h,_=>by simp at h
 |_::_,[],_,_,h,_=>by simp at h
 |c::a,d::b,x,y,hl,h=>by
  rw [List.cons_append,List.cons_append];rw [List.cons_lt_cons_iff] at h ⊢;rcases h with h | ⟨h1,h2⟩
  ·exact .inl h
  ·exact .inr ⟨h1,Xi x y (by simpa using hl) h2⟩
theorem Tv:∀ (p:List UInt8) {x y:List UInt8},x<y->p++x<p++y
 |[],_,_,h=>h
 |c::p,_,_,h=>by
  rw [List.cons_append,List.cons_append,List.cons_lt_cons_iff];exact .inr ⟨rfl,Tv p h⟩
theorem XP:∀ (k:Nat) {m n:Nat},m<n->n<10^k->dig k m<dig k n
 |0,m,n,h1,h2=>by
  have:n=0:=by simpa using h2
  omega
 |k+1,m,n,h1,h2=>by
  have h10:n/10<10^k:=by rw [Nat.div_lt_iff_lt_mul (by decide)];rw [Nat.pow_succ] at h2;exact h2
  unfold dig;by_cases h:m/10=n/10
  ·rw [h];refine Tv _ ?_;rw [List.cons_lt_cons_iff];refine .inl ?_;have hd:∀ a,a<10->∀ b,b<10->a<b->UInt8.ofNat (48+a)<UInt8.ofNat (48+b):=by decide
   exact hd _ (Nat.mod_lt _ (by decide)) _ (Nat.mod_lt _ (by decide)) (by omega)
  ·exact Xi _ _ (by rw [Dg,Dg]) (XP k (by omega) h10)
theorem AcQ{m n:Nat}(h1:m<n)(h2:n<100000000):Jr.nm m<Jr.nm n:=by
 unfold Jr.nm;exact Tv _ (XP 8 h1 h2)
theorem FB{D:Fls}(h:Ris ltB (Aq D)):(AA D).Pairwise (· < ·):=by
 unfold AA;rw [List.pairwise_filterMap];refine h.imp λ{a b} hab x hx y hy=>?_;split at hx
 ·cases hx
 ·rename_i ha;split at hy
  ·cases hy
  ·rename_i hb;cases hx;cases hy;have hab:a<b:=by
    unfold ltB at hab;exact of_decide_eq_true hab
   rcases Nat.lt_trichotomy (numOf a) (numOf b) with g | g | g
   ·exact g
   ·rw [KX ha,KX hb,g] at hab;exact absurd hab (List.lt_irrefl _)
   ·have hA:numOf a<100000000:=by
     rcases HC a with q | q
     ·exact q
     ·exact absurd q ha
    have:=AcQ g hA
    rw [<- KX ha,<- KX hb] at this;exact absurd (List.lt_trans hab this) (List.lt_irrefl _)
end Go.Jr
namespace Go.Jr
open Go
theorem L4{n:Nat}(h:n<10):Lib.decDigits n=[UInt8.ofNat (48+n)]:=by
 rw [Lib.decDigits,dif_pos h]
theorem Pz{n:Nat}(h:¬ n<10):Lib.decDigits n=Lib.decDigits (n/10)++[UInt8.ofNat (48+n%10)]:=by
 rw [Lib.decDigits,dif_neg h]
theorem Sg:∀ k,dig k 0=List.replicate k 48
 |0=>rfl
 |k+1=>by
  unfold dig;rw [Nat.zero_div,Sg k,List.replicate_succ'];rfl
theorem Zj(n:Nat):0<(Lib.decDigits n).length:=by
 by_cases h:n<10
 ·rw [L4 h];exact Nat.zero_lt_one
 ·rw [Pz h,Lq];simp
theorem UJ:∀ (k n:Nat),n<10^(k+1)->(Lib.decDigits n).length<=k+1/\dig (k+1) n=List.replicate (k+1-(Lib.decDigits n).length) 48++Lib.decDigits n
 |0,n,h=>by
  have h:n<10:=h;rw [L4 h];refine ⟨Nl _,?_⟩;show dig 0 (n/10)++[UInt8.ofNat (48+n%10)]=_;rw [Nat.mod_eq_of_lt h];rfl
 |k+1,n,h=>by
  have h10:n/10<10^(k+1):=by rw [Nat.div_lt_iff_lt_mul (by decide)];rw [Nat.pow_succ] at h;exact h
  obtain ⟨h1,h2⟩:=UJ k (n/10) h10;have e:dig (k+1+1) n=dig (k+1) (n/10)++[UInt8.ofNat (48+n%10)]:=rfl;rw [e];by_cases hs:n<10
  ·rw [L4 hs,Nat.div_eq_of_lt hs,Sg,Nat.mod_eq_of_lt hs];exact ⟨by simp,by simp⟩
  ·rw [Pz hs,Lq,h2];refine ⟨by simp only [Lc,Ln];omega,?_⟩;rw [Mw]
   congr 2
   simp only [Lc,Ln];omega
theorem AaH{n:Nat}(h:n<100000000):(Lib.decDigits n).length<=8/\nm n=[106,46]++List.replicate (8-(Lib.decDigits n).length) 48++Lib.decDigits n:=by
 obtain ⟨h1,h2⟩:=UJ 7 n h;refine ⟨h1,?_⟩;unfold nm;rw [show (8:Nat)=7+1 from rfl,h2,Mw]
theorem Pk:∀ (l r:List UInt8) (acc a:Nat),Lib.parseUint10 acc l=.ok a->Lib.parseUint10 acc (l++r)=Lib.parseUint10 a r
 |[],r,acc,a,h=>by
  simp only [Lib.parseUint10] at h;cases h;rfl
 |c::l,r,acc,a,h=>by
  simp only [List.cons_append,Lib.parseUint10] at h ⊢;split at h
  ·rename_i h1;rw [if_pos h1];split at h
   ·cases h
   ·rename_i h2;rw [if_neg h2];split at h
    ·cases h
    ·rename_i h3;rw [if_neg h3];exact Pk l r _ a h
  ·cases h
theorem Ph:∀ (k v:Nat),v<10^k->v<100000000->Lib.parseUint10 0 (dig k v)=.ok v
 |0,v,h,_=>by
  have:v=0:=by simpa using h
  subst this;rfl
 |k+1,v,h,h8=>by
  have h10:v/10<10^k:=by rw [Nat.div_lt_iff_lt_mul (by decide)];rw [Nat.pow_succ] at h;exact h
  unfold dig;rw [Pk _ _ 0 (v/10) (Ph k (v/10) h10 (by omega))];have h1:(UInt8.ofNat (48+v%10)).toNat=48+v%10:=by rw [UInt8.toNat_ofNat'];omega
  simp only [Lib.parseUint10,h1];rw [if_pos ⟨by omega,by omega⟩,if_neg (by omega),if_neg (by omega)]
  congr 1
  omega
theorem Ye{v:Nat}(h:v<100000000):Lib.atoiAll (dig 8 v)=.ok (v:Int):=by
 have hp:=Ph 8 v h h;have ha:=Qv 8 v;have hl:=Dg 8 v;generalize dig 8 v=l at hp ha hl ⊢
 match l,hl with
 |c::r,_=>
  simp only [List.all_cons,Bq,decide_eq_true_eq] at ha;have h1:48<=c.toNat:=UInt8.le_iff_toNat_le.1 ha.1.1;have h2:c.toNat<=57:=UInt8.le_iff_toNat_le.1 ha.1.2;have hm:Lib.parseMag (c::r)=.ok v:=by unfold Lib.parseMag;rw [if_neg (by simp)];exact hp
  simp only [Lib.atoiAll];rw [if_neg (by omega),hm];simp only;rw [if_neg (by omega),if_neg (by omega),if_neg (by omega)]
end Go.Jr
namespace Go.Proofs.YtbchfeibhoobeaaGreatDoor
open Go.Abs Go.Jr
variable {n:Nat} {A:AW} {K:Value->AW->Prop}
def Pow(W:World):Prop:=Lib.TabIs Tp W "internal/strconv.uint64pow10" .u64 Lib.pow10Tab
theorem Pow.grow{W W':World}(h:Pow W)(hb:Go.RowKit.Below W.heap.size W W'):Pow W':=by
 unfold Pow Lib.TabIs World.var? at *;have hg:Tp.globalNamed "internal/strconv.uint64pow10"=some 3:=by kernel_rfl
 rw [hg] at h ⊢;simp only [Option.bind_some] at h ⊢;have hlt:3<W.heap.size:=by
  rcases Nat.lt_or_ge 3 W.heap.size with h' | h'
  ·exact h'
  ·rw [Array.getElem?_eq_none h'] at h;simp at h
 rw [hb.block 3 hlt];exact h
theorem RG(w:World)(k:Nat)(os:Array Obj):Low w (Go.Sort.grow (w.drewN k) os):=by
 refine ⟨⟨rfl,rfl,rfl,?_,λi hi=>?_⟩⟩
 ·simp [Go.Sort.grow,World.drewN]
 ·show (w.heap++os)[i]? =w.heap[i]?;rw [Array.getElem?_append_left hi]
theorem AaK(w:World)(t:ByteArray):Low w (Lib.bytesWorld w 5 t):=⟨⟨rfl,rfl,rfl,by rw [Lib.bytesWorld_size];omega,λk hk=>Lib.bytesWorld_at_old w 5 t k (by omega)⟩⟩
theorem Xj(w:World):Low w w:=⟨⟨rfl,rfl,rfl,Nl _,λ_ _=>rfl⟩⟩
section
variable {W0:World} {m0:Inj Tp}
theorem AfH(hp:Pow W0)(hn:n<100000000):KC.Holds Tp W0 m0 ⟨95,[.int .i64 (n:Int)],[.string ⟨⟨Lib.decDigits n⟩⟩]⟩:=by
 refine ⟨λe=>absurd e (show (95:Nat)≠FZ by decide),λ_ m args' W _ hb ha=>?_⟩;cases ha with
 |cons h1 h2=>
  cases h2;cases h1;refine (Any.strconv_Itoa nuX (n:Int) (by omega) (by omega) W (hp.grow hb)).mono ?_;rintro e w' ⟨rfl,k,os,rfl⟩;exact ⟨_,Ms.2 rfl,by rw [Lib.itoa_nonneg],RG W k os⟩
def AgK(er:Value)(bad:Bool):Prop:=(bad=false/\er=.nilIface)\/(bad=true/\∃ c:Int,(c=1\/c=2)/\er=.iface 192 (.int .i64 c))
theorem Adv(s:ByteArray)(hs:s.data.toList.length<100000000):∃ n er bad,KC.Holds Tp W0 m0 ⟨134,[.string s],[.tuple ⟨[.int .i64 n,er]⟩]⟩/\AgK er bad/\∀ v,Lib.atoiAll s.data.toList=.ok v↔bad=false/\n=v:=by
 have hsz:s.size=s.data.toList.length:=Lib.size_eq s;have key:∀ n er,Lib.intTuple 192 (Lib.atoiSat s.data.toList) (Lib.atoiAll s.data.toList)=.tuple #[.int .i64 n,er]->KC.Holds Tp W0 m0 ⟨134,[.string s],[.tuple ⟨[.int .i64 n,er]⟩]⟩:=λn er h=>by
  refine ⟨λe=>absurd e (show (134:Nat)≠FZ by decide),λ_ m args' W _ _ ha=>?_⟩;cases ha with
  |cons h1 h2=>
   cases h2;cases h1;refine (Any.internal_strconv_Atoi_all { atX with } s (by omega) W).mono λe' W' ⟨he,hw⟩=>⟨_,Ms.2 rfl,by rw [he];exact congrArg _ h,?_⟩;rcases hw with rfl | ⟨t,rfl⟩
   ·exact Xj _
   ·exact AaK _ t
 cases hp:Lib.atoiAll s.data.toList
 case ok n=>exact ⟨n,.nilIface,false,key _ _ (by rw [hp];rfl),.inl ⟨rfl,rfl⟩,λv=>⟨λh=>by cases h;exact ⟨rfl,rfl⟩,λh=>by rw [h.2]⟩⟩
 case range=>exact ⟨_,_,true,key _ _ (by rw [hp];rfl),.inr ⟨rfl,1,.inl rfl,rfl⟩,λv=>⟨λh=>(by cases h),λh=>(by cases h.1)⟩⟩
 exact ⟨_,_,true,key _ _ (by rw [hp];rfl),.inr ⟨rfl,2,.inr rfl,rfl⟩,λv=>⟨λh=>(by cases h),λh=>(by cases h.1)⟩⟩
theorem AfG{k:Nat}(hk:k<9):KC.Holds Tp W0 m0 ⟨97,[.string ⟨⟨[48]⟩⟩,.int .i64 (k:Int)],[.string ⟨⟨List.replicate k 48⟩⟩]⟩:=by
 refine ⟨λe=>absurd e (show (97:Nat)≠FZ by decide),λ_ m args' W _ _ ha=>?_⟩;cases ha with
 |cons h1 h2=>
  cases h2 with
  |cons h3 h4=>
   cases h4;cases h1;cases h3;have e:∀ k,Lib.repeatL [48] k=List.replicate k 48:=λk=>by
    induction k with
    |zero=>rfl
    |succ k ih=>rw [List.replicate_succ,<- ih];rfl
   have hs:(⟨⟨[48]⟩⟩:ByteArray).size=1:=rfl;refine (Any.strings_Repeat rpX exX ⟨⟨[48]⟩⟩ k W (by omega) (by rw [hs];omega)).mono λe' W' ⟨he,hw⟩=>⟨_,Ms.2 rfl,by rw [he,show (⟨⟨[48]⟩⟩:ByteArray).data.toList=[48] from rfl,e k],⟨hw⟩⟩
theorem ZS(s:ByteArray)(hs:s.data.toList.length<100000000):KC.Holds Tp W0 m0 ⟨184,[.string s],[.string s]⟩:=by
 have hsz:s.size=s.data.toList.length:=Lib.size_eq s;refine ⟨λe=>absurd e (show (184:Nat)≠FZ by decide),λ_ m args' W _ _ ha=>?_⟩;cases ha with
 |cons h1 h2=>
  cases h2;cases h1;exact (Any.stringslite_Clone { atX with } s W (by omega)).mono λe' W' ⟨he,hw⟩=>⟨_,Ms.2 rfl,he,⟨hw⟩⟩
theorem AaO{rw:Nat}{x y z:ByteArray}(hrow:Go.Abs.AS A rw [.string x,.string y,.string z] 9)(hl:(x.data.toList++y.data.toList++z.data.toList).length<1000)(hk:K (.string ⟨⟨x.data.toList++y.data.toList++z.data.toList⟩⟩) A):
  Abr Tp W0 m0 116 [.slice (some ⟨rw,0,none⟩) 3 3,.string ⟨⟨[]⟩⟩] A K:=by
 intro m w args' r _ _ ha;cases ha with
 |cons hv ht=>
 cases ht with
 |cons h2 h3=>
 cases h3;cases h2;cases hv with
 |@slice a a' n c c' hc hn har=>
 have hcap:c'=3:=by
  have:Bx=18446744073709551616:=rfl
  rcases hc with h | h<;>omega
 subst hcap;obtain ⟨_,hs',d,hm,hoff⟩:=har (by decide);obtain ⟨blk,off,sp⟩:=a';simp only at hs' hm hoff;subst hs';obtain ⟨o',q1,cs',fr,rfl,hr⟩:=r.obj rw _ blk d hrow.row hm;have hcell:∀ (j:Nat) s,[x,y,z][j]? =some s->w.cell? ⟨blk,off+j,none⟩=some (.string s):=λj s hj=>by
  have hj':[Value.string x,.string y,.string z][j]? =some (.string s):=by
   match j,hj with
   |0,hj=>cases hj;rfl
   |1,hj=>cases hj;rfl
   |2,hj=>cases hj;rfl
   |j+3,hj=>simp at hj
  obtain ⟨u,k1,k2,_⟩:=hr j _ hj';simp only [World.cell?,q1,Option.isSome_none,Bool.false_eq_true,if_false];rw [show off+j=d+j by omega,k1,EC 4 (.string s) u rfl (k2 rfl)]
 have hj:Lib.join ([x,y,z].map (·.data.toList)) []=x.data.toList++y.data.toList++z.data.toList:=by simp [Lib.join,List.intercalate]
 refine (Any.strings_Join_many joX exX blk off 3 [x,y,z] ⟨⟨[]⟩⟩ w hcell (Array.getElem?_eq_some_iff.1 q1).1 (show 2<=3 by decide) (show 3<=140737488355328 by decide) (show 3<=3 by decide) (by show (Lib.join ([x,y,z].map (·.data.toList)) []).length<=_;rw [hj];omega)).mono ?_;rintro e w' ⟨rfl,hw⟩;have e2:Lib.join ([x,y,z].map (·.data.toList)) (⟨⟨[]⟩⟩:ByteArray).data.toList=x.data.toList++y.data.toList++z.data.toList:=hj;exact ⟨_,.string ⟨⟨x.data.toList++y.data.toList++z.data.toList⟩⟩,m,A,hk,by rw [e2],.string _,EvL.grow r ⟨hw⟩ _⟩
theorem Abh(A:AW)(a b c:ByteArray):Av Tp A 37 3 [(0,.string a),(1,.string b),(2,.string c)]=(match A.newRow [.string a,.string b,.string c] 9 with | some (a,w')=>.ok (.slice (some a) 3 3) w' | none=>.fail "buildSlice new"):=by kernel_rfl
theorem Zq{a b c:ByteArray}(hf:Aw A)(h:A.next<Am)(hk:∀ A',Made A A' [.string a,.string b,.string c] 9->K (.slice (some ⟨A.next,0,none⟩) 3 3) A'):Au (Av Tp A 37 3 [(0,.string a),(1,.string b),(2,.string c)]) K:=by
 rw [Abh];unfold AW.newRow AW.new;simp only [show ([Value.string a,.string b,.string c].all AT)=true from rfl,Ct,AF.2 h];exact Ba.2 (hk (A.push (.row [Value.string a,.string b,.string c] 9 A.next 0 false)) ⟨AW.B7 _ h,rfl,by rw [AW.BP _ h,if_pos rfl],hf.alone (Nl _),hf.push _ h⟩)
theorem Aeu(hp:Pow W0)(hn:n<100000000)(hf:Aw A)(hA:A.next+20<Am)(hk:∀ A',Grow A A' 3->K (.string ⟨⟨Jr.nm n⟩⟩) A'):Wc Tp DC W0 m0 47 [.int .i64 (n:Int)] A K:=by
 obtain ⟨h8,hnm⟩:=AaH hn;have hpos:=Zj n;refine w47 _ _ BF ?_;rw [e47];refine .inl ⟨_,by decide,AfH hp hn,rfl,λv hv=>?_⟩;rw [Ms.1 hv];have hl:(⟨⟨Lib.decDigits n⟩⟩:ByteArray).data.toList.length=(Lib.decDigits n).length:=rfl;simp only [Ea,Ab,Ci,hl];have e:IntKind.i64.wrap (8-((Lib.decDigits n).length:Int))=((8-(Lib.decDigits n).length:Nat):Int):=by rw [wrap_i64 (by omega) (by omega)];omega
 rw [e];refine .inl ⟨_,by decide,AfG (show 8-(Lib.decDigits n).length<9 by omega),rfl,λv hv=>?_⟩;rw [Ms.1 hv];refine Zq hf (by omega) λA1 m1=>?_;have n1:=m1.next;refine w96 _ _ BF ?_;rw [e96];have hlen:(([106,46]:List UInt8)++List.replicate (8-(Lib.decDigits n).length) 48++Lib.decDigits n).length=9+1:=by
  rw [Lq,Lq,List.length_replicate];show 2+_+_=_;omega
 refine .inr (AaO (x:=⟨⟨[106,46]⟩⟩) (y:=⟨⟨List.replicate (8-(Lib.decDigits n).length) 48⟩⟩) (z:=⟨⟨Lib.decDigits n⟩⟩) m1.BB (by show _<1000;rw [hlen];decide) ?_)
 have:=hk A1 ((Grow.made m1 hf).more (by omega))
 rw [hnm] at this;exact this
end
end Go.Proofs.YtbchfeibhoobeaaGreatDoor
namespace Go.Abs
open Go.ChangeShapes Go.WideShapes Go.ChangeAt Go.RowKit
def okB(n:Nat)(l:List (Nat × List Value × TypeId)):Bool:=Nat.ble n Am&&l.all λx=>Nat.blt x.1 n
def Ua(P:Program)(W:World)(L:List Arg)(l:List (Nat × List Value × TypeId)):Prop:=∀ x∈l,∃ (cs':Array Value) (fr:Nat × Nat),W.heap[x.1]? =some (.cells cs' x.2.2 fr)/\∀ (i:Nat) v,x.2.1[i]? =some v->∃ v',cs'[i]? =some v'/\AL (mR P L) v v'
section
variable {P:Program} {W:World} {gl:List (Nat × List Value × TypeId)} {L:List Arg}
theorem PM{n:Nat}(hok:okB n gl=true)(hk:n+L.length<=Am){i:Nat}{o:AO}(h:(wR n gl L).get i=some o):
  (∃ x∈gl,x.1=i/\i<n/\o=.row x.2.1 x.2.2 i 0 true)\/∃ j p cs e,i=n+j/\L[j]? =some (p,some (cs,e))/\o=.row cs e (n+L.length) 0 true:=by
 have h:(Ma (n+L.length) n L (KI gl)).get? i=some o:=h;rw [FX _ L n _ _ hk] at h;unfold okB at hok;simp only [Bq,List.all_eq_true] at hok;obtain ⟨hn,hl⟩:=hok;have hn:=Bj.1 hn;have glob:(KI gl).get? i=some o->∃ x∈gl,x.1=i/\i<n/\o=.row x.2.1 x.2.2 i 0 true:=by
  intro h;obtain ⟨x,hx,rfl,rfl⟩:=LM gl (λx hx=>Nat.lt_of_lt_of_le (AF.1 (hl x hx)) hn) i o h;exact ⟨x,hx,rfl,AF.1 (hl x hx),rfl⟩
 split at h
 ·exact .inl (glob h)
 ·split at h
  ·rename_i hi p cs e hq;cases h;exact .inr ⟨i-n,p,cs,e,by omega,hq,rfl⟩
  ·exact .inl (glob h)
theorem Np{n:Nat}(hok:okB n gl=true)(hk:n+L.length+1<=Am):Aw (wR n gl L):=by
 refine ⟨λi hi=>?_,λi hi=>?_⟩
 ·have hi:n+L.length+1<=i:=hi;show ((Trie.nil:Trie (List Nat)).put depth (n+L.length) _).get? i=none;rw [Trie.get?_put depth _ _ i _ (by unfold depth Am at *;omega),if_neg (by omega)];rfl
 ·have hi:n+L.length+1<=i:=hi;cases hq:(wR n gl L).get i with
  |none=>rfl
  |some o=>
   rcases PM hok (by omega) hq with ⟨x,_,_,h,_⟩ | ⟨j,p,cs,e,rfl,h,_⟩
   ·omega
   ·have:=(Gs.1 h).1
    omega
theorem ZI(hok:okB P.globals.size gl=true)(hk:P.globals.size+L.length+1<=Am)(hW:Ua P W L gl)(hA:Zz P W L):Rel (mR P L) (wR P.globals.size gl L) W:=by
 have hget:=λ{i:Nat} {o:AO} (h:(wR P.globals.size gl L).get i=some o)=>PM hok (by omega) h;have hlen:(L.map (·.1)).length=L.length:=List.length_map _;have harg:∀ {j:Nat} {p:Nat × Nat} {q:Option (List Value × TypeId)},L[j]? =some (p,q)->mR P L (P.globals.size+j)=some p:=by
  intro j p q h;show mA P _ _=_;rw [Ke,List.getElem?_map,h];rfl
 refine ⟨?_,?_,?_,?_,?_,hk,?_⟩
 ·intro i o c d hi hm;rcases hget hi with ⟨x,hx,rfl,hlt,rfl⟩ | ⟨j,p,cs,e,rfl,hj,rfl⟩
  ·have hm:mA P (L.map (·.1)) x.1=some (c,d):=hm;rw [Ie hlt] at hm;cases hm;obtain ⟨cs',fr,hc,hv'⟩:=hW x hx;refine ⟨_,hc,cs',fr,rfl,λi v hv=>?_⟩;obtain ⟨v',g1,g2⟩:=hv' i v hv;exact ⟨v',by simpa using g1,λ_=>g2,λh=>by cases h⟩
  ·rw [harg hj] at hm;cases hm;obtain ⟨cs',fr,h1,h2,h3⟩:=hA j _ cs e hj;refine ⟨_,h1,cs',fr,rfl,λi v hv=>?_⟩;obtain ⟨v',g1,g2⟩:=h3 i v hv;exact ⟨v',g1,λ_=>g2,λh=>by cases h⟩
 ·intro i cs e b ro hi c d hm;rcases hget hi with ⟨x,hx,rfl,hlt,_⟩ | ⟨j,p,cs2,e2,rfl,hj,he⟩
  ·have hm:mA P (L.map (·.1)) x.1=some (c,d):=hm;rw [Ie hlt] at hm;cases hm;rfl
  ·have:=(Gs.1 hj).1
   simp only [AO.row.injEq] at he;omega
 ·intro i j oi oj c di dj hij hi hj hmi hmj;refine .inl ?_;rcases hget hi with ⟨x,hx,rfl,hlt,rfl⟩ | ⟨j,p,cs2,e2,rfl,_,rfl⟩<;>rcases hget hj with ⟨y,hy,rfl,hlt2,rfl⟩ | ⟨j2,p2,cs3,e3,rfl,_,rfl⟩<;>exact ⟨rfl,rfl⟩
 ·intro i o f b hi hf;have hmem:∀ f,(wR P.globals.size gl L).members f=if f=P.globals.size+L.length then (List.range L.length).map (P.globals.size+·) else [f]:=by
   intro f;show (match ((Trie.nil:Trie (List Nat)).put depth (P.globals.size+L.length) _).get? f with | some l=>l | none=>[f])=_;rw [Trie.get?_put depth _ _ f _ (by unfold depth Am at *;omega)];by_cases h:f=P.globals.size+L.length
   ·rw [if_pos h,if_pos h]
   ·rw [if_neg h,if_neg h];rfl
  rcases hget hi with ⟨x,hx,rfl,hlt,rfl⟩ | ⟨j,p,cs2,e2,rfl,hj,rfl⟩
  ·simp only [AO.fam,Oi,Pj] at hf;obtain ⟨rfl,rfl⟩:=hf;rw [hmem,if_neg (by omega)];exact ⟨by simp,by show x.1<P.globals.size+L.length+1;omega⟩
  ·simp only [AO.fam,Oi,Pj] at hf;obtain ⟨rfl,rfl⟩:=hf
   have:=(Gs.1 hj).1
   rw [hmem,if_pos rfl];exact ⟨List.mem_map.2 ⟨j,List.mem_range.2 this,rfl⟩,by show _<P.globals.size+L.length+1;omega⟩
 ·intro i hi;have hi:P.globals.size+L.length+1<=i:=hi;have hf:=Np (n:=P.globals.size) hok hk;refine ⟨hf.get i hi,?_,hf.fams i hi⟩;show (if i<P.globals.size then some (i,0) else (L.map (·.1))[i-P.globals.size]?)=none;rw [if_neg (by omega)];exact List.getElem?_eq_none (by omega)
 ·intro i cs e f b ro c d hi hm;rcases hget hi with ⟨x,hx,rfl,hlt,he⟩ | ⟨j,p,cs2,e2,rfl,hj,he⟩
  ·cases he;have hm:mA P (L.map (·.1)) x.1=some (c,d):=hm;rw [Ie hlt] at hm;cases hm;obtain ⟨cs',fr,hc,_⟩:=hW x hx;exact ⟨λh=>absurd rfl h,_,_,fr,hc,by show 0+0<=_;omega,λh=>by cases h⟩
  ·cases he;rw [harg hj] at hm;cases hm;obtain ⟨cs',fr,h1,h2,h3⟩:=hA j _ _ _ hj;exact ⟨λh=>absurd rfl h,cs',_,fr,h1,by show _+0<=_;omega,λh=>by cases h⟩
theorem Ur(hok:okB P.globals.size gl=true)(hk:P.globals.size+L.length<=Am)(c:Nat):¬ Own (mR P L) (wR P.globals.size gl L) c:=by
 rintro ⟨i,o,d,hi,hro,_⟩;rcases PM hok hk hi with ⟨x,hx,rfl,hlt,rfl⟩ | ⟨j,p,cs2,e2,rfl,_,rfl⟩<;>cases hro
theorem Xs{R:World->Prop}(hR:∀ W W':World,R W->Go.RowKit.Below W.heap.size W W'->R W'){g:FuncId}(hg:g≠FZ)(h:∀ W,R W->Calls P g #[] W λe W'=>e=.returned (.bool true)/\Low W W'){W0:World}(hW:R W0)(m0:Inj P):
  KC.Holds P W0 m0 ⟨g,[],[.bool true]⟩:=by
 refine ⟨λe=>absurd e hg,λ_=>?_⟩;intro m args' W _ hb ha;cases ha;refine (h W (hR W0 W hW hb)).mono ?_;rintro e W' ⟨rfl,hb'⟩;exact ⟨_,by simp,rfl,hb'⟩
variable {X:Bz} {W0:World} {m0:Inj P}
end
end Go.Abs
namespace Go.Proofs.YtbchfeibhoobeaaGreatDoor
open Go.Abs Go.Jr
variable {p:Prop} {A:AW} {x s f:ByteArray} {K:Value->AW->Prop}
structure GE (A:AW):Prop where
 one:∃ (a f b:Nat) (ro:Bool),A.get 1=some (.row [.iface 225 (pP a 0)] 142 f b ro)/\f<A.next/\f<7
 two:∃ (a f b:Nat) (ro:Bool),A.get 2=some (.row [.iface 225 (pP a 0)] 142 f b ro)/\f<A.next/\f<7
theorem ckY{r:Option Value}{v:Value}(h:r=some v)(hp:p):Aa r λt=>eqW t v p:=⟨v,h,rfl,hp⟩
theorem UQ(x y:ByteArray)(a:Nat):Bp Tp 216 [(0,.string x),(1,.string y),(2,.iface 225 (pP a 0))]=some (.agg ⟨[.string x,.string y,.iface 225 (pP a 0)]⟩):=by kernel_rfl
def VT(x y:ByteArray)(a:Nat):List Value:=[.string x,.string y,.iface 225 (pP a 0)]
theorem RW{q a:Nat}{y:ByteArray}(h:A.get q=some (.row (VT x y a) 216 q 0 false))(hp:p):Dq (BQ Tp (λ_=>.agg ⟨VT x y a⟩) (.box 216 (.tmp 0))) A (pP q 0) p:=by
 refine ⟨⟨.row (VT x y a) 216,rfl,?_⟩,hp⟩;have ha:Go.Abs.sameAddr ⟨a,0,none⟩ ⟨a,0,none⟩=true:=by simp [Go.Abs.sameAddr]
 simp only [Cj,Fy,h,VT,EF,EE,ha,GF,Bool.and_self,Option.isNone_none,Bool.true_and,Nat.beq_refl]
theorem ifP(n:Int):Gc Tp 192 (.int .i64 n)=some (.iface 192 (.int .i64 n)):=by kernel_rfl
theorem XI(xo yo:Operand):Ai Tp .eql 142 xo yo (.iface 192 (.int .i64 2)) (.iface 192 (.int .i64 2))=some (.bool true):=by kernel_rfl
theorem XJ(xo yo:Operand):Ai Tp .eql 142 xo yo (.iface 192 (.int .i64 1)) (.iface 192 (.int .i64 2))=some (.bool false):=by kernel_rfl
theorem XK(xo yo:Operand):Ai Tp .eql 142 xo yo (.iface 192 (.int .i64 1)) (.iface 192 (.int .i64 1))=some (.bool true):=by kernel_rfl
theorem RB(n:Nat):Ai Tp .neq 142 (.tmp n) (.const .nilIface) .nilIface .nilIface=some (.bool false):=by kernel_rfl
theorem Y2(xo yo:Operand):Ai Tp .neq 142 xo yo (.iface 192 (.int .i64 1)) .nilIface=some (.bool true):=by kernel_rfl
theorem Y1(xo yo:Operand):Ai Tp .neq 142 xo yo (.iface 192 (.int .i64 2)) .nilIface=some (.bool true):=by kernel_rfl
def Uv(q:Nat):Value:=.iface 195 (pP q 0)
theorem ifM(q:Nat):Gc Tp 195 (pP q 0)=some (Uv q):=by kernel_rfl
theorem Y0(xo yo:Operand)(q:Nat):Ai Tp .neq 142 xo yo (Uv q) .nilIface=some (.bool true):=by kernel_rfl
section
variable {W0:World} {m0:Inj Tp}
theorem AbW(hl:s.data.toList.length<100000000)(hg:GE A)(hf:Aw A)(hA:A.next+8<Am)(hk:∀ A' q,Grow A A' 2->K (pP q 0) A'):Wc Tp DC W0 m0 162 [.string x,.string s] A K:=by
 refine AeT _ _ _ BF ?_;rw [AfX];obtain ⟨⟨a,f,b,ro,h1,h2,h3⟩,h4⟩:=hg;have l0:∀ {B:AW},B.get 1=some (.row [.iface 225 (pP a 0)] 142 f b ro)->Af Tp B 142 (pP 1 0)=some (.iface 225 (pP a 0)):=λh=>by rw [Xq,Ae h];rfl
 refine Dn (l0 h1) ?_;refine .inl ⟨_,by decide,ZS s hl,rfl,λv hv=>?_⟩;rw [Ms.1 hv];refine ckY (l0 h1) (AR.2 (Dn (UQ x s a) ?_));refine Bk (cs:=VT x s a) hf (by omega) rfl λA2 m2=>?_;have n2:=m2.next;have h7:=(m2.keeps hf).get 1 _ h1 (show f<A.next from h2) (by simp);refine RW m2.row (ckY (UQ x s a) (ckY (l0 h7) (AR.2 (AR.2 ?_))));exact hk A2 A.next ((Grow.made m2 hf).more (by omega))
theorem AbV(hl:s.data.toList.length<100000000)(hg:GE A)(hf:Aw A)(hA:A.next+8<Am)(hk:∀ A' q,Grow A A' 2->K (pP q 0) A'):Wc Tp DC W0 m0 163 [.string x,.string s] A K:=by
 refine AeS _ _ _ BF ?_;rw [AfW];obtain ⟨h4,⟨a,f,b,ro,h1,h2,h3⟩⟩:=hg;have l0:∀ {B:AW},B.get 2=some (.row [.iface 225 (pP a 0)] 142 f b ro)->Af Tp B 142 (pP 2 0)=some (.iface 225 (pP a 0)):=λh=>by rw [Xq,Ae h];rfl
 refine Dn (l0 h1) ?_;refine .inl ⟨_,by decide,ZS s hl,rfl,λv hv=>?_⟩;rw [Ms.1 hv];refine ckY (l0 h1) (AR.2 (Dn (UQ x s a) ?_));refine Bk (cs:=VT x s a) hf (by omega) rfl λA2 m2=>?_;have n2:=m2.next;have h7:=(m2.keeps hf).get 2 _ h1 (show f<A.next from h2) (by simp);refine RW m2.row (ckY (UQ x s a) (ckY (l0 h7) (AR.2 (AR.2 ?_))));exact hk A2 A.next ((Grow.made m2 hf).more (by omega))
theorem Ab2{v2 v3:Value}{c:Int}(hc:c=1\/c=2)(hl:s.data.toList.length<100000000)(hg:GE A)(hf:Aw A)(hA:A.next+8<Am)(hk:∀ A' q,Grow A A' 2->K (Uv q) A'):Wc Tp DC W0 m0 135 [.string x,.string s,v2,v3,.iface 192 (.int .i64 c)] A K:=by
 refine Ae3 _ _ _ _ _ _ BF ?_;rw [Af7];rcases hc with rfl | rfl
 ·refine Dn (ifP _) (Dn (XJ _ _) (Ag.2 ⟨λh=>(by cases h),λ_=>?_⟩));refine Dn (ifP _) (Dn (XK _ _) (Ag.2 ⟨λ_=>?_,λh=>(by cases h)⟩));exact AbV hl hg hf hA λA' q g=>Dn (ifM q) (hk A' q g)
 ·refine Dn (ifP _) (Dn (XI _ _) (Ag.2 ⟨λ_=>?_,λh=>(by cases h)⟩));exact AbW hl hg hf hA λA' q g=>Dn (ifM q) (hk A' q g)
theorem Acd (hl:s.data.toList.length<100000000) (hg:GE A) (hf:Aw A) (hA:A.next+8<Am)
  (hk0:∀ n:Int,Lib.atoiAll s.data.toList=.ok n->K (.tuple ⟨[.int .i64 n,.nilIface]⟩) A) (hk1:∀ A' n q,(∀ v,Lib.atoiAll s.data.toList≠ .ok v)->Grow A A' 2->K (.tuple ⟨[.int .i64 n,Uv q]⟩) A'):Wc Tp DC W0 m0 111 [.string s] A K:=by
 refine Afg _ _ BF ?_;rw [Agk];obtain ⟨n,er,bad,hkc,her,hiff⟩:=Adv (W0:=W0) (m0:=m0) s hl;rcases her with ⟨rfl,rfl⟩ | ⟨rfl,c,hc,rfl⟩
 ·refine .inl ⟨_,by decide,hkc,rfl,λv hv=>?_⟩;rw [Ms.1 hv];simp only [Bw,Bv,Ab,RB];exact Ag.2 ⟨λh=>(by cases h),λ_=>hk0 n ((hiff n).2 ⟨rfl,rfl⟩)⟩
 ·refine .inl ⟨_,by decide,hkc,by rcases hc with rfl | rfl<;>rfl,λv hv=>?_⟩;rw [Ms.1 hv];simp only [Bw,Bv,Ab];refine Dn (v:=.bool true) (by rcases hc with rfl | rfl;exact Y2 _ _;exact Y1 _ _) ?_;refine Ag.2 ⟨λ_=>?_,λh=>(by cases h)⟩;exact Ab2 hc hl hg hf hA λA' q g=>hk1 A' n q (λv h=>by have:=((hiff v).1 h).1;cases this) g
theorem Ace(hl:f.data.toList.length<100000000)(h1:f.data.toList.take 2=[106,46]->K (.tuple ⟨[.string ⟨⟨f.data.toList.drop 2⟩⟩,.bool true]⟩) A)(h0:f.data.toList.take 2≠[106,46]->K (.tuple ⟨[.string f,.bool false]⟩) A):
  Wc Tp DC W0 m0 110 [.string f,.string ⟨⟨[106,46]⟩⟩] A K:=by
 refine Afh _ _ _ BF ?_;rw [Agl];refine Ae4 _ _ _ BF ?_;rw [Af8];refine AeZ _ _ _ BF ?_;rw [Af3];have hl2:(⟨⟨[106,46]⟩⟩:ByteArray).data.toList.length=2:=rfl;simp only [Ea,hl2,Ab,DZ,Ao];refine ⟨λhge=>?_,λhlt=>?_⟩
 ·rw [Q7 (by omega)];simp only [Ab,II,Bg];refine Ag.2 ⟨λh=>?_,λh=>?_⟩
  ·have h:f.data.toList.take 2≠[106,46]:=λhe=>by rw [he] at h;simp at h
   simp only [Bw,Bv,Ab];exact h0 h
  ·have h:f.data.toList.take 2=[106,46]:=by simpa using h
   rw [Aaq (by omega)];simp only [Ab,Bw,Bv];exact h1 h
 ·simp only [Ab,Bg];refine Ag.2 ⟨λ_=>?_,λh=>by simp at h⟩;simp only [Bw,Bv,Ab];refine h0 λh=>?_
  have:=congrArg List.length h
  rw [List.length_take] at this
  have:min 2 f.data.toList.length=2:=this
  omega
theorem Aeg(hp:Pow W0)(hl:f.data.toList.length<100000000)(hN:∀ n:Nat,n<100000000->KC.Holds Tp W0 m0 ⟨47,[.int .i64 (n:Int)],[.string ⟨⟨Jr.nm n⟩⟩]⟩)(hg:GE A)(hf:Aw A)(hA:A.next+8<Am):
  Wc Tp DC W0 m0 88 [.string f] A λv _=>v=.int .i64 (numOf f.data.toList:Int):=by
 have hno:∀ {P:Prop},(numOf f.data.toList≠0->False)->((Value.int .i64 0)=.int .i64 (numOf f.data.toList:Int)):=λh=>by
  have:numOf f.data.toList=0:=Classical.byContradiction h
  rw [this];rfl
 have hv:numOf f.data.toList≠0->f.data.toList.take 2=[106,46]/\Lib.atoiAll (f.data.toList.drop 2)=.ok (numOf f.data.toList:Int)/\numOf f.data.toList<100000000:=λh=>by
  have e:=KX h;have hlt:numOf f.data.toList<100000000:=by
   rcases Go.Jr.HC f.data.toList with h1 | h1
   ·exact h1
   ·exact absurd h1 h
  have e2:f.data.toList.drop 2=dig 8 (numOf f.data.toList):=by
   conv=>lhs;rw [e]
   rfl
  refine ⟨?_,by rw [e2];exact Ye hlt,hlt⟩
  conv=>lhs;rw [e]
  rfl
 refine w88 _ _ BF ?_;rw [e88];have rest:∀ (s:ByteArray) (b:Bool),s.data.toList.length<100000000->(b=true->s.data.toList=f.data.toList.drop 2)->(b=false->f.data.toList.take 2≠[106,46])->
   Wc Tp DC W0 m0 111 [.string s] A λt3 At3=>Aa (Ap t3 0) λt4=>Aa (Ap t3 1) λt5=>Aa (unA Tp .not (.bool b)) λt6=>Ah t6 ((.int .i64 0)=(.int .i64 (numOf f.data.toList:Int):Value)) (Aa (Ai Tp .neq 142 (.tmp 20) (.const .nilIface) t5 .nilIface) λt7=>Ah t7 ((.int .i64 0)=(.int .i64 (numOf f.data.toList:Int):Value)) (Aa (Ai Tp .lss 3 (.tmp 24) (.const (.int .i64 1)) t4 (.int .i64 1)) λt8=>Ah t8 ((.int .i64 0)=(.int .i64 (numOf f.data.toList:Int):Value)) (Aa (Ai Tp .gtr 3 (.tmp 28) (.const (.int .i64 99999999)) t4 (.int .i64 99999999)) λt9=>Ah t9 ((.int .i64 0)=(.int .i64 (numOf f.data.toList:Int):Value)) (knW Tp W0 m0 47 [t4] At3 λt10 At10=>Aa (Ai Tp .neq 9 (.tmp 33) (.tmp 34) t10 (.string f)) λt11=>Ah t11 ((.int .i64 0)=(.int .i64 (numOf f.data.toList:Int):Value)) (t4=(.int .i64 (numOf f.data.toList:Int):Value)))))):=by
  intro s b hs hb1 hb0;refine Acd hs hg hf hA (λn hok=>?_) (λA' n q hbad g=>?_)
  ·simp only [Bw,Bv,Ab,Bg];refine Ag.2 ⟨λh=>hno (P:=True) λh0=>hb0 (by simpa using h) (hv h0).1,λh=>?_⟩;have hb:b=true:=by simpa using h
   have hs2:=hb1 hb;rw [hs2] at hok;simp only [RB,Ab];refine Ag.2 ⟨λh=>(by cases h),λ_=>?_⟩;have hn:numOf f.data.toList≠0->n=(numOf f.data.toList:Int):=λh0=>by
    have:=(hv h0).2.1
    rw [hok] at this;cases this;rfl
   simp only [AU,BN,Ab,Ao];refine ⟨λh1=>hno (P:=True) λh0=>by have:=hn h0;have:=(hv h0).2.2;omega,λh1=>⟨λh2=>hno (P:=True) λh0=>by have:=hn h0;have:=(hv h0).2.2;omega,λh2=>?_⟩⟩;obtain ⟨u,rfl⟩:∃ u:Nat,n=(u:Int):=⟨n.toNat,by omega⟩;refine .inl ⟨_,by decide,hN u (by omega),rfl,λv hv'=>?_⟩;rw [Ms.1 hv'];simp only [GY,Ab];refine Ag.2 ⟨λh=>hno (P:=True) λh0=>?_,λh=>?_⟩
   ·have e1:=hn h0;have e2:=KX h0;have e3:u=numOf f.data.toList:=by omega
    rw [e3] at h
    have:(Jr.nm (numOf f.data.toList)==f.data.toList)=true:=beq_iff_eq.2 e2.symm
    simp [this] at h
   ·have h:Jr.nm u=f.data.toList:=by simpa using h
    have e:=KW (n:=u) (by omega);rw [h] at e;rw [e]
  ·simp only [Bw,Bv,Ab,Bg];have h00:numOf f.data.toList≠0->b=true->False:=λh0 hb=>hbad _ (by rw [hb1 hb];exact (hv h0).2.1);refine Ag.2 ⟨λh=>hno (P:=True) λh0=>hb0 (by simpa using h) (hv h0).1,λh=>?_⟩;have hb:b=true:=by simpa using h
   simp only [Y0,Ab];exact Ag.2 ⟨λ_=>hno (P:=True) λh0=>h00 h0 hb,λh=>(by cases h)⟩
 refine Ace hl (λh=>?_) (λh=>?_)
 ·simp only [Bw,Bv,Ab];exact rest ⟨⟨f.data.toList.drop 2⟩⟩ true (by show (f.data.toList.drop 2).length<_;rw [List.length_drop];omega) (λ_=>rfl) (λh=>by cases h)
 ·simp only [Bw,Bv,Ab];exact rest f false hl (λh=>by cases h) (λ_=>h)
end
end Go.Proofs.YtbchfeibhoobeaaGreatDoor
namespace Go.Proofs.YtbchfeibhoobeaaGreatDoor
open Go.Abs Go.Crc
variable {w n p:Nat} {A:AW} {K:Value->AW->Prop} {x:Value} {l:List UInt8} {F:List Nat}
theorem Abf(A:AW)(a b c d:Int):Av Tp A 41 4 [(0,.int .u8 a),(1,.int .u8 b),(2,.int .u8 c),(3,.int .u8 d)]=(match A.newRow [.int .u8 a,.int .u8 b,.int .u8 c,.int .u8 d] 5 with | some (a,w')=>.ok (.slice (some a) 4 4) w' | none=>.fail "buildSlice new"):=by kernel_rfl
theorem AdT(o:Option Addr)(n c:Nat):Bp Tp 212 [(0,.slice o n c)]=some (.agg ⟨[.slice o n c,.bool false]⟩):=by kernel_rfl
section
variable {W0:World} {m0:Inj Tp}
theorem AbQ{w:Int}(hk:K (.bool (w==1 || (w==2 || (w==4 || w==8)))) A):Wc Tp An W0 m0 180 [.int .i64 w] A K:=by
 refine AeP _ _ BF ?_;rw [AfT];simp only [Bo,Ab,Be];refine ⟨λh=>by subst h;exact hk,λh1=>⟨λh=>by subst h;exact hk,λh2=>⟨λh=>by subst h;exact hk,λh3=>?_⟩⟩⟩
 have:(w==1 || (w==2 || (w==4 || w==8)))=(w==8):=by rw [beq_false_of_ne h1,beq_false_of_ne h2,beq_false_of_ne h3];rfl
 rw [this] at hk;exact hk
theorem Ab4 (hf:Aw A) (hA:A.next+20<Am) (hn:n<18446744073709551616) (hw:w<=8)
  (hk:∀ A' v F,Grow A A' 16->Buf 5 A' v (be n w) F->(∀ x∈F,A.next<=x)->K v A'):Wc Tp An W0 m0 131 [.int .u64 (n:Int),.int .i64 (w:Int)] A K:=by
 let I:Nat->Nat->List Value->AW->Prop:=λg id vals A'=>id=0/\∃ (i:Nat) (v:Value) (F:List Nat),vals=[.int .u64 ((n/256^i:Nat):Int),.int .i64 (w:Int),v,.int .i64 (i:Int)]/\i<=w/\
  Buf 5 A' v (be n i) F/\(∀ x∈F,A.next<=x)/\Grow A A' (2*i)/\g=w-i
 refine Ae6 _ _ _ (c131 (I:=I) ?_) ?_
 ·rintro g id vals A' d ⟨rfl,i,v,F,rfl,hi,hb,hF,hg,rfl⟩ hd;rw [AaU];simp only [Yp,Mc,Mn,Li,and_true] at hd;obtain ⟨h0,h1,h5,h6⟩:=hd;have hnx:=hg.next;have hq:n/256^i<18446744073709551616:=Nat.lt_of_le_of_lt (Nat.div_le_self _ _) hn;obtain ⟨q,hqd⟩:∃ q,n/256^i=q:=⟨_,rfl⟩;rw [hqd] at h0 hq;simp only [h0,h1,h5,h6,AU,Ab,Ao];refine ⟨λhlt=>?_,λhge=>?_⟩
  ·have hlt:i<w:=by omega
   rw [QB (by decide),QC (by decide)];simp only [Ab,N9,Ba];have hx:IntKind.u8.wrap ((q:Int).tmod 256)=((UInt8.ofNat q).toNat:Int):=by
    rw [wrap_u8,NK,Int.tmod_eq_emod_of_nonneg (by omega)];omega
   have hq2:IntKind.u64.wrap ((q:Int).tdiv 256)=((n/256^(i+1):Nat):Int):=by
    have e:n/256^(i+1)=q/256:=by rw [Nat.pow_succ,<- Nat.div_div_eq_div_mul,hqd]
    rw [Int.tdiv_eq_ediv_of_nonneg (by omega),wrap_u64 (by omega) (by omega),e];omega
   rw [hx,hq2];refine Zo hg.Ay (by omega) λA2 m2=>?_;have n2:=m2.next;have hb2:=hb.keeps (m2.keeps hg.Ay) (by simp);refine C7 tb (AgA m2.BB) (C6 tb hb2.rd) m2.Ay (by omega) (by rw [Ef];have:room=68719476736:=rfl;simp;omega) λv3 A3 F3 hb3 k3 hF3 n3 f3=>?_;simp only [AY,Ab];rw [wrap_i64 (by omega) (by omega)];have hnx2:=hg.le;refine Ar.2 ⟨w-(i+1),by omega,rfl,i+1,v3,F3,rfl,by omega,by rw [be,hqd];exact hb3,λx hx=>?_,?_,rfl⟩
   ·rcases hF3 x hx with h | h
    ·simp at h;omega
    ·omega
   ·exact ((hg.trans (.made m2 hg.Ay)).own k3 (by simp;omega) (m:=1) (by omega) f3).more (by omega)
  ·have hi:i=w:=by omega
   subst hi;exact hk A' v F (hg.more (by omega)) hb hF
 ·rw [Aga];refine Ar.2 ⟨w,rfl,0,.slice none 0 0,[],by simp,by omega,.nil _ _,by simp,.refl hf,rfl⟩
theorem AbX {s0 : Nat} (h : RdB A x l F) (hl : l.length < 1000000) (hs : s0 < 4294967296) (hk : K (.int .u32 ((4294967295 - I8 (4294967295 - s0) l : Nat) : Int)) A) : Wc Tp An W0 m0 160 [.int .u32 (s0 : Int), x] A K := by
  let I : Nat -> Nat -> List Value -> AW -> Prop := λg id vals A' => A' = A /\
    ((id = 0 /\ ∃ i : Nat, vals = [x, .int .u32 ((I8 (4294967295 - s0) (l.take i) : Nat) : Int), .int .i64 (i : Int)] /\ g = 10 * (l.length - i) /\ i <= l.length) \/
     (id = 2 /\ ∃ (i k r : Nat) (c : UInt8), vals = [x, .int .u32 ((Go.Crc.bits k (r ^^^ c.toNat) : Nat) : Int), .int .i64 (i : Int), .int .i64 (k : Int)] /\ g = 10 * (l.length - i - 1) + (9 - k) /\ i < l.length /\ k <= 8 /\ r < 4294967296 /\ r = I8 (4294967295 - s0) (l.take i) /\ l[i]? = some c))
  refine AeU _ _ _ (c160 (I := I) ?_) ?_
  · rintro g id vals A' d ⟨rfl, ⟨rfl, i, rfl, rfl, hi⟩ | ⟨rfl, i, k, r, c, rfl, rfl, hi, hk8, hr, hre, hc⟩⟩ hd
    · rw [AaR]
      simp only [T9, Mc, Mn, Li, and_true] at hd
      obtain ⟨h1, h5, h6⟩ := hd
      have hr : I8 (4294967295 - s0) (l.take i) < 4294967296 := Qx _ (by omega)
      obtain ⟨r, hre⟩ : ∃ r, I8 (4294967295 - s0) (l.take i) = r := ⟨_, rfl⟩
      rw [hre] at h5 hr
      simp only [h1, h5, h6, h.len tb, AU, Ab, Ao]
      refine ⟨λhlt => ?_, λhge => ?_⟩
      · have hlt : i < l.length := by omega
        have hc := Ge hlt
        obtain ⟨a, a1, a2⟩ := h.at tb hc
        have hcl := Nd l[i]
        have ec : IntKind.u32.wrap ((l[i].toNat : Nat) : Int) = ((l[i].toNat : Nat) : Int) := wrap_u32 hcl
        simp only [a1, Kg, a2, Ab, UM, Ba, ec, Jy hr hcl]
        exact Ar.2 ⟨10 * (l.length - i - 1) + 9, by omega, rfl, .inr ⟨rfl, i, 0, r, l[i], rfl, rfl, hlt, by omega, hr, hre.symm, hc⟩⟩
      · have hi' : i = l.length := by omega
        rw [hi', List.take_length] at hre
        rw [Kz hr]
        refine Ab.2 ?_
        rw [<- hre]
        exact hk
    · rw [AaQ]
      simp only [T9, Mc, Mn, Li, and_true] at hd
      obtain ⟨h1, h5, h6, h7⟩ := hd
      have hb : Go.Crc.bits k (r ^^^ c.toNat) < 4294967296 := Nf k (Nat.xor_lt_two_pow (n := 32) hr (Nd c))
      obtain ⟨q, hq⟩ : ∃ q, Go.Crc.bits k (r ^^^ c.toNat) = q := ⟨_, rfl⟩
      rw [hq] at h5 hb
      simp only [h1, h5, h6, h7, AU, Ab, Ao]
      refine ⟨λhlt => ?_, λhge => ?_⟩
      · have hlt : k < 8 := by omega
        rw [QB (by decide), QC (by decide)]
        have e1 : (q : Int).tmod 2 = ((q % 2 : Nat) : Int) := by rw [Int.tmod_eq_emod_of_nonneg (by omega)]; omega
        have e2 : IntKind.u32.wrap ((q : Int).tdiv 2) = ((q / 2 : Nat) : Int) := by
          rw [Int.tdiv_eq_ediv_of_nonneg (by omega), show (q : Int) / 2 = ((q / 2 : Nat) : Int) by omega]
          exact wrap_u32 (by omega)
        rw [e1, e2]
        simp only [Ab, Bo, Be]
        have enext : Go.Crc.bits (k + 1) (r ^^^ c.toNat) = LC q := by rw [Od, hq]; rfl
        refine ⟨λho => ?_, λho => ?_⟩
        · have ho : q % 2 = 1 := by omega
          have hx := Jy (P := Tp) (t := 24) (xo := .tmp 34) (yo := .const (.int .u32 2197175160)) (a := q / 2) (b := 2197175160) (by omega) (by decide)
          have hx' : Ai Tp .xor 24 (.tmp 34) (.const (.int .u32 2197175160)) (.int .u32 ((q / 2 : Nat) : Int)) (.int .u32 2197175160) = some (.int .u32 (((q / 2) ^^^ 2197175160 : Nat) : Int)) := hx
          rw [hx']
          simp only [Ab, AY]
          rw [wrap_i64 (by omega) (by omega)]
          have e : LC q = (q / 2) ^^^ 2197175160 := by unfold LC; rw [if_pos ho]
          refine Ar.2 ⟨10 * (l.length - i - 1) + (9 - (k + 1)), by omega, rfl, .inr ⟨rfl, i, k + 1, r, c, by rw [enext, e]; rfl, rfl, hi, by omega, hr, hre, hc⟩⟩
        · have ho : ¬ q % 2 = 1 := by omega
          simp only [Ab, AY]
          rw [wrap_i64 (by omega) (by omega)]
          have e : LC q = q / 2 := by unfold LC; rw [if_neg ho]
          refine Ar.2 ⟨10 * (l.length - i - 1) + (9 - (k + 1)), by omega, rfl, .inr ⟨rfl, i, k + 1, r, c, by rw [enext, e]; rfl, rfl, hi, by omega, hr, hre, hc⟩⟩
      · have hk' : k = 8 := by omega
        subst hk'
        simp only [AY, Ab]
        rw [wrap_i64 (by omega) (by omega)]
        refine Ar.2 ⟨10 * (l.length - (i + 1)), by omega, rfl, .inl ⟨rfl, i + 1, ?_, rfl, by omega⟩⟩
        rw [List.take_add_one, hc]
        have e : I8 (4294967295 - s0) (l.take i ++ (some c).toList) = q := by
          rw [ME, <- hre, <- hq]; rfl
        rw [e]; rfl
  · rw [AfY]
    rw [Kz hs]
    simp only [Ab]
    exact Ar.2 ⟨10 * l.length, rfl, .inl ⟨rfl, 0, rfl, rfl, by omega⟩⟩
theorem Ab3(h:RdB A x l F)(hl:l.length<1000000)(hk:K (.int .u32 ((EV l:Nat):Int)) A):Wc Tp An W0 m0 132 [x] A K:=by
 refine Ae5 _ _ BF ?_;rw [Af9];exact AbX (s0:=0) h hl (by decide) hk
theorem Zn{a b c d:Int}(hf:Aw A)(h:A.next<Am)(hk:∀ A',Made A A' [.int .u8 a,.int .u8 b,.int .u8 c,.int .u8 d] 5->K (.slice (some ⟨A.next,0,none⟩) 4 4) A'):Au (Av Tp A 41 4 [(0,.int .u8 a),(1,.int .u8 b),(2,.int .u8 c),(3,.int .u8 d)]) K:=by
 rw [Abf];unfold AW.newRow AW.new;have hc:([Value.int .u8 a,.int .u8 b,.int .u8 c,.int .u8 d].all AT)=true:=rfl;simp only [hc,Ct,AF.2 h];exact Ba.2 (hk (A.push (.row [.int .u8 a,.int .u8 b,.int .u8 c,.int .u8 d] 5 A.next 0 false)) ⟨AW.B7 _ h,rfl,by rw [AW.BP _ h,if_pos rfl],hf.alone (Nl _),hf.push _ h⟩)
theorem Wl (h:RdB A x l F) (hf:Aw A) (hA:A.next+5<Am) (hl:l.length<900000)
  (hk:∀ A' v F',Grow A A' 3->Buf 5 A' v (Go.Crc.Dy l) F'->(∀ x∈F',A.next<=x)->K v A'):Wc Tp An W0 m0 109 [x] A K:=by
 have hroom:room=68719476736:=rfl;refine Afi _ _ BF ?_;rw [Agn];refine Ab3 h (by omega) ?_;refine C7 tb (Buf.nil 5 A) (C6 tb h) hf (by omega) (by simp;omega) λv1 A1 F1 b1 k1 hF1 n1 f1=>?_;rw [List.nil_append] at b1;have g1:Grow A A1 1:=(Grow.refl hf).own k1 (by simp) (m:=1) (by omega) f1 |>.more (by omega);have hF1':∀ x∈F1,A.next<=x:=λx hx=>by
  rcases hF1 x hx with h | h
  ·simp at h
  ·exact h
 obtain ⟨s,hse⟩:∃ s,EV l=s:=⟨_,rfl⟩;rw [hse];simp only [Nc,Ba];rw [Ip (by decide),Ip (by decide),Ip (by decide)];simp only [Ab,Nc,Ba];have b0:IntKind.u8.wrap (s:Int)=((UInt8.ofNat (s/256^0)).toNat:Int):=by rw [<- Im s 0];simp
 have b1':IntKind.u8.wrap ((s:Int).fdiv (2^(min (8:Int).toNat (IntKind.bits .u32))))=((UInt8.ofNat (s/256^1)).toNat:Int):=Im s 1;have b2':IntKind.u8.wrap ((s:Int).fdiv (2^(min (16:Int).toNat (IntKind.bits .u32))))=((UInt8.ofNat (s/256^2)).toNat:Int):=Im s 2;have b3':IntKind.u8.wrap ((s:Int).fdiv (2^(min (24:Int).toNat (IntKind.bits .u32))))=((UInt8.ofNat (s/256^3)).toNat:Int):=Im s 3;rw [b0,b1',b2',b3'];refine Zn f1 (by omega) λA2 m2=>?_;have n2:=m2.next;have e4:[UInt8.ofNat (s/256^0),UInt8.ofNat (s/256^1),UInt8.ofNat (s/256^2),UInt8.ofNat (s/256^3)]=le4 s:=by simp [le4]
 have r2:Go.Abs.AS A2 A1.next (AI (le4 s)) 5:=by rw [<- e4];exact m2.BB
 have hb2:Buf 5 A2 (.slice (some ⟨A1.next,0,none⟩) 4 4) (le4 s) [A1.next]:=X0 r2 (by simp [le4]);have g2:=g1.trans (.made m2 f1);refine C7 tb (b1.keeps (m2.keeps f1) (by simp)) (C6 tb hb2.rd) m2.Ay (by omega) (by simp [le4];omega) λv3 A3 F3 b3 k3 hF3 n3 f3=>?_;have e:l++le4 s=Go.Crc.Dy l:=by unfold Go.Crc.Dy;rw [hse]
 rw [e] at b3;have hle:=g1.le;refine hk A3 v3 F3 ((g2.own k3 hF1' (m:=1) (by omega) f3).more (by omega)) b3 λx hx=>?_;rcases hF3 x hx with h | h
 ·exact hF1' x h
 ·omega
structure RR (A:AW) (p:Nat) (l:List UInt8) (bad:Bool) (F:List Nat):Prop where
 ex:∃ bs,Go.Abs.AS A p [bs,.bool bad] 212/\RdS 5 A bs l F
 hb:bad=true->l=[]
 hp:p∉F
theorem AbP{bad:Bool}(h:RR A p l bad F)(hf:Aw A)(hA:A.next<Am)(hk:∀ A',RR A' p [] true []->Aj A A' [p]->A'.next=A.next->Aw A'->K (.tuple ⟨[]⟩) A'):Wc Tp An W0 m0 181 [pP p 0] A K:=by
 obtain ⟨bs,h1,h2⟩:=h.ex;refine AeO _ _ BF ?_;rw [AfS];simp only [Al,R5,R4,Ab,Nat.zero_add];refine h1.store hf (by omega) (JZ _ _ _) rfl (by simp) rfl λA2 r2 k2 n2 f2=>?_;have r2:Go.Abs.AS A2 p [bs,.bool true] 212:=r2;refine r2.store f2 (by omega) (Uj _ _ _) rfl (by simp) rfl λA3 r3 k3 n3 f3=>?_;have r3:Go.Abs.AS A3 p [.slice none 0 0,.bool true] 212:=r3;exact hk A3 ⟨⟨_,r3,.nil _ _⟩,λ_=>rfl,by simp⟩ (k2.trans k3 (λx hx=>.inl hx)) (by omega) f3
theorem AbO {s:St} (h:RR A p s.1 s.2 F) (hf:Aw A) (hA:A.next+4<Am) (hl:s.1.length<1000000) (hn:n<1000000)
  (hk:∀ A' x F' Fo,RR A' p (tk n s).2.1 (tk n s).2.2 F'->RdS 5 A' x (tk n s).1 Fo->Aj A A' [p]->A'.next<=A.next+2->Aw A'->(∀ y∈F',y∈F)->(∀ y∈Fo,A.next<=y)->K x A'):Wc Tp An W0 m0 182 [pP p 0,.int .i64 (n:Int)] A K:=by
 have hroom:room=68719476736:=rfl;obtain ⟨l,bad⟩:=s;have h:RR A p l bad F:=h;obtain ⟨bs,h1,h2⟩:=h.ex;refine AeN _ _ _ BF ?_;rw [AfR];have spoil:(bad=true\/l.length<n)->Wc Tp An W0 m0 181 [pP p 0] A λ_ A'=>K (.slice none 0 0) A':=λhb=>by
  refine AbP h hf (by omega) λA' o' k' n' f'=>?_;have e:tk n (l,bad)=([],([],true)):=by unfold tk;rw [if_pos hb]
  rw [e] at hk;exact hk A' (.slice none 0 0) [] [] o' (.nil _ _) k' (by omega) f' (by simp) (by simp)
 simp only [Al,R5,R4,Fh,RK,Ae h1.row,cellOf,h2.rd.one.2,Bt,Cf,h2.rd.len tb,AU,BN,Ab,Ao,Nat.zero_add];refine Ag.2 ⟨λhb=>spoil (.inl hb),λhb=>⟨λh=>by omega,λ_=>⟨λh=>spoil (.inr (by omega)),λhle=>?_⟩⟩⟩;have hle:n<=l.length:=by omega
 obtain ⟨x1,hx1,s1⟩:=h2.to tb hle;have e:tk n (l,bad)=(l.take n,(l.drop n,false)):=by unfold tk;rw [if_neg (by simp [hb];omega)]
 rw [e] at hk;simp only [hx1,Ab];refine C7 tb (Buf.nil 5 A) (C6 tb s1.rd) hf (by omega) (by rw [List.length_take];simp;omega) λx2 A2 F2 b2 k2 hF2 n2 f2=>?_;rw [List.nil_append] at b2;have q2:=h1.keeps k2 (by simp);have t2:=h2.keeps k2 (by simp);obtain ⟨x3,hx3,s3⟩:=t2.from tb hle
 simp only [RK,Ae q2.row,cellOf,h2.rd.one.2,Cf,hx3,Ab];obtain ⟨o3,c3,hx⟩:=s3.rd.slice;refine q2.store f2 (by omega) (Uj _ _ _) (by rw [hx];rfl) (by simp) (by rw [hx];rfl) λA3 r3 k3 n3 f3=>?_;have r3:Go.Abs.AS A3 p [x3,.bool bad] 212:=by rw [hx] at r3 ⊢;exact r3
 rw [hb] at r3;have hpF:=h.hp;have hF2':∀ y∈F2,A.next<=y:=λy hy=>by
  rcases hF2 y hy with h | h
  ·simp at h
  ·exact h
 have hplt:=h1.lt;refine hk A3 x2 F F2 ⟨⟨x3,r3,s3.keeps k3 λy hy=>by simp;intro h0;subst h0;exact hpF hy⟩,by simp,h.hp⟩ (b2.rdS.keeps k3 λy hy=>by have:=hF2' y hy;simp;omega) ?_ (by omega) f3 (λy hy=>hy) hF2';exact k2.more (by simp) |>.trans k3 (λy hy=>.inl hy)
theorem ZB {s:St} (h:RR A p s.1 s.2 F) (hf:Aw A) (hA:A.next+4<Am) (hl:s.1.length<1000000) (hw:w=1\/w=2\/w=4\/w=8)
  (hk:∀ A' F',RR A' p (nm w s).2.1 (nm w s).2.2 F'->Aj A A' [p]->A'.next<=A.next+2->Aw A'->(∀ y∈F',y∈F)->K (.int .u64 ((nm w s).1:Int)) A'):Wc Tp An W0 m0 159 [pP p 0,.int .i64 (w:Int)] A K:=by
 have hlen:=Wz w s;let I:Nat->Nat->List Value->AW->Prop:=λg' id vals A'=>id=0/\∃ (i:Nat) (x:Value) (F' Fo:List Nat),vals=[x,.int .u64 (FU ((tk w s).1.take i):Nat),.int .i64 (i:Int)]/\i<=(tk w s).1.length/\
  RdS 5 A' x (tk w s).1 Fo/\RR A' p (tk w s).2.1 (tk w s).2.2 F'/\Aj A A' [p]/\A'.next<=A.next+2/\Aw A'/\(∀ y∈F',y∈F)/\g'=(tk w s).1.length-i
 refine AeV _ _ _ (c159 (I:=I) ?_) ?_
 ·rintro g' id vals A' d ⟨rfl,i,x,F',Fo,rfl,hi,hx,ho,k,n,f,hF,rfl⟩ hd;rw [AaS];simp only [Yn,Mc,Mn,Li,and_true] at hd;obtain ⟨h5,h6,h7⟩:=hd;simp only [h5,h6,h7,hx.rd.len tb,AU,Ab,Ao];refine ⟨λhlt=>?_,λhge=>?_⟩
  ·have hlt:i<(tk w s).1.length:=by omega
   obtain ⟨c,hc⟩:∃ c,(tk w s).1[i]? =some c:=⟨_,Ge hlt⟩;obtain ⟨a,a1,a2⟩:=hx.rd.at tb hc;have hcl:c.toNat<256:=c.toNat_lt;have hb1:=Jc ((tk w s).1.take (i+1));have e1:(tk w s).1.take (i+1)=(tk w s).1.take i++[c]:=by rw [List.take_add_one,hc];rfl
   rw [e1,GZ] at hb1;have hp:(256:Nat)^((tk w s).1.take i++[c]).length<=256^8:=Nat.pow_le_pow_right (by decide) (by rw [<- e1,List.length_take];omega);have hp8:(256:Nat)^8=18446744073709551616:=by decide
   simp only [a1,a2,Ab,Sj,Ba,AY,LD];rw [wrap_u64 (n:=256*(FU ((tk w s).1.take i):Int)) (by omega) (by omega),wrap_u64 (n:=(c.toNat:Int)) (by omega) (by omega),wrap_u64 (by omega) (by omega),wrap_i64 (by omega) (by omega)];refine Ar.2 ⟨(tk w s).1.length-(i+1),by omega,rfl,i+1,x,F',Fo,?_,by omega,hx,ho,k,n,f,hF,rfl⟩;have e9:256*(FU ((tk w s).1.take i):Int)+(c.toNat:Int)=((FU ((tk w s).1.take i)*256+c.toNat:Nat):Int):=by omega
   rw [e1,GZ,e9];rfl
  ·have hi:i=(tk w s).1.length:=by omega
   subst hi;rw [List.take_length];exact hk A' F' ho k n f hF
 ·rw [AfZ];refine AbQ ?_;have hb:((w:Int)==1 || ((w:Int)==2 || ((w:Int)==4 || (w:Int)==8)))=true:=by rcases hw with rfl | rfl | rfl | rfl<;>rfl
  rw [hb];simp only [Bg,Ab];refine Ag.2 ⟨λh=>by simp at h,λ_=>?_⟩;refine AbO h hf hA hl (by omega) λA' x F' Fo ho hx k n f hF hFo=>?_;exact Ar.2 ⟨(tk w s).1.length,rfl,0,x,F',Fo,rfl,Nat.zero_le _,hx,ho,k,n,f,hF,rfl⟩
theorem AbY (h:RdB A x l F) (hf:Aw A) (hA:A.next+6<Am) (hl:l.length<1000000)
  (hk:∀ A' p F',Grow A A' 2->RR A' p l false F'->A.next<=p->(∀ y∈F',A.next<=y)->K (pP p 0) A'):Wc Tp An W0 m0 158 [x] A K:=by
 have hroom:room=68719476736:=rfl;refine AeW _ _ BF ?_;rw [Af0];refine C7 tb (Buf.nil 5 A) (C6 tb h) hf (by omega) (by simp;omega) λx2 A2 F2 b2 k2 hF2 n2 f2=>?_;rw [List.nil_append] at b2;have hF2':∀ y∈F2,A.next<=y:=λy hy=>by
  rcases hF2 y hy with h | h
  ·simp at h
  ·exact h
 obtain ⟨o,c,e1⟩:=b2.rd.slice;have hlt:=b2.lt;have l2:=k2.next;rw [e1,AdT];simp only [Ab];rw [<- e1];refine Bk (cs:=[x2,.bool false]) f2 (by omega) (by simp [b2.rd.one.1,Ry]) λA3 m3=>?_;have n3:=m3.next;exact hk A3 A2.next F2 ⟨k2.trans (m3.keeps f2) (by simp),m3.Ay,by omega⟩ ⟨⟨x2,m3.BB,b2.rdS.keeps (m3.keeps f2) (by simp)⟩,by simp,λhm=>by have:=hlt _ hm;omega⟩ (by omega) hF2'
theorem ZC (h:RdS 5 A x l F) (hf:Aw A) (hA:A.next+10<Am) (hl:l.length<800000)
  (h1:Ck l=true->∀ A' v F',Grow A A' 8->RdB A' v (l.take (l.length-4)) F'->(∀ y∈F',A.next<=y)->K (.tuple ⟨[v,.bool true]⟩) A') (h2:Ck l=false->∀ A',Grow A A' 8->K (.tuple ⟨[.slice none 0 0,.bool false]⟩) A'):
  Wc Tp An W0 m0 157 [x] A K:=by
 have hroom:room=68719476736:=rfl;refine AeX _ _ BF ?_;rw [Af1];simp only [h.rd.len tb,Ab,AU,Ao,Ci];refine ⟨λhlt=>h2 (KE (by omega)) A ((Grow.refl hf).more (by omega)),λhge=>?_⟩;rw [wrap_i64 (by omega) (by omega)];have e4:(l.length:Int)-4=((l.length-4:Nat):Int):=by omega
 have h4:4<=l.length:=by omega
 rw [e4];obtain ⟨v,hv,hs⟩:=h.to tb (n:=l.length-4) (by omega);rw [hv];simp only [Ab];rw [h.rd.str tb];refine Ba.2 ?_;refine Wl hs.rd hf (by omega) (by rw [List.length_take];omega) λA2 v2 F2 g2 b2 hF2=>?_;have n2:=g2.next;have hx2:=h.keeps g2.keeps (by simp);have hs2:=hs.keeps g2.keeps (by simp);rw [hx2.rd.str tb,b2.rd.str tb];simp only [Ba,AR,GY,Ab];have hse:Ck l=(Dy (l.take (l.length-4))==l):=by
  unfold Ck;rw [decide_eq_true h4,Bool.true_and,Bool.beq_comm]
 refine Ag.2 ⟨λhb=>h2 ?_ A2 (g2.more (by omega)),λhb=>?_⟩
 ·rw [hse]
  simpa using hb
 ·refine C7 tb (Buf.nil 5 A2) (C6 tb hs2.rd) g2.Ay (by omega) (by rw [List.length_take];simp;omega) λv3 A3 F3 b3 k3 hF3 n3 f3=>?_;rw [List.nil_append] at b3;have l2:=g2.le;refine h1 ?_ A3 v3 F3 ((g2.trans ⟨k3,f3,by omega⟩:Grow A A3 _).more (m:=8) (by omega)) b3.rd λy hy=>?_
  ·rw [hse]
   simpa using hb
  ·rcases hF3 y hy with h | h
   ·simp at h
   ·omega
end
end Go.Proofs.YtbchfeibhoobeaaGreatDoor
namespace Go.Jr
theorem HB{D E:Fls}(h1:Ris ltB (Aq D)){l:List Nat}(hl:l.Pairwise (· < ·))(h:∀ n,n∈AA D↔n∈l):AA D=l:=by
 have key:∀ {a b:List Nat},a.Pairwise (· < ·)->b.Pairwise (· < ·)->(∀ x,x∈a↔x∈b)->a=b:=by
  intro a
  induction a with
  |nil=>
   intro b _ _ h;cases b with
   |nil=>rfl
   |cons y b=>have:=(h y).2 List.mem_cons_self;cases this
  |cons x a ih=>
   intro b ha hb h;cases b with
   |nil=>have:=(h x).1 List.mem_cons_self;cases this
   |cons y b=>
    have ga:=List.pairwise_cons.1 ha;have gb:=List.pairwise_cons.1 hb;have hxy:x=y:=by
     rcases List.mem_cons.1 ((h x).1 List.mem_cons_self) with e | e
     ·exact e
     ·rcases List.mem_cons.1 ((h y).2 List.mem_cons_self) with e2 | e2
      ·exact e2.symm
      ·have:=gb.1 x e;have:=ga.1 y e2;omega
    subst hxy;rw [ih ga.2 gb.2 λz=>?_];constructor
    ·intro hz;rcases List.mem_cons.1 ((h z).1 (List.mem_cons_of_mem _ hz)) with e | e
     ·have:=ga.1 z hz;omega
     ·exact e
    ·intro hz;rcases List.mem_cons.1 ((h z).2 (List.mem_cons_of_mem _ hz)) with e | e
     ·have:=gb.1 z hz;omega
     ·exact e
 exact key (FB h1) hl h
theorem P5{D:Fls}{k x:List UInt8}(hn:(Aq D).Nodup)(v:Fil):x∈Aq (Cm D k v)↔x=k\/x∈Aq D:=by
 rw [(keys_perm (Hz hn k v)).mem_iff];show x∈k::Aq (Cu D k)↔_;rw [List.mem_cons,GV,List.mem_filter];constructor
 ·rintro (h | h)
  ·exact .inl h
  ·exact .inr h.1
 ·rintro (h | h)
  ·exact .inl h
  ·by_cases hx:x=k
   ·exact .inl hx
   ·exact .inr ⟨h,by simp [hx]⟩
theorem LR{D E:Fls}(h1:Ris ltB (Aq D))(h2:Ris ltB (Aq E))(h:∀ n,n≠0->n<100000000->(Jr.nm n∈Aq D↔Jr.nm n∈Aq E)):AA D=AA E:=by
 refine HB (E:=E) h1 (FB h2) λn=>?_;rw [BK,BK];exact ⟨λg=>⟨g.1,g.2.1,(h n g.1 g.2.1).1 g.2.2⟩,λg=>⟨g.1,g.2.1,(h n g.1 g.2.1).2 g.2.2⟩⟩
structure KS where
 limit:Int
 state:List UInt8
 l:List Rec
 broken:Bool
def Eh(k:KS)(e:Int):KS:={ k with broken:=k.broken || e==100 }
def AH(s:DS):Nat:=(AA s.D).getLast?.getD 0
def O9(s:DS)(n:Nat):List Rec × Nat × Nat:=scan (fileOf s.D (Jr.nm n)).1
def Fe(s:DS)(k:KS)(r:Rec):DS × KS × Int:=
 if r.1=0 then (s,k,2) else
 if k.broken=true then (s,k,100) else
 let n:=AH s
 if (O9 s n).1≠[]/\k.limit<((O9 s n).2.1:Int)+(Bc r).length then
  if n=99999999 then (s,k,6) else
  let x:=Bn s (Jr.nm n)
  if x.2≠0 then (x.1,Eh k x.2,x.2) else
  let y:=BA ltB x.1 (Jr.nm (n+1)) (Bc r)
  if y.2≠0 then (y.1,Eh k y.2,y.2) else (y.1,{ k with l:=k.l++[r] },0)
 else
  let y:=BA ltB s (Jr.nm n) (Bc r)
  if y.2≠0 then (y.1,Eh k y.2,y.2) else (y.1,{ k with l:=k.l++[r] },0)
def IH(s:DS)(k:KS):DS × KS × Int:=
 if k.broken=true then (s,k,100) else
 let x:=Bn s (Jr.nm (AH s))
 (x.1,Eh k x.2,x.2)
structure Fg (q:DS) (j:JS):Prop where
 row:AA q.D=j.row
 ne:j.row≠[]
 w:∃ l:List Rec,(fileOf q.D (Jr.nm (AH q))).1=Cr l/\(∀ r∈l,r.2.length<=65536)/\(Cr l).length=j.size/\j.some=!l.isEmpty
structure JI (s:DS) (j:JS) (q:DS) (k:KS):Prop where
 d:RQ ltB s q
 limit:j.limit=k.limit
 state:j.state=k.state
 l:j.l=k.l
 broken:j.broken=k.broken
 mind:j.broken=false->Fg q j
theorem Fg.last{q:DS}{j:JS}(h:Fg q j):AH q=j.row.getLast?.getD 0:=by unfold AH;rw [h.row]
theorem D9(k m:List UInt8)(v:Fil):∀ (D:Fls),AB (Cm D k v) m=if m=k then some v else AB D m
 |[]=>by
  unfold Cm AB;simp only [List.find?_cons,List.find?_nil];by_cases h:m=k
  ·subst h;simp
  ·rw [if_neg h]
   have:(k==m)=false:=by simp [Ne.symm h]
   rw [this]
 |e::r=>by
  unfold Cm;by_cases he:e.1=k
  ·rw [if_pos (by simp [he])];unfold AB;simp only [List.find?_cons];by_cases h:m=k
   ·subst h;simp
   ·rw [if_neg h];have h1:(k==m)=false:=by simp [Ne.symm h]
    have h2:(e.1==m)=false:=by rw [he];exact h1
    rw [h1,h2]
  ·rw [if_neg (by simp [he])];have ih:=D9 k m v r;unfold AB at ih ⊢;simp only [List.find?_cons];by_cases h2:e.1=m
   ·have h3:(e.1==m)=true:=by simp [h2]
    rw [h3];rw [if_neg (λh=>he (h2.trans h))]
   ·have h3:(e.1==m)=false:=by simp [h2]
    rw [h3];exact ih
theorem SZ(s:DS)(n m:List UInt8):(fileOf (Bn s n).1.D m).1=(fileOf s.D m).1:=by
 unfold Bn;split
 ·rfl
 cases hk:AB s.D n with
 |none=>rfl
 |some f=>
  have hp:(fileOf (Cm s.D n (f.1,f.1.length)) m).1=(fileOf s.D m).1:=by
   unfold fileOf;rw [D9];split
   ·rename_i h;subst h;rw [hk];rfl
   ·rfl
  simp only [C5];split
  ·split
   ·rfl
   ·exact hp
  ·exact hp
theorem O2(s:DS)(n:List UInt8):Aq (Bn s n).1.D=Aq s.D:=by
 unfold Bn;split
 ·rfl
 cases hk:AB s.D n with
 |none=>rfl
 |some f=>
  have hp:=IP n (f.1,f.1.length) (D:=s.D) (B0.1 (by rw [hk];rfl));simp only [C5];split
  ·split
   ·rfl
   ·exact hp
  ·exact hp
theorem Fg.sync{q:DS}{j:JS}(h:Fg q j)(n:List UInt8):Fg (Bn q n).1 j:=by
 have hn:AA (Bn q n).1.D=AA q.D:=by unfold AA;rw [O2]
 have hl:AH (Bn q n).1=AH q:=by unfold AH;rw [hn]
 obtain ⟨l,h1,h2⟩:=h.w;exact ⟨by rw [hn];exact h.row,h.ne,l,by rw [hl,SZ];exact h1,h2⟩
theorem JI.sync{s q:DS}{j:JS}{k:KS}(h:JI s j q k):JI (Iu s j).1 (Iu s j).2.1 (IH q k).1 (IH q k).2.1/\(Iu s j).2.2=(IH q k).2.2:=by
 unfold Iu IH;rw [<- h.broken];split
 ·exact ⟨h,rfl⟩
 ·rename_i hb;have hb:j.broken=false:=by simpa using hb
  have hm:=h.mind hb;rw [hm.last];obtain ⟨h1,h2⟩:=h.d.sync (Jr.nm (j.row.getLast?.getD 0));refine ⟨⟨h1,h.limit,h.state,h.l,?_,λ_=>?_⟩,h2⟩
  ·show (j.broken || _)=(k.broken || _);rw [h.broken,h2]
  ·obtain ⟨a,b,c⟩:=hm.sync (Jr.nm (j.row.getLast?.getD 0));exact ⟨a,b,c⟩
theorem S8{l:List Rec}(h:∀ r∈l,r.2.length<=65536):scan (Cr l)=(l,(Cr l).length,0):=by
 unfold scan;exact Q9 h _ (Nat.lt_succ_self _)
theorem M6{q:DS}{j:JS}(h:Fg q j):AH q∈AA q.D:=by
 unfold AH;have hne:AA q.D≠[]:=by rw [h.row];exact h.ne
 rw [List.getLast?_eq_getLast hne];exact List.getLast_mem hne
theorem Ir{s:DS}{n b:List UInt8}(h:(BA ltB s n b).2≠0):(BA ltB s n b).2=100\/(BA ltB s n b).1=s:=by
 unfold BA at h ⊢;split
 ·exact .inr rfl
 split
 ·exact .inr rfl
 split
 ·exact .inr rfl
 split
 ·exact .inr rfl
 ·rename_i h1 h2 h3 h4;rw [if_neg h1,if_neg h2,if_neg h3,if_neg h4] at h;unfold C5 at h ⊢;split
  ·split
   ·exact .inl rfl
   ·rename_i g1 g2;rw [if_pos g1,if_neg g2] at h;exact absurd rfl h
  ·rename_i g1;rw [if_neg g1] at h;exact absurd rfl h
theorem Kt{s:DS}{n b:List UInt8}(h:(BA ltB s n b).2=0):(BA ltB s n b).1.D=upF ltB s.D n ((fileOf s.D n).1++b,(fileOf s.D n).2):=by
 unfold BA at h ⊢;split
 ·rename_i h1;rw [if_pos h1] at h;cases h
 rename_i h1;rw [if_neg h1] at h;split
 ·rename_i h2;rw [if_pos h2] at h;cases h
 rename_i h2;rw [if_neg h2] at h;split
 ·rename_i h3;rw [if_pos h3] at h;cases h
 rename_i h3;rw [if_neg h3] at h;split
 ·rename_i h4;rw [if_pos h4] at h;cases h
 rename_i h4;rw [if_neg h4] at h;unfold C5 at h ⊢;split
 ·split
  ·rename_i g1 g2;rw [if_pos g1,if_pos g2] at h;cases h
  ·rfl
 ·rfl
variable {q q':DS} {j:JS} {r:Rec}
theorem PR{D:Fls}(hn:(Aq D).Nodup)(k m:List UInt8)(v:Fil):AB (upF ltB D k v) m=if m=k then some v else AB D m:=by
 rw [<- Jp (PQ hn k v).symm (Fz hn k v) m];exact D9 k m v D
theorem Uc{D:Fls}(hn:(Aq D).Nodup)(k x:List UInt8)(v:Fil):x∈Aq (upF ltB D k v)↔x=k\/x∈Aq D:=by
 rw [(keys_perm (PQ hn k v)).mem_iff];exact P5 hn v
theorem W1(r:Rec)(l:List Rec):(Cr (l++[r])).length=(Cr l).length+(Bc r).length:=by
 rw [G8,List.length_append,LN];simp [Cr]
theorem Jk(r:Rec)(l:List Rec):Cr (l++[r])=Cr l++Bc r:=by
 rw [G8,LN];simp [Cr]
theorem Fg.add(h:Fg q j)(hq:Ris ltB (Aq q.D))(hq':Ris ltB (Aq q'.D))(hr:r.2.length<=65536)(hD:q'.D=upF ltB q.D (Jr.nm (AH q)) ((fileOf q.D (Jr.nm (AH q))).1++Bc r,(fileOf q.D (Jr.nm (AH q))).2)):
  Fg q' { j with size:=j.size+(Bc r).length,some:=true,l:=j.l++[r] }:=by
 have hn:=Ris.nodup ltk hq;have hin:=BK.1 (M6 h);have hnum:AA q'.D=AA q.D:=LR hq' hq λn _ _=>by
  rw [hD,Uc hn];exact ⟨λg=>g.elim (λg=>g▸hin.2.2) id,.inr⟩
 have hl:AH q'=AH q:=by unfold AH;rw [hnum]
 obtain ⟨l,h1,h2,h3,h4⟩:=h.w;refine ⟨by rw [hnum];exact h.row,h.ne,l++[r],?_,λx hx=>?_,?_,?_⟩
 ·rw [hl];unfold fileOf at h1 ⊢;rw [hD,PR hn,if_pos rfl,Jk];show (fileOf q.D (Jr.nm (AH q))).1++Bc r=_;unfold fileOf;rw [h1]
 ·rcases List.mem_append.1 hx with hx | hx
  ·exact h2 x hx
  ·rw [List.mem_singleton.1 hx];exact hr
 ·rw [W1,h3]
 ·simp
theorem Fg.Afu(h:Fg q j)(hq:Ris ltB (Aq q.D))(hq':Ris ltB (Aq q'.D))(hr:r.2.length<=65536)(hlt:AH q+1<100000000)(hD:q'.D=upF ltB q.D (Jr.nm (AH q+1)) ((fileOf q.D (Jr.nm (AH q+1))).1++Bc r,(fileOf q.D (Jr.nm (AH q+1))).2)):
  Fg q' { j with row:=j.row++[AH q+1],size:=(Bc r).length,some:=true,l:=j.l++[r] }:=by
 have hn:=Ris.nodup ltk hq;have hrise:=FB hq;have hmax:∀ n∈AA q.D,n<=AH q:=by
  intro n hnm;have hne:AA q.D≠[]:=by rw [h.row];exact h.ne
  have he:AH q=(AA q.D).getLast hne:=by unfold AH;rw [List.getLast?_eq_getLast hne];rfl
  rw [he];have hsp:=(List.dropLast_concat_getLast hne).symm;rw [hsp] at hnm hrise;rw [List.pairwise_append] at hrise;rcases List.mem_append.1 hnm with g | g
  ·exact Nat.le_of_lt (hrise.2.2 n g _ (by simp))
  ·rw [List.mem_singleton.1 g];exact Nat.le_refl _
 have hno:Jr.nm (AH q+1)∉Aq q.D:=λg=>by
  have:=hmax _ (BK.2 ⟨by omega,hlt,g⟩)
  omega
 have hfile:fileOf q.D (Jr.nm (AH q+1))=([],0):=by
  unfold fileOf;cases hk:AB q.D (Jr.nm (AH q+1)) with
  |none=>rfl
  |some f=>exact absurd (B0.1 (by rw [hk];rfl)) hno
 have hnum:AA q'.D=AA q.D++[AH q+1]:=by
  refine HB (E:=q.D) hq' ?_ λn=>?_
  ·rw [List.pairwise_append];exact ⟨hrise,List.pairwise_singleton _ _,λa ha b hb=>by rw [List.mem_singleton.1 hb];have:=hmax a ha;omega⟩
  ·rw [List.mem_append,List.mem_singleton,BK,BK,hD,Uc hn];constructor
   ·rintro ⟨g1,g2,g3 | g3⟩
    ·exact .inr (E0 g2 hlt g3)
    ·exact .inl ⟨g1,g2,g3⟩
   ·rintro (⟨g1,g2,g3⟩ | rfl)
    ·exact ⟨g1,g2,.inr g3⟩
    ·exact ⟨by omega,hlt,.inl rfl⟩
 have hl:AH q'=AH q+1:=by unfold AH;rw [hnum,List.getLast?_append];rfl
 refine ⟨by rw [hnum,h.row],by simp,[r],?_,λx hx=>by rw [List.mem_singleton.1 hx];exact hr,by simp [Cr],rfl⟩;rw [hl];unfold fileOf;rw [hD,PR hn,if_pos rfl];show (fileOf q.D (Jr.nm (AH q+1))).1++Bc r=_;rw [hfile];simp [Cr]
variable {q s:DS} {j:JS}
theorem Fg.done(h:Fg q j)(e:Int):Fg q (DA j e):=by
 obtain ⟨a,b,c⟩:=h;exact ⟨a,b,c⟩
theorem JI.fail{s' q':DS}{k:KS}(h:JI s j q k)(hm:Fg q j){e e':Int}(he:e=e')(hd:RQ ltB s' q')(hq:e=100\/Fg q' j):JI s' (DA j e) q' (Eh k e'):=by
 subst he;refine ⟨hd,h.limit,h.state,h.l,?_,λhb=>?_⟩
 ·show (j.broken || _)=(k.broken || _);rw [h.broken]
 ·rcases hq with rfl | hq
  ·have hb:(j.broken || (100:Int)==100)=false:=hb;simp at hb
  ·exact hq.done e
theorem JI.append{k:KS}(h:JI s j q k){r:Rec}(hr:r.2.length<=65536):JI (Cw s j r).1 (Cw s j r).2.1 (Fe q k r).1 (Fe q k r).2.1/\(Cw s j r).2.2=(Fe q k r).2.2:=by
 unfold Cw Fe;rw [<- h.broken];split
 ·exact ⟨h,rfl⟩
 split
 ·exact ⟨h,rfl⟩
 rename_i hb;have hb:j.broken=false:=by simpa using hb
 have hm:=h.mind hb;have hlast:=hm.last;obtain ⟨l,h1,h2,h3,h4⟩:=hm.w;have hsc:O9 q (AH q)=(l,(Cr l).length,0):=by unfold O9;rw [h1];exact S8 h2
 have hin:=BK.1 (M6 hm);dsimp only;rw [<- hlast,hsc,h3,h4,<- h.limit];have hc:((!l.isEmpty)=true/\j.limit-(j.size:Int)<((Bc r).length:Int))↔(l≠[]/\j.limit<(j.size:Int)+((Bc r).length:Int)):=by
  have:(!l.isEmpty)=true↔l≠[]:=by cases l<;>simp
  rw [this];constructor<;>(rintro ⟨a,b⟩;exact ⟨a,by omega⟩)
 by_cases hcc:l≠[]/\j.limit<(j.size:Int)+((Bc r).length:Int)
 ·rw [if_pos (hc.2 hcc),if_pos hcc];split
  ·exact ⟨h,rfl⟩
  rename_i hmax;obtain ⟨x1,x2⟩:=h.d.sync (Jr.nm (AH q));have hms:=hm.sync (Jr.nm (AH q));rw [<- x2];split
  ·exact ⟨h.fail hm rfl x1 (.inr hms),rfl⟩
  have hls:AH (Bn q (Jr.nm (AH q))).1=AH q:=by unfold AH AA;rw [O2]
  obtain ⟨y1,y2⟩:=x1.append ltk (Jr.nm (AH q+1)) (Bc r);rw [<- y2];split
  ·rename_i he;refine ⟨h.fail hm rfl y1 ?_,rfl⟩;rw [y2] at he;rcases Ir he with g | g
   ·exact .inl (y2.trans g)
   ·rw [g];exact .inr hms
  ·rename_i he;have he:(BG (Bn s (Jr.nm (AH q))).1 (Jr.nm (AH q+1)) (Bc r)).2=0:=Classical.byContradiction he;rw [y2] at he;have hD:=Kt he;have hroll:=hms.Afu (r:=r) x1.r y1.r hr (by rw [hls];omega) (by rw [hls];exact hD);rw [hls] at hroll;refine ⟨⟨y1,rfl,h.state,by show j.l++[r]=k.l++[r];rw [h.l],rfl,λ_=>?_⟩,rfl⟩;obtain ⟨a,b,c⟩:=hroll;exact ⟨a,b,c⟩
 ·rw [if_neg (λg=>hcc (hc.1 g)),if_neg hcc];obtain ⟨y1,y2⟩:=h.d.append ltk (Jr.nm (AH q)) (Bc r);rw [<- y2];split
  ·rename_i he;refine ⟨h.fail hm rfl y1 ?_,rfl⟩;rw [y2] at he;rcases Ir he with g | g
   ·exact .inl (y2.trans g)
   ·rw [g];exact .inr hm
  ·rename_i he;have he:(BG s (Jr.nm (AH q)) (Bc r)).2=0:=Classical.byContradiction he;rw [y2] at he;have hD:=Kt he;have hadd:=hm.add (r:=r) h.d.r y1.r hr hD;refine ⟨⟨y1,rfl,h.state,by show j.l++[r]=k.l++[r];rw [h.l],rfl,λ_=>?_⟩,rfl⟩;obtain ⟨a,b,c⟩:=hadd;exact ⟨a,b,c⟩
end Go.Jr
namespace Go.Jr
open Go.Crc
theorem Yc{a b c d:UInt8}:be4 (C4 [a,b,c,d])=[a,b,c,d]:=by
 have ha:=a.toNat_lt;have hb:=b.toNat_lt;have hc:=c.toNat_lt;have hd:=d.toNat_lt;have hn:C4 [a,b,c,d]=256*(256*(256*(256*0+a.toNat)+b.toNat)+c.toNat)+d.toNat:=rfl;rw [hn];unfold be4;have e1:UInt8.ofNat ((256*(256*(256*(256*0+a.toNat)+b.toNat)+c.toNat)+d.toNat)/16777216)=a:=UInt8.toNat_inj.1 (by rw [UInt8.toNat_ofNat'];omega);have e2:UInt8.ofNat ((256*(256*(256*(256*0+a.toNat)+b.toNat)+c.toNat)+d.toNat)/65536)=b:=UInt8.toNat_inj.1 (by rw [UInt8.toNat_ofNat'];omega);have e3:UInt8.ofNat ((256*(256*(256*(256*0+a.toNat)+b.toNat)+c.toNat)+d.toNat)/256)=c:=UInt8.toNat_inj.1 (by rw [UInt8.toNat_ofNat'];omega);have e4:UInt8.ofNat (256*(256*(256*(256*0+a.toNat)+b.toNat)+c.toNat)+d.toNat)=d:=UInt8.toNat_inj.1 (by rw [UInt8.toNat_ofNat'];omega);rw [e1,e2,e3,e4]
theorem O7{l:List UInt8}(h:Ck l=true):4<=l.length/\l=Dy (l.take (l.length-4)):=by
 unfold Ck at h;rw [Bool.and_eq_true,decide_eq_true_iff,beq_iff_eq] at h;exact h
theorem Aaw{s:List UInt8}{n:Nat}(h9:9<=s.length)(hs:Ck (s.take 9)=true)(hn:n=C4 ((s.take 5).drop 1))(hl:13+n<=s.length)(hd:Ck ((s.drop 9).take (n+4))=true):
  s=Bc (s.headD 0,(s.drop 9).take n)++s.drop (13+n):=by
 obtain ⟨_,h1⟩:=O7 hs;obtain ⟨_,h2⟩:=O7 hd;have l9:(s.take 9).length=9:=by rw [List.length_take];omega
 have ld:((s.drop 9).take (n+4)).length=n+4:=by rw [List.length_take,List.length_drop];omega
 rw [l9,List.take_take] at h1;rw [ld,List.take_take] at h2;have e5:min (9-4) 9=5:=rfl;rw [e5] at h1;rw [show min (n+4-4) (n+4)=n by omega] at h2;have hln:((s.drop 9).take n).length=n:=by rw [List.length_take,List.length_drop];omega
 have h5:s.take 5=s.headD 0::be4 n:=by
  obtain ⟨x,s1,rfl⟩:=List.exists_cons_of_length_pos (show 0<s.length by omega);rw [List.length_cons] at h9;obtain ⟨a,s2,rfl⟩:=List.exists_cons_of_length_pos (show 0<s1.length by omega);rw [List.length_cons] at h9;obtain ⟨b,s3,rfl⟩:=List.exists_cons_of_length_pos (show 0<s2.length by omega);rw [List.length_cons] at h9;obtain ⟨c,s4,rfl⟩:=List.exists_cons_of_length_pos (show 0<s3.length by omega);rw [List.length_cons] at h9;obtain ⟨d,s5,rfl⟩:=List.exists_cons_of_length_pos (show 0<s4.length by omega)
  have:n=C4 [a,b,c,d]:=hn
  rw [this,Yc];rfl
 have hh:s.take 9=Gi (s.headD 0,(s.drop 9).take n):=by
  rw [h1,h5];unfold Gi;rw [hln]
 unfold Bc;rw [<- hh,<- h2,List.append_assoc];have e1:s.drop (13+n)=(s.drop 9).drop (n+4):=by rw [List.drop_drop];congr 1;omega
 rw [e1,List.take_append_drop,List.take_append_drop]
theorem Mm:∀ (f:Nat) (s:List UInt8),s.length<f->(D2 f s).2.1<=s.length/\s.take (D2 f s).2.1=Cr (D2 f s).1/\(∀ r∈(D2 f s).1,r.2.length<=65536)/\((D2 f s).2.2=0->(D2 f s).2.1=s.length)/\(D2 f s).2.2<=2
 |0,s,h=>by omega
 |f+1,s,h=>by
  rw [J7];split
  ·rename_i h0;subst h0;exact ⟨Nat.le_refl _,rfl,by simp,λ_=>rfl,by decide⟩
  rename_i h0;split
  ·exact ⟨Nat.zero_le _,rfl,by simp,λh=>by simp at h,by simp⟩
  rename_i h9;split
  ·exact ⟨Nat.zero_le _,rfl,by simp,λh=>by simp at h,by simp⟩
  rename_i hs;split
  ·exact ⟨Nat.zero_le _,rfl,by simp,λh=>by simp at h,by simp⟩
  rename_i hn;split
  ·exact ⟨Nat.zero_le _,rfl,by simp,λh=>by simp at h,by simp⟩
  rename_i hl;split
  ·exact ⟨Nat.zero_le _,rfl,by simp,λh=>by simp at h,by simp⟩
  rename_i hd;have hs:Ck (s.take 9)=true:=by simpa using hs
  have hd:Ck ((s.drop 9).take (C4 ((s.take 5).drop 1)+4))=true:=by simpa using hd
  generalize hnn:C4 ((s.take 5).drop 1)=n at *;have hr:=Aaw (n:=n) (by omega) hs hnn.symm (by omega) hd;have hln:((s.drop 9).take n).length=n:=by rw [List.length_take,List.length_drop];omega
  have hpl:(Bc (s.headD 0,(s.drop 9).take n)).length=13+n:=by rw [Cn];show 13+((s.drop 9).take n).length=_;rw [hln]
  have hdl:(s.drop (13+n)).length=s.length-(13+n):=List.length_drop;obtain ⟨g1,g2,g3,g4,g5⟩:=Mm f (s.drop (13+n)) (by rw [hdl];omega);rw [hdl] at g1 g4;generalize D2 f (s.drop (13+n))=q at *;refine ⟨by show 13+n+q.2.1<=_;omega,?_,?_,λh0=>?_,g5⟩
  ·show s.take (13+n+q.2.1)=Bc _++Cr q.1;rw [<- g2]
   conv=>lhs;rw [hr]
   rw [List.take_append,hpl,List.take_of_length_le (by omega),show 13+n+q.2.1-(13+n)=q.2.1 by omega]
  ·intro r hrm;rcases List.mem_cons.1 hrm with rfl | hrm
   ·show ((s.drop 9).take n).length<=65536;omega
   ·exact g3 r hrm
  ·have:=g4 h0
   show 13+n+q.2.1=_;omega
theorem H3(s:List UInt8):(scan s).2.1<=s.length/\s.take (scan s).2.1=Cr (scan s).1/\(∀ r∈(scan s).1,r.2.length<=65536)/\((scan s).2.2=0->(scan s).2.1=s.length)/\(scan s).2.2<=2:=
 Mm _ s (Nat.lt_succ_self _)
theorem Vc(s:List UInt8):(Cr (scan s).1).length=(scan s).2.1:=by
 obtain ⟨h1,h2,_⟩:=H3 s;rw [<- h2,List.length_take];omega
end Go.Jr
namespace Go.Jr
variable {s:DS} {th:Bool} {n t:List UInt8}
theorem QJ{f:Fls->Fls}(h:(C5 s f th).2=0):(C5 s f th).1.D=f s.D:=by
 unfold C5 at h ⊢;split
 ·split
  ·rename_i g1 g2;rw [if_pos g1,if_pos g2] at h;cases h
  ·rfl
 ·rfl
theorem Ol{f:Fls->Fls}(h:(C5 s f th).2≠0):(C5 s f th).2=100:=by
 unfold C5 at h ⊢;split
 ·split
  ·rfl
  ·rename_i g1 g2;rw [if_pos g1,if_neg g2] at h;exact absurd rfl h
 ·rename_i g1;rw [if_neg g1] at h;exact absurd rfl h
theorem FM(D:Fls)(k m:List UInt8):AB (Cu D k) m=if m=k then none else AB D m:=by
 unfold AB Cu;rw [List.find?_filter];split
 ·rename_i h;subst h
  have:D.find? (λa=>decide ((!(a.1==m))=true/\(a.1==m)=true))=none:=by
   rw [List.find?_eq_none];intro x _;cases x.1==m<;>simp
  simp only [this,Option.map_none]
 ·rename_i h
  congr 1
  congr 1
  funext a
  by_cases ha:a.1=m
  ·have h1:(a.1==m)=true:=by simp [ha]
   have h2:(a.1==k)=false:=by rw [ha];simp [h]
   rw [h1,h2];rfl
  ·have h1:(a.1==m)=false:=by simp [ha]
   rw [h1]
   simp
theorem Xn{D:Fls}(hn:(Aq D).Nodup){k:List UInt8}(hk:k∉Aq D)(m:List UInt8)(v:Fil):AB (Ii ltB D k v) m=if m=k then some v else AB D m:=by
 rw [<- Jp (Uz ltB hn hk v).symm (Fz hn k v) m];exact D9 k m v D
theorem Gv(h:(AQ s n).2=0):(AQ s n).1.D=Cu s.D n/\(AB s.D n).isSome=true:=by
 unfold AQ at h ⊢;split
 ·rename_i h1;rw [if_pos h1] at h;cases h
 rename_i h1;rw [if_neg h1] at h;cases hk:AB s.D n with
 |none=>rw [hk] at h;cases h
 |some f=>
  rw [hk] at h;exact ⟨QJ h,rfl⟩
theorem Mu(h:(AQ s n).2≠0):(AQ s n).2=100\/((AQ s n).1=s/\AB s.D n=none):=by
 unfold AQ at h ⊢;split
 ·exact .inl rfl
 rename_i h1;rw [if_neg h1] at h;cases hk:AB s.D n with
 |none=>exact .inr ⟨rfl,rfl⟩
 |some f=>
  rw [hk] at h;exact .inl (Ol h)
theorem PT(h:(Bn s n).2=0):∃ f,AB s.D n=some f/\(Bn s n).1.D=Cm s.D n (f.1,f.1.length):=by
 unfold Bn at h ⊢;split
 ·rename_i h1;rw [if_pos h1] at h;cases h
 rename_i h1;rw [if_neg h1] at h;cases hk:AB s.D n with
 |none=>rw [hk] at h;cases h
 |some f=>
  rw [hk] at h;exact ⟨f,rfl,QJ h⟩
theorem U5(h:(Bn s n).2≠0):(Bn s n).2=100\/(Bn s n).1=s:=by
 unfold Bn at h ⊢;split
 ·exact .inl rfl
 rename_i h1;rw [if_neg h1] at h;cases hk:AB s.D n with
 |none=>exact .inr rfl
 |some f=>
  rw [hk] at h;exact .inl (Ol h)
theorem Aa6{k:Int}(h:(FF s n k).2=0):∃ f,AB s.D n=some f/\(FF s n k).1.D=Cm s.D n (f.1.take k.toNat,min f.2 k.toNat):=by
 unfold FF at h ⊢;split
 ·rename_i h1;rw [if_pos h1] at h;cases h
 rename_i h1;rw [if_neg h1] at h;split
 ·rename_i h2;rw [if_pos h2] at h;cases h
 rename_i h2;rw [if_neg h2] at h;cases hk:AB s.D n with
 |none=>rw [hk] at h;cases h
 |some f=>
  rw [hk] at h;simp only at h ⊢;split
  ·rename_i h3;rw [if_pos h3] at h;cases h
  rename_i h3;rw [if_neg h3] at h;exact ⟨f,rfl,QJ h⟩
theorem Vj(h:(B4 ltB s n t).2=0):∃ f,AB s.D n=some f/\(B4 ltB s n t).1.D=Ii ltB (Cu (Cu s.D n) t) t f:=by
 unfold B4 at h ⊢;split
 ·rename_i h1;rw [if_pos h1] at h;cases h
 rename_i h1;rw [if_neg h1] at h;split
 ·rename_i h2;rw [if_pos h2] at h;cases h
 rename_i h2;rw [if_neg h2] at h;cases hk:AB s.D n with
 |none=>rw [hk] at h;cases h
 |some f=>
  rw [hk] at h;exact ⟨f,rfl,QJ h⟩
theorem Ri(h:(B4 ltB s n t).2≠0):(B4 ltB s n t).2=100\/(B4 ltB s n t).1=s:=by
 unfold B4 at h ⊢;split
 ·exact .inl rfl
 rename_i h1;rw [if_neg h1] at h;split
 ·exact .inr rfl
 rename_i h2;rw [if_neg h2] at h;cases hk:AB s.D n with
 |none=>exact .inr rfl
 |some f=>
  rw [hk] at h;exact .inl (Ol h)
theorem Mt(hn:(Aq s.D).Nodup)(h:(B4 ltB s n t).2=0)(hnt:n≠t)(m:List UInt8):AB (B4 ltB s n t).1.D m=if m=t then AB s.D n else if m=n then none else AB s.D m:=by
 obtain ⟨f,h1,h2⟩:=Vj h;have hk:t∉Aq (Cu (Cu s.D n) t):=λhh=>by
  rw [GV] at hh
  have:=(List.mem_filter.1 hh).2
  simp at this
 rw [h2,Xn (FE (FE hn n) t) hk,h1,FM,FM];split
 ·rfl
 ·rfl
theorem MJ(hn:(Aq s.D).Nodup){b:List UInt8}(h:(BA ltB s n b).2=0)(m:List UInt8):AB (BA ltB s n b).1.D m=if m=n then some ((fileOf s.D n).1++b,(fileOf s.D n).2) else AB s.D m:=by
 rw [Kt h,PR hn]
theorem Em(n:Nat):fresh≠Jr.nm n:=by
 intro h
 have:=congrArg List.length h
 unfold Jr.nm at this;rw [List.length_append,Dg] at this;simp [fresh] at this
theorem Fg.other{q q':DS}{j:JS}(h:Fg q j)(hq:Ris ltB (Aq q.D))(hq':Ris ltB (Aq q'.D))(hs:∀ n,n≠0->n<100000000->(AB q'.D (Jr.nm n)).map (·.1)=(AB q.D (Jr.nm n)).map (·.1)):Fg q' j:=by
 have hnum:AA q'.D=AA q.D:=LR hq' hq λn h1 h2=>by
  rw [<- B0,<- B0,<- Option.isSome_map (f:=(·.1)),hs n h1 h2,Option.isSome_map]
 have hl:AH q'=AH q:=by unfold AH;rw [hnum]
 have hin:=BK.1 (M6 h);obtain ⟨l,h1,h2⟩:=h.w;refine ⟨by rw [hnum];exact h.row,h.ne,l,?_,h2⟩;rw [hl,<- h1]
 have:=hs (AH q) hin.1 hin.2.1
 unfold fileOf;cases ha:AB q'.D (Jr.nm (AH q)) with
 |none=>
  rw [ha] at this;cases hb:AB q.D (Jr.nm (AH q)) with
  |none=>rfl
  |some f=>rw [hb] at this;cases this
 |some g=>
  rw [ha] at this;cases hb:AB q.D (Jr.nm (AH q)) with
  |none=>rw [hb] at this;cases this
  |some f=>
   rw [hb] at this
   simpa using this
theorem NS:∀ {l:List Seg} {f:Nat},D5 l=some f->f<l.length
 |[],f,h=>by cases h
 |x::r,f,h=>by
  unfold D5 at h;split at h
  ·rename_i i hi
   have:=NS hi
   cases h;rw [List.length_cons];omega
  ·split at h
   ·cases h
    simp
   ·cases h
theorem M4{l r:List Seg}{f:Nat}(h:Ga l=some (r,f)):(l=[]/\r=[]/\f=0)\/(f<l.length/\r=l.drop f/\FL r=true):=by
 unfold Ga at h;split at h
 ·split at h
  ·rename_i hl;cases h;exact .inl ⟨hl,rfl,rfl⟩
  ·cases h
 ·rename_i f' hf;split at h
  ·rename_i ho;cases h;exact .inr ⟨NS hf,rfl,ho⟩
  ·cases h
theorem Xd{r:List Seg}(h:FL r=true){x:Seg}(hx:x∈r):x.st≠2:=by
 unfold FL at h;obtain ⟨i,hi⟩:=List.mem_iff_getElem?.1 hx
 have:=List.all_eq_true.1 h (x,i) (List.mem_zipIdx_iff_getElem?.2 hi)
 unfold Iw at this;simp only [Bool.and_eq_true,decide_eq_true_eq] at this;exact this.2.2.1
theorem Nw(D:Fls):(Bi D (Aq D)).map (·.n)=AA D:=by
 unfold Bi AA;rw [List.map_filterMap]
 congr 1
 funext f
 split<;>rfl
theorem M3{D:Fls}{x:Seg}(h:x∈Bi D (Aq D)):x=Hx x.n (fileOf D (Jr.nm x.n)).1/\x.n≠0:=by
 unfold Bi at h;obtain ⟨f,hf,he⟩:=List.mem_filterMap.1 h;split at he
 ·cases he
 ·rename_i h0;cases he
  have:(Hx (numOf f) (fileOf D f).1).n=numOf f:=rfl
  rw [this,<- KX h0];exact ⟨rfl,h0⟩
theorem EN{s:DS}{a:Ac}{r:List Ac}(h:(BI ltB s (a::r)).2=0):(a.EP ltB s).2=0/\BI ltB s (a::r)=BI ltB (a.EP ltB s).1 r:=by
 have e:BI ltB s (a::r)=if (a.EP ltB s).2=0 then BI ltB (a.EP ltB s).1 r else a.EP ltB s:=rfl
 by_cases h0:(a.EP ltB s).2=0
 ·rw [e,if_pos h0];exact ⟨h0,rfl⟩
 ·rw [e,if_neg h0] at h;exact absurd h h0
theorem RQ.Dd{q:DS}(h:Ris ltB (Aq q.D)):RQ ltB q q:=⟨⟨List.Perm.refl _,Ris.nodup ltk h,rfl,rfl,rfl⟩,h⟩
theorem Kv{q:DS}(h:Ris ltB (Aq q.D))(a:Ac):Ris ltB (Aq (a.EP ltB q).1.D):=((RQ.Dd h).ac ltk a).1.r
theorem V5{s:DS}{rest:List Ac}(hr:Ris ltB (Aq s.D))(h:(BI ltB s ((if fresh∈Aq s.D then [.rmF] else [])++rest)).2=0):
  ∃ s1,Ris ltB (Aq s1.D)/\(∀ m,AB s1.D m=if m=fresh then none else AB s.D m)/\BI ltB s ((if fresh∈Aq s.D then [.rmF] else [])++rest)=BI ltB s1 rest:=by
 by_cases hf:fresh∈Aq s.D
 ·rw [if_pos hf] at h ⊢;obtain ⟨h1,h2⟩:=EN h;refine ⟨_,Kv hr .rmF,λm=>?_,h2⟩;show AB (AQ s fresh).1.D m=_;rw [(Gv h1).1,FM]
 ·rw [if_neg hf];refine ⟨s,hr,λm=>?_,rfl⟩;split
  ·rename_i hm;subst hm;cases hk:AB s.D fresh with
   |none=>rfl
   |some f=>exact absurd (B0.1 (by rw [hk];rfl)) hf
  ·rfl
theorem Yk:∀ (l:List Nat) {s:DS} {rest:List Ac},Ris ltB (Aq s.D)->(BI ltB s (l.map .rm++rest)).2=0->
  ∃ s1,Ris ltB (Aq s1.D)/\(∀ m,(∀ n∈l,m≠Jr.nm n)->AB s1.D m=AB s.D m)/\(∀ n∈l,AB s1.D (Jr.nm n)=none)/\BI ltB s (l.map .rm++rest)=BI ltB s1 rest
 |[],s,rest,hr,_=>⟨s,hr,λ_ _=>rfl,by simp,rfl⟩
 |k::l,s,rest,hr,h=>by
  obtain ⟨h1,h2⟩:=EN (a:=.rm k) (r:=l.map .rm++rest) h;have h':(BI ltB (Ac.EP ltB s (.rm k)).1 (l.map .rm++rest)).2=0:=by rw [<- h2];exact h
  obtain ⟨s1,g1,g2,g3,g4⟩:=Yk l (Kv hr (.rm k)) h';have hk:∀ m,AB (Ac.EP ltB s (.rm k)).1.D m=if m=Jr.nm k then none else AB s.D m:=λm=>by
   have:(AQ s (Jr.nm k)).2=0:=h1
   show AB (AQ s (Jr.nm k)).1.D m=_;rw [(Gv this).1,FM]
  refine ⟨s1,g1,λm hm=>?_,λn hn=>?_,h2.trans g4⟩
  ·rw [g2 m λn hn=>hm n (List.mem_cons_of_mem _ hn),hk,if_neg (hm k List.mem_cons_self)]
  ·by_cases hin:n∈l
   ·exact g3 n hin
   ·have hnk:n=k:=by
     rcases List.mem_cons.1 hn with h | h
     ·exact h
     ·exact absurd h hin
    by_cases hex:∃ n'∈l,Jr.nm n=Jr.nm n'
    ·obtain ⟨n',hn',he⟩:=hex;rw [he];exact g3 n' hn'
    ·rw [g2 _ λn' hn' he=>hex ⟨n',hn',he⟩,hk,if_pos (by rw [hnk])]
theorem E4{D:Fls}{k:List UInt8}{f:Fil}(h:AB D k=some f):fileOf D k=f:=by unfold fileOf;rw [h];rfl
theorem Vr{q q':DS}{limit:Int}{j:JS}(hr:Ris ltB (Aq q.D))(h:EZ ltB q limit=(q',some j,0)):Fg q' j/\j.limit=limit/\j.broken=false:=by
 unfold EZ at h;split at h
 ·cases h
 split at h
 ·cases h
 cases hrow:Ga (Bi q.D (Aq q.D)) with
 |none=>rw [hrow] at h;cases h
 |some x=>
  obtain ⟨r,f⟩:=x;rw [hrow] at h;simp only at h;by_cases h0:(BI ltB q (Du (Aq q.D) (Bi q.D (Aq q.D)) r f)).2=0
  case neg=>rw [if_neg h0] at h;cases h
  rw [if_pos h0] at h;have hq:q'=(BI ltB q (Du (Aq q.D) (Bi q.D (Aq q.D)) r f)).1:=by cases h;rfl
  have hj:j=EH limit r:=by cases h;rfl
  clear h;subst hj;refine ⟨?_,rfl,rfl⟩;unfold Du at hq h0;obtain ⟨s1,r1,k1,e1⟩:=V5 hr h0;rw [e1] at hq h0;have hk1:∀ n,AB s1.D (Jr.nm n)=AB q.D (Jr.nm n):=λn=>by rw [k1,if_neg (Ne.symm (Em n))]
  rcases M4 hrow with ⟨hs,rfl,rfl⟩ | ⟨hf,hrd,hok⟩
  ·
   rw [if_pos rfl] at hq h0;simp only [List.take_zero,List.map_nil,List.nil_append,List.getLast?_nil,List.append_nil] at hq h0;obtain ⟨a1,a2⟩:=EN h0;rw [a2] at hq h0;have r2:=Kv r1 .ap0;obtain ⟨b1,b2⟩:=EN h0;rw [b2] at hq h0;have r3:=Kv r2 .syF;obtain ⟨c1,c2⟩:=EN h0;rw [c2] at hq;have r4:=Kv r3 .rn1;have hq:q'=((Ac.rn1).EP ltB ((Ac.syF).EP ltB ((Ac.ap0).EP ltB s1).1).1).1:=hq;rw [<- hq] at r4;have l2:∀ m,AB ((Ac.ap0).EP ltB s1).1.D m=if m=fresh then some ((fileOf s1.D fresh).1++Gd,(fileOf s1.D fresh).2) else AB s1.D m:=MJ (Ris.nodup ltk r1) a1
   have hf0:fileOf s1.D fresh=([],0):=by unfold fileOf;rw [k1,if_pos rfl];rfl
   rw [hf0] at l2;obtain ⟨f3,g3,d3⟩:=PT b1;have l3:∀ m,AB ((Ac.syF).EP ltB ((Ac.ap0).EP ltB s1).1).1.D m=if m=fresh then some (f3.1,f3.1.length) else AB ((Ac.ap0).EP ltB s1).1.D m:=λm=>by
    show AB (Bn _ fresh).1.D m=_;rw [d3,D9]
   have hf3:f3.1=Gd:=by
    rw [l2,if_pos rfl] at g3;cases g3;rfl
   rw [hf3] at l3;have l4:=Mt (Ris.nodup ltk r3) c1 (Em 1);have l4:∀ m,AB q'.D m=if m=Jr.nm 1 then some (Gd,Gd.length) else if m=fresh then none else AB s1.D m:=λm=>by
    rw [hq]
    have:=l4 m
    rw [l3 fresh,if_pos rfl] at this;refine this.trans ?_;split
    ·rfl
    split
    ·rfl
    ·rename_i h1 h2;rw [l3,if_neg h2,l2,if_neg h2]
   have hnums:AA q.D=[]:=by rw [<- Nw,hs];rfl
   have hnum:AA q'.D=[1]:=by
    refine HB (E:=q.D) r4 (List.pairwise_singleton _ _) λn=>?_;rw [BK,List.mem_singleton,<- B0,l4];constructor
    ·rintro ⟨h1,h2,h3⟩;split at h3
     ·rename_i he;exact E0 h2 (by decide) he
     ·rw [if_neg (Ne.symm (Em n)),hk1,B0] at h3
      have:n∈AA q.D:=BK.2 ⟨h1,h2,h3⟩
      rw [hnums] at this;cases this
    ·rintro rfl;rw [if_pos rfl];exact ⟨by decide,by decide,rfl⟩
   have hl:AH q'=1:=by unfold AH;rw [hnum];rfl
   refine ⟨hnum,by simp [EH],[(0,[])],?_,by simp,rfl,rfl⟩;have l5:=l4 (Jr.nm 1);rw [if_pos rfl] at l5;rw [hl,E4 l5];simp [Cr,Gd]
  ·have hne:r≠[]:=λh=>by
    rw [h] at hrd
    have:=congrArg List.length hrd
    rw [List.length_drop] at this;simp at this;omega
   rw [if_neg hne] at hq h0;simp only [List.nil_append] at hq h0;rw [show (λx:Seg=>Ac.rm x.n)=Ac.rm∘(·.n) from rfl,<- List.map_map] at hq h0;obtain ⟨s2,r2,k2,k2n,e2⟩:=Yk _ r1 h0;rw [e2] at hq h0;have htake:((Bi q.D (Aq q.D)).take f).map (·.n)=(AA q.D).take f:=by rw [<- List.map_take.symm,Nw]
   have hdrop:r.map (·.n)=(AA q.D).drop f:=by rw [hrd,<- List.map_drop.symm,Nw]
   rw [htake] at k2 k2n;obtain ⟨x,hx⟩:∃ x,r.getLast? =some x:=by
    cases hg:r.getLast? with
    |none=>exact absurd (List.getLast?_eq_none_iff.1 hg) hne
    |some x=>exact ⟨x,rfl⟩
   rw [hx] at hq h0;simp only at hq h0;have hxr:x∈r:=List.mem_of_getLast? hx;have hxs:x∈Bi q.D (Aq q.D):=by rw [hrd] at hxr;exact List.mem_of_mem_drop hxr
   obtain ⟨hxi,hx0⟩:=M3 hxs;have hrise:=FB hr;have hxn:x.n∈(AA q.D).drop f:=by rw [<- hdrop];exact List.mem_map.2 ⟨x,hxr,rfl⟩
   have hsplit:=List.take_append_drop f (AA q.D);rw [<- hsplit,List.pairwise_append] at hrise;have hxin:x.n∈AA q.D:=by rw [<- hsplit];exact List.mem_append_right _ hxn
   obtain ⟨hx1,hx2,hx3⟩:=BK.1 hxin;have hlast:((AA q.D).drop f).getLast? =some x.n:=by rw [<- hdrop,List.getLast?_map,hx];rfl
   have hnot:∀ n∈(AA q.D).drop f,n<100000000->∀ m∈(AA q.D).take f,Jr.nm n≠Jr.nm m:=λn hn hn8 m hm he=>by
    have hml:m<100000000:=(BK.1 (by rw [<- hsplit];exact List.mem_append_left _ hm)).2.1
    have:=E0 hn8 hml he
    have:=hrise.2.2 m hm n hn
    omega
   obtain ⟨fx,hfx⟩:∃ fx,AB q.D (Jr.nm x.n)=some fx:=by
    cases hk:AB q.D (Jr.nm x.n) with
    |none=>have:=B0.2 hx3;rw [hk] at this;cases this
    |some fx=>exact ⟨fx,rfl⟩
   have hfile:fileOf q.D (Jr.nm x.n)=fx:=E4 hfx;rw [hfile] at hxi;have hxl:x.l=(scan fx.1).1:=by rw [hxi];rfl
   have hxz:x.size=(scan fx.1).2.1:=by rw [hxi];rfl
   have hxt:x.st=(scan fx.1).2.2:=by rw [hxi];rfl
   obtain ⟨v1,v2,v3,v4,v5⟩:=H3 fx.1;have v6:=Vc fx.1;have h2x:AB s2.D (Jr.nm x.n)=some fx:=by rw [k2 _ (hnot x.n hxn hx2),hk1,hfx]
   have hst:=Xd hok hxr;have fin:∃ s3,Ris ltB (Aq s3.D)/\(∀ m,m≠Jr.nm x.n->AB s3.D m=AB s2.D m)/\(∃ z,AB s3.D (Jr.nm x.n)=some (Cr x.l,z))/\(Ac.sy x.n).EP ltB s3=BI ltB s2 ((if x.st=1 then [.ct x.n x.size] else [])++[.sy x.n]):=by
    by_cases h1:x.st=1
    ·rw [if_pos h1] at h0 ⊢;have h0:(BI ltB s2 (Ac.ct x.n x.size::[Ac.sy x.n])).2=0:=h0;obtain ⟨c1,c2⟩:=EN h0;obtain ⟨fc,g1,g2⟩:=Aa6 c1;rw [h2x] at g1;cases g1;refine ⟨_,Kv r2 (.ct x.n x.size),λm hm=>?_,⟨min fx.2 x.size,?_⟩,?_⟩
     ·show AB (FF s2 (Jr.nm x.n) x.size).1.D m=_;rw [g2,D9,if_neg hm]
     ·show AB (FF s2 (Jr.nm x.n) x.size).1.D _=_;rw [g2,D9,if_pos rfl,Int.toNat_natCast,hxz,v2,hxl]
     ·show _=BI ltB s2 (Ac.ct x.n x.size::[Ac.sy x.n]);rw [c2] at h0;rw [c2];obtain ⟨d1,d2⟩:=EN h0;rw [d2];exact Prod.ext rfl d1
    ·have h0z:x.st=0:=by omega
     rw [if_neg h1] at h0 ⊢;refine ⟨s2,r2,λ_ _=>rfl,⟨fx.2,?_⟩,?_⟩
     ·rw [h2x,hxl]
      have:=v4 (by rw [<- hxt];exact h0z)
      rw [this,List.take_length] at v2;rw [<- v2]
     ·have h0:(BI ltB s2 [Ac.sy x.n]).2=0:=h0;show _=BI ltB s2 [Ac.sy x.n];obtain ⟨d1,d2⟩:=EN h0;rw [d2];exact Prod.ext rfl d1
   obtain ⟨s3,r3,k3,⟨z,k3x⟩,e3⟩:=fin;rw [<- e3] at hq h0;obtain ⟨fy,g1,g2⟩:=PT h0;rw [k3x] at g1;cases g1;have r4:=Kv r3 (.sy x.n);rw [<- hq] at r4;have l4:∀ m,AB q'.D m=if m=Jr.nm x.n then some (Cr x.l,(Cr x.l).length) else AB s2.D m:=λm=>by
    rw [hq];show AB (Bn s3 (Jr.nm x.n)).1.D m=_;rw [g2,D9];split
    ·rfl
    ·rename_i hm;exact k3 m hm
   have hnum:AA q'.D=(AA q.D).drop f:=by
    refine HB (E:=q.D) r4 hrise.2.1 λn=>?_;rw [BK,<- B0];constructor
    ·rintro ⟨h1,h2,h3⟩;rw [l4] at h3;split at h3
     ·rename_i he;rw [E0 h2 hx2 he];exact hxn
     ·have hnt:n∉(AA q.D).take f:=λhm=>by rw [k2n n hm] at h3;cases h3
      by_cases hex:∃ m∈(AA q.D).take f,Jr.nm n=Jr.nm m
      ·obtain ⟨m,hm,he⟩:=hex
       have:=E0 h2 (BK.1 (by rw [<- hsplit];exact List.mem_append_left _ hm)).2.1 he
       exact absurd (this▸hm) hnt
      ·rw [k2 _ λm hm he=>hex ⟨m,hm,he⟩,hk1,B0] at h3
       have:n∈AA q.D:=BK.2 ⟨h1,h2,h3⟩
       rw [<- hsplit] at this;rcases List.mem_append.1 this with g | g
       ·exact absurd g hnt
       ·exact g
    ·intro hn;have hin:n∈AA q.D:=by rw [<- hsplit];exact List.mem_append_right _ hn
     obtain ⟨h1,h2,h3⟩:=BK.1 hin;refine ⟨h1,h2,?_⟩;rw [l4];split
     ·rfl
     ·rw [k2 _ (hnot n hn h2),hk1,B0];exact h3
   have hl:AH q'=x.n:=by unfold AH;rw [hnum,hlast];rfl
   refine ⟨?_,?_,x.l,?_,by rw [hxl];exact v3,?_,?_⟩
   ·rw [hnum,<- hdrop];unfold EH;rw [if_neg hne]
   ·unfold EH;simp only [if_neg hne,ne_eq,List.map_eq_nil_iff];exact hne
   ·have l5:=l4 (Jr.nm x.n);rw [if_pos rfl] at l5;rw [hl,E4 l5]
   ·unfold EH;rw [hx];show (Cr x.l).length=x.size;rw [hxl,hxz];exact v6
   ·unfold EH;rw [hx]
def B6(s:DS)(k:KS)(st:List UInt8):DS × KS × Int:=
 if k.broken=true then (s,k,100) else
 if 65536<st.length then (s,k,3) else
 if AH s=99999999 then (s,k,6) else
 let x0:=if (AB s.D fresh).isSome=true then AQ s fresh else (s,0)
 if x0.2≠0 then (x0.1,Eh k x0.2,x0.2) else
 let x1:=BA ltB x0.1 fresh (Bc (0,st))
 if x1.2≠0 then (x1.1,Eh k x1.2,x1.2) else
 let x2:=Bn x1.1 fresh
 if x2.2≠0 then (x2.1,Eh k x2.2,x2.2) else
 let x3:=B4 ltB x2.1 fresh (Jr.nm (AH s+1))
 if x3.2≠0 then (x3.1,Eh k x3.2,x3.2) else
 let y:=B5 x3.1 ((AA x3.1.D).takeWhile λi=>decide (i<=AH s))
 if y.2≠0 then (y.1,Eh { k with state:=st,l:=[] } y.2,y.2) else (y.1,{ k with state:=st,l:=[] },0)
theorem RQ.B5:∀ (l:List Nat) {s q:DS},RQ ltB s q->RQ ltB (B5 s l).1 (B5 q l).1/\(Jr.B5 s l).2=(Jr.B5 q l).2
 |[],_,_,h=>⟨h,rfl⟩
 |k::r,s,q,h=>by
  obtain ⟨h1,h2⟩:=h.remove (Jr.nm k);unfold Jr.B5;rw [<- h2];split
  ·exact ⟨h1,h2⟩
  ·exact RQ.B5 r h1
theorem NB(s:DS)(k:Nat)(r:List Nat):B5 s (k::r)=if (AQ s (Jr.nm k)).2≠0 then AQ s (Jr.nm k) else B5 (AQ s (Jr.nm k)).1 r:=rfl
theorem Re:∀ (l:List Nat) {s:DS},Ris ltB (Aq s.D)->l.Nodup->(∀ n∈l,n<100000000/\(AB s.D (Jr.nm n)).isSome=true)->
  (B5 s l).2=100\/((B5 s l).2=0/\Ris ltB (Aq (B5 s l).1.D)/\(∀ m,(∀ n∈l,m≠Jr.nm n)->AB (B5 s l).1.D m=AB s.D m)/\∀ n∈l,AB (B5 s l).1.D (Jr.nm n)=none)
 |[],s,hr,_,_=>.inr ⟨rfl,hr,λ_ _=>rfl,by simp⟩
 |k::l,s,hr,hn,h=>by
  rw [List.nodup_cons] at hn;have hk:=h k List.mem_cons_self;rw [NB];by_cases h0:(AQ s (Jr.nm k)).2=0
  ·rw [if_neg (by simpa using h0)];have hl:∀ m,AB (AQ s (Jr.nm k)).1.D m=if m=Jr.nm k then none else AB s.D m:=λm=>by rw [(Gv h0).1,FM]
   have hr1:=((RQ.Dd hr).remove (Jr.nm k)).1.r;rcases Re l hr1 hn.2 λn hnl=>⟨(h n (List.mem_cons_of_mem _ hnl)).1,by
    rw [hl,if_neg λhe=>hn.1 (by rw [<- E0 (h n (List.mem_cons_of_mem _ hnl)).1 hk.1 he];exact hnl)];exact (h n (List.mem_cons_of_mem _ hnl)).2⟩ with g | ⟨g1,g2,g3,g4⟩
   ·exact .inl g
   ·refine .inr ⟨g1,g2,λm hm=>?_,λn hnl=>?_⟩
    ·rw [g3 m λn hnl=>hm n (List.mem_cons_of_mem _ hnl),hl,if_neg (hm k List.mem_cons_self)]
    ·rcases List.mem_cons.1 hnl with rfl | hnl
     ·rw [g3 _ λn' hn' he=>hn.1 (by rw [E0 hk.1 (h n' (List.mem_cons_of_mem _ hn')).1 he];exact hn'),hl,if_pos rfl]
     ·exact g4 n hnl
  ·rw [if_pos h0];rcases Mu h0 with g | ⟨_,g⟩
   ·exact .inl g
   ·rw [g] at hk;exact absurd hk.2 (by simp)
theorem MQ{q q':DS}{j:JS}(h:Fg q j)(hq:Ris ltB (Aq q.D))(hq':Ris ltB (Aq q'.D))(hs:∀ n,AB q'.D (Jr.nm n)=AB q.D (Jr.nm n)):Fg q' j:=h.other hq hq' λn _ _=>by rw [hs n]
theorem not_not{p:Prop}:¬ ¬ p↔p:=⟨Classical.byContradiction,λh g=>g h⟩
theorem JI.Dh{s q:DS}{j:JS}{k:KS}(h:JI s j q k){names:List (List UInt8)}(hnames:names.Perm (Aq s.D)){st:List UInt8}(hst:st.length<=65536):
  JI (Bs s names j st).1 (Bs s names j st).2.1 (B6 q k st).1 (B6 q k st).2.1/\(Bs s names j st).2.2=(B6 q k st).2.2:=by
 unfold Bs B6;rw [<- h.broken];split
 ·exact ⟨h,rfl⟩
 rename_i hb;have hb:j.broken=false:=by simpa using hb
 have hm:=h.mind hb;have hlast:=hm.last;have hin:=BK.1 (M6 hm);rw [if_neg (show ¬ 65536<st.length by omega),if_neg (show ¬ 65536<st.length by omega)];dsimp only;rw [<- hlast];by_cases hmax:AH q=99999999
 ·rw [if_pos (show 99999999<AH q+1 by omega),if_pos hmax];exact ⟨h,rfl⟩
 rw [if_neg (show ¬ 99999999<AH q+1 by omega),if_neg hmax];have hfr:fresh∈names↔(AB q.D fresh).isSome=true:=by
  rw [hnames.mem_iff,(keys_perm h.d.s.d).mem_iff,B0]
 obtain ⟨x0,y0,hx0,hy0,d0,e0,m0,f0⟩:∃ x0 y0:DS × Int,(if fresh∈names then AQ s fresh else (s,0))=x0/\(if (AB q.D fresh).isSome=true then AQ q fresh else (q,0))=y0/\
   RQ ltB x0.1 y0.1/\x0.2=y0.2/\(y0.2=100\/∀ n,AB y0.1.D (Jr.nm n)=AB q.D (Jr.nm n))/\(y0.2=0->AB y0.1.D fresh=none):=by
  by_cases hf:fresh∈names
  ·obtain ⟨a,b⟩:=h.d.remove fresh;refine ⟨_,_,if_pos hf,if_pos (hfr.1 hf),a,b,?_,λh0=>?_⟩
   ·by_cases h0:(AQ q fresh).2=0
    ·exact .inr λn=>by rw [(Gv h0).1,FM,if_neg (Ne.symm (Em n))]
    ·rcases Mu h0 with g | ⟨g,_⟩
     ·exact .inl g
     ·exact .inr λn=>by rw [g]
   ·rw [(Gv h0).1,FM,if_pos rfl]
  ·refine ⟨_,_,if_neg hf,if_neg λg=>hf (hfr.2 g),h.d,rfl,.inr λ_=>rfl,λ_=>?_⟩;cases hk:AB q.D fresh with
   |none=>rfl
   |some f=>exact absurd (hfr.2 (by rw [hk];rfl)) hf
 rw [hx0,hy0,<- e0];have mindOf:∀ {q':DS},Ris ltB (Aq q'.D)->(∀ n,AB q'.D (Jr.nm n)=AB q.D (Jr.nm n))->Fg q' j:=λhr hs=>MQ hm h.d.r hr hs;by_cases z0:x0.2=0
 case neg=>
  rw [if_pos z0,if_pos z0];refine ⟨h.fail hm rfl d0 ?_,rfl⟩;rcases m0 with g | g
  ·exact .inl (e0.trans g)
  ·exact .inr (mindOf d0.r g)
 rw [if_neg (not_not.2 z0),if_neg (not_not.2 z0)];have m0:∀ n,AB y0.1.D (Jr.nm n)=AB q.D (Jr.nm n):=by
  rcases m0 with g | g
  ·rw [<- e0,z0] at g;cases g
  ·exact g
 have f0:=f0 (e0.symm.trans z0);obtain ⟨d1,e1⟩:=d0.append ltk fresh (Bc (0,st));rw [<- e1];by_cases z1:(BG x0.1 fresh (Bc (0,st))).2=0
 case neg=>
  rw [if_pos z1,if_pos z1];refine ⟨h.fail hm rfl d1 ?_,rfl⟩;rw [e1] at z1;rcases Ir z1 with g | g
  ·exact .inl (e1.trans g)
  ·exact .inr (mindOf d1.r λn=>by rw [g,m0])
 rw [if_neg (not_not.2 z1),if_neg (not_not.2 z1)];have l1:=MJ (Ris.nodup ltk d0.r) (e1.symm.trans z1);have hf0:fileOf y0.1.D fresh=([],0):=by unfold fileOf;rw [f0];rfl
 rw [hf0] at l1;have m1:∀ n,AB (BA ltB y0.1 fresh (Bc (0,st))).1.D (Jr.nm n)=AB q.D (Jr.nm n):=λn=>by rw [l1,if_neg (Ne.symm (Em n)),m0]
 obtain ⟨d2,e2⟩:=d1.sync fresh;rw [<- e2];generalize hX1:(BA ltB y0.1 fresh (Bc (0,st))).1=X1 at *;by_cases z2:(Bn (BG x0.1 fresh (Bc (0,st))).1 fresh).2=0
 case neg=>
  rw [if_pos z2,if_pos z2];refine ⟨h.fail hm rfl d2 ?_,rfl⟩;rw [e2] at z2;rcases U5 z2 with g | g
  ·exact .inl (e2.trans g)
  ·exact .inr (mindOf d2.r λn=>by rw [g,m1])
 rw [if_neg (not_not.2 z2),if_neg (not_not.2 z2)];obtain ⟨f2,g2,h2⟩:=PT (e2.symm.trans z2);have l2:∀ m,AB (Bn X1 fresh).1.D m=if m=fresh then some (f2.1,f2.1.length) else AB X1.D m:=λm=>by rw [h2,D9]
 have hf2:f2.1=Bc (0,st):=by
  rw [l1,if_pos rfl] at g2;cases g2;rfl
 rw [hf2] at l2;have m2:∀ n,AB (Bn X1 fresh).1.D (Jr.nm n)=AB q.D (Jr.nm n):=λn=>by rw [l2,if_neg (Ne.symm (Em n)),m1]
 obtain ⟨d3,e3⟩:=d2.rename ltk fresh (Jr.nm (AH q+1));rw [<- e3];generalize hX2:(Bn X1 fresh).1=X2 at *;by_cases z3:(CR (Bn (BG x0.1 fresh (Bc (0,st))).1 fresh).1 fresh (Jr.nm (AH q+1))).2=0
 case neg=>
  rw [if_pos z3,if_pos z3];refine ⟨h.fail hm rfl d3 ?_,rfl⟩;rw [e3] at z3;rcases Ri z3 with g | g
  ·exact .inl (e3.trans g)
  ·exact .inr (mindOf d3.r λn=>by rw [g,m2])
 rw [if_neg (not_not.2 z3),if_neg (not_not.2 z3)];have l3:=Mt (Ris.nodup ltk d2.r) (e3.symm.trans z3) (Em _);generalize hX3:(B4 ltB X2 fresh (Jr.nm (AH q+1))).1=X3 at *;have hrise:=FB h.d.r;have hmx:∀ n∈AA q.D,n<=AH q:=by
  intro n hnm;have hne:AA q.D≠[]:=by rw [hm.row];exact hm.ne
  have he:AH q=(AA q.D).getLast hne:=by unfold AH;rw [List.getLast?_eq_getLast hne];rfl
  rw [he];have hsp:=(List.dropLast_concat_getLast hne).symm;rw [hsp] at hnm hrise;rw [List.pairwise_append] at hrise;rcases List.mem_append.1 hnm with g | g
  ·exact Nat.le_of_lt (hrise.2.2 n g _ (by simp))
  ·rw [List.mem_singleton.1 g];exact Nat.le_refl _
 have hlt:AH q+1<100000000:=by omega
 have l3n:∀ n,n<100000000->AB X3.D (Jr.nm n)=if n=AH q+1 then some (Bc (0,st),(Bc (0,st)).length) else AB q.D (Jr.nm n):=λn hn=>by
  rw [l3];by_cases he:n=AH q+1
  ·rw [if_pos he,if_pos (by rw [he]),l2,if_pos rfl]
  ·rw [if_neg he,if_neg (λg=>he (E0 hn hlt g)),if_neg (Ne.symm (Em n)),m2]
 have hnum3:AA X3.D=AA q.D++[AH q+1]:=by
  refine HB (E:=q.D) d3.r ?_ λn=>?_
  ·rw [List.pairwise_append];exact ⟨hrise,List.pairwise_singleton _ _,λa ha b hb=>by rw [List.mem_singleton.1 hb];have:=hmx a ha;omega⟩
  ·rw [List.mem_append,List.mem_singleton,BK,BK,<- B0,<- B0];constructor
   ·rintro ⟨g1,g2,g3⟩;rw [l3n n g2] at g3;by_cases he:n=AH q+1
    ·exact .inr he
    ·rw [if_neg he] at g3;exact .inl ⟨g1,g2,g3⟩
   ·rintro (⟨g1,g2,g3⟩ | rfl)
    ·refine ⟨g1,g2,?_⟩;rw [l3n n g2];split
     ·rfl
     ·exact g3
    ·exact ⟨by omega,hlt,by rw [l3n _ hlt,if_pos rfl];rfl⟩
 have htw:(AA X3.D).takeWhile (λi=>decide (i<=AH q))=j.row:=by
  rw [hnum3,List.takeWhile_append_of_pos λn hn=>by simpa using hmx n hn];rw [List.takeWhile_cons_of_neg (by simp),List.append_nil,hm.row]
 rw [htw];obtain ⟨d4,e4⟩:=d3.B5 j.row;rw [<- e4];rw [hm.row] at hrise hmx;have hrow:∀ n∈j.row,n<100000000/\(AB X3.D (Jr.nm n)).isSome=true:=λn hn=>by
  have hq:=hn;rw [<- hm.row] at hq;obtain ⟨g1,g2,g3⟩:=BK.1 hq;refine ⟨g2,?_⟩
  have:=hmx n hn
  rw [l3n n g2,if_neg (by omega)];exact B0.2 g3
 have hcase:=Re j.row d3.r (hrise.imp λ{a b} hab=>by omega) hrow;generalize hX4:(B5 X3 j.row).1=X4 at *;by_cases z4:(B5 (CR (Bn (BG x0.1 fresh (Bc (0,st))).1 fresh).1 fresh (Jr.nm (AH q+1))).1 j.row).2=0
 case neg=>
  rw [if_pos z4,if_pos z4];rcases hcase with g | ⟨g,_⟩
  ·refine ⟨⟨d4,h.limit,rfl,rfl,?_,λhb=>?_⟩,rfl⟩
   ·rfl
   ·have hb:(j.broken || (B5 (CR (Bn (BG x0.1 fresh (Bc (0,st))).1 fresh).1 fresh (Jr.nm (AH q+1))).1 j.row).2==100)=false:=hb;rw [e4,g] at hb;simp at hb
  ·rw [e4] at z4;exact absurd g z4
 rw [if_neg (not_not.2 z4),if_neg (not_not.2 z4)];rcases hcase with g | ⟨_,r4,k4,n4⟩
 ·rw [e4,g] at z4;cases z4
 have hnew:AB X4.D (Jr.nm (AH q+1))=some (Bc (0,st),(Bc (0,st)).length):=by
  rw [k4 _ λn hn he=>by
   have:=E0 hlt (hrow n hn).1 he
   have:=hmx n hn
   omega,l3n _ hlt,if_pos rfl]
 have hnum4:AA X4.D=[AH q+1]:=by
  refine HB (E:=q.D) r4 (List.pairwise_singleton _ _) λn=>?_;rw [List.mem_singleton,BK,<- B0];constructor
  ·rintro ⟨g1,g2,g3⟩;have hnr:n∉j.row:=λhn=>by rw [n4 n hn] at g3;cases g3
   have h3:(AB X3.D (Jr.nm n)).isSome=true:=by
    rw [<- k4 _ λm hmr he=>hnr (by rw [E0 g2 (hrow m hmr).1 he];exact hmr)];exact g3
   have:n∈AA X3.D:=BK.2 ⟨g1,g2,B0.1 h3⟩
   rw [hnum3,hm.row] at this;rcases List.mem_append.1 this with g | g
   ·exact absurd g hnr
   ·exact List.mem_singleton.1 g
  ·rintro rfl;exact ⟨by omega,hlt,by rw [hnew];rfl⟩
 have hl4:AH X4=AH q+1:=by unfold AH;rw [hnum4];rfl
 refine ⟨⟨d4,h.limit,rfl,rfl,rfl,λ_=>⟨hnum4,by simp,[(0,st)],?_,?_,?_,rfl⟩⟩,rfl⟩
 ·rw [hl4,E4 hnew];simp [Cr]
 ·intro r hr;rw [List.mem_singleton.1 hr];exact hst
 ·simp [Cr]
end Go.Jr
namespace Go.Jr
def fixF(k:List UInt8):Fls->Nat->Int
 |[],_=> -1
 |e::r,i=>if e.1=k then (i:Int) else fixF k r (i+1)
theorem Pv(k:List UInt8)(e:List UInt8 × Fil)(r:Fls)(i:Nat):fixF k (e::r) i=if e.1=k then (i:Int) else fixF k r (i+1):=rfl
theorem Eo(k:List UInt8):∀ (D:Fls) (b:Nat),(fixF k D b= -1/\AB D k=none/\k∉Aq D)\/∃ i f,fixF k D b=((b+i:Nat):Int)/\D[i]? =some (k,f)/\AB D k=some f/\∀ e∈D.take i,e.1≠k
 |[],_=>.inl ⟨rfl,rfl,by simp [Aq]⟩
 |e::r,b=>by
  rw [Pv];by_cases h:e.1=k
  ·rw [if_pos h];refine .inr ⟨0,e.2,rfl,by rw [<- h];rfl,?_,by simp⟩;unfold AB;rw [List.find?_cons_of_pos (by simp [h])];rfl
  ·rw [if_neg h];have hl:AB (e::r) k=AB r k:=by
    unfold AB;rw [List.find?_cons_of_neg (by simp [h])]
   rw [hl];rcases Eo k r (b+1) with ⟨h1,h2,h3⟩ | ⟨i,f,h1,h2,h3,h4⟩
   ·refine .inl ⟨h1,h2,?_⟩;unfold Aq at *;rw [Mc,Mk];rintro (g | g)
    ·exact h g.symm
    ·exact h3 g
   ·refine .inr ⟨i+1,f,by rw [h1];omega,h2,h3,?_⟩;rw [List.take_succ_cons];intro x hx;rcases Mk.1 hx with rfl | hx
    ·exact h
    ·exact h4 x hx
theorem P6{k:List UInt8}{f v:Fil}:∀ {D:Fls} {i:Nat},D[i]? =some (k,f)->(∀ e∈D.take i,e.1≠k)->Cm D k v=D.set i (k,v)
 |[],i,h,_=>by simp at h
 |e::r,0,h,_=>by
  obtain rfl:e=(k,f):=by simpa using h
  unfold Cm;rw [if_pos (by simp)];rfl
 |e::r,i+1,h,hn=>by
  have he:e.1≠k:=hn e (by simp);unfold Cm;rw [if_neg (by simp [he]),P6 (D:=r) (i:=i) (by simpa using h) λx hx=>hn x (by rw [List.take_succ_cons];exact List.mem_cons_of_mem _ hx)];rfl
theorem L3{k:List UInt8}{f:Fil}{D:Fls}{i:Nat}(hd:(Aq D).Nodup)(h:D[i]? =some (k,f)):Cu D k=D.take i++D.drop (i+1):=by
 have hlt:=(Gs.1 h).1;have hsp:D=D.take i++(k,f)::D.drop (i+1):=by
  have:=List.take_append_drop i D
  rw [List.drop_eq_getElem_cons hlt,(Gs.1 h).2] at this;exact this.symm
 have hd2:=hd;rw [hsp] at hd2;unfold Aq at hd2;rw [List.map_append,Mc,List.nodup_append,List.nodup_cons] at hd2;obtain ⟨_,⟨h1,_⟩,h2⟩:=hd2
 conv=>lhs;rw [hsp]
 unfold Cu;rw [List.filter_append,List.filter_cons_of_neg (by simp)]
 congr 1
 ·rw [List.filter_eq_self];intro x hx
  have:x.1≠k:=h2 x.1 (List.mem_map.2 ⟨x,hx,rfl⟩) k (by simp)
  simp [this]
 ·rw [List.filter_eq_self];intro x hx
  have:x.1≠k:=λhe=>h1 (List.mem_map.2 ⟨x,hx,he⟩)
  simp [this]
theorem Xv{lt:List UInt8->List UInt8->Bool}{k:List UInt8}{v:Fil}:∀ (i:Nat) {D:Fls},i<=D.length->(∀ e∈D.take i,lt e.1 k=true)->(∀ e,D[i]? =some e->lt e.1 k=false)->Ii lt D k v=D.take i++(k,v)::D.drop i
 |0,[],_,_,_=>rfl
 |i+1,[],h,_,_=>by simp at h
 |0,e::r,_,_,h=>by
  unfold Ii;rw [if_neg (by rw [h e rfl];simp)];rfl
 |i+1,e::r,hl,h1,h2=>by
  unfold Ii;rw [if_pos (h1 e (by simp)),Xv i (D:=r) (by simpa using hl) (λx hx=>h1 x (by rw [List.take_succ_cons];exact List.mem_cons_of_mem _ hx)) λx hx=>h2 x (by simpa using hx)];rfl
theorem U2(D:Fls)(e:List UInt8 × Fil):Eg (D++[e])=Eg D+e.2.1.length:=by
 unfold Eg;rw [List.map_append];exact Go.Proofs.YtbchfeibhoobeaaGreatDoor.Q2 _ _
theorem Ub{D:Fls}(h:∀ e∈D,e.2.1.length<=1048576):Eg D<=1048576*D.length:=by
 unfold Eg
 have:=Go.Proofs.YtbchfeibhoobeaaGreatDoor.S0 (l:=D.map λe=>e.2.1.length) (M:=1048576) λx hx=>by obtain ⟨y,hy,rfl⟩:=List.mem_map.1 hx;exact h y hy
 rwa [List.length_map] at this
theorem LB:∀ a b:List UInt8,Op.bytesLess a b=ltB a b
 |_,[]=>by unfold Op.bytesLess ltB;simp
 |[],_::_=>by unfold Op.bytesLess ltB;simp
 |a::x,b::y=>by
  have ih:=LB x y;unfold Op.bytesLess;unfold ltB at ih ⊢;rw [ih,Bool.eq_iff_iff];simp only [Bool.or_eq_true,Bq,decide_eq_true_eq,beq_iff_eq];exact List.cons_lt_cons_iff.symm
end Go.Jr
namespace Go.Proofs.YtbchfeibhoobeaaGreatDoor
open Go.Abs Go.Jr
variable {A:AW} {dq:Nat} {s:DS} {F:List Nat} {n:ByteArray} {K:Value->AW->Prop}
abbrev FQ:=ByteArray × ByteArray × Nat
def fQ(x:FQ):List Value:=[.string x.1,.string x.2.1,.int .i64 (x.2.2:Int)]
def toF(x:FQ):List UInt8 × Fil:=(x.1.data.toList,(x.2.1.data.toList,x.2.2))
theorem etQ:ET Tp 106 118 2 fQ where
 us:=by kernel_rfl
 sz:=by kernel_rfl
 ag:=by kernel_rfl
 by':=⟨40,by kernel_rfl,by decide⟩
 hz:=by kernel_rfl
 len:=λ_=>rfl
 one:=λ_=>rfl
 noT:=λ_=>rfl
theorem Aam(a b:ByteArray)(xo yo:Operand):Ai Tp .lss 9 xo yo (.string a) (.string b)=some (.bool (ltB a.data.toList b.data.toList)):=by
 show some (Value.bool (Op.bytesLess a.data.toList b.data.toList))=_;rw [LB]
def DQ(A:AW)(dq:Nat)(s:DS)(F:List Nat):Prop:=
 ∃ vl fl,Go.Abs.AS A dq [vl,.int .i64 s.room,.int .i64 s.B9,.bool s.down] 108/\BO 118 2 fQ A vl fl F/\s.D=fl.map toF/\dq∉F
theorem DQ.keeps{A':AW}{S:List Nat}(h:DQ A dq s F)(k:Aj A A' S)(h1:dq∉S)(h2:∀ x∈F,x∉S):DQ A' dq s F:=by
 obtain ⟨vl,fl,hr,ho,hD,hn⟩:=h;exact ⟨vl,fl,hr.keeps k h1,ho.keeps k h2,hD,hn⟩
theorem DQ.lt(h:DQ A dq s F):∀ x∈dq::F,x<A.next:=by
 obtain ⟨vl,fl,hr,ho,hD,hn⟩:=h;intro x hx;rcases Mk.1 hx with rfl | hx
 ·exact hr.lt
 ·exact ho.lt x hx
section
variable {W0:World} {m0:Inj Tp}
theorem PI(h:DQ A dq s F)(hl:s.D.length<1000000)(hk:K (.int .i64 (fixF n.data.toList s.D 0)) A):
  Wc Tp An W0 m0 69 [pP dq 0,.string n] A K:=by
 obtain ⟨vl,fl,hr,ho,hD,hnd⟩:=h;have hrd:=ho.rd etQ.len;have hvl:=ho.one;have hll:s.D.length=fl.length:=by rw [hD,List.length_map]
 let I:Nat->Nat->List Value->AW->Prop:=λg id vals A'=>id=0/\A'=A/\∃ i:Nat,vals=[pP dq 0,.string n,.int .i64 (i:Int)]/\g=fl.length-i/\i<=fl.length/\fixF n.data.toList s.D 0=fixF n.data.toList (s.D.drop i) i;refine w69 _ _ _ (c69 (I:=I) ?_) ?_
 ·rintro g id vals A' d ⟨rfl,rfl,i,rfl,rfl,hi,he⟩ hd;rw [Adb];simp only [L69,Mc,Mn,Li,and_true] at hd;obtain ⟨h0,h1,h5⟩:=hd;simp only [h0,h1,h5,Al,BM,Cs,Ae hr.row,cellOf,hvl.2,Cf,Ab,hrd.len etQ,AU,Ao];refine ⟨λhlt=>?_,λhge=>?_⟩
  ·have hlt:i<fl.length:=by omega
   obtain ⟨p,hp⟩:∃ p,fl[i]? =some p:=⟨_,Ge hlt⟩;obtain ⟨r,o,a1,a2,a3⟩:=hrd.at etQ hp;have hDi:s.D[i]? =some (toF p):=by rw [hD,List.getElem?_map,hp];rfl
   rw [Lt hDi,Pv] at he;have hc0:A'.cell? ⟨r,o,none⟩=some (.string p.1):=cell_of a2 (k:=0) rfl;simp only [a1,Ab,GP,CG,hc0,II];refine Ag.2 ⟨λhq=>?_,λhq=>?_⟩
   ·rw [if_pos (show (toF p).1=n.data.toList from beq_iff_eq.1 hq)] at he;rw [he] at hk;exact hk
   ·rw [if_neg (show ¬ (toF p).1=n.data.toList from λh=>by have h:p.1.data.toList=n.data.toList:=h;rw [h] at hq;simp at hq)] at he;rw [AY,wrap_i64 (by omega) (by omega)];simp only [Ab];exact Ar.2 ⟨fl.length-(i+1),by omega,rfl,rfl,i+1,rfl,rfl,by omega,he⟩
  ·have hi':i=fl.length:=by omega
   subst hi';rw [<- hll,List.drop_length] at he;rw [he] at hk;exact hk
 ·rw [e69];exact Ar.2 ⟨fl.length,rfl,rfl,0,rfl,rfl,by omega,by simp⟩
theorem AbD(h:DQ A dq s F)(hl:s.D.length<1000000)(hM:∀ e∈s.D,e.2.1.length<=1048576)(hk:K (.int .i64 (Eg s.D:Int)) A):
  Wc Tp An W0 m0 82 [pP dq 0] A K:=by
 obtain ⟨vl,fl,hr,ho,hD,hnd⟩:=h;have hrd:=ho.rd etQ.len;have hvl:=ho.one;have hll:s.D.length=fl.length:=by rw [hD,List.length_map]
 let I:Nat->Nat->List Value->AW->Prop:=λg id vals A'=>id=0/\A'=A/\∃ i:Nat,vals=[pP dq 0,.int .i64 (Eg (s.D.take i):Int),.int .i64 (i:Int)]/\g=fl.length-i/\i<=fl.length;refine w82 _ _ (c82 (I:=I) ?_) ?_
 ·rintro g id vals A' d ⟨rfl,rfl,i,rfl,rfl,hi⟩ hd;rw [Ac5];simp only [L82,Mc,Mn,Li,and_true] at hd;obtain ⟨h0,h3,h4⟩:=hd;simp only [h0,h3,h4,Al,BM,Cs,Ae hr.row,cellOf,hvl.2,Cf,Ab,hrd.len etQ,AU,Ao];refine ⟨λhlt=>?_,λhge=>?_⟩
  ·have hlt:i<fl.length:=by omega
   obtain ⟨p,hp⟩:∃ p,fl[i]? =some p:=⟨_,Ge hlt⟩;obtain ⟨r,o,a1,a2,a3⟩:=hrd.at etQ hp;have hDi:s.D[i]? =some (toF p):=by rw [hD,List.getElem?_map,hp];rfl
   have hc1:A'.cell? ⟨r,o+1,none⟩=some (.string p.2.1):=cell_of a2 (k:=1) rfl;have hM1:p.2.1.data.toList.length<=1048576:=hM (toF p) (List.mem_of_getElem? hDi);have hu:Eg (s.D.take i)<=1048576*i:=by
    have:=Ub (D:=s.D.take i) λe he=>hM e (List.mem_of_mem_take he)
    rw [List.length_take] at this;exact Nat.le_trans this (Nat.mul_le_mul_left _ (by omega))
   have hs1:Eg (s.D.take (i+1))=Eg (s.D.take i)+p.2.1.data.toList.length:=by
    rw [CB hDi,U2];rfl
   simp only [a1,Ab,Dr,CG,hc1,Ea,AY];rw [wrap_i64 (by omega) (by omega),wrap_i64 (by omega) (by omega)];refine Ar.2 ⟨fl.length-(i+1),by omega,rfl,rfl,i+1,?_,rfl,by omega⟩;rw [hs1];rfl
  ·have hi':i=fl.length:=by omega
   subst hi';rw [<- hll,List.take_length];exact hk
 ·rw [e82];exact Ar.2 ⟨fl.length,rfl,rfl,0,rfl,rfl,by omega⟩
theorem Z0(hn:n.data.toList.length<1000000000)(hk:K (.bool (Df n.data.toList)) A):Wc Tp An W0 m0 81 [.string n] A K:=by
 obtain ⟨l,hl⟩:∃ l,n.data.toList=l:=⟨_,rfl⟩;rw [hl] at hn;let I:Nat->Nat->List Value->AW->Prop:=λg id vals A'=>id=0/\A'=A/\∃ i:Nat,vals=[.string n,.int .i64 (i:Int)]/\g=l.length-i/\i<=l.length/\(l.take i).all JP=true;refine w81 _ _ (c81 (I:=I) ?_) ?_
 ·rintro g id vals A' d ⟨rfl,rfl,i,rfl,rfl,hi,hall⟩ hd;rw [Ac6];simp only [L81,Mc,Mn,Li,and_true] at hd;obtain ⟨d0,d3⟩:=hd;simp only [d0,d3,Ea,hl,AU,Ab,Ao];refine ⟨λhlt=>?_,λhge=>?_⟩
  ·have hlt:i<l.length:=by omega
   have hc:n.data.toList[i]? =some l[i]:=by rw [hl];exact Ge hlt
   have hb:JP l[i]=false->Df n.data.toList=false:=by
    intro hb;rw [hl];unfold Df
    have:(l.all λc=>decide (33<=c)&&decide (c<=126))=false:=by
     cases hq:(l.all λc=>decide (33<=c)&&decide (c<=126)) with
     |false=>rfl
     |true=>
      have:=List.all_eq_true.1 hq l[i] (List.getElem_mem hlt)
      unfold JP at hb;rw [hb] at this;cases this
    rw [this]
    simp
   rw [Js] at hb;simp only [ix9 hc,Ab,QE,DZ,Ao];refine ⟨λh1=>?_,λh1=>⟨λh2=>?_,λh2=>?_⟩⟩
   ·have h1:((l[i]).toNat:Int)<33:=by omega
    rw [hb (by simp [h1])] at hk;exact hk
   ·have h2:(126:Int)<((l[i]).toNat:Int):=by omega
    rw [hb (by simp [h2])] at hk;exact hk
   ·simp only [AY,Ab];rw [wrap_i64 (by omega) (by omega)];refine Ar.2 ⟨l.length-(i+1),by omega,rfl,rfl,i+1,rfl,rfl,by omega,?_⟩;rw [List.take_add_one,Ge hlt,List.all_append,hall];show (true&&(JP l[i]&&true))=true;rw [Js];have h1:¬ ((l[i]).toNat:Int)<33:=by omega
    have h2:¬ (126:Int)<((l[i]).toNat:Int):=by omega
    simp [h1,h2]
  ·have hi':i=l.length:=by omega
   rw [hi',List.take_length] at hall;have e:(l.all λc=>decide (33<=c)&&decide (c<=126))=true:=hall;have hm:Df n.data.toList=(decide (l≠[])&&decide (l.length<=40)):=by
    rw [hl];unfold Df;rw [e,Bool.and_true]
   rw [hm] at hk;simp only [DZ,QE,Ab,Ao];refine ⟨λh1=>?_,λh1=>?_⟩
   ·have:decide (l≠[])=true:=decide_eq_true (λh=>by rw [h] at h1;simp at h1)
    rw [this,Bool.true_and] at hk;have e2:decide ((l.length:Int)<=40)=decide (l.length<=40):=by
     rw [decide_eq_decide];omega
    rw [e2];exact hk
   ·have:decide (l≠[])=false:=decide_eq_false (λh=>h (List.eq_nil_of_length_eq_zero (by omega)))
    rw [this,Bool.false_and] at hk;exact hk
 ·rw [e81];exact Ar.2 ⟨l.length,rfl,rfl,0,rfl,rfl,Nat.zero_le _,by simp⟩
end
end Go.Proofs.YtbchfeibhoobeaaGreatDoor
namespace Go.Jr
def Tl(s:List UInt8):Sum Nat (Rec × Nat):=
 if s=[] then .inl 0 else
 if s.length<9 then .inl 1 else
 if Go.Crc.Ck (s.take 9)=false then .inl 2 else
 if 65536<C4 ((s.take 5).drop 1) then .inl 2 else
 if s.length<13+C4 ((s.take 5).drop 1) then .inl 1 else
 if Go.Crc.Ck ((s.drop 9).take (C4 ((s.take 5).drop 1)+4))=false then .inl 2 else
 .inr ((s.headD 0,(s.drop 9).take (C4 ((s.take 5).drop 1))),13+C4 ((s.take 5).drop 1))
theorem WJ(s:List UInt8):scan s=match Tl s with | .inl st=>([],0,st) | .inr (r,n)=>(r::(scan (s.drop n)).1,n+(scan (s.drop n)).2.1,(scan (s.drop n)).2.2):=by
 rw [Go.Proofs.YtbchfeibhoobeaaGreatDoor.Jh];unfold Tl;split
 ·rfl
 split
 ·rfl
 split
 ·rfl
 split
 ·rfl
 split
 ·rfl
 split
 ·rfl
 ·rfl
theorem YV{s:List UInt8}{r:Rec}{n:Nat}(h:Tl s=.inr (r,n)):13<=n/\n<=s.length:=by
 unfold Tl at h;split at h
 ·cases h
 split at h
 ·cases h
 split at h
 ·cases h
 split at h
 ·cases h
 split at h
 ·cases h
 rename_i hl;split at h
 ·cases h
 ·have:=congrArg Prod.snd (Sum.inr.inj h)
  have h1:13+C4 ((s.take 5).drop 1)=n:=this;omega
end Go.Jr
namespace Go.Proofs.YtbchfeibhoobeaaGreatDoor
open Go.Abs Go.Jr Go.Crc
variable {A:AW} {s:ByteArray} {K:Value->AW->Prop}
theorem Aa2(s:ByteArray):BQ Tp (λ_=>.string s) (.convert 9 41 (.tmp 0))=some (.bytes (s.data.toList.map λc=>.int .u8 c.toNat) 5):=by kernel_rfl
theorem Mo(n:Nat):∀ l:List UInt8,EF (EE (n+1)) (AI l) (AI l)=true
 |[]=>rfl
 |c::l=>by
  have ih:=Mo n l;unfold AI at ih ⊢;rw [Mc];simp only [EF,GD,Bool.true_and];exact ih
theorem RT{b:Nat}{p:Prop}(h:Go.Abs.AS A b (AI s.data.toList) 5)(hp:p):Dq (BQ Tp (λ_=>.string s) (.convert 9 41 (.tmp 0))) A (.slice (some ⟨b,0,none⟩) s.data.toList.length (Bx+s.data.toList.length)) p:=by
 refine ⟨⟨_,Aa2 s,?_⟩,hp⟩;have hb:EF (EE 6) (s.data.toList.map λc=>Value.int .u8 c.toNat) (AI s.data.toList)=true:=Mo 5 _;simp only [Cj,Fy,Tb,h.row,hb,List.length_map,Nat.beq_refl,Bool.and_self,Option.isNone_none,Bool.not_false]
theorem TZ(hf:Aw A)(h:A.next<Am)(hk:∀ A',Made A A' (AI s.data.toList) 5->RdS 5 A' (.slice (some ⟨A.next,0,none⟩) s.data.toList.length (Bx+s.data.toList.length)) s.data.toList [A.next]->K (.slice (some ⟨A.next,0,none⟩) s.data.toList.length (Bx+s.data.toList.length)) A'):Au (AX Tp A 9 41 (.string s)) K:=by
 rw [UL];unfold AW.new;simp only [AF.2 h,Ct];have m:Made A (A.push (.row (AI s.data.toList) 5 A.next 0 false)) (AI s.data.toList) 5:=⟨AW.B7 _ h,rfl,by rw [AW.BP _ h,if_pos rfl],hf.alone (Nl _),hf.push _ h⟩;exact Ba.2 (hk _ m (.inr ⟨A.next,0,s.data.toList.length,_,_,A.next,0,false,[],rfl,.inl rfl,Nl _,m.row,Nat.lt_succ_self _,rfl,by simp⟩))
theorem AdS:Bp Tp 35 []=some (.agg ⟨[.int .u8 0,.string ⟨⟨[]⟩⟩]⟩):=by kernel_rfl
theorem LA{q:Nat}{x:RV}(h:Go.Abs.AS A q (fR x) 35):A.cells? ⟨q,0,none⟩ 2=some (fR x):=by rw [Cg h.row];rfl
section
variable {W0:World} {m0:Inj Tp}
theorem Acf{r:RV}(hf:Aw A)(hr:r.2.data.toList.length<=65536)(hA:A.next+60<Am)(hk:∀ A' v F',Grow A A' 30->Buf 5 A' v (Gi (toR r)) F'->(∀ x∈F',A.next<=x)->K v A'):
  Wc Tp An W0 m0 108 [.agg ⟨fR r⟩] A K:=by
 have hroom:room=68719476736:=rfl;refine Afj _ _ BF ?_;rw [Ago];refine Bk (cs:=fR r) hf (by omega) rfl λA1 m1=>?_;have n1:=m1.next;have g1:Grow A A1 1:=.made m1 hf;have r1:Go.Abs.AS A1 A.next [.int .u8 r.1.toNat,.string r.2] 35:=m1.BB;simp only [E5,Kg,Ae r1.row,cellOf,AG,Cf,Ab];refine X7 m1.Ay (by omega) λA3 m3=>?_;have n3:=m3.next;have g3:=g1.trans (Grow.made m3 m1.Ay);have r3:=r1.keeps (m3.keeps m1.Ay) (by simp);refine RU m3.row ?_;simp only [E5,Ec,Kg,CG,Ae r3.row,cellOf,AG,AE,Cf,Ab,AR,Ea,N8,Ba,Nat.zero_add];rw [wrap_u64 (by omega) (by omega)];have hb3:Buf 5 A3 (.slice (some ⟨A1.next,0,none⟩) 1 1) [r.1] [A1.next]:=X0 (l:=[r.1]) m3.BB (by simp);refine Ab4 (n:=r.2.data.toList.length) (w:=4) m3.Ay (by omega) (by omega) (by omega) λA4 v4 F4 g4 b4 hF4=>?_;have n4:=g4.next;have le4:=g4.le;have r4:=r3.keeps g4.keeps (by simp);have m4:=m3.BB.keeps g4.keeps (by simp);refine RU m4.row ?_;simp only [E5,Kg,Ae r4.row,cellOf,AG,Cf,Ab,AR];refine C7 tb (hb3.keeps g4.keeps (by simp)) (C6 tb b4.rd) g4.Ay (by omega) (by rw [Ef];simp;omega) λv5 A5 F5 b5 k5 hF5 n5 f5=>?_;have hF5':∀ y∈F5,A.next<=y:=λy hy=>(hF5 y hy).elim (λh=>by have:=Ms.1 h;omega) λh=>by omega
 have g5:=(g3.trans g4).own k5 (λx hx=>by have:=Ms.1 hx;omega) (m:=1) n5 f5;have n5':=g5.next;refine Wl b5.rd f5 (by omega) (by rw [Lq,Ef];simp) λA6 v6 F6 g6 b6 hF6=>?_;have hhead:Dy ([r.1]++be r.2.data.toList.length 4)=Gi (toR r):=by rw [Yb];rfl
 rw [hhead] at b6;exact hk A6 v6 F6 ((g5.trans g6).more (by omega)) b6 λx hx=>by have:=hF6 x hx;have:=g5.le;omega
theorem AbB {x:Value} {l:List RV} {F:List Nat} (h:RdE 1 fR A x l F) (hf:Aw A) (hl:l.length<10000) (hd:∀ r∈l,r.2.data.toList.length<=65536) (hA:A.next+60*l.length+70<Am) (hsz:(Cr (l.map toR)).length<900000)
  (hk:∀ A',Grow A A' (60*l.length)->K (.tuple ⟨[.string ⟨⟨Cr (l.map toR)⟩⟩,.int .i64 0]⟩) A'):Wc Tp An W0 m0 87 [x] A K:=by
 have hroom:room=68719476736:=rfl;let I:Nat->Nat->List Value->AW->Prop:=λg id vals A'=>id=0/\∃ i:Nat,vals=[x,.string ⟨⟨Cr ((l.map toR).take i)⟩⟩,.int .i64 (i:Int)]/\i<=l.length/\g=l.length-i/\Grow A A' (60*i);refine w87 _ _ (c87 (I:=I) ?_) ?_
 ·rintro g id vals A' d ⟨rfl,i,rfl,hi,rfl,hgr⟩ hd';rw [Ac3];simp only [L87,Mc,Mn,Li,and_true] at hd';obtain ⟨h0,h4,h5⟩:=hd';have hn:=hgr.next;have hle:=hgr.le;have hrd:=h.keeps hgr.keeps (by simp);simp only [h0,h4,h5,hrd.len etR,AU,Ab,Ao];refine ⟨λhlt=>?_,λhge=>?_⟩
  ·have hlt:i<l.length:=by omega
   obtain ⟨p,hp⟩:∃ p,l[i]? =some p:=⟨_,Ge hlt⟩;have hpl:p.2.data.toList.length<=65536:=hd p (List.mem_of_getElem? hp);obtain ⟨r,o,a1,a2,a3⟩:=hrd.at etR hp;have hc:∀ B,Aj A' B []->B.cell? ⟨r,o+1,none⟩=some (.string p.2)/\B.cells? ⟨r,o,none⟩ 2=some (fR p):=λB k=>by
    obtain ⟨r',o',b1,b2,b3⟩:=(hrd.keeps k (by simp)).at etR hp;rw [a1] at b1;simp only [Oi,Value.pointer.injEq,Addr.mk.injEq] at b1;obtain ⟨rfl,rfl,_⟩:=b1;exact ⟨cell_of b2 (k:=1) rfl,b2⟩
   obtain ⟨c1,c2⟩:=hc A' (.refl _ _);simp only [a1,Ab,Ec,CG,c1,Ea,BN,Ao,JL,c2];refine ⟨λhgt=>by omega,λ_=>?_⟩;refine TZ hgr.Ay (by omega) λA1 m1 rs1=>?_;have n1:=m1.next;have k1:=m1.keeps hgr.Ay;obtain ⟨c3,c4⟩:=hc A1 k1;refine RT m1.BB ?_;simp only [a1,Ab,Ec,CG,c3,JL,c4,AR];refine Acf m1.Ay hpl (by omega) λA2 v2 F2 g2 b2 hF2=>?_;have n2:=g2.next;have le2:=g2.le;have K2:Aj A' A2 []:=k1.trans g2.keeps (by simp);obtain ⟨c5,c6⟩:=hc A2 K2;have m2:=m1.BB.keeps g2.keeps (by simp);refine RT m2 ?_;have hbl:=KR (l.map toR) i;have hp':(l.map toR)[i]? =some (toR p):=by rw [List.getElem?_map,hp];rfl
   have hnx:Cr ((l.map toR).take (i+1))=Cr ((l.map toR).take i)++Gi (toR p)++Dy p.2.data.toList:=by
    rw [CB hp',Jk];unfold Bc;rw [<- Mw];rfl
   simp only [a1,Ab,Ec,CG,c5,AR,b2.rd.str tb,Ba,T7 (a:=⟨⟨Cr ((l.map toR).take i)⟩⟩) (b:=⟨⟨Gi (toR p)⟩⟩) (show (Cr ((l.map toR).take i)).length+(Gi (toR p)).length<1099511627776 by rw [CJ];omega)];refine Wl (rs1.keeps g2.keeps (by simp)).rd g2.Ay (by omega) (by omega) λA3 v3 F3 g3 b3 hF3=>?_;have n3:=g3.next;have le3:=g3.le;have b2':=b2.keeps g3.keeps (by simp);simp only [b2'.rd.str tb,Ba,b3.rd.str tb,Ab,AR,T7 (a:=⟨⟨Cr ((l.map toR).take i)⟩⟩) (b:=⟨⟨Gi (toR p)⟩⟩) (show (Cr ((l.map toR).take i)).length+(Gi (toR p)).length<1099511627776 by rw [CJ];omega)];rw [T7 (a:=⟨⟨Cr ((l.map toR).take i)++Gi (toR p)⟩⟩) (b:=⟨⟨Dy p.2.data.toList⟩⟩) (show (Cr ((l.map toR).take i)++Gi (toR p)).length+(Dy p.2.data.toList).length<1099511627776 by rw [Lq,CJ,Dx];omega)];simp only [Ab,AY];rw [wrap_i64 (by omega) (by omega)];refine Ar.2 ⟨l.length-(i+1),by omega,rfl,i+1,?_,by omega,rfl,?_⟩
   ·rw [hnx];rfl
   ·exact ⟨(hgr.keeps.trans K2 (by simp)).trans g3.keeps (by simp),g3.Ay,by omega⟩
  ·have hi:i=l.length:=by omega
   subst hi;rw [List.take_of_length_le (by simp)];exact hk A' hgr
 ·rw [e87];exact Ar.2 ⟨l.length,rfl,0,rfl,by omega,rfl,Grow.refl hf⟩
theorem AbE (hf : Aw A) (hs : s.data.toList.length <= 65536) (hA : A.next + 140 < Am) (hk : ∀ A', Grow A A' 61 -> K (.string ⟨⟨Bc (0, s.data.toList)⟩⟩) A') : Wc Tp An W0 m0 71 [.string s] A K := by
  refine w71 _ _ BF ?_
  rw [e71]
  simp only [ZX, Ab]
  refine MI (c := 0) (s := s) hf (by omega) λA1 m1 => ?_
  have n1 := m1.next
  have hrd : RdE 1 fR A1 (.slice (some ⟨A.next, 0, none⟩) 1 1) [(0, s)] [A.next] := .inr ⟨A.next, 0, 1, _, _, A.next, 0, false, rfl, m1.row, by omega, rfl, λi p hi => by
    cases i with
    | zero => obtain rfl : ((0, s) : RV) = p := by simpa using hi
              exact ⟨[], rfl⟩
    | succ i => simp at hi⟩
  have hpl : Cr (([(0, s)] : List RV).map toR) = Bc (0, s.data.toList) := by simp [Cr, toR]
  refine AbB hrd m1.Ay (by simp) (by simpa using hs) (by simp; omega) (by rw [hpl, Cn]; show 13 + s.data.toList.length < 900000; omega) λA2 g2 => ?_
  rw [hpl]
  simp only [Bw, Bv, Ab]
  exact hk A2 (((Grow.made m1 hf).trans g2).more (by simp))
end
end Go.Proofs.YtbchfeibhoobeaaGreatDoor
