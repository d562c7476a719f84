/-
  This text prints what the functions reached ask of their memory, and shows what they answer. Conditions: none for the last theorem, those that each theorem states for the others.
-/
import Derived.Test.YtkjlldaddekegaaGreatDoorPe
set_option maxRecDepth 100000
set_option maxHeartbeats 1000000
namespace Go.Proofs.YtkjlldaddekegaaGreatDoor.Lt
open Go.Abs
theorem NH(a b:Value):Ar (.tuple ⟨[a,b]⟩) 0=some a:=rfl
theorem NG(a b:Value):Ar (.tuple ⟨[a,b]⟩) 1=some b:=rfl
section
variable {W0:World} {m0:Inj Tryz.prog}
theorem Vl(l:List Nm):JN l=decide (ni l=1):=by
 unfold ni;cases h:JN l<;>simp
theorem YF {kd xa no : Nat} {x : Nm} {sv : Value} {l : List Nm} {F : List Nat} {A : AW} {K : Value → AW → Prop} (hkd : kd < 256) (hf : AB A) (hA : A.next + 10000 < Ak) (hl : RdN A sv l F) (hlen1 : l.length ≤ 1)
    (hk : ∀ A', Grow A A' 5000 → K (.int .i64 (Kr kd xa no x l)) A') : Wc Tryz.prog Af W0 m0 82 [EB kd xa no x sv] A K := by
  have hF := hl.fam
  have hno : ∀ A', Grow A A' 5000 → ¬ Lok kd xa no (zi x) (Ce x.g x.b) (ni l) l.length → K (.int .i64 250) A' := fun A' g h => by have := hk A' g; rw [Hn h] at this; exact this
  have hyes : ∀ A', Grow A A' 5000 → Lok kd xa no (zi x) (Ce x.g x.b) (ni l) l.length → K (.int .i64 0) A' := fun A' g h => by have := hk A' g; rw [Fj h] at this; exact this
  refine w82 _ _ Bu ?_
  rw [e82]; unfold Rk Rl Rm
  refine AH (cs := (Value.cells (EB kd xa no x sv)).toList) hf (by omega) (by simp [EB, Cl, Value.cells, Hi, D4, hl.one.1]) fun A1 m1 => ?_
  have n1 := m1.next
  have r1 : Go.Abs.AF A1 A.next (Cl kd xa no x sv) 38 := m1.Bk
  have hl1 := hl.keeps (m1.keeps hf) (by simp)
  have g1 := Grow.made m1 hf
  have ht : A1.cells? ⟨A.next, 1, none⟩ 3 = some [.int .u32 (x.f : Int), .string x.g, .string x.b] := by rw [BH r1.row]; rfl
  have hz := ZY x
  unfold Nm.cells at hz
  have hn1 : ∀ h : ¬ Lok kd xa no (zi x) (Ce x.g x.b) (ni l) l.length, K (.int .i64 250) A1 := hno A1 (g1.more (by omega))
  simp only [Cw, DV, Ag r1.row, Cl, cellOf, Au, Av, hl.one.2, Cf, Ab, Nat.zero_add]
  refine YH hkd fun k an hka => ?_
  rcases hka with ⟨rfl, hk0, hkk⟩ | ⟨rfl, hk0, hk1, hk2⟩ | ⟨rfl, hk0, hk1, hk2⟩
  all_goals simp only [NH, NG, Cw, Er, EW, Ft, DT, DV, Ec, IT, JS, E8, ht, Ag r1.row, Cl, cellOf, Au, Av, hl.one.2, Cf, hl1.len, Bh, Dk, C6, Bb, Cy, Bn, BC, NR, hz, Ab, Ap, Ay, AU, Ai, Nat.zero_add, Bool.not_true, Bool.not_false, Bool.not_eq_true', Bool.not_eq_false', decide_eq_true_eq, decide_eq_false_iff_not, beq_iff_eq, beq_eq_false_iff_ne, bne_iff_ne, bne_eq_false_iff_eq, ne_eq, Bool.false_eq_true, Bool.true_eq_false, reduceCtorEq, false_implies, implies_true, forall_const, true_and, and_true]
  all_goals repeat' (first | intro _ | with_reducible apply And.intro)
  all_goals first
    | exact hn1 (by unfold Lok; omega)
    | (refine X6 hl1 hlen1 m1.Ao (by omega) fun A3 g3 => ?_
       have g03 := g1.trans g3
       simp only [Vl, BC, Ab, Ai, Bool.not_eq_true', Bool.not_eq_false', decide_eq_true_eq, decide_eq_false_iff_not]
       exact ⟨fun _ => hno A3 (g03.more (by omega)) (by unfold Lok; omega), fun _ => hyes A3 (g03.more (by omega)) (by unfold Lok; omega)⟩)
    | (refine QU (f := (x.f : Int)) (g := x.g) (b := x.b) m1.Ao (by omega) fun A2 g2 => ?_
       have n2 := g2.next
       have r2 := r1.keeps g2.keeps (by simp)
       have hl2 := hl1.keeps g2.keeps (by simp)
       have g02 := g1.trans g2
       have hn2 : ∀ h : ¬ Lok kd xa no (zi x) (Ce x.g x.b) (ni l) l.length, K (.int .i64 250) A2 := hno A2 (g02.more (by omega))
       simp only [Cw, Er, EW, Ft, DT, DV, Ec, IT, JS, E8, Ag r2.row, Cl, cellOf, Au, Av, hl.one.2, Cf, hl2.len, Bh, Dk, C6, Bb, Cy, Bn, BC, NR, hz, Ab, Ap, Ay, AU, Ai, Nat.zero_add, Bool.not_true, Bool.not_false, Bool.not_eq_true', Bool.not_eq_false', decide_eq_true_eq, decide_eq_false_iff_not, beq_iff_eq, beq_eq_false_iff_ne, bne_iff_ne, bne_eq_false_iff_eq, ne_eq, Bool.false_eq_true, Bool.true_eq_false, reduceCtorEq, false_implies, implies_true, forall_const, true_and, and_true]
       repeat' (first | intro _ | with_reducible apply And.intro)
       all_goals first
         | exact hn2 (by unfold Lok; omega)
         | (refine X6 hl2 hlen1 g2.Ao (by omega) fun A3 g3 => ?_
            have g03 := g02.trans g3
            simp only [Vl, BC, Ab, Ai, Bool.not_eq_true', Bool.not_eq_false', decide_eq_true_eq, decide_eq_false_iff_not]
            exact ⟨fun _ => hno A3 (g03.more (by omega)) (by unfold Lok; omega), fun _ => hyes A3 (g03.more (by omega)) (by unfold Lok; omega)⟩))
end
end Go.Proofs.YtkjlldaddekegaaGreatDoor.Lt
namespace Go.Crc
def J3(r:Nat):Nat:=if r%2=1 then (r/2) ^^^ 2197175160 else r/2
def bits:Nat→Nat→Nat
 |0,r=>r
 |n+1,r=>bits n (J3 r)
def tab:List Nat:=[0,274646895,549293790,820201905,1098587580,1361435347,1640403810,1905808397,2197175160,2460548119,2722870694,2987750089,3280807620,3553878443,3811616794,4084100981]
def nib(r:Nat):Nat:=(r/16) ^^^ tab.getD (r%16) 0
def Yz(r:Nat)(c:UInt8):Nat:=bits 8 (r ^^^ c.toNat)
def Ig(r:Nat)(l:List UInt8):Nat:=l.foldl Yz r
def Eh(l:List UInt8):Nat:=4294967295-Ig 4294967295 l
def le4(s:Nat):List UInt8:=[UInt8.ofNat s,UInt8.ofNat (s/256),UInt8.ofNat (s/65536),UInt8.ofNat (s/16777216)]
def EC(l:List UInt8):List UInt8:=l++le4 (Eh l)
theorem Ul(x y:Nat):(x ^^^ y)/2=(x/2) ^^^ (y/2):=by
 apply Nat.eq_of_testBit_eq;intro i;simp [Nat.testBit_div_two,Nat.testBit_xor]
theorem Wz(x y:Nat):((x ^^^ y)%2=1)↔¬ ((x%2=1)↔(y%2=1)):=by
 have h:=Nat.testBit_xor x y 0;simp only [Nat.testBit_zero] at h;by_cases hx:x%2=1<;>by_cases hy:y%2=1<;>simp_all
theorem Wj(x y:Nat):J3 (x ^^^ y)=J3 x ^^^ J3 y:=by
 unfold J3;have h:=Wz x y;rw [Ul];by_cases hx:x%2=1<;>by_cases hy:y%2=1
 ·rw [if_neg (fun e=>(h.1 e) ⟨fun _=>hy,fun _=>hx⟩),if_pos hx,if_pos hy];apply Nat.eq_of_testBit_eq;intro i;simp only [Nat.testBit_xor];cases (x/2).testBit i<;>cases (y/2).testBit i<;>cases Nat.testBit 2197175160 i<;>rfl
 ·rw [if_pos (h.2 fun e=>hy (e.1 hx)),if_pos hx,if_neg hy];apply Nat.eq_of_testBit_eq;intro i;simp only [Nat.testBit_xor];cases (x/2).testBit i<;>cases (y/2).testBit i<;>cases Nat.testBit 2197175160 i<;>rfl
 ·rw [if_pos (h.2 fun e=>hx (e.2 hy)),if_neg hx,if_pos hy];apply Nat.eq_of_testBit_eq;intro i;simp only [Nat.testBit_xor];cases (x/2).testBit i<;>cases (y/2).testBit i<;>cases Nat.testBit 2197175160 i<;>rfl
 ·rw [if_neg (fun e=>(h.1 e) ⟨fun e=>absurd e hx,fun e=>absurd e hy⟩),if_neg hx,if_neg hy]
theorem QI:∀ (n x y:Nat),bits n (x ^^^ y)=bits n x ^^^ bits n y
 |0,_,_=>rfl
 |n+1,x,y=>by rw [bits,Wj,QI n];rfl
theorem Nc:∀ (n m r:Nat),bits (n+m) r=bits m (bits n r)
 |0,m,r=>by rw [Nat.zero_add];rfl
 |n+1,m,r=>by rw [show n+1+m=(n+m)+1 by omega,bits,Nc n m];rfl
theorem Uc(q:Nat):J3 (2*q)=q:=by
 unfold J3;rw [if_neg (by omega)];omega
theorem Na:∀ (n q:Nat),bits n (2^n*q)=q
 |0,q=>by simp [bits]
 |n+1,q=>by rw [bits,Nat.pow_succ,Nat.mul_comm (2^n) 2,Nat.mul_assoc,Uc,Na n]
theorem Ti(n r:Nat):r=(2^n*(r/2^n)) ^^^ (r%2^n):=by
 apply Nat.eq_of_testBit_eq;intro i;rw [Nat.testBit_xor,Nat.testBit_two_pow_mul,Nat.testBit_mod_two_pow];by_cases h:i<n
 ·simp [h,show ¬ n≤i by omega]
 ·have h2:n≤i:=by omega
  simp only [h,h2,decide_true,decide_false,Bool.true_and,Bool.false_and,Bool.xor_false];rw [Nat.testBit_div_two_pow,show i-n+n=i by omega]
theorem UQ:∀ n,n<16→bits 4 n=tab.getD n 0:=by decide
theorem My(r:Nat):nib r=bits 4 r:=by
 conv=>rhs;rw [Ti 4 r]
 rw [QI,Na 4,UQ _ (Nat.mod_lt _ (by decide))];rfl
theorem WU(r:Nat):nib (nib r)=bits 8 r:=by
 rw [My,My,← Nc]
theorem XA{r:Nat}(h:r<4294967296):J3 r<4294967296:=by
 unfold J3;split
 ·exact Nat.xor_lt_two_pow (n:=32) (by omega) (by decide)
 ·omega
theorem LP:∀ (n:Nat) {r:Nat},r<4294967296→bits n r<4294967296
 |0,_,h=>h
 |n+1,_,h=>LP n (XA h)
theorem LO(c:UInt8):c.toNat<4294967296:=Nat.lt_trans c.toNat_lt (by decide)
theorem Wg{r:Nat}(c:UInt8)(h:r<4294967296):Yz r c<4294967296:=LP 8 (Nat.xor_lt_two_pow (n:=32) h (LO c))
theorem O5:∀ (l:List UInt8) {r:Nat},r<4294967296→Ig r l<4294967296
 |[],_,h=>h
 |c::l,_,h=>O5 l (Wg c h)
theorem Jf(s:Nat):(le4 s).length=4:=rfl
theorem DG(l:List UInt8):(EC l).length=l.length+4:=by simp [EC,le4]
theorem Lg(r:Nat)(a b:List UInt8):Ig r (a++b)=Ig (Ig r a) b:=by simp [Ig]
def DF(l:List UInt8):Bool:=decide (4≤l.length)&&(l==EC (l.take (l.length-4)))
theorem PK(l:List UInt8):DF (EC l)=true:=by
 unfold DF;have h:(EC l).take ((EC l).length-4)=l:=by
  rw [DG,Nat.add_sub_cancel];unfold EC;rw [List.take_left'];rfl
 rw [h,DG]
 simp
end Go.Crc
namespace Go.Proofs.YtkjlldaddekegaaGreatDoor.Lt
open Go.Abs Go.Crc
variable {n a b i r s0:Nat} {t:TypeId} {xo yo:Operand} {A:AW} {K:Value→AW→Prop} {x:Value} {l:List UInt8} {F:List Nat}
theorem T0(h:n<4294967296):(BitVec.ofInt 32 (n:Int)).toNat=n:=by
 rw [BitVec.toNat_ofInt]
 have:((2^32:Nat):Int)=4294967296:=by decide
 rw [this];omega
theorem wrap_u32(h:n<4294967296):IntKind.u32.wrap (n:Int)=(n:Int):=by
 simp [IntKind.wrap,IntKind.bits,IntKind.signed];omega
theorem IH{P:Program}(ha:a<4294967296)(hb:b<4294967296):Ah P .xor t xo yo (.int .u32 (a:Int)) (.int .u32 (b:Int))=some (.int .u32 ((a ^^^ b:Nat):Int)):=by
 have e:IntKind.u32.wrap ((BitVec.ofInt 32 (a:Int) ^^^ BitVec.ofInt 32 (b:Int)).toNat:Int)=((a ^^^ b:Nat):Int):=by
  rw [BitVec.toNat_xor,T0 ha,T0 hb];exact wrap_u32 (Nat.xor_lt_two_pow (n:=32) ha hb)
 have:Ah P .xor t xo yo (.int .u32 (a:Int)) (.int .u32 (b:Int))=some (.int .u32 (IntKind.u32.wrap ((BitVec.ofInt 32 (a:Int) ^^^ BitVec.ofInt 32 (b:Int)).toNat:Int))):=by
  rfl
 rw [this,e]
theorem Ab0(a:Nat):a&&& 15=a%16:=Nat.and_two_pow_sub_one_eq_mod a 4
theorem Ue{P:Program}(ha:a<4294967296):Ah P .and t xo yo (.int .u32 (a:Int)) (.int .u32 15)=some (.int .u32 ((a%16:Nat):Int)):=by
 have e:IntKind.u32.wrap ((BitVec.ofInt 32 (a:Int)&&& BitVec.ofInt 32 ((15:Nat):Int)).toNat:Int)=((a%16:Nat):Int):=by
  rw [BitVec.toNat_and,T0 ha,T0 (by decide),Ab0];exact wrap_u32 (by omega)
 have:Ah P .and t xo yo (.int .u32 (a:Int)) (.int .u32 15)=some (.int .u32 (IntKind.u32.wrap ((BitVec.ofInt 32 (a:Int)&&& BitVec.ofInt 32 ((15:Nat):Int)).toNat:Int))):=by
  rfl
 rw [this,e]
theorem WA(h:n<4294967296):4294967295 ^^^ n=4294967295-n:=by
 apply Nat.eq_of_testBit_eq;intro i;have e1:4294967295-n=2^32-(n+1):=by omega
 rw [e1,Nat.testBit_two_pow_sub_succ (by omega),Nat.testBit_xor,show (4294967295:Nat)=2^32-1 by rfl,Nat.testBit_two_pow_sub_one];by_cases hi:i<32
 ·simp [hi]
 ·have:n.testBit i=false:=Nat.testBit_lt_two_pow (Nat.lt_of_lt_of_le h (Nat.pow_le_pow_right (n:=2) (by decide) (show 32≤i by omega)))
  simp [hi,this]
theorem Jt{P:Program}(h:n<4294967296):unA P .xor (.int .u32 (n:Int))=some (.int .u32 ((4294967295-n:Nat):Int)):=by
 have e:IntKind.u32.wrap ((BitVec.ofInt 32 ((4294967295:Nat):Int) ^^^ BitVec.ofInt 32 (n:Int)).toNat:Int)=((4294967295-n:Nat):Int):=by
  rw [BitVec.toNat_xor,T0 (by decide),T0 h,WA h];exact wrap_u32 (by omega)
 have:unA P .xor (.int .u32 (n:Int))=some (.int .u32 (IntKind.u32.wrap ((BitVec.ofInt 32 ((4294967295:Nat):Int) ^^^ BitVec.ofInt 32 (n:Int)).toNat:Int))):=by
  rfl
 rw [this,e]
theorem WJ(a s:Nat):((a:Int).fdiv (2^s))=((a/2^s:Nat):Int):=by
 rw [Int.fdiv_eq_ediv_of_nonneg _ (Int.pow_nonneg (by decide)),show (2:Int)^s=((2^s:Nat):Int) by rw [Int.natCast_pow];rfl];rfl
def AaK:List Value:=tab.map fun (n:Nat)=>.int .u32 (n:Int)
structure Glb (A:AW):Prop where
 row:A.get 1=some (.row AaK 302 1 0 true)
 lt:1<A.next
theorem Glb.keeps{A':AW}{S:List Nat}(h:Glb A)(k:AA A A' S)(hn:1∉S):Glb A':=⟨k.get 1 _ h.row h.lt hn,Nat.lt_of_lt_of_le h.lt k.next⟩
theorem UP(h:Glb A)(hi:i<16):∃ a,Aj Tryz.prog 302 (.pointer (some ⟨1,0,none⟩)) (.int .u32 (i:Int))=some (.pointer (some a))∧A.cell? a=some (.int .u32 ((tab.getD i 0:Nat):Int)):=by
 refine ⟨⟨1,i,none⟩,?_,?_⟩
 ·show Aj Tryz.prog 302 _ (.int .u32 (.ofNat i))=_;rw [Zv,Ax.2 hi,Ct];unfold DM;cases hb:Nat.beq (i*1) 0 with
  |true=>rw [Ct];have:=Nb hb;rw [Nat.mul_one] at this;rw [this]
  |false=>rw [Cf,Nat.mul_one,Nat.zero_add]
 ·rw [Ag h.row];refine D8 ?_ rfl;unfold AaK;have hl:i<tab.length:=hi;rw [List.getElem?_map,Ge hl];simp [List.getD,Ge hl]
theorem Y0:∀ i,i<16→tab.getD i 0<4294967296:=by decide
theorem Za(h:r<4294967296):nib r<4294967296:=by rw [My];exact LP 4 h
section
variable {W0:World} {m0:Inj Tryz.prog}
theorem P5{K:Value→Prop}(hg:Glb A)(hr:r<4294967296){o1 o2 o3 o4 o5 o6:Operand}(hk:K (.int .u32 ((nib r:Nat):Int))):
  Aa (Ah Tryz.prog .shr 22 o1 o2 (.int .u32 (r:Int)) (.int .u64 4)) fun t5=>Aa (Ah Tryz.prog .and 22 o3 o4 (.int .u32 (r:Int)) (.int .u32 15)) fun t6=>Aa (Aj Tryz.prog 302 (.pointer (some ⟨1,0,none⟩)) t6) fun t7=>Aa (Ad Tryz.prog A 22 t7) fun t8=>Aa (Ah Tryz.prog .xor 22 o5 o6 t5 t8) fun t9=>K t9:=by
 have hi:r%16<16:=Nat.mod_lt _ (by decide);obtain ⟨a,h1,h2⟩:=UP hg hi;rw [Gz (by decide)];have e1:(r:Int).fdiv (2^(min (4:Int).toNat (IntKind.bits .u32)))=((r/16:Nat):Int):=WJ r 4;rw [e1];simp only [Ue hr,Ab,h1,E9,h2];rw [IH (by omega) (Y0 _ hi)];exact Ab.2 hk
theorem Aap(h:RdB A x l F)(hg:Glb A)(hl:l.length<1000000)(hs:s0<4294967296)(hk:K (.int .u32 ((4294967295-Ig (4294967295-s0) l:Nat):Int)) A):Wc Tryz.prog Af W0 m0 208 [.int .u32 (s0:Int),x] A K:=by
 let I:Nat→Nat→List Value→AW→Prop:=fun g id vals A'=>id=0∧A'=A∧∃ i:Nat,vals=[x,.int .u32 ((Ig (4294967295-s0) (l.take i):Nat):Int),.int .i64 (l.length:Int),.int .i64 (i:Int)]∧g=l.length-i∧i≤l.length;refine AdV _ _ _ (c208 (I:=I) ?_) ?_
 ·rintro g id vals A' d ⟨rfl,rfl,i,rfl,rfl,hi⟩ hd;rw [Zo];simp only [Wt,Mc,Mn,Li,and_true] at hd;obtain ⟨h1,h5,h10,h11⟩:=hd;have hr:Ig (4294967295-s0) (l.take i)<4294967296:=O5 _ (by omega);obtain ⟨r,hre⟩:∃ r,Ig (4294967295-s0) (l.take i)=r:=⟨_,rfl⟩;rw [hre] at h5 hr;simp only [h1,h5,h10,h11,Bb,Ab,Ap];refine ⟨fun hlt=>?_,fun hge=>?_⟩
  ·have hlt:i<l.length:=by omega
   have hc:=Ge hlt;obtain ⟨a,a1,a2⟩:=h.at tb hc;have hcl:=LO l[i];have ec:IntKind.u32.wrap ((l[i].toNat:Nat):Int)=((l[i].toNat:Nat):Int):=wrap_u32 hcl;simp only [a1,DV,a2,Ab,S0,AR,ec,IH hr hcl];have hx:r ^^^ l[i].toNat<4294967296:=Nat.xor_lt_two_pow (n:=32) hr hcl;refine P5 hg hx ?_;refine P5 hg (Za hx) ?_;simp only [Bw,Ab];rw [wrap_i64 (by omega) (by omega),WU];refine AE.2 ⟨l.length-(i+1),by omega,rfl,rfl,i+1,?_,rfl,by omega⟩;rw [List.take_add_one,hc];have e:Ig (4294967295-s0) (l.take i++(some l[i]).toList)=Go.Crc.bits 8 (r ^^^ l[i].toNat):=by
    rw [Lg,hre];rfl
   rw [e];rfl
  ·have hi':i=l.length:=by omega
   rw [hi',List.take_length] at hre;rw [Jt hr];refine Ab.2 ?_;rw [← hre];exact hk
 ·rw [AeV];rw [Jt hs];simp only [h.len tb,Ab];exact AE.2 ⟨l.length,rfl,rfl,0,rfl,rfl,by omega⟩
theorem Yb(h:RdB A x l F)(hg:Glb A)(hl:l.length<1000000)(hk:K (.int .u32 ((Eh l:Nat):Int)) A):Wc Tryz.prog Af W0 m0 141 [x] A K:=by
 refine Aed _ _ Bu ?_;rw [Afd];exact Aap (s0:=0) h hg hl (by decide) hk
theorem OS{s:Nat}(h:i<4):(le4 s)[i]? =some (UInt8.ofNat (s/256^i)):=by
 have hc:i=0∨i=1∨i=2∨i=3:=by omega
 rcases hc with rfl | rfl | rfl | rfl<;>simp [le4]
theorem Aav (h:RdB A x l F) (hg:Glb A) (hf:AB A) (hA:A.next+5<Ak) (hl:l.length<900000)
  (hk:∀ A' v F',Grow A A' 1→Buf 5 A' v (Go.Crc.EC l) F'→(∀ x∈F',A.next≤x)→K v A'):Wc Tryz.prog Af W0 m0 146 [x] A K:=by
 have hroom:room=68719476736:=rfl;have hlt:=h.lt;obtain ⟨a0,c0,hx⟩:=h.slice;let I:Nat→Nat→List Value→AW→Prop:=fun g id vals A'=>id=0∧∃ i:Nat,vals=[x,.slice (some ⟨A.next,0,none⟩) (l.length+4) (l.length+4),.int .u32 ((Eh l:Nat):Int),.int .i64 (i:Int)]∧g=4-i∧i≤4∧
  Go.Abs.AF A' A.next (Az (l++(le4 (Eh l)).take i)++List.replicate (4-i) (.int .u8 0)) 5∧Grow A A' 1∧A'.next=A.next+1
 refine Ad8 _ _ (c146 (I:=I) ?_) ?_
 ·rintro g id vals A' d ⟨rfl,i,rfl,rfl,hi,hr,hgr,hn⟩ hd;rw [Zr];simp only [Wv,Mc,Mn,Li,and_true] at hd;obtain ⟨h0,h3,h4,h15⟩:=hd;have hx':Br Tryz.prog A' 52 x=some (.int .i64 (l.length:Int)):=by rw [hx];exact JQ _ _ _ _
  simp only [h0,h3,h4,h15,Bb,Ab,Ap];refine ⟨fun hlt=>?_,fun hge=>?_⟩
  ·have hlt:i<4:=by omega
   have hlen:Br Tryz.prog A' 52 x=some (.int .i64 (l.length:Int)):=by rw [hx];exact JQ _ _ _ _
   simp only [hlen,Bw,LR,Ab];rw [wrap_i64 (n:=(l.length:Int)+i) (by omega) (by omega),wrap_i64 (n:=8*(i:Int)) (by omega) (by omega),Gz (by omega)];have e3:min (8*(i:Int)).toNat (IntKind.bits .u32)=8*i:=by show min _ 32=_;omega
   rw [e3];simp only [Ab,LM,AR,Ht];have hia:Aj Tryz.prog 52 (.slice (some ⟨A.next,0,none⟩) (l.length+4) (l.length+4)) (.int .i64 ((l.length:Int)+i))=some (.pointer (some ⟨A.next,l.length+i,none⟩)):=by
    show Aj Tryz.prog 52 _ (.int .i64 (.ofNat (l.length+i)))=_;rw [Qi,Ax.2 (by omega),Ct];unfold DM;cases hb:Nat.beq ((l.length+i)*1) 0 with
    |true=>rw [Ct];have:=Nb hb;rw [Nat.mul_one] at this;rw [this]
    |false=>rw [Cf,Nat.mul_one,Nat.zero_add]
   rw [hia];simp only [Ab];refine hr.store hgr.Ao (by omega) (Y2 _ _ _) rfl (by simp [Value.cells,AV,Jf];omega) rfl fun A2 r2 k2 n2 f2=>?_;have e4:4-i=(4-(i+1))+1:=by omega
   have e5:l.length+i=(Az (l++(le4 (Eh l)).take i)).length:=by rw [AV,Lq,List.length_take,Jf];omega
   have hs:Ee (Az (l++(le4 (Eh l)).take i)++List.replicate (4-i) (Value.int .u8 0)) (l.length+i) (Value.cells (.int .u8 ((UInt8.ofNat (Eh l/256^i)).toNat:Int))).toList=Az (l++(le4 (Eh l)).take (i+1))++List.replicate (4-(i+1)) (.int .u8 0):=by
    rw [e4,List.replicate_succ,e5]
    have:=EZ (Az (l++(le4 (Eh l)).take i)) [Value.int .u8 0] [Value.int .u8 ((UInt8.ofNat (Eh l/256^i)).toNat:Int)] (List.replicate (4-(i+1)) (.int .u8 0)) rfl
    refine this.trans ?_;rw [List.take_add_one,OS hlt,← Mw,C1,C1,C1];simp [Az]
   rw [hs] at r2;rw [wrap_i64 (by omega) (by omega)];exact AE.2 ⟨4-(i+1),by omega,rfl,i+1,rfl,rfl,by omega,r2,(hgr.own k2 (by simp) (m:=0) (by omega) f2),by omega⟩
  ·have hi':i=4:=by omega
   subst hi';have e:Az (l++(le4 (Eh l)).take 4)++List.replicate (4-4) (Value.int .u8 0)=Az (Go.Crc.EC l)++[]:=rfl;rw [e] at hr;refine hk A' _ [A.next] hgr (.inr (.inr ⟨A.next,l.length+4,[],by rw [DG],by omega,hr,by rw [DG];rfl,rfl,rfl⟩)) (by simp)
 ·rw [Ae8];simp only [h.len tb,Bw,Ab];rw [wrap_i64 (by omega) (by omega),show (l.length:Int)+4=((l.length+4:Nat):Int) by omega];refine GQ tb hf (by omega) (Nl _) (by omega) fun A1 m1=>?_;have n1:=m1.next;have k1:=m1.keeps hf;refine S1 tb m1.Bk (h.keeps k1 (by simp)) m1.Ao (by omega) (by rw [List.length_replicate];omega) fun A2 vv r2 k2 n2 f2=>?_;rw [Nat.min_eq_left (by omega),List.take_length] at r2;have g2:Grow A A2 1:=(Grow.made m1 hf).own k2 (by simp) (m:=0) (by omega) f2;have hx2:=h.keeps g2.keeps (by simp);have hg2:=hg.keeps g2.keeps (by simp);refine Yb hx2 hg2 (by omega) ?_;refine AE.2 ⟨4,rfl,0,rfl,rfl,by omega,?_,g2,by omega⟩;have e:Ee (List.replicate (l.length+4) (Value.int .u8 0)) 0 (Az l)=Az (l++(le4 (Eh l)).take 0)++List.replicate (4-0) (.int .u8 0):=by
   rw [List.replicate_append_replicate.symm]
   have:=EZ [] (List.replicate l.length (Value.int .u8 0)) (Az l) (List.replicate 4 (.int .u8 0)) (by rw [List.length_replicate,AV])
   simp only [List.nil_append,Ln] at this;rw [this]
   simp
  rw [← e];exact r2
theorem Aaw (h : RdB A x l F) (hl : l.length < 1000000) (hs : s0 < 4294967296) (hk : K (.int .u32 ((4294967295 - Ig (4294967295 - s0) l : Nat) : Int)) A) : Wc Tryz.prog Af W0 m0 140 [.int .u32 (s0 : Int), x] A K := by
  let I : Nat → Nat → List Value → AW → Prop := fun g id vals A' => A' = A ∧
    ((id = 0 ∧ ∃ i : Nat, vals = [x, .int .u32 ((Ig (4294967295 - s0) (l.take i) : Nat) : Int), .int .i64 (i : Int)] ∧ g = 10 * (l.length - i) ∧ i ≤ l.length) ∨
     (id = 2 ∧ ∃ (i k r : Nat) (c : UInt8), vals = [x, .int .u32 ((Go.Crc.bits k (r ^^^ c.toNat) : Nat) : Int), .int .i64 (i : Int), .int .i64 (k : Int)] ∧ g = 10 * (l.length - i - 1) + (9 - k) ∧ i < l.length ∧ k ≤ 8 ∧ r < 4294967296 ∧ r = Ig (4294967295 - s0) (l.take i) ∧ l[i]? = some c))
  refine Aee _ _ _ (Afo (I := I) ?_) ?_
  · rintro g id vals A' d ⟨rfl, ⟨rfl, i, rfl, rfl, hi⟩ | ⟨rfl, i, k, r, c, rfl, rfl, hi, hk8, hr, hre, hc⟩⟩ hd
    · rw [Zt]
      simp only [Sr, Mc, Mn, Li, and_true] at hd
      obtain ⟨h1, h5, h6⟩ := hd
      have hr : Ig (4294967295 - s0) (l.take i) < 4294967296 := O5 _ (by omega)
      obtain ⟨r, hre⟩ : ∃ r, Ig (4294967295 - s0) (l.take i) = r := ⟨_, rfl⟩
      rw [hre] at h5 hr
      simp only [h1, h5, h6, h.len tb, Bb, Ab, Ap]
      refine ⟨fun hlt => ?_, fun hge => ?_⟩
      · have hlt : i < l.length := by omega
        have hc := Ge hlt
        obtain ⟨a, a1, a2⟩ := h.at tb hc
        have hcl := LO l[i]
        have ec : IntKind.u32.wrap ((l[i].toNat : Nat) : Int) = ((l[i].toNat : Nat) : Int) := wrap_u32 hcl
        simp only [a1, DV, a2, Ab, S0, AR, ec, IH hr hcl]
        exact AE.2 ⟨10 * (l.length - i - 1) + 9, by omega, rfl, .inr ⟨rfl, i, 0, r, l[i], rfl, rfl, hlt, by omega, hr, hre.symm, hc⟩⟩
      · have hi' : i = l.length := by omega
        rw [hi', List.take_length] at hre
        rw [Jt hr]
        refine Ab.2 ?_
        rw [← hre]
        exact hk
    · rw [Zs]
      simp only [Sr, Mc, Mn, Li, and_true] at hd
      obtain ⟨h1, h5, h6, h7⟩ := hd
      have hb : Go.Crc.bits k (r ^^^ c.toNat) < 4294967296 := LP k (Nat.xor_lt_two_pow (n := 32) hr (LO c))
      obtain ⟨q, hq⟩ : ∃ q, Go.Crc.bits k (r ^^^ c.toNat) = q := ⟨_, rfl⟩
      rw [hq] at h5 hb
      simp only [h1, h5, h6, h7, Bb, Ab, Ap]
      refine ⟨fun hlt => ?_, fun hge => ?_⟩
      · have hlt : k < 8 := by omega
        rw [II (by decide), LQ (by decide)]
        have e1 : (q : Int).tmod 2 = ((q % 2 : Nat) : Int) := by rw [Int.tmod_eq_emod_of_nonneg (by omega)]; omega
        have e2 : IntKind.u32.wrap ((q : Int).tdiv 2) = ((q / 2 : Nat) : Int) := by
          rw [Int.tdiv_eq_ediv_of_nonneg (by omega), show (q : Int) / 2 = ((q / 2 : Nat) : Int) by omega]
          exact wrap_u32 (by omega)
        rw [e1, e2]
        simp only [Ab, Bh, Ay]
        have enext : Go.Crc.bits (k + 1) (r ^^^ c.toNat) = J3 q := by rw [Nc, hq]; rfl
        refine ⟨fun ho => ?_, fun ho => ?_⟩
        · have ho : q % 2 = 1 := by omega
          have hx := IH (P := Tryz.prog) (t := 22) (xo := .tmp 34) (yo := .const (.int .u32 2197175160)) (a := q / 2) (b := 2197175160) (by omega) (by decide)
          have hx' : Ah Tryz.prog .xor 22 (.tmp 34) (.const (.int .u32 2197175160)) (.int .u32 ((q / 2 : Nat) : Int)) (.int .u32 2197175160) = some (.int .u32 (((q / 2) ^^^ 2197175160 : Nat) : Int)) := hx
          rw [hx']
          simp only [Ab, Bw]
          rw [wrap_i64 (by omega) (by omega)]
          have e : J3 q = (q / 2) ^^^ 2197175160 := by unfold J3; rw [if_pos ho]
          refine AE.2 ⟨10 * (l.length - i - 1) + (9 - (k + 1)), by omega, rfl, .inr ⟨rfl, i, k + 1, r, c, by rw [enext, e]; rfl, rfl, hi, by omega, hr, hre, hc⟩⟩
        · have ho : ¬ q % 2 = 1 := by omega
          simp only [Ab, Bw]
          rw [wrap_i64 (by omega) (by omega)]
          have e : J3 q = q / 2 := by unfold J3; rw [Ff ho]
          refine AE.2 ⟨10 * (l.length - i - 1) + (9 - (k + 1)), by omega, rfl, .inr ⟨rfl, i, k + 1, r, c, by rw [enext, e]; rfl, rfl, hi, by omega, hr, hre, hc⟩⟩
      · have hk' : k = 8 := by omega
        subst hk'
        simp only [Bw, Ab]
        rw [wrap_i64 (by omega) (by omega)]
        refine AE.2 ⟨10 * (l.length - (i + 1)), by omega, rfl, .inl ⟨rfl, i + 1, ?_, rfl, by omega⟩⟩
        rw [List.take_add_one, hc]
        have e : Ig (4294967295 - s0) (l.take i ++ (some c).toList) = q := by
          rw [Lg, ← hre, ← hq]; rfl
        rw [e]; rfl
  · rw [Afe]
    rw [Jt hs]
    simp only [Ab]
    exact AE.2 ⟨10 * l.length, rfl, .inl ⟨rfl, 0, rfl, rfl, by omega⟩⟩
theorem Ady(h:RdB A x l F)(hl:l.length<1000000)(hk:K (.int .u32 ((Eh l:Nat):Int)) A):Wc Tryz.prog Af W0 m0 70 [x] A K:=by
 refine w70 _ _ Bu ?_;rw [e70];exact Aaw (s0:=0) h hl (by decide) hk
theorem S4{a b c d:Int}(hf:AB A)(h:A.next<Ak)(hk:∀ A',Made A A' [.int .u8 a,.int .u8 b,.int .u8 c,.int .u8 d] 5→K (.slice (some ⟨A.next,0,none⟩) 4 4) A'):Al (Aq Tryz.prog A 52 4 [(0,.int .u8 a),(1,.int .u8 b),(2,.int .u8 c),(3,.int .u8 d)]) K:=by
 rw [ZO];unfold AW.newRow AW.new;have hc:([Value.int .u8 a,.int .u8 b,.int .u8 c,.int .u8 d].all AP)=true:=rfl;simp only [hc,Ct,Ax.2 h];exact AR.2 (hk (A.push (.row [.int .u8 a,.int .u8 b,.int .u8 c,.int .u8 d] 5 A.next 0 false)) ⟨AW.Cv _ h,rfl,by rw [AW.Cg _ h,if_pos rfl],hf.alone (Nl _),hf.push _ h⟩)
theorem ZL(h:Go.Abs.AF A b (Az l) 5)(hl:l.length<1000000):Buf 5 A (.slice (some ⟨b,0,none⟩) l.length l.length) l [b]:=
 .inr (.inr ⟨b,l.length,[],rfl,by have:room=68719476736:=rfl;omega,by simpa using h,rfl,rfl,rfl⟩)
theorem AdF (h:RdB A x l F) (hf:AB A) (hA:A.next+5<Ak) (hl:l.length<900000)
  (hk:∀ A' v F',Grow A A' 3→Buf 5 A' v (Go.Crc.EC l) F'→(∀ x∈F',A.next≤x)→K v A'):Wc Tryz.prog Af W0 m0 30 [x] A K:=by
 have hroom:room=68719476736:=rfl;refine w30 _ _ Bu ?_;rw [e30];refine Ady h (by omega) ?_;refine Cz tb (Buf.nil 5 A) (CU tb h) hf (by omega) (by simp;omega) fun v1 A1 F1 b1 k1 hF1 n1 f1=>?_;rw [List.nil_append] at b1;have g1:Grow A A1 1:=(Grow.refl hf).own k1 (by simp) (m:=1) (by omega) f1 |>.more (by omega);have hF1':∀ x∈F1,A.next≤x:=fun x hx=>by
  rcases hF1 x hx with h | h
  ·simp at h
  ·exact h
 obtain ⟨s,hse⟩:∃ s,Eh l=s:=⟨_,rfl⟩;rw [hse];simp only [LM,AR];rw [Gz (by decide),Gz (by decide),Gz (by decide)];simp only [Ab,LM,AR];have b0:IntKind.u8.wrap (s:Int)=((UInt8.ofNat (s/256^0)).toNat:Int):=by rw [← Ht s 0];simp
 have b1':IntKind.u8.wrap ((s:Int).fdiv (2^(min (8:Int).toNat (IntKind.bits .u32))))=((UInt8.ofNat (s/256^1)).toNat:Int):=Ht s 1;have b2':IntKind.u8.wrap ((s:Int).fdiv (2^(min (16:Int).toNat (IntKind.bits .u32))))=((UInt8.ofNat (s/256^2)).toNat:Int):=Ht s 2;have b3':IntKind.u8.wrap ((s:Int).fdiv (2^(min (24:Int).toNat (IntKind.bits .u32))))=((UInt8.ofNat (s/256^3)).toNat:Int):=Ht s 3;rw [b0,b1',b2',b3'];refine S4 f1 (by omega) fun A2 m2=>?_;have n2:=m2.next;have e4:[UInt8.ofNat (s/256^0),UInt8.ofNat (s/256^1),UInt8.ofNat (s/256^2),UInt8.ofNat (s/256^3)]=le4 s:=by simp [le4]
 have r2:Go.Abs.AF A2 A1.next (Az (le4 s)) 5:=by rw [← e4];exact m2.Bk
 have hb2:Buf 5 A2 (.slice (some ⟨A1.next,0,none⟩) 4 4) (le4 s) [A1.next]:=ZL r2 (by simp [le4]);have g2:=g1.trans (.made m2 f1);refine Cz tb (b1.keeps (m2.keeps f1) (by simp)) (CU tb hb2.rd) m2.Ao (by omega) (by simp [le4];omega) fun v3 A3 F3 b3 k3 hF3 n3 f3=>?_;have e:l++le4 s=Go.Crc.EC l:=by unfold Go.Crc.EC;rw [hse]
 rw [e] at b3;have hle:=g1.le;refine hk A3 v3 F3 ((g2.own k3 hF1' (m:=1) (by omega) f3).more (by omega)) b3 fun x hx=>?_;rcases hF3 x hx with h | h
 ·exact hF1' x h
 ·omega
end
end Go.Proofs.YtkjlldaddekegaaGreatDoor.Lt
namespace Go.Proofs.YtkjlldaddekegaaGreatDoor.Lt
open Go.Abs
variable {n q:Nat} {A:AW} {K:Value→AW→Prop} {v1 v2:Value} {l1 l2:List UInt8} {F1 F2:List Nat}
theorem Xy(A:AW):Ca Tryz.prog A .cap [52] 3 [.slice none 0 0]=.ok (.value (.int .i64 0)) A:=by kernel_rfl
theorem Tj(A:AW):Cc Tryz.prog A 52 (.slice none 0 0) none (some (.int .i64 0)) none=some (.slice none 0 0):=by kernel_rfl
theorem ud3:Tryz.prog.underlying 3=some (.int .i64):=by kernel_rfl
theorem VB(A:AW)(a:Addr):Ad Tryz.prog A 52 (.pointer (some a))=A.cell? a:=KY A a
section
variable {W0:World} {m0:Inj Tryz.prog}
theorem Aag (hf:AB A) (hA:A.next<Ak) (hn:n<1000000000) (h0:0<n)
  (hk:∀ A' v,Ss 5 A' v [] n A.next→AA A A' []→A'.next=A.next+1→AB A'→K v A'):Wc Tryz.prog Af W0 m0 255 [.slice none 0 0,.int .i64 (n:Int)] A K:=by
 have hroom:room=68719476736:=rfl;refine AdM _ _ _ Bu ?_;rw [AeM];unfold OI;simp only [Bb,Ab,Ap];refine ⟨fun h=>absurd h (by omega),fun _=>?_⟩;have cw:∀ {K':Value→AW→Prop},K' (.int .i64 0) A→anW Tryz.prog Af W0 m0 (Ca Tryz.prog A .cap [52] 3 [.slice none 0 0]) K':=fun h=>.inl ⟨_,_,Xy A,h⟩;refine cw ?_;simp only [JQ,Gy,Ab];rw [wrap_i64 (n:=0-((0:Nat):Int)) (by omega) (by omega),wrap_i64 (by omega) (by omega)];simp only [Cy,Ab,Ap];refine ⟨fun h=>?_,fun h=>?_⟩
 ·refine cw ?_;simp only [Tj,Ab];rw [show (n:Int)-(0-((0:Nat):Int))=(n:Int) by omega];refine W4 tb ud3 (by omega) (by omega) hf hA fun A' b' k' n' f' hr=>?_;have e:Cc Tryz.prog A' 52 (.slice (some ⟨A.next,0,none⟩) n (Bo+n)) none (some (.int .i64 ((0:Nat):Int))) none=some (.slice (some ⟨A.next,0,none⟩) 0 (Bo+n)):=by
   have:=L7 (P:=Tryz.prog) (len:=n) tb hr (n:=0) (c:=n) (Nat.zero_le n)
   rw [FN] at this;exact this
  simp only [JQ,Ab,e];exact hk A' _ b' k' n' f'
 ·omega
theorem QE(l1 l2:List UInt8):([l1,l2].take 0).flatten=[]∧([l1,l2].take 1).flatten=l1∧([l1,l2].take 2).flatten=l1++l2:=by simp
theorem Yy{i:Nat}(hi:i<n):Aj Tryz.prog 261 (.slice (some ⟨q,0,none⟩) n n) (.int .i64 (i:Int))=some (.pointer (some ⟨q,i,none⟩)):=by
 show Aj Tryz.prog 261 _ (.int .i64 (.ofNat i))=_;rw [Zw,Ax.2 hi,Ct];unfold DM;cases hb:Nat.beq (i*1) 0 with
 |true=>rw [Ct];have:=Nb hb;rw [Nat.mul_one] at this;rw [this]
 |false=>rw [Cf,Nat.mul_one,Nat.zero_add]
theorem Aan (hq:Go.Abs.AF A q [v1,v2] 52) (h1:RdB A v1 l1 F1) (h2:RdB A v2 l2 F2) (hf:AB A) (hA:A.next+10<Ak) (hr:l1.length+l2.length<1000000) (hp:0<l1.length)
  (hk:∀ A' v F,Grow A A' 3→Buf 5 A' v (l1++l2) F→(∀ x∈F,A.next≤x)→K v A'):Wc Tryz.prog Af W0 m0 210 [.slice (some ⟨q,0,none⟩) 2 2] A K:=by
 have hroom:room=68719476736:=rfl;have lt1:=h1.lt;have lt2:=h2.lt;have hql:=hq.lt;have hel:∀ i,i<2→∃ v l F,[v1,v2][i]? =some v∧[l1,l2][i]? =some l∧RdB A v l F:=by
  intro i hi
  have:i=0∨i=1:=by omega
  rcases this with rfl | rfl
  ·exact ⟨v1,l1,F1,rfl,rfl,h1⟩
  ·exact ⟨v2,l2,F2,rfl,rfl,h2⟩
 have hsz:∀ i,([l1,l2].take i).flatten.length≤l1.length+l2.length:=by
  intro i
  have:i=0∨i=1∨2≤i:=by omega
  rcases this with rfl | rfl | h
  ·simp
  ·simp
  ·rw [List.take_of_length_le (by simpa using h)];simp
 let I:Nat→Nat→List Value→AW→Prop:=fun g id vals A'=>
  (id=0∧A'=A∧∃ i:Nat,vals=[.slice (some ⟨q,0,none⟩) 2 2,.int .i64 ((([l1,l2].take i).flatten.length:Nat):Int),.slice (some ⟨q,0,none⟩) 2 2,.int .i64 2,.int .i64 (i:Int)]∧g=10-i∧i≤2)∨
  (id=2∧∃ (i:Nat) (v:Value),vals=[v,.slice (some ⟨q,0,none⟩) 2 2,.int .i64 2,.int .i64 (i:Int)]∧g=5-i∧i≤2∧Grow A A' 1∧
   Ss 5 A' v ([l1,l2].take i).flatten (l1.length+l2.length) A.next)
 refine AdT _ _ (c210 (I:=I) ?_) ?_
 ·rintro g id vals A' d (⟨rfl,rfl,i,rfl,rfl,hi⟩ | ⟨rfl,i,v,rfl,rfl,hi,hg,hb⟩) hd
  ·rw [Zn];simp only [Sq,Mc,Mn,Li,and_true] at hd;obtain ⟨h0,h3,h9,h10,h11⟩:=hd;have hs:=hsz i;simp only [h0,h3,h9,h10,h11,Bb,Ab,Ap];refine ⟨fun hlt=>?_,fun hge=>?_⟩
   ·have hlt:i<2:=by omega
    obtain ⟨v,l,F,e1,e2,e3⟩:=hel i hlt;have hcell:A'.cell? ⟨q,i,none⟩=some v:=by rw [Ag hq.row];exact D8 e1 e3.one.2
    have htk:([l1,l2].take (i+1)).flatten=([l1,l2].take i).flatten++l:=by rw [List.take_add_one,e2];simp
    have hs1:=hsz (i+1);rw [htk,Lq] at hs1;rw [Yy hlt];simp only [VB,hcell,e3.len tb,Bw,Ab];rw [wrap_i64 (by omega) (by omega)];simp only [Bb,Ab,Ap];refine ⟨fun h=>absurd h (by omega),fun _=>?_⟩;rw [wrap_i64 (by omega) (by omega)];refine AE.2 ⟨10-(i+1),by omega,.inl ⟨rfl,rfl,i+1,?_,rfl,by omega⟩⟩;rw [htk,Lq];simp only [Li,Value.int.injEq,and_true,true_and];omega
   ·have hi':i=2:=by omega
    subst hi';have e:([l1,l2].take 2).flatten=l1++l2:=(QE l1 l2).2.2;rw [e,Lq];refine Aag hf (by omega) (by omega) (by omega) fun A2 v2' b2 k2 n2 f2=>?_;simp only [Vw,Ab];exact AE.2 ⟨5,by omega,.inr ⟨rfl,0,_,rfl,rfl,by omega,⟨k2,f2,by omega⟩,b2⟩⟩
  ·rw [Zm];simp only [Sq,Mc,Mn,Li,and_true] at hd;obtain ⟨h6,h25,h26,h27⟩:=hd;have hnx:=hg.next;have hle:=hg.le;simp only [h6,h25,h26,h27,Bb,Ab,Ap];refine ⟨fun hlt=>?_,fun hge=>?_⟩
   ·have hlt:i<2:=by omega
    obtain ⟨vi,l,F,e1,e2,e3⟩:=hel i hlt;have hq':=hq.keeps hg.keeps (by simp);have e3':=e3.keeps hg.keeps (by simp);have hcell:A'.cell? ⟨q,i,none⟩=some vi:=by rw [Ag hq'.row];exact D8 e1 e3.one.2
    have htk:([l1,l2].take (i+1)).flatten=([l1,l2].take i).flatten++l:=by rw [List.take_add_one,e2];simp
    have hs1:=hsz (i+1);rw [htk,Lq] at hs1;rw [Yy hlt];simp only [VB,hcell,Ab];refine appendCap tb hb (CU tb e3') hg.Ao (by omega) hs1 fun A2 v2' b2 k2 n2 f2=>?_;simp only [Bw,Ab];rw [wrap_i64 (by omega) (by omega)];exact AE.2 ⟨5-(i+1),by omega,.inr ⟨rfl,i+1,v2',rfl,rfl,by omega,hg.own k2 (by simp) (m:=0) (by omega) f2,by rw [htk];exact b2⟩⟩
   ·have hi':i=2:=by omega
    subst hi';have e:([l1,l2].take 2).flatten=l1++l2:=(QE l1 l2).2.2;rw [e] at hb;exact hk A' v [A.next] (hg.more (by omega)) (hb.buf (by rw [Lq]) (by omega)) (by simp)
 ·rw [AeT];simp only [Vw,Ab];exact AE.2 ⟨10,.inl ⟨rfl,rfl,0,rfl,rfl,by omega⟩⟩
theorem X9 (hq:Go.Abs.AF A q [v1,v2] 52) (h1:RdB A v1 l1 F1) (h2:RdB A v2 l2 F2) (hf:AB A) (hA:A.next+10<Ak) (hr:l1.length+l2.length<1000000) (hp:0<l1.length)
  (hk:∀ A' v F,Grow A A' 3→Buf 5 A' v (l1++l2) F→(∀ x∈F,A.next≤x)→K v A'):Wc Tryz.prog Af W0 m0 144 [.slice (some ⟨q,0,none⟩) 2 2] A K:=by
 refine Aea _ _ Bu ?_;rw [Afa];exact Aan hq h1 h2 hf hA hr hp hk
end
end Go.Proofs.YtkjlldaddekegaaGreatDoor.Lt
namespace Go.Proofs.YtkjlldaddekegaaGreatDoor.Lt
open Go.Abs Go.Crc
variable {kd xa no q n1 c1 n2 c2:Nat} {A:AW} {a:Option Addr} {b:Int} {K:Value→AW→Prop} {p:Prop}
def nb(p:Nm):List UInt8:=xb p.f p.g p.b
def DB(l:List Nm):List UInt8:=(l.map nb).flatten
def FP(kd xa no:Nat):List UInt8:=[UInt8.ofNat kd,UInt8.ofNat xa]++be no 2
def JR(kd:Nat)(x:Nm):List UInt8:=if kd=5∨kd=21 then [] else nb x
def Gn(kd:Nat)(l:List Nm):List UInt8:=if kd=21 then be l.length 2++DB l else []
def CD(kd xa no:Nat)(x:Nm)(l:List Nm):List UInt8:=FP kd xa no++JR kd x++Gn kd l
noncomputable def GG(kd xa no:Nat)(x:Nm)(l:List Nm):List UInt8:=@ite _ (Lok kd xa no (zi x) (Ce x.g x.b) (ni l) l.length) (Classical.propDecidable _) (EC (CD kd xa no x l)) []
theorem DS{x:Nm}{l:List Nm}(h:Lok kd xa no (zi x) (Ce x.g x.b) (ni l) l.length):GG kd xa no x l=EC (CD kd xa no x l):=if_pos h
theorem SO{x:Nm}{l:List Nm}(h:¬ Lok kd xa no (zi x) (Ce x.g x.b) (ni l) l.length):GG kd xa no x l=[]:=Ff h
theorem FC{p:Nm}(h:Ce p.g p.b=0):(nb p).length≤134:=by
 obtain ⟨h1,h2,h3⟩:=Fz h;unfold nb xb;rw [Lq,Lq,BB,FA,FA];omega
theorem Fk:∀ {l:List Nm},(∀ p∈l,Ce p.g p.b=0)→(DB l).length≤134*l.length
 |[],_=>by simp [DB]
 |p::l,h=>by
  have h1:=FC (h p (by simp));have h2:=Fk (l:=l) fun q hq=>h q (by simp [hq]);unfold DB at *;simp only [Mc,List.flatten_cons,Lq,Lc];omega
theorem MM{l:List Nm}{i:Nat}{p:Nm}(h:l[i]? =some p):DB (l.take (i+1))=DB (l.take i)++nb p:=by
 unfold DB;rw [List.take_add_one,h]
 simp
theorem BY(kd xa no:Nat):(FP kd xa no).length=4:=by simp [FP,BB]
theorem S3{n:Nat}(h:n<256):(n:Int)=((UInt8.ofNat n).toNat:Int):=by rw [HV];omega
theorem Ea{t:Nat}{x:Nm}{sv:Value}(h:Go.Abs.AF A t (Cl kd xa no x sv) 38)(hs:isTuple sv=false):Ad Tryz.prog A 38 (.pointer (some ⟨t,0,none⟩))=some (EB kd xa no x sv):=by
 rw [Yu,BH h.row];simp only [Cl,List.drop_zero];unfold AZ AZ AZ AZ AZ AZ AZ AZ;simp only [Au,Av,hs,Cf];rfl
def OL(a:Option Addr):Prop:=∀ x,a=some x→x.spot=none
theorem SD{m:Nat}(h:OL a)(n c:Nat):C3 (m+1) (.slice a n c) (.slice a n c)=true:=by
 cases a with
 |none=>simp [C3]
 |some a=>simp [C3,Go.Abs.sameAddr,h a rfl]
theorem Wh{v:Value}{l:List UInt8}{F:List Nat}(h:Buf 5 A v l F):∃ a n c,v=.slice a n c∧OL a:=by
 rcases h with ⟨rfl,_,_⟩ | ⟨b,f,rfl,_,_⟩ | ⟨b,c,pad,rfl,_⟩
 ·exact ⟨_,_,_,rfl,fun x h=>by cases h⟩
 ·exact ⟨_,_,_,rfl,fun x h=>by cases h;rfl⟩
 ·exact ⟨_,_,_,rfl,fun x h=>by cases h;rfl⟩
section
variable {W0:World} {m0:Inj Tryz.prog}
theorem S5{a:Int}(hf:AB A)(h:A.next<Ak)(hk:∀ A',Made A A' [.int .u8 a,.int .u8 b] 5→K (.slice (some ⟨A.next,0,none⟩) 2 2) A'):Al (Aq Tryz.prog A 52 2 [(0,.int .u8 a),(1,.int .u8 b)]) K:=by
 rw [ZP];unfold AW.newRow AW.new;have hc:([Value.int .u8 a,.int .u8 b].all AP)=true:=rfl;simp only [hc,Ct,Ax.2 h];exact AR.2 (hk (A.push (.row [.int .u8 a,.int .u8 b] 5 A.next 0 false)) ⟨AW.Cv _ h,rfl,by rw [AW.Cg _ h,if_pos rfl],hf.alone (Nl _),hf.push _ h⟩)
theorem MU{a:Int}(h:A.get q=some (.row [.int .u8 a,.int .u8 b] 5 q 0 false))(hp:p):Cm (Bi Tryz.prog (BJ (Tm.fill ⟨2,.nil⟩ 0 [.int .u8 a,.int .u8 b])) (.buildSlice 52 2 #[(0,.tmp 0),(1,.tmp 1)])) A (.slice (some ⟨q,0,none⟩) 2 2) p:=by
 refine ⟨⟨_,TN a b,?_⟩,hp⟩;simp only [Cb,EH,h,D9,Jz,Bool.and_self,Option.isNone_none,Bool.true_and,Nat.beq_refl]
theorem AbM{a b:UInt8}(h:Go.Abs.AF A q [.int .u8 a.toNat,.int .u8 b.toNat] 5):Buf 5 A (.slice (some ⟨q,0,none⟩) 2 2) [a,b] [q]:=
 .inr (.inr ⟨q,2,[],rfl,by decide,by simpa [Az] using h,rfl,rfl,rfl⟩)
theorem Og{b:Option Addr}(hf:AB A)(h:A.next<Ak)(hk:∀ A',Made A A' [.slice a n1 c1,.slice b n2 c2] 52→K (.slice (some ⟨A.next,0,none⟩) 2 2) A'):Al (Aq Tryz.prog A 261 2 [(0,.slice a n1 c1),(1,.slice b n2 c2)]) K:=by
 rw [AbN];unfold AW.newRow AW.new;have hc:([Value.slice a n1 c1,.slice b n2 c2].all AP)=true:=rfl;simp only [hc,Ct,Ax.2 h];exact AR.2 (hk (A.push (.row [.slice a n1 c1,.slice b n2 c2] 52 A.next 0 false)) ⟨AW.Cv _ h,rfl,by rw [AW.Cg _ h,if_pos rfl],hf.alone (Nl _),hf.push _ h⟩)
theorem RQ{b:Option Addr}(ha:OL a)(hb:OL b)(h:A.get q=some (.row [.slice a n1 c1,.slice b n2 c2] 52 q 0 false))(hp:p):Cm (Bi Tryz.prog (BJ (Tm.fill ⟨2,.nil⟩ 0 [.slice a n1 c1,.slice b n2 c2])) (.buildSlice 261 2 #[(0,.tmp 0),(1,.tmp 1)])) A (.slice (some ⟨q,0,none⟩) 2 2) p:=by
 refine ⟨⟨_,VK a b n1 c1 n2 c2,?_⟩,hp⟩;simp only [Cb,EH,h,D9,SD ha,SD hb,Bool.and_self,Option.isNone_none,Bool.true_and,Nat.beq_refl]
theorem Yw {v1 v2:Value} {l1 l2:List UInt8} {F1 F2:List Nat} (h1:RdB A v1 l1 F1) (h2:RdB A v2 l2 F2) (hf:AB A) (hA:A.next+20<Ak) (hr:l1.length+l2.length<1000000) (hp:0<l1.length)
  (hk:∀ A' v F,Grow A A' 4→Buf 5 A' v (l1++l2) F→(∀ x∈F,A.next≤x)→K v A'):Al (Aq Tryz.prog A 261 2 [(0,v1),(1,v2)]) fun t A1=>Wc Tryz.prog Af W0 m0 144 [t] A1 K:=by
 obtain ⟨a,c1,rfl⟩:=h1.slice;obtain ⟨b,c2,rfl⟩:=h2.slice;refine Og hf (by omega) fun A1 m1=>?_;have n1:=m1.next;have k1:=m1.keeps hf;refine X9 m1.Bk (h1.keeps k1 (by simp)) (h2.keeps k1 (by simp)) m1.Ao (by omega) hr hp fun A2 v F g2 b2 hF=>?_;exact hk A2 v F (((Grow.made m1 hf).trans g2).more (by omega)) b2 fun x hx=>by have:=hF x hx;omega
end
end Go.Proofs.YtkjlldaddekegaaGreatDoor.Lt
