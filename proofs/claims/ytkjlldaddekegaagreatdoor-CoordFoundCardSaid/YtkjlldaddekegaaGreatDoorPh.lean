/-
  This text prints what the functions reached ask of their memory, and shows what they answer. Conditions: none for the last theorem, those that each theorem states for the others.
-/
import Derived.Test.YtkjlldaddekegaaGreatDoorPg
set_option maxRecDepth 100000
set_option maxHeartbeats 1000000
namespace Go.Proofs.YtkjlldaddekegaaGreatDoor
open Go.Abs
variable {A:AW} {v w fv:Value} {s F Fp:List Nat} {st q n:Nat} {K:Value→AW→Prop} {b:Bool}
def Pt.cs(s:Nat)(p:Pt):List Value:=[.int .u8 (p.n:Int),.int .u32 (p.x.f:Int),.string p.x.g,.string p.x.b,.int .u8 (s:Int)]
theorem etQ(s:Nat):ET Tryz.prog 48 135 4 (Pt.cs s):=⟨by kernel_rfl,by kernel_rfl,by kernel_rfl,⟨56,by kernel_rfl,by decide⟩,by kernel_rfl,fun _=>rfl,fun _=>rfl,fun _=>rfl⟩
section
variable {W0:World} {m0:Inj Tryz.prog}
theorem YL(hv:RdE 0 bC A v s F)(hl:s.length<100)(hk:∀ r:Int,(0≤r↔st∈s)→K (.int .i64 r) A):Wc Tryz.prog Af W0 m0 222 [v,.int .u8 (st:Int)] A K:=by
 let I:Nat→Nat→List Value→AW→Prop:=fun g id vals A'=>id=0∧∃ i:Nat,vals=[v,.int .u8 (st:Int),.int .i64 (s.length:Int),.int .i64 (i:Int)]∧i≤s.length∧(∀ j,j<i→s[j]? ≠some st)∧A'=A∧g=s.length-i;refine AaB _ _ _ (c222 (I:=I) ?_) ?_
 ·rintro g id vals A' d ⟨rfl,i,rfl,hi,hno,rfl,rfl⟩ hd;rw [VF];simp only [Ug,Mc,Mn,Li,and_true] at hd;obtain ⟨d0,d1,d7,d8⟩:=hd;simp only [d0,d1,d7,d8,Bb,Ab,Ap];refine ⟨fun hlt=>?_,fun hge=>hk (-1) ⟨fun h=>absurd h (by decide),fun h=>?_⟩⟩
  ·have hlt:i<s.length:=by omega
   have hsi:=Ge hlt;generalize s[i]=y at hsi;obtain ⟨a,h1,h2⟩:=etS.at (i:=i) hv hsi rfl;simp only [h1,h2,Ab,Bh,Ay];refine ⟨fun he=>hk _ ⟨fun _=>?_,fun _=>by omega⟩,fun hne=>?_⟩
   ·have:st=y:=by omega
    rw [this];exact List.mem_of_getElem? hsi
   ·simp only [Bw,Ab];rw [wrap_i64 (n:=(i:Int)+1) (by omega) (by omega)];refine AE.2 ⟨s.length-(i+1),by omega,rfl,i+1,rfl,by omega,fun j hj h=>?_,rfl,rfl⟩;by_cases hji:j=i
    ·subst hji;rw [hsi] at h;exact hne (by have:=Option.some.inj h;omega)
    ·exact hno j (by omega) h
  ·obtain ⟨j,hj⟩:=List.mem_iff_getElem?.1 h
   have:=(Gs.1 hj).1
   exact absurd hj (hno j (by omega))
 ·rw [Abw]
  have:=etS.Aa8 (B:=A) hv
  simp only [this,Ab];exact AE.2 ⟨s.length,rfl,0,rfl,by omega,fun j hj=>absurd hj (by omega),rfl,rfl⟩
theorem QV(hv:RdE 0 bC A v s F)(hl:s.length<100)(hk:K (.bool (decide (st∈s))) A):Wc Tryz.prog Af W0 m0 164 [v,.int .u8 (st:Int)] A K:=by
 refine AaF _ _ _ Bu ?_;rw [AbA];refine YL hv hl fun r hr=>?_;simp only [Dk,Ab];rw [show decide ((0:Int)≤r)=decide (st∈s) from by
  by_cases h:st∈s
  ·rw [decide_eq_true h,decide_eq_true (hr.2 h)]
  ·rw [decide_eq_false h,decide_eq_false fun h2=>h (hr.1 h2)]]
 exact hk
theorem YN{p:Pt}(hq:Go.Abs.AF A q [v] 223)(hv:RdE 0 bC A v s F)(hl:s.length<100)(hf:AB A)(hA:A.next<Ak)(hk:∀ A',Grow A A' 1→K (.bool (!decide (st∈s))) A'):
  Wc Tryz.prog Af W0 m0 216 [.agg ⟨p.cs st⟩,.pointer (some ⟨q,0,none⟩)] A K:=by
 refine AaD _ _ _ Bu ?_;rw [Aby];refine AH hf hA rfl fun A1 m1=>?_;have k1:=m1.keeps hf;have hq1:=hq.keeps k1 (by simp);have r1:Go.Abs.AF A1 A.next (p.cs st) 135:=m1.Bk;simp only [Pt.cs] at r1;simp only [ML,Ag hq1.row,cellOf,hv.one.2,Cf,Ab,Ds,Hm,Ag r1.row,Au,Nat.zero_add];refine QV (hv.keeps k1 (by simp)) hl ?_;simp only [BC,Ab];exact hk _ (Grow.made m1 hf)
theorem YM{p:Pt}(hq:Go.Abs.AF A q [v] 223)(hv:RdE 0 bC A v s F)(hl:s.length<100)(hf:AB A)(hA:A.next<Ak)(hk:∀ A',Grow A A' 1→K (.bool (decide (st∈s))) A'):
  Wc Tryz.prog Af W0 m0 217 [.agg ⟨p.cs st⟩,.pointer (some ⟨q,0,none⟩)] A K:=by
 refine AaC _ _ _ Bu ?_;rw [Abx];refine AH hf hA rfl fun A1 m1=>?_;have k1:=m1.keeps hf;have hq1:=hq.keeps k1 (by simp);have r1:Go.Abs.AF A1 A.next (p.cs st) 135:=m1.Bk;simp only [Pt.cs] at r1;simp only [ML,Ag hq1.row,cellOf,hv.one.2,Cf,Ab,Ds,Hm,Ag r1.row,Au,Nat.zero_add];exact QV (hv.keeps k1 (by simp)) hl (hk _ (Grow.made m1 hf))
theorem YO{p:Pt}(hq:Go.Abs.AF A q [v] 223)(hv:RdE 0 bC A v s F)(hl:s.length<100)(hf:AB A)(hA:A.next<Ak)(hk:∀ A',Grow A A' 1→K (.bool (decide (st∈s))) A'):
  Wc Tryz.prog Af W0 m0 163 [.agg ⟨p.cs st⟩,.pointer (some ⟨q,0,none⟩)] A K:=by
 refine Ad4 _ _ _ Bu ?_;rw [Ae4];refine AH hf hA rfl fun A1 m1=>?_;have k1:=m1.keeps hf;have hq1:=hq.keeps k1 (by simp);have r1:Go.Abs.AF A1 A.next (p.cs st) 135:=m1.Bk;simp only [Pt.cs] at r1;simp only [ML,Ag hq1.row,cellOf,hv.one.2,Cf,Ab,Ds,Hm,Ag r1.row,Au,Nat.zero_add];exact QV (hv.keeps k1 (by simp)) hl (hk _ (Grow.made m1 hf))
theorem ZE(A:AW)(a v:Value):EL Tryz.prog Af A (.func (.func 163) ⟨[]⟩ ⟨[a]⟩) [v]=.ok (.enter 163 [v,a]) A:=by kernel_rfl
theorem LZ {f:Pt→List Value} (T:ET Tryz.prog 48 135 4 f) {p:Pt} (hp:RdE 4 f A w [p] F)
  (hcl:∀ K':Value→AW→Prop,(∀ A',Grow A A' n→K' (.bool b) A')→anW Tryz.prog Af W0 m0 (EL Tryz.prog Af A fv [.agg ⟨f p⟩]) K') (hk:∀ A',Grow A A' n→K (.int .i64 (if b=true then 0 else -1)) A'):Wc Tryz.prog Af W0 m0 78 [w,fv] A K:=by
 let I:Nat→Nat→List Value→AW→Prop:=fun g id vals A'=>id=0∧((vals=[w,fv,.int .i64 1,.int .i64 ((0:Nat):Int)]∧A'=A∧g=1)∨(b=false∧vals=[w,fv,.int .i64 1,.int .i64 1]∧Grow A A' n∧g=0));refine w78 _ _ _ (c78 (I:=I) ?_) ?_
 ·rintro g id vals A' d ⟨rfl,h⟩ hd;rw [SQ];simp only [L78,Mc,Mn] at hd;rcases h with ⟨rfl,rfl,rfl⟩ | ⟨hb,rfl,gr,rfl⟩
  ·simp only [Li,and_true] at hd;obtain ⟨d0,d1,d7,d8⟩:=hd;simp only [d0,d1,d7,d8,Bb,Ab,Ap];refine ⟨fun _=>?_,fun h=>absurd (by decide) h⟩;obtain ⟨r,o,a1,_,a2⟩:=hp.at T (i:=0) (p:=p) rfl;simp only [a1,a2,Ab];refine hcl _ fun A2 g2=>Ai.2 ⟨fun h=>?_,fun h=>?_⟩
   ·have:=hk A2 g2
    rw [if_pos h] at this;exact this
   ·simp only [Bw,Ab];exact AE.2 ⟨0,by decide,rfl,.inr ⟨h,rfl,g2,rfl⟩⟩
  ·simp only [Li,and_true] at hd;obtain ⟨d0,d1,d7,d8⟩:=hd;simp only [d0,d1,d7,d8,Bb,Ab,Ap];refine ⟨fun h=>absurd h (by decide),fun _=>?_⟩
   have:=hk A' gr
   rw [Ff (by rw [hb];simp)] at this;exact this
 ·rw [e78];simp only [hp.len T,Ab];exact AE.2 ⟨1,rfl,.inl ⟨rfl,rfl,rfl⟩⟩
theorem Ur{f:Pt→List Value}(T:ET Tryz.prog 48 135 4 f)(hp:RdE 4 f A w [] F)(hk:K (.int .i64 (-1)) A):Wc Tryz.prog Af W0 m0 78 [w,fv] A K:=by
 let I:Nat→Nat→List Value→AW→Prop:=fun g id vals A'=>id=0∧vals=[w,fv,.int .i64 0,.int .i64 0]∧A'=A∧g=0;refine w78 _ _ _ (c78 (I:=I) ?_) ?_
 ·rintro g id vals A' d ⟨rfl,rfl,rfl,rfl⟩ hd;rw [SQ];simp only [L78,Mc,Mn,Li,and_true] at hd;obtain ⟨d0,d1,d7,d8⟩:=hd;simp only [d0,d1,d7,d8,Bb,Ab,Ap];exact ⟨fun h=>absurd h (by decide),fun _=>hk⟩
 ·rw [e78];simp only [hp.len T,Ab];exact AE.2 ⟨0,rfl,rfl,rfl,rfl⟩
theorem QW {p:Pt} (hp:RdE 4 (Pt.cs st) A w [p] F)
  (hcl:∀ K':Value→AW→Prop,(∀ A',Grow A A' n→K' (.bool b) A')→anW Tryz.prog Af W0 m0 (EL Tryz.prog Af A fv [.agg ⟨p.cs st⟩]) K') (hk:∀ A',Grow A A' n→K (.bool b) A'):Wc Tryz.prog Af W0 m0 162 [w,fv] A K:=by
 refine YW _ _ _ Bu ?_;rw [ZC];refine LZ (etQ st) hp hcl fun A' g=>?_;simp only [Dk,Ab]
 have:=hk A' g
 cases b with
 |true=>exact this
 |false=>exact this
theorem YP {p:Pt} (hp:RdE 4 (Pt.cs st) A w [p] Fp) (hv:RdE 0 bC A v s F) (hl:s.length<100) (hf:AB A) (hA:A.next+2<Ak)
  (hk:∀ A',Grow A A' 2→K (.bool (decide (st∈s))) A'):Wc Tryz.prog Af W0 m0 150 [w,v] A K:=by
 refine AaH _ _ _ Bu ?_;rw [AbC];obtain ⟨ov,cv,rfl⟩:=hv.slice;refine AH (cs:=[_]) hf (by omega) rfl fun A1 m1=>?_;have n1:=m1.next;have k1:=m1.keeps hf;refine QW (n:=1) (hp.keeps k1 (by simp)) (fun K' h=>GL (V2 A1 _ _) rfl (YN (st:=st) m1.Bk (hv.keeps k1 (by simp)) hl m1.Ao (by omega) h)) fun A2 g2=>?_;simp only [BC,Ab,Bool.not_not];exact hk A2 ((Grow.made m1 hf).trans g2)
theorem Uw {p:Pt} (hp:RdE 4 (Pt.cs st) A w [p] Fp) (hv:RdE 0 bC A v s F) (hl:s.length<100) (hf:AB A) (hA:A.next+2<Ak)
  (hk:∀ A',Grow A A' 2→K (.bool (decide (st∈s))) A'):Wc Tryz.prog Af W0 m0 151 [w,v] A K:=by
 refine AaG _ _ _ Bu ?_;rw [AbB];obtain ⟨ov,cv,rfl⟩:=hv.slice;refine AH (cs:=[_]) hf (by omega) rfl fun A1 m1=>?_;have n1:=m1.next;have k1:=m1.keeps hf;refine QW (n:=1) (hp.keeps k1 (by simp)) (fun K' h=>GL (V1 A1 _ _) rfl (YM (st:=st) m1.Bk (hv.keeps k1 (by simp)) hl m1.Ao (by omega) h)) fun A2 g2=>?_;exact hk A2 ((Grow.made m1 hf).trans g2)
theorem Adl {g:GV} {p:Pt} (hone:HE g.pv) (hp:RdE 4 (Pt.cs st) A g.pv [p] Fp) (hv:RdE 0 bC A v s F) (hl:s.length<100) (hf:AB A) (hA:A.next+4<Ak)
  (hk:∀ A',Grow A A' 3→K (.bool (decide (st∈s))) A'):Wc Tryz.prog Af W0 m0 92 [vG g,v] A K:=by
 refine w92 _ _ _ Bu ?_;rw [e92];refine AH (cs:=g.cells) hf (by omega) (FT hone) fun A1 m1=>?_;have n1:=m1.next;have k1:=m1.keeps hf;obtain ⟨ov,cv,rfl⟩:=hv.slice;refine AH (cs:=[_]) m1.Ao (by omega) rfl fun A2 m2=>?_;have n2:=m2.next;have k2:=m2.keeps m1.Ao;have K2:AA A A2 []:=k1.trans k2 (by simp);have r1:Go.Abs.AF A2 A.next [.int .u32 (g.x.f:Int),.string g.x.g,.string g.x.b,.int .u8 (g.st:Int),.bool false,g.pv,.int .u32 (g.w:Int),.int .u32 (g.t:Int)] 50:=(m1.Bk).keeps k2 (by simp);simp only [CF,Eb,Ag r1.row,cellOf,Av,Au,Bm,hone.noT,Cf,Nat.zero_add,Ab];refine QW (n:=1) (hp.keeps K2 (by simp)) (fun K' h=>GL (ZE A2 _ _) rfl (YO (st:=st) m2.Bk (hv.keeps K2 (by simp)) hl m2.Ao (by omega) h)) fun A3 g3=>?_;exact hk A3 (((Grow.made m1 hf).trans (.made m2 m1.Ao)).trans g3)
end
variable {A:AW} {x:Value} {F:List Nat} {K:Value→AW→Prop} {st:Nat}
theorem cs0:Pt.cs 0=Pt.cells:=rfl
theorem ZX(s:Nat)(p:Pt):flat (Pt.cs s) [p]=p.cs s:=rfl
theorem PE {a:Value} {p:Pt} {s s':Nat} {K:AW→Prop} (h:BR 135 4 (Pt.cs s) A x [p] F) (hx:Aj Tryz.prog 48 x (.int .i64 0)=some a) (hf:AB A) (hA:A.next≤Ak)
  (hk:∀ A',BR 135 4 (Pt.cs s') A' x [p] F→AA A A' F→A'.next=A.next→AB A'→K A'):∃ b o,a=.pointer (some ⟨b,o,none⟩)∧AQ (Am Tryz.prog A 133 (.pointer (some ⟨b,o+4,none⟩)) (.int .u8 (s':Int))) K:=by
 have hx:Aj Tryz.prog 48 x (.int .i64 ((0:Nat):Int))=some a:=hx;have hfl:(flat (Pt.cs s) [p]).length=5:=rfl;rcases h with h | ⟨b,rfl,h0,h2,rfl⟩
 ·rcases h with ⟨rfl,h2,_⟩ | ⟨b,g,rfl,h3,rfl⟩
  ·cases h2
  ·rw [JT (etQ s) (by simp)] at hx;cases hx;refine ⟨b,0+0*5,rfl,?_⟩;refine UR (F:=[g]) (n:=[p].length) (cs:=flat (Pt.cs s) [p]) (size:=5) (e:=135) (.inr ⟨b,g,rfl,h3,rfl⟩) hf hA (Ov _ _ _) rfl (by rw [hfl];decide) rfl fun A' h4 k4 n4 f4=>hk A' (.inl ?_) k4 n4 f4;exact h4
 ·rw [JT (etQ s) (by simp)] at hx;cases hx;refine ⟨b,0+0*5,rfl,?_⟩;refine h2.store hf hA (Ov _ _ _) rfl (by rw [hfl];decide) rfl fun A' h4 k4 n4 f4=>hk A' (.inr ⟨b,rfl,h0,?_,rfl⟩) k4 n4 f4;exact h4
section
variable {W0:World} {m0:Inj Tryz.prog}
theorem Z6 {l:List Pt} (h:BR 135 4 (Pt.cs st) A x l F) (hf:AB A) (hA:A.next+5<Ak) (hl:l.length<1000000)
  (hk:∀ A' v F',BR 135 4 (Pt.cs st) A' v l F'→(∀ y∈F',A.next≤y)→Grow A A' 2→K v A'):Wc Tryz.prog Af W0 m0 66 [x] A K:=by
 refine w66 _ _ Bu ?_;rw [e66];have hrd:=h.rd fun _=>rfl;have hc:x=.slice none 0 0∧l=[]∨∃ a n c,x=.slice (some a) n c:=by
  rcases h with h | ⟨b,rfl,_⟩
  ·rcases h with ⟨rfl,h2,_⟩ | ⟨b',g,rfl,_⟩
   ·exact .inl ⟨rfl,List.eq_nil_of_length_eq_zero h2⟩
   ·exact .inr ⟨_,_,_,rfl⟩
  ·exact .inr ⟨_,_,_,rfl⟩
 rcases hc with ⟨rfl,rfl⟩ | ⟨a,n,c,rfl⟩
 ·simp only [Yk,Ab];exact Ai.2 ⟨fun _=>hk A _ [] (BR.nil _) (by simp) ((Grow.refl hf).more (by omega)),fun h=>by simp at h⟩
 ·simp only [Yj,Ab];refine Ai.2 ⟨fun h=>by simp at h,fun _=>?_⟩;refine Gx (cs:=[]) (e:=135) (n:=0) (by kernel_rfl) rfl hf (by omega) fun A1 m1=>?_;have n1:=m1.next;have ho:BR 135 4 (Pt.cs st) A1 (.slice (some ⟨A.next,0,none⟩) 0 0) ([]:List Pt) [A.next]:=GP (l:=([]:List Pt)) m1 (by decide);refine ho.LU (etQ st) (hrd.keeps (m1.keeps hf) (by simp)) m1.Ao (by omega) (by simp) (by omega) fun v2 A2 F2 o2 k2 hF2 n2 f2=>?_;rw [List.nil_append] at o2;exact hk A2 v2 F2 o2 (fun y hy=>(hF2 y hy).elim (fun h=>by have:=Ms.1 h;omega) fun h=>by omega) (((Grow.made m1 hf).own k2 (by simp) (m:=1) n2 f2).more (by omega))
theorem YQ {p:Pt} (h:BR 135 4 (Pt.cs st) A x [p] F) (hf:AB A) (hA:A.next+5<Ak)
  (hk:∀ A' v F',BR 135 4 Pt.cells A' v [p] F'→(∀ y∈F',A.next≤y)→Grow A A' 2→K v A'):Wc Tryz.prog Af W0 m0 149 [x] A K:=by
 let I:Nat→Nat→List Value→AW→Prop:=fun g id vals A'=>id=0∧∃ (v:Value) (F':List Nat),(∀ y∈F',A.next≤y)∧Grow A A' 2∧((vals=[v,.int .i64 1,.int .i64 0]∧BR 135 4 (Pt.cs st) A' v [p] F'∧g=1)∨(vals=[v,.int .i64 1,.int .i64 1]∧BR 135 4 (Pt.cs 0) A' v [p] F'∧g=0));refine AaI _ _ (AbL (I:=I) ?_) ?_
 ·rintro g id vals A' d ⟨rfl,v,F',hF,gr,h⟩ hd;rw [VG];simp only [Uh,Mc,Mn] at hd;have gn:=gr.next;rcases h with ⟨rfl,ho,rfl⟩ | ⟨rfl,ho,rfl⟩
  ·simp only [Li,and_true] at hd;obtain ⟨d3,d8,d9⟩:=hd;simp only [d3,d8,d9,Bb,Ab,Ap];refine ⟨fun _=>?_,fun h=>absurd (by decide) h⟩;obtain ⟨r,o,a1,_⟩:=(ho.rd fun _=>rfl).at (etQ st) (i:=0) (p:=p) rfl;have a1:Aj Tryz.prog 48 v (.int .i64 0)=some (.pointer (some ⟨r,o,none⟩)):=a1;obtain ⟨b,o2,e1,e2⟩:=PE (s':=0) (K:=fun At3=>Aa (Ah Tryz.prog .add 3 (.tmp 9) (.const (.int .i64 1)) (.int .i64 0) (.int .i64 1)) fun t4=>BX (KK 0) (KK 0) (∃ g2,g2<1∧I g2 0 [v,.int .i64 1,t4] At3)) ho a1 gr.Ao (by omega) fun A2 o2 k2 n2 f2=>by
    simp only [Bw,Ab];exact AE.2 ⟨0,by decide,rfl,v,F',hF,⟨gr.keeps.trans k2 fun x hx=>.inr (hF x hx),f2,by omega⟩,.inr ⟨rfl,o2,rfl⟩⟩
   cases e1;simp only [a1,Ab,Ds];exact e2
  ·simp only [Li,and_true] at hd;obtain ⟨d3,d8,d9⟩:=hd;simp only [d3,d8,d9,Bb,Ab,Ap];refine ⟨fun h=>absurd h (by decide),fun _=>?_⟩;rw [cs0] at ho;exact hk A' v F' ho hF gr
 ·rw [AbD];refine Z6 h hf hA (by simp) fun A1 v F' o1 hF g1=>?_;simp only [(o1.rd fun _=>rfl).len (etQ st),Ab];exact AE.2 ⟨1,rfl,v,F',hF,g1,.inl ⟨rfl,o1,rfl⟩⟩
theorem Z2 {g:GV} {p:Pt} (hp:BR 135 4 (Pt.cs 2) A g.pv [p] F) (hn:p.n<256) (hs:g.st=5) (hw:g.w≤3) (ht:g.t≤5) (hok:okD g.x [p]=true) (hf:AB A) (hA:A.next+60<Ak)
  (hk:∀ A',Grow A A' 30→K (.int .i64 0) A'):Wc Tryz.prog Af W0 m0 81 [vG g] A K:=by
 have hone:=BI hp;refine w81 _ _ Bu ?_;rw [e81];refine AH (cs:=g.cells) hf (by omega) (FT hone) fun A1 m1=>?_;have n1:=m1.next;have k1:=m1.keeps hf;have r1:Go.Abs.AF A1 A.next g.cells 50:=m1.Bk;have hp1:=hp.keeps k1 (by simp);have r1e:Go.Abs.AF A1 A.next [.int .u32 (g.x.f:Int),.string g.x.g,.string g.x.b,.int .u8 (g.st:Int),.bool false,g.pv,.int .u32 (g.w:Int),.int .u32 (g.t:Int)] 50:=r1;simp only [Gq,CF,H2 r1,Ab,Eb,Ag r1e.row,cellOf,Av,Au,Bm,hone.noT,Cf,Nat.zero_add];refine YQ hp1 m1.Ao (by omega) fun A2 v2 F2 o2 hF2 g2=>?_;have n2:=g2.next;have r2:=r1.keeps g2.keeps (by simp);obtain ⟨ov,cv,hv2⟩:=o2.slice;have hb:Aw Tryz.prog 83 [(0,.agg ⟨g.x.cells⟩),(1,v2)]=some (.agg ⟨g.x.cells++[v2]⟩):=by rw [hv2];exact AbQ _ _ _ _ _ _
 simp only [H2 r2,Ab,BD,hb];refine Z7 (o2.rd fun _=>rfl) (by simp) (fun q hq=>by rw [Ms.1 hq];exact hn) g2.Ao (by simp;omega) fun A3 g3=>?_;have n3:A3.next≤A2.next+(2+5*1):=g3.next;have g13:=((Grow.made m1 hf).trans g2).trans g3;have r3:=r2.keeps g3.keeps (by simp);rw [if_pos hok];simp only [Bh,Ab];refine Ay.2 ⟨fun _=>?_,fun h=>absurd rfl h⟩;refine J2 (s:=[0,1,2,3,4]) (by kernel_rfl) g3.Ao (by omega) (by decide) fun A4 rd4 m4=>?_;have n4:=m4.next;have k4:=m4.keeps g3.Ao;have r4:=r3.keeps k4 (by simp);have r4e:Go.Abs.AF A4 A.next [.int .u32 (g.x.f:Int),.string g.x.g,.string g.x.b,.int .u8 (g.st:Int),.bool false,g.pv,.int .u32 (g.w:Int),.int .u32 (g.t:Int)] 50:=r4;refine MS m4.row ?_;simp only [BD,Ab,hb,CF,Gq,Eb,Ag r4e.row,cellOf,Av,Au,Bm,hone.noT,Cf,Nat.zero_add,H2 r4];have rd:=(hp.rd fun _=>rfl);have g14:=g13.trans (Grow.made m4 g3.Ao);refine YP (rd.keeps g14.keeps (by simp)) rd4 (by decide) m4.Ao (by omega) fun A5 g5=>?_;have n5:=g5.next;have g15:=g14.trans g5;have r5e:=r4e.keeps g5.keeps (by simp);refine Ai.2 ⟨fun _=>?_,fun h=>absurd h (by decide)⟩;simp only [ID,IC,CG,E9,E7,Ag r5e.row,cellOf,Av,Au,Bm,hone.noT,Cf,Nat.zero_add,Ab,C6,Bh];refine Ap.2 ⟨fun _=>?_,fun h=>absurd (by omega) h⟩;rw [hs];refine Ay.2 ⟨fun h=>absurd h (by decide),fun _=>Ay.2 ⟨fun h=>absurd h (by decide),fun _=>Ay.2 ⟨fun h=>absurd h (by decide),fun _=>Ay.2 ⟨fun h=>absurd h (by decide),fun _=>Ay.2 ⟨fun _=>Ap.2 ⟨fun _=>?_,fun h=>absurd (by omega) h⟩,fun h=>absurd rfl h⟩⟩⟩⟩⟩;refine J2 (s:=[0,1]) (by kernel_rfl) g5.Ao (by omega) (by decide) fun A6 rd6 m6=>?_;have n6:=m6.next;refine Uw ((rd.keeps g15.keeps (by simp)).keeps (m6.keeps g5.Ao) (by simp)) rd6 (by decide) m6.Ao (by omega) fun A7 g7=>?_;simp only [BC,Ab];refine Ai.2 ⟨fun h=>absurd h (by decide),fun _=>?_⟩;have hlen:[p].length=1:=rfl;exact hk A7 (((g15.trans (Grow.made m6 g5.Ao)).trans g7).more (by omega))
theorem ZZ {g:GV} {p:Pt} (hp:BR 135 4 (Pt.cs 2) A g.pv [p] F) (hn:p.n<256) (hs:g.st=5) (hw:g.w≤3) (ht:g.t≤5) (hok:okD g.x [p]=true) (hf:AB A) (hA:A.next+70<Ak)
  (hk:∀ A',Grow A A' 40→K (.bool false) A'):Wc Tryz.prog Af W0 m0 88 [vG g] A K:=by
 have hone:=BI hp;refine w88 _ _ Bu ?_;rw [e88];refine AH (cs:=g.cells) hf (by omega) (FT hone) fun A1 m1=>?_;have n1:=m1.next;have k1:=m1.keeps hf;have r1:Go.Abs.AF A1 A.next g.cells 50:=m1.Bk;simp only [Dq r1 hone,Ab];refine Z2 (hp.keeps k1 (by simp)) hn hs hw ht hok m1.Ao (by omega) fun A2 g2=>?_;have r2e:Go.Abs.AF A2 A.next [.int .u32 (g.x.f:Int),.string g.x.g,.string g.x.b,.int .u8 (g.st:Int),.bool false,g.pv,.int .u32 (g.w:Int),.int .u32 (g.t:Int)] 50:=r1.keeps g2.keeps (by simp);simp only [Bh,Ab];refine Ay.2 ⟨fun _=>?_,fun h=>absurd rfl h⟩;simp only [CG,E7,Ag r2e.row,cellOf,Av,Au,Bm,Cf,Nat.zero_add,Ab,Bh];rw [hs];refine Ay.2 ⟨fun h=>absurd h (show ¬ ((5:Nat):Int)=2 by decide),fun _=>?_⟩;exact hk A2 (((Grow.made m1 hf).trans g2).more (by omega))
theorem Z0 {g:GV} {p:Pt} (hp:BR 135 4 (Pt.cs 2) A g.pv [p] F) (hs:g.st=4) (hf:AB A) (hA:A.next+10<Ak)
  (hk:∀ A',Grow A A' 6→K (vG ⟨g.x,5,g.pv,0,0⟩) A'):Wc Tryz.prog Af W0 m0 87 [vG g] A K:=by
 have hone:=BI hp;refine w87 _ _ Bu ?_;rw [e87];refine AH (cs:=g.cells) hf (by omega) (FT hone) fun A1 m1=>?_;have n1:=m1.next;refine AX D2 m1.Ao (by omega) rfl fun A2 m2=>?_;have n2:=m2.next;have g2:=(Grow.made m1 hf).trans (.made m2 m1.Ao);have r1:Go.Abs.AF A2 A.next g.cells 50:=(m1.Bk).keeps (m2.keeps m1.Ao) (by simp);have r2:=m2.Bk;have r1e:Go.Abs.AF A2 A.next [.int .u32 (g.x.f:Int),.string g.x.g,.string g.x.b,.int .u8 (g.st:Int),.bool false,g.pv,.int .u32 (g.w:Int),.int .u32 (g.t:Int)] 50:=r1;simp only [CG,E7,Ag r1e.row,cellOf,Av,Au,Bm,hone.noT,Cf,Nat.zero_add,Ab,Bh,Dq r1 hone];rw [hs];refine Ay.2 ⟨fun h=>absurd h (by decide),fun _=>Ay.2 ⟨fun _=>?_,fun h=>absurd rfl h⟩⟩;simp only [CF,Eb,Ag r1e.row,cellOf,Av,Au,Bm,hone.noT,Cf,Nat.zero_add,Ab];refine J2 (s:=[0,1]) (by kernel_rfl) m2.Ao (by omega) (by decide) fun A3 rd3 m3=>?_;have n3:=m3.next;have k3:=m3.keeps m2.Ao;refine Uw (((hp.keeps g2.keeps (by simp)).rd fun _=>rfl).keeps k3 (by simp)) rd3 (by decide) m3.Ao (by omega) fun A4 g4=>?_;have n4:=g4.next;have l4:=g4.le;simp only [BC,Ab];refine Ai.2 ⟨fun _=>?_,fun h=>absurd h (by decide)⟩;have r4:=(r1e.keeps k3 (by simp)).keeps g4.keeps (by simp);have hpv:=hone.one;simp only [CG,ID,IC,Ab,Nat.zero_add];refine r4.store g4.Ao (by omega) (UW _ _ _) rfl (by simp) rfl fun A5 r5 k5 n5 f5=>?_;have r5:Go.Abs.AF A5 A.next [.int .u32 (g.x.f:Int),.string g.x.g,.string g.x.b,.int .u8 5,.bool false,g.pv,.int .u32 (g.w:Int),.int .u32 (g.t:Int)] 50:=r5;refine r5.store f5 (by omega) (Ju _ _ _) rfl (by simp) rfl fun A6 r6 k6 n6 f6=>?_;have r6:Go.Abs.AF A6 A.next [.int .u32 (g.x.f:Int),.string g.x.g,.string g.x.b,.int .u8 5,.bool false,g.pv,.int .u32 0,.int .u32 (g.t:Int)] 50:=r6;refine r6.store f6 (by omega) (Ju _ _ _) rfl (by simp) rfl fun A7 r7 k7 n7 f7=>?_;have r7:Go.Abs.AF A7 A.next (GV.mk g.x 5 g.pv 0 0).cells 50:=r7;have hg7:=Dq r7 hone;simp only [hg7,Ab];have K7:AA A4 A7 [A.next]:=(k5.trans k6 (by simp)).trans k7 (by simp);refine GM (g:=⟨g.x,5,g.pv,0,0⟩) (((r2.keeps k3 (by simp)).keeps g4.keeps (by simp)).keeps K7 (by simp;omega)) rfl hone f7 (by omega) fun A8 r8 k8 n8 f8=>?_;have hg8:=Dq r8 hone;simp only [hg8,Ab];refine hk A8 ⟨((((g2.keeps.trans k3 (by simp)).trans g4.keeps (by simp)).trans K7 (by simp)).trans k8 (by simp;omega)),f8,by omega⟩
end
variable {A A':AW} {b cl q:Nat} {out:Value} {Fo:List Nat} {K:Value→AW→Prop}
theorem HB(a b:Value):Ar (.tuple ⟨[a,b]⟩) 0=some a:=rfl
theorem HA(a b:Value):Ar (.tuple ⟨[a,b]⟩) 1=some b:=rfl
theorem VX(a b c:Value):Ar (.tuple ⟨[a,b,c]⟩) 0=some a:=rfl
theorem VW(a b c:Value):Ar (.tuple ⟨[a,b,c]⟩) 1=some b:=rfl
theorem VV(a b c:Value):Ar (.tuple ⟨[a,b,c]⟩) 2=some c:=rfl
theorem W8:Bi Tryz.prog (fun _=>undef) (.alloc 50)=some (.row [.int .u32 0,.string .empty,.string .empty,.int .u8 0,.bool false,.slice none 0 0,.int .u32 0,.int .u32 0] 50):=by kernel_rfl
theorem Kv{p:Prop}(h:A.get b=some (.row [.int .u32 0,.string .empty,.string .empty,.int .u8 0,.bool false,.slice none 0 0,.int .u32 0,.int .u32 0] 50 b 0 false))(hp:p):Cm (Bi Tryz.prog (fun _=>undef) (.alloc 50)) A (.pointer (some ⟨b,0,none⟩)) p:=by
 refine ⟨⟨_,W8,?_⟩,hp⟩;simp only [Cb,EH,h,D9,Bool.true_and,Nat.beq_refl];rfl
theorem NR(f:Int)(g:ByteArray):Aw Tryz.prog 24 [(0,.int .u32 f),(1,.string g)]=some (.agg ⟨[.int .u32 f,.string g,.string ⟨⟨[]⟩⟩]⟩):=by kernel_rfl
theorem Wa(A:AW)(n:Int):AK Tryz.prog A 5 3 (.int .u8 n)=.ok (.int .i64 (IntKind.i64.wrap n)) A:=by kernel_rfl
theorem TA(A:AW)(r:Nat):Br Tryz.prog A 75 (.map (some r))=(match A.get r with | some (.map es _ _)=>some (.int .i64 es.length) | _=>none):=by kernel_rfl
theorem AbR(x:Nm):Aw Tryz.prog 50 [(0,.agg ⟨x.cells⟩),(1,.int .u8 5)]=some (vG ⟨x,5,.slice none 0 0,0,0⟩):=by kernel_rfl
theorem H4(x:Nm):HD x x=true:=H5.2 rfl
theorem WO{x:Nm}{g v:GV}{c:Nat}:JJ HD [(⟨x,g,b⟩:En Nm GV)] x v c=[⟨x,v,b⟩]:=by
 unfold JJ;rw [H4];rfl
theorem MG{x:Nm}{g:GV}:KX HD [(⟨x,g,b⟩:En Nm GV)] x=some g:=by
 unfold KX;rw [H4];rfl
structure CO (A:AW) (out:Value) (L:List Ml) (Fo:List Nat) (es:List (En Nm GV)):Prop where
 cr:CR A 258 186 12 256 257 1 out
 env:Env A 186 12
 lgr:Go.Abs.AF A 186 [.pointer (some ⟨164,0,none⟩),.int .u32 2,.map (some 185)] 121
 ow:C4 46 7 Ml.cells A out L Fo
 rows:∃ cl,Ef kN vG A 256 es cl
 asks:∃ l cl,Ef kU vI A 257 l cl
 dec:∃ cl,Ef kN vG A 185 [] cl
 ge:GE A
 lo:264≤A.next
 fo:∀ y∈Fo,264≤y
theorem CO.keeps{L:List Ml}{S:List Nat}{es:List (En Nm GV)}(h:CO A out L Fo es)(k:AA A A' S)(hS:∀ y∈S,264≤y)(hF:∀ y∈Fo,y∉S):CO A' out L Fo es:=by
 have n:∀ i,i<264→i∉S:=fun i hi hm=>by have:=hS i hm;omega
 obtain ⟨cl,hr⟩:=h.rows;obtain ⟨la,ca,ha⟩:=h.asks;obtain ⟨cd,hd⟩:=h.dec;exact ⟨AF.keeps h.cr k (n _ (by decide)),h.env.keeps k (n _ (by decide)) (n _ (by decide)),h.lgr.keeps k (n _ (by decide)),h.ow.keeps k hF,⟨cl,hr.keeps k (n _ (by decide))⟩,⟨la,ca,ha.keeps k (n _ (by decide))⟩,⟨cd,hd.keeps k (n _ (by decide))⟩,
  h.ge.keeps k (fun x hx=>by have:=hS x hx;omega),Nat.le_trans h.lo k.next,h.fo⟩
theorem CO.one{L:List Ml}{es:List (En Nm GV)}(h:CO A out L Fo es):HE out:=Mu h.ow
theorem CO.row{out':Value}{L L':List Ml}{Fo':List Nat}{es:List (En Nm GV)}(h:CO A out L Fo es)(k:AA A A' (258::Fo))(hc:CR A' 258 186 12 256 257 1 out')(ho:C4 46 7 Ml.cells A' out' L' Fo')(hf:∀ y∈Fo',264≤y):CO A' out' L' Fo' es:=by
 have n:∀ i,i<258→i∉258::Fo:=fun i hi hm=>by
  rcases Mk.1 hm with h1 | h1
  ·omega
  ·have:=h.fo i h1;omega
 obtain ⟨cl,hr⟩:=h.rows;obtain ⟨la,ca,ha⟩:=h.asks;obtain ⟨cd,hd⟩:=h.dec;exact ⟨hc,h.env.keeps k (n _ (by decide)) (n _ (by decide)),h.lgr.keeps k (n _ (by decide)),ho,⟨cl,hr.keeps k (n _ (by decide))⟩,⟨la,ca,ha.keeps k (n _ (by decide))⟩,⟨cd,hd.keeps k (n _ (by decide))⟩,
  h.ge.keeps k (fun x hx=>by
   rcases Mk.1 hx with h1 | h1
   ·omega
   ·have:=h.fo x h1;omega),Nat.le_trans h.lo k.next,hf⟩
theorem CO.put{L:List Ml}{es es':List (En Nm GV)}(h:CO A out L Fo es)(k:AA A A' [256])(hr:Ef kN vG A' 256 es' cl):CO A' out L Fo es':=by
 obtain ⟨la,ca,ha⟩:=h.asks;obtain ⟨cd,hd⟩:=h.dec;exact ⟨AF.keeps h.cr k (by decide),h.env.keeps k (by decide) (by decide),h.lgr.keeps k (by decide),h.ow.keeps k (fun y hy=>by have:=h.fo y hy;simp;omega),⟨cl,hr⟩,⟨la,ca,ha.keeps k (by decide)⟩,⟨cd,hd.keeps k (by decide)⟩,h.ge.keeps k (by simp),Nat.le_trans h.lo k.next,h.fo⟩
theorem CO.ask{L:List Ml}{es:List (En Nm GV)}{la:List (En Nat Int)}(h:CO A out L Fo es)(k:AA A A' [257])(ha:Ef kU vI A' 257 la cl):CO A' out L Fo es:=by
 obtain ⟨ca,hr⟩:=h.rows;obtain ⟨cd,hd⟩:=h.dec;exact ⟨AF.keeps h.cr k (by decide),h.env.keeps k (by decide) (by decide),h.lgr.keeps k (by decide),h.ow.keeps k (fun y hy=>by have:=h.fo y hy;simp;omega),⟨ca,hr.keeps k (by decide)⟩,⟨la,cl,ha⟩,⟨cd,hd.keeps k (by decide)⟩,h.ge.keeps k (by simp),Nat.le_trans h.lo k.next,h.fo⟩
section
variable {W0:World} {m0:Inj Tryz.prog}
theorem Z8 {g:GV} {ps:List Pt} {F:List Nat} (hp:BR 135 4 Pt.cells A g.pv ps F) (hl:ps.length<100000) (hf:AB A) (hA:A.next+10<Ak)
  (hk:∀ A' v F',BR 135 4 Pt.cells A' v ps F'→(∀ y∈F',A.next≤y)→Grow A A' 4→K (vG { g with pv:=v }) A'):Wc Tryz.prog Af W0 m0 39 [vG g] A K:=by
 have hone:=BI hp;refine w39 _ _ Bu ?_;rw [e39];refine AH (cs:=g.cells) hf (by omega) (FT hone) fun A1 m1=>?_;have n1:=m1.next;refine AX D2 m1.Ao (by omega) rfl fun A2 m2=>?_;have n2:=m2.next;have g2:=(Grow.made m1 hf).trans (.made m2 m1.Ao);have r1:Go.Abs.AF A2 A.next g.cells 50:=(m1.Bk).keeps (m2.keeps m1.Ao) (by simp);have r2:=m2.Bk;have r1e:Go.Abs.AF A2 A.next [.int .u32 (g.x.f:Int),.string g.x.g,.string g.x.b,.int .u8 (g.st:Int),.bool false,g.pv,.int .u32 (g.w:Int),.int .u32 (g.t:Int)] 50:=r1;simp only [CF,Eb,Ag r1e.row,cellOf,Av,Au,Bm,hone.noT,Cf,Nat.zero_add,Ab];refine YJ (hp.keeps g2.keeps (by simp)) m2.Ao (by omega) (by omega) fun A3 v F' o3 hF3 g3=>?_;have n3:=g3.next;have hv:=BI o3;refine (r1.keeps g3.keeps (by simp)).store g3.Ao (by omega) (UU _ _ _) (by obtain ⟨_,_,_,rfl⟩:=hv;rfl) (by simp [GV.cells]) (by obtain ⟨_,_,_,rfl⟩:=hv;rfl) fun A4 r4 k4 n4 f4=>?_;have r4:Go.Abs.AF A4 A.next { g with pv:=v }.cells 50:=by obtain ⟨_,_,_,rfl⟩:=hv;exact r4
 simp only [Dq r4 hv,Ab];refine GM (g:={ g with pv:=v }) ((r2.keeps g3.keeps (by simp)).keeps k4 (by simp;omega)) rfl hv f4 (by omega) fun A5 r5 k5 n5 f5=>?_;simp only [Dq r5 hv,Ab];have hle:=g3.le;refine hk A5 v F' ((o3.keeps k4 (fun x hx=>by have:=hF3 x hx;simp;omega)).keeps k5 (fun x hx=>by have:=hF3 x hx;simp;omega)) (fun y hy=>by have:=hF3 y hy;omega) ?_;exact ⟨((g2.keeps.trans g3.keeps (by simp)).trans k4 (by simp)).trans k5 (by simp;omega),f5,by omega⟩
theorem AbG(A:AW)(a v:Value):EL Tryz.prog Af A (.func (.func 79) ⟨[]⟩ ⟨[a]⟩) [v]=.ok (.enter 79 [v,a]) A:=by kernel_rfl
theorem AbF(A:AW)(a b v:Value):EL Tryz.prog Af A (.func (.func 84) ⟨[]⟩ ⟨[a,b]⟩) [v]=.ok (.enter 84 [v,a,b]) A:=by kernel_rfl
theorem Ads{p:Pt}(hq:Go.Abs.AF A q [.int .u8 (p.n:Int)] 5)(hf:AB A)(hA:A.next<Ak)(hk:∀ A',Grow A A' 1→K (.bool true) A'):Wc Tryz.prog Af W0 m0 79 [.agg ⟨p.cells⟩,.pointer (some ⟨q,0,none⟩)] A K:=by
 refine w79 _ _ _ Bu ?_;rw [e79];refine AH hf hA rfl fun A1 m1=>?_;have k1:=m1.keeps hf;have hq1:=hq.keeps k1 (by simp);have r1:Go.Abs.AF A1 A.next p.cells 135:=m1.Bk;simp only [Pt.cells] at r1;simp only [Ib,DV,Ag hq1.row,Ag r1.row,cellOf,Au,Cf,Ab,Nat.zero_add,Dk];rw [show decide ((p.n:Int)≤(p.n:Int))=true from decide_eq_true (Int.le_refl _)];exact hk _ (Grow.made m1 hf)
theorem Adp{p:Pt}{l:Nat}{a z y w:Value}(hq:Go.Abs.AF A q [.int .u8 (p.n:Int)] 5)(hl:Go.Abs.AF A l (a::(p.x.cells++[z,y,w])) 38)(hf:AB A)(hA:A.next<Ak)(hk:∀ A',Grow A A' 1→K (.bool true) A'):
  Wc Tryz.prog Af W0 m0 84 [.agg ⟨p.cells⟩,.pointer (some ⟨q,0,none⟩),.pointer (some ⟨l,0,none⟩)] A K:=by
 refine w84 _ _ _ _ Bu ?_;rw [e84];refine AH hf hA rfl fun A1 m1=>?_;have k1:=m1.keeps hf;have hq1:=hq.keeps k1 (by simp);have hl1:=hl.keeps k1 (by simp);have r1:Go.Abs.AF A1 A.next p.cells 135:=m1.Bk;have hx1:Ad Tryz.prog A1 24 (.pointer (some ⟨A.next,1,none⟩))=some (.agg ⟨p.x.cells⟩):=Fi (pre:=[.int .u8 (p.n:Int)]) (post:=[.int .u8 0]) r1;have hx2:Ad Tryz.prog A1 24 (.pointer (some ⟨l,1,none⟩))=some (.agg ⟨p.x.cells⟩):=Fi (pre:=[a]) (post:=[z,y,w]) hl1;simp only [Pt.cells] at r1;simp only [Ib,DV,Ag hq1.row,Ag r1.row,cellOf,Au,Cf,Ab,Nat.zero_add,Bh];refine Ay.2 ⟨fun _=>?_,fun h=>absurd rfl h⟩;simp only [MZ,Er,Nat.zero_add,Ab,hx1,hx2,eqN,H4];exact hk _ (Grow.made m1 hf)
end
theorem Aa9{A:AW}{b:Nat}{p:Pt}(h:Go.Abs.AF A b p.cells 135):Ad Tryz.prog A 135 (.pointer (some ⟨b,0,none⟩))=some (.agg ⟨p.cells⟩):=by
 rw [Zj,BH h.row];rfl
def g00:GV:=⟨⟨0,⟨⟨[]⟩⟩,⟨⟨[]⟩⟩⟩,0,.slice none 0 0,0,0⟩
section
variable {W0:World} {m0:Inj Tryz.prog}
theorem Adq {A:AW} {key:Nm} {p:Pt} {K:Value→AW→Prop} (hco:CO A (.slice none 0 0) [] [] []) (hok:okD key [p]=true) (hn:p.n<256) (hf:AB A) (hA:A.next+400<Ak)
  (hk:∀ A' out Fo pv F b,CO A' out [⟨p.n,3,p.x⟩] Fo [⟨key,⟨key,4,pv,2,1⟩,b⟩]→BR 135 4 Pt.cells A' pv [p] F→(∀ y∈F,264≤y∧y∉Fo)→(∀ y∈Fo,A.next≤y)→AA A A' [256,258]→A'.next≤A.next+300→AB A'→K (.tuple ⟨[]⟩) A'):
  Wc Tryz.prog Af W0 m0 80 [.pointer (some ⟨258,0,none⟩),vG ⟨key,5,.slice none 0 0,0,0⟩,.int .i64 (-1),.bool false,.agg ⟨p.cells⟩] A K:=by
 have hlo:=hco.lo;have hone0:HE (GV.mk key 5 (.slice none 0 0) 0 0).pv:=⟨_,_,_,rfl⟩;refine w80 _ _ _ _ _ _ Bu ?_;rw [e80];refine AH (cs:=(GV.mk key 5 (.slice none 0 0) 0 0).cells) hf (by omega) rfl fun A1 m1=>?_;have n1:=m1.next;have k1:=m1.keeps hf;refine AH (cs:=p.cells) m1.Ao (by omega) rfl fun A2 m2=>?_;have n2:=m2.next;have k2:=m2.keeps m1.Ao;have r1:Go.Abs.AF A2 A.next (GV.mk key 5 (.slice none 0 0) 0 0).cells 50:=(m1.Bk).keeps k2 (by simp);have rp:Go.Abs.AF A2 A1.next p.cells 135:=m2.Bk;simp only [Dq r1 hone0,Ab];refine Z8 (g:=⟨key,5,.slice none 0 0,0,0⟩) (ps:=[]) (BR.nil A2) (by simp) m2.Ao (by omega) fun A3 v F' o3 hF3 g3=>?_;have n3:=g3.next;have l3:=g3.le;have hv:=BI o3;refine GM (g:=⟨key,5,v,0,0⟩) (r1.keeps g3.keeps (by simp)) rfl hv g3.Ao (by omega) fun A4 r4 k4 n4 f4=>?_;have o4:=o3.keeps k4 (fun x hx=>by have:=hF3 x hx;simp;omega);have rp4:=(rp.keeps g3.keeps (by simp)).keeps k4 (by simp;omega);have r4e:Go.Abs.AF A4 A.next [.int .u32 (key.f:Int),.string key.g,.string key.b,.int .u8 5,.bool false,v,.int .u32 0,.int .u32 0] 50:=r4;refine Ai.2 ⟨fun h=>(by cases h),fun _=>?_⟩;simp only [Bb,Ab];refine Ap.2 ⟨fun _=>?_,fun h=>absurd (by decide) h⟩;simp only [CF,Eb,Ag r4e.row,cellOf,Av,Au,Bm,hv.noT,Cf,Nat.zero_add,Ab,Aa9 rp4];refine Aa3 f4 (by omega) fun A5 m5=>?_;have n5:=m5.next;have k5:=m5.keeps f4;refine BR.append etP (o4.keeps k5 (by simp)) m5.Bk m5.Ao (by omega) (by simp) fun pv6 A6 F6 o6 k6 hF6 n6 f6=>?_;rw [List.nil_append] at o6;have h6:=BI o6;have hF6':∀ y∈F6,A2.next≤y:=fun y hy=>by
  rcases hF6 y hy with h | h
  ·exact hF3 y h
  ·omega
 have K4:AA A A4 []:=((k1.trans k2 (by simp)).trans g3.keeps (by simp)).trans k4 (by simp);have K6:AA A A6 []:=(K4.trans k5 (by simp)).trans k6 (fun x hx=>.inr (by have:=hF3 x hx;omega));have r6:=(r4e.keeps k5 (by simp)).keeps k6 (fun h=>by have:=hF3 _ h;omega);refine r6.store f6 (by omega) (UU _ _ _) (by obtain ⟨_,_,_,rfl⟩:=h6;rfl) (by simp) (by obtain ⟨_,_,_,rfl⟩:=h6;rfl) fun A7 r7 k7 n7 f7=>?_;have r7:Go.Abs.AF A7 A.next [.int .u32 (key.f:Int),.string key.g,.string key.b,.int .u8 5,.bool false,pv6,.int .u32 0,.int .u32 0] 50:=by obtain ⟨_,_,_,rfl⟩:=h6;exact r7
 simp only [CG,E7,Ag r7.row,cellOf,Av,Au,Cf,Nat.zero_add,Ab,Bh];refine Ay.2 ⟨fun _=>?_,fun h=>absurd rfl h⟩;unfold OG;simp only [Gq,CG,ID,IC,Ab,Nat.zero_add];refine r7.store f7 (by omega) (UW _ _ _) rfl (by simp) rfl fun A8 r8 k8 n8 f8=>?_;have r8:Go.Abs.AF A8 A.next [.int .u32 (key.f:Int),.string key.g,.string key.b,.int .u8 4,.bool false,pv6,.int .u32 0,.int .u32 0] 50:=r8;refine r8.store f8 (by omega) (Ju _ _ _) rfl (by simp) rfl fun A9 r9 k9 n9 f9=>?_;have r9:Go.Abs.AF A9 A.next [.int .u32 (key.f:Int),.string key.g,.string key.b,.int .u8 4,.bool false,pv6,.int .u32 0,.int .u32 0] 50:=r9;refine r9.store f9 (by omega) (Ju _ _ _) rfl (by simp) rfl fun B0 q0 j0 n10 f10=>?_;have q0:Go.Abs.AF B0 A.next (GV.mk key 4 pv6 0 0).cells 50:=q0;have K0:AA A B0 []:=(((K6.trans k7 (by simp)).trans k8 (by simp)).trans k9 (by simp)).trans j0 (by simp);have l0:=K0.next;have l6:=k6.next;have o0:BR 135 4 Pt.cells B0 pv6 [p] F6:=(((o6.keeps k7 (fun x hx=>by have:=hF6' x hx;simp;omega)).keeps k8 (fun x hx=>by have:=hF6' x hx;simp;omega)).keeps k9 (fun x hx=>by have:=hF6' x hx;simp;omega)).keeps j0 (fun x hx=>by have:=hF6' x hx;simp;omega);have hg0:=Dq q0 h6;simp only [hg0,Ab];refine AdB (g:=⟨key,4,pv6,0,0⟩) o0 (by simp) (fun q hq=>by rw [Ms.1 hq];exact hn) (.inr rfl) (by simp) (by simp) hok f10 (by simp;omega) fun B1 v1 F1 o1 hF1 g1=>?_;have n11:B1.next≤B0.next+(45+10*1):=g1.next;have l1:=g1.le;have h1:=BI o1;have et:HK 4 0 0=((4,2,1),true):=by decide
 simp only [VX,VW,VV,Ab,et];have hco1:=hco.keeps (K0.trans g1.keeps (by simp)) (by simp) (by simp);refine GM (g:=⟨key,4,v1,2,1⟩) (q0.keeps g1.keeps (by simp)) rfl h1 g1.Ao (by omega) fun B2 q2 j2 n12 f12=>?_;have hco2:=hco1.keeps j2 (by simp;omega) (by simp);have o2:=o1.keeps j2 (fun x hx=>by have:=hF1 x hx;simp;omega);obtain ⟨cl,hrows⟩:=hco2.rows;have hx2:=H2 q2;have hg2:=Dq q2 h1;simp only [Ab,Bf,D0,GR,Ag hco2.cr.row,cellOf,BG,Au,Ch,Cf,Nat.zero_add,hx2,hg2];refine hrows.put mtG f12 (by omega) (k:=key) (v:=⟨key,4,v1,2,1⟩) fun B3 c3 h3 j3 n13 f13=>?_;have hco3:=hco2.put j3 h3;have q3:=q2.keeps j3 (by simp;omega);have o3':=o2.keeps j3 (fun x hx=>by have:=hF1 x hx;simp;omega);have hg3:=Dq q3 h1;simp only [hg3,Ab];refine AdA (g:=⟨key,4,v1,2,1⟩) hco3.cr hco3.ow (by simp) (by simp) o3' (by simp) (fun q hq=>by rw [Ms.1 hq];exact hn) (.inr rfl) (by simp) (by simp) hok f13 (by simp;omega) fun B4 out4 Fo4 c4 o4' hFo4 j4 n14 f14=>?_;have n14:B4.next≤B3.next+(35+40*1):=n14;have hFo:∀ y∈Fo4,B3.next≤y:=fun y hy=>by
  rcases hFo4 y hy with h | h
  ·simp at h
  ·exact h
 have ep:∃ b,JJ HD ([]:List (En Nm GV)) key ⟨key,4,v1,2,1⟩ cl=[⟨key,⟨key,4,v1,2,1⟩,b⟩]:=⟨_,rfl⟩;obtain ⟨b,ep⟩:=ep;rw [ep] at hco3;refine hk B4 out4 Fo4 v1 F1 b (hco3.row j4 c4 o4' fun y hy=>by have:=hFo y hy;omega) (o3'.keeps j4 fun y hy h=>by have:=hF1 y hy;simp at h;omega) (fun y hy=>⟨by have:=hF1 y hy;omega,fun h=>by have:=hFo y h;have:=o3'.lt y hy;omega⟩) (fun y hy=>by have:=hFo y hy;omega) ?_ (by omega) f14;exact ((((K0.trans g1.keeps (by simp)).trans j2 (by simp)).more (by simp)).trans j3 (by simp)).trans j4 (by simp)
end
variable {A:AW} {n:Nat} {out:Value} {Fo:List Nat} {K:Value→AW→Prop}
section
variable {W0:World} {m0:Inj Tryz.prog}
theorem WB {x:Nm} {L:List Ml} {es:List (En Nm GV)} (hco:CO A out L Fo es) (hx:x.f≤2147483648∨x.f=2147483650) (hl:x.g.data.toList.length<100000000) (hf:AB A) (hA:A.next+20<Ak)
  (hk:∀ A',Grow A A' 4→K (.tuple ⟨[]⟩) A'):Wc Tryz.prog Af W0 m0 35 [.pointer (some ⟨258,0,none⟩),.int .u8 (n:Int),.agg ⟨x.cells⟩] A K:=by
 refine w35 _ _ _ _ Bu ?_;rw [e35];refine AH (cs:=[.int .u8 (n:Int)]) hf (by omega) rfl fun A1 m1=>?_;have n1:=m1.next;refine AH (cs:=x.cells) m1.Ao (by omega) rfl fun A2 m2=>?_;have n2:=m2.next;have g2:=(Grow.made m1 hf).trans (.made m2 m1.Ao);have r2:Go.Abs.AF A2 A1.next [.int .u32 (x.f:Int),.string x.g,.string x.b] 24:=m2.Bk;simp only [Et,E9,Ag r2.row,cellOf,Au,Cf,Ab,Nat.zero_add,C6];refine Ap.2 ⟨fun _=>BD.2 (BD.2 (hk A2 (g2.more (by omega)))),fun hgt=>?_⟩;have hx:x.f=2147483650:=by omega
 have hco2:=hco.keeps g2.keeps (by simp) (by simp);refine wc8 hco2.cr hco2.env ?_;simp only [Ag r2.row,cellOf,Au,Cf,Ab,BD,Bw];rw [show IntKind.u32.wrap (2147483648+2)=2147483650 from wrap_u32 (by decide) (by decide)];simp only [Bh,Ab];refine Ay.2 ⟨fun _=>?_,fun h=>absurd (by omega) h⟩;simp only [Es,Kq,Ag r2.row,cellOf,Au,Av,Cf,Ab,Nat.zero_add];refine Adt hco2.cr hco2.one hl hco2.ge m2.Ao (by omega) fun A3 g3=>?_;simp only [BC,Ab];refine Ai.2 ⟨fun _=>hk A3 (g2.trans g3),fun h=>by cases h⟩
theorem Ut {x:Nm} (hco:CO A (.slice none 0 0) [] [] []) (hx:2147483648<x.f) (hx2:x.f≠2147483650) (hn:n<256) (hok:okD x.key [⟨n,x⟩]=true) (hf:AB A) (hA:A.next+500<Ak)
  (hk:∀ A' out Fo pv F b,CO A' out [⟨n,3,x⟩] Fo [⟨x.key,⟨x.key,4,pv,2,1⟩,b⟩]→BR 135 4 Pt.cells A' pv [⟨n,x⟩] F→(∀ y∈F,264≤y∧y∉Fo)→(∀ y∈Fo,A.next≤y)→AA A A' [256,258]→A'.next≤A.next+320→AB A'→K (.tuple ⟨[]⟩) A'):
  Wc Tryz.prog Af W0 m0 35 [.pointer (some ⟨258,0,none⟩),.int .u8 (n:Int),.agg ⟨x.cells⟩] A K:=by
 have hlo:=hco.lo;refine w35 _ _ _ _ Bu ?_;rw [e35];refine AH (cs:=[.int .u8 (n:Int)]) hf (by omega) rfl fun A1 m1=>?_;have n1:=m1.next;have k1:=m1.keeps hf;refine AH (cs:=x.cells) m1.Ao (by omega) rfl fun A2 m2=>?_;have n2:=m2.next;have k2:=m2.keeps m1.Ao;have K2:AA A A2 []:=k1.trans k2 (by simp);have rn:=(m1.Bk).keeps k2 (by simp);have r2:Go.Abs.AF A2 A1.next [.int .u32 (x.f:Int),.string x.g,.string x.b] 24:=m2.Bk;simp only [Et,E9,Ag r2.row,cellOf,Au,Cf,Ab,Nat.zero_add,C6];refine Ap.2 ⟨fun h=>absurd h (by omega),fun _=>?_⟩;have hco2:=hco.keeps K2 (by simp) (by simp);refine wc8 hco2.cr hco2.env ?_;simp only [Ag r2.row,cellOf,Au,Cf,Ab,BD,Bw];rw [show IntKind.u32.wrap (2147483648+2)=2147483650 from wrap_u32 (by decide) (by decide)];simp only [Bh,Ab];refine Ay.2 ⟨fun h=>absurd h (by omega),fun _=>?_⟩;unfold OH;simp only [Et,Es,E9,Kq,Ag r2.row,cellOf,Au,Av,Cf,Ab,Nat.zero_add,NR];refine AX EG m2.Ao (by omega) rfl fun A3 m3=>?_;have n3:=m3.next;have k3:=m3.keeps m2.Ao;refine m3.Bk.store m3.Ao (by omega) (HO _ _ _) rfl (by simp [Value.cells]) rfl fun A4 r4 k4 n4 f4=>?_;have r4:Go.Abs.AF A4 A2.next x.key.cells 24:=r4;have K4:AA A2 A4 []:=k3.trans k4 (by simp);refine AX D2 f4 (by omega) rfl fun A5 m5=>?_;have n5:=m5.next;have k5:=m5.keeps f4;have K5:AA A2 A5 []:=K4.trans k5 (by simp);have hco5:=hco2.keeps K5 (by simp) (by simp);have r45:=r4.keeps k5 (by simp);have hkey:=Di r45;obtain ⟨cl,hrows⟩:=hco5.rows;have hlook:C5 Tryz.prog A5 75 (.map (some 256)) (.agg ⟨x.key.cells⟩) true=some (.tuple ⟨[vG g00,.bool false]⟩):=hrows.look mtG D2 x.key true;refine Kv m5.row ?_;simp only [Bf,Ab,D0,GR,Ag hco5.cr.row,cellOf,BG,Au,Ch,Cf,Nat.zero_add,hkey,hlook,HB,HA];refine GM (g:=g00) m5.Bk rfl ⟨_,_,_,rfl⟩ m5.Ao (by omega) fun A6 r6 k6 n6 f6=>?_;have K6:AA A2 A6 []:=K5.trans k6 (by simp;omega);have hco6:=hco2.keeps K6 (by simp) (by simp);have r6e:Go.Abs.AF A6 A4.next [.int .u32 0,.string ⟨⟨[]⟩⟩,.string ⟨⟨[]⟩⟩,.int .u8 0,.bool false,.slice none 0 0,.int .u32 0,.int .u32 0] 50:=r6;simp only [BD,CF,Eb,Ag r6e.row,cellOf,Av,Au,Bm,Ks,Cf,Nat.zero_add,Ab];refine Ur etP (RdE.nil _ _ _) ?_;simp only [Dk,Ab];refine Ap.2 ⟨fun h=>absurd h (by decide),fun _=>?_⟩;obtain ⟨cl6,hrows6⟩:=hco6.rows;have hml:Br Tryz.prog A6 75 (.map (some 256))=some (.int .i64 0):=by rw [TA,hrows6.row.row];rfl
 have hkey6:=Di (r45.keeps k6 (by simp;omega));have rn6:=rn.keeps K6 (by simp);have rx6:=r2.keeps K6 (by simp);have hx6:=Di (p:=x) rx6;simp only [BC,Ab,Bool.not_false];refine Ai.2 ⟨fun _=>?_,fun h=>by cases h⟩;simp only [Bf,Ab,D0,GR,Ag hco6.cr.row,cellOf,BG,Au,Ch,Cf,Nat.zero_add,hml,Dk];refine Ap.2 ⟨fun h=>absurd h (by decide),fun _=>Ai.2 ⟨fun _=>?_,fun h=>by cases h⟩⟩;simp only [hkey6,Ab,AbR];refine GM (g:=⟨x.key,5,.slice none 0 0,0,0⟩) r6 rfl ⟨_,_,_,rfl⟩ f6 (by omega) fun A7 r7 k7 n7 f7=>?_;have K7:AA A2 A7 []:=K6.trans k7 (by simp;omega);have hco7:=hco2.keeps K7 (by simp) (by simp);have hg7:=Dq r7 ⟨_,_,_,rfl⟩;have rn7:=rn6.keeps k7 (by simp;omega);have hx7:=Di (p:=x) (rx6.keeps k7 (by simp;omega));simp only [hg7,DV,Ag rn7.row,cellOf,Au,Cf,hx7,Ab,AbZ];refine Adq hco7 hok hn f7 (by omega) fun A8 out Fo pv F b c8 o8 hF hFo k8 n8 f8=>?_;exact hk A8 out Fo pv F b c8 o8 hF (fun y hy=>by have:=hFo y hy;have:=K7.next;omega) ((K2.trans K7 (by simp)).more (by simp) |>.trans k8 (by simp)) (by omega) f8
theorem Us {b:Nat} {x:Nm} {pv:Value} {L:List Ml} {F:List Nat} (hco:CO A out L Fo [⟨x.key,⟨x.key,4,pv,2,1⟩,b⟩]) (hp:BR 135 4 Pt.cells A pv [⟨n,x⟩] F) (hx:2147483648<x.f) (hx2:x.f≠2147483650) (hf:AB A) (hA:A.next+50<Ak)
  (hk:∀ A',Grow A A' 8→K (.tuple ⟨[]⟩) A'):Wc Tryz.prog Af W0 m0 35 [.pointer (some ⟨258,0,none⟩),.int .u8 (n:Int),.agg ⟨x.cells⟩] A K:=by
 have hlo:=hco.lo;have hone:=BI hp;refine w35 _ _ _ _ Bu ?_;rw [e35];refine AH (cs:=[.int .u8 (n:Int)]) hf (by omega) rfl fun A1 m1=>?_;have n1:=m1.next;have k1:=m1.keeps hf;refine AH (cs:=x.cells) m1.Ao (by omega) rfl fun A2 m2=>?_;have n2:=m2.next;have k2:=m2.keeps m1.Ao;have K2:AA A A2 []:=k1.trans k2 (by simp);have rn:=(m1.Bk).keeps k2 (by simp);have r2:Go.Abs.AF A2 A1.next [.int .u32 (x.f:Int),.string x.g,.string x.b] 24:=m2.Bk;simp only [Et,E9,Ag r2.row,cellOf,Au,Cf,Ab,Nat.zero_add,C6];refine Ap.2 ⟨fun h=>absurd h (by omega),fun _=>?_⟩;have hco2:=hco.keeps K2 (by simp) (by simp);refine wc8 hco2.cr hco2.env ?_;simp only [Ag r2.row,cellOf,Au,Cf,Ab,BD,Bw];rw [show IntKind.u32.wrap (2147483648+2)=2147483650 from wrap_u32 (by decide) (by decide)];simp only [Bh,Ab];refine Ay.2 ⟨fun h=>absurd h (by omega),fun _=>?_⟩;unfold OH;simp only [Et,Es,E9,Kq,Ag r2.row,cellOf,Au,Av,Cf,Ab,Nat.zero_add,NR];refine AX EG m2.Ao (by omega) rfl fun A3 m3=>?_;have n3:=m3.next;have k3:=m3.keeps m2.Ao;refine m3.Bk.store m3.Ao (by omega) (HO _ _ _) rfl (by simp [Value.cells]) rfl fun A4 r4 k4 n4 f4=>?_;have r4:Go.Abs.AF A4 A2.next x.key.cells 24:=r4;have K4:AA A2 A4 []:=k3.trans k4 (by simp);refine AX D2 f4 (by omega) rfl fun A5 m5=>?_;have n5:=m5.next;have k5:=m5.keeps f4;have K5:AA A2 A5 []:=K4.trans k5 (by simp);have hco5:=hco2.keeps K5 (by simp) (by simp);have r45:=r4.keeps k5 (by simp);have hkey:=Di r45;obtain ⟨cl,hrows⟩:=hco5.rows;have hlook:C5 Tryz.prog A5 75 (.map (some 256)) (.agg ⟨x.key.cells⟩) true=some (.tuple ⟨[vG ⟨x.key,4,pv,2,1⟩,.bool true]⟩):=by
  have:=hrows.look mtG D2 x.key true
  rw [MG] at this;exact this
 refine Kv m5.row ?_;simp only [Bf,Ab,D0,GR,Ag hco5.cr.row,cellOf,BG,Au,Ch,Cf,Nat.zero_add,hkey,hlook,HB,HA];refine GM (g:=⟨x.key,4,pv,2,1⟩) m5.Bk rfl hone m5.Ao (by omega) fun A6 r6 k6 n6 f6=>?_;have K6:AA A2 A6 []:=K5.trans k6 (by simp;omega);have r6e:Go.Abs.AF A6 A4.next [.int .u32 (x.f:Int),.string x.g,.string ⟨⟨[]⟩⟩,.int .u8 4,.bool false,pv,.int .u32 2,.int .u32 1] 50:=r6;have hp6:=(hp.keeps K2 (by simp)).keeps K6 (by simp);have rn6:Go.Abs.AF A6 A.next [.int .u8 (n:Int)] 5:=rn.keeps K6 (by simp);simp only [BD,CF,Eb,Ag r6e.row,cellOf,Av,Au,Bm,hone.noT,Cf,Nat.zero_add,Ab];refine LZ (b:=true) (n:=1) etP (hp6.rd fun _=>rfl) (fun K' h=>GL (AbG A6 _ _) rfl (Ads (p:=⟨n,x⟩) rn6 f6 (by omega) h)) fun A7 g7=>?_;have n7:=g7.next;have r7:=r6e.keeps g7.keeps (by simp);have rn7:=rn6.keeps g7.keeps (by simp);have hp7:=hp6.keeps g7.keeps (by simp);rw [if_pos rfl];simp only [Dk,Ab];refine Ap.2 ⟨fun _=>?_,fun h=>absurd (by decide) h⟩;obtain ⟨r,o,a1,a2,_⟩:=(hp7.rd fun _=>rfl).at etP (i:=0) (p:=(⟨n,x⟩:Pt)) rfl;have a1:Aj Tryz.prog 48 pv (.int .i64 0)=some (.pointer (some ⟨r,o,none⟩)):=a1;have c0:A7.cell? ⟨r,o,none⟩=some (.int .u8 (n:Int)):=cell_of (k:=0) a2 rfl;have c4:A7.cell? ⟨r,o+4,none⟩=some (.int .u8 0):=cell_of (k:=4) a2 rfl;simp only [Ag r7.row,cellOf,Av,Au,Bm,hone.noT,Cf,Ab,a1,Ib,Ds,DV,Hm,c0,c4,Ag rn7.row,Bh,BC,Bool.not_true,CG,IE,E7,OT,Nat.zero_add];refine Ai.2 ⟨fun h=>(by cases h),fun _=>Ai.2 ⟨fun h=>(by cases h),fun _=>Ay.2 ⟨fun h=>absurd h (by decide),fun _=>Ai.2 ⟨fun h=>(by cases h),fun _=>?_⟩⟩⟩⟩;simp only [Bb,Bn,Ab];refine Ap.2 ⟨fun h=>absurd h (by decide),fun _=>Ay.2 ⟨fun _=>AU.2 ⟨fun _=>?_,fun h=>absurd h (by decide)⟩,fun h=>absurd rfl h⟩⟩;exact hk A7 ⟨(K2.trans K6 (by simp)).trans g7.keeps (by simp),g7.Ao,by omega⟩
end
variable {A:AW} {n:Nat} {F:List Nat} {K:Value→AW→Prop}
theorem Zi(A:AW)(a:Addr):Ad Tryz.prog A 157 (.pointer (some a))=A.cell? a:=by kernel_rfl
theorem VR(b o:Nat):Ac Tryz.prog 159 (.pointer (some ⟨b,o,none⟩)) 3=some (.pointer (some ⟨b,o+3,none⟩)):=by kernel_rfl
theorem VA{q kd xa no c:Nat}{x:Nm}{a:Option Addr}(h:Go.Abs.AF A q (Lt.Cl kd xa no x (.slice a n c)) 38):Ad Tryz.prog A 38 (.pointer (some ⟨q,0,none⟩))=some (Lt.EB kd xa no x (.slice a n c)):=by
 rw [Lt.Yu,BH h.row];rfl
theorem Tg {x:Value} {p:Pt} {s s' r o:Nat} {K:AW→Prop} (h:BR 135 4 (Pt.cs s) A x [p] F) (hx:Aj Tryz.prog 48 x (.int .i64 0)=some (.pointer (some ⟨r,o,none⟩))) (hf:AB A) (hA:A.next≤Ak)
  (hk:∀ A',BR 135 4 (Pt.cs s') A' x [p] F→AA A A' F→A'.next=A.next→AB A'→K A'):AQ (Am Tryz.prog A 133 (.pointer (some ⟨r,o+4,none⟩)) (.int .u8 (s':Int))) K:=by
 obtain ⟨b,oo,e1,e2⟩:=PE h hx hf hA hk;cases e1;exact e2
theorem VH(f:FuncId)(a c:Array Value):isTuple (.func (.func f) a c)=false:=rfl
section
variable {W0:World} {m0:Inj Tryz.prog}
theorem Aas(hk:K (.tuple ⟨[.int .u8 2,.bool true]⟩) A):Wc Tryz.prog Af W0 m0 154 [.int .u8 0,.int .u16 0] A K:=by
 refine Ad5 _ _ _ Bu ?_;rw [Ae5];refine AdO _ _ _ Bu ?_;rw [AeO];simp only [Bh,Ab];exact Ay.2 ⟨fun _=>Ay.2 ⟨fun _=>Ai.2 ⟨fun _=>hk,fun h=>by cases h⟩,fun h=>absurd rfl h⟩,fun h=>absurd rfl h⟩
theorem ZF(A:AW)(a b:Value):EL Tryz.prog Af A (.func (.func 154) #[] #[]) [a,b]=.ok (.enter 154 [a,b]) A:=by kernel_rfl
theorem AdD {key x:Nm} {pv sv:Value} {Fs:List Nat} (hp:BR 135 4 Pt.cells A pv [⟨n,x⟩] F) (hs:Lt.RdN A sv [] Fs) (hn:n<256) (hok:okD key [⟨n,x⟩]=true) (hlk:Lt.Lok 19 0 0 (Lt.zi x) (Lt.Ce x.g x.b) (Lt.ni []) 0) (hf:AB A) (hA:A.next+12000<Ak)
  (hk:∀ A' v F',BR 135 4 (Pt.cs 2) A' v [⟨n,x⟩] F'→(∀ y∈F',A.next≤y)→AA A A' []→A'.next≤A.next+6000→AB A'→K (.tuple ⟨[vG ⟨key,5,v,0,0⟩,.int .i64 0]⟩) A'):
  Wc Tryz.prog Af W0 m0 36 [vG ⟨key,4,pv,2,1⟩,.int .u8 (n:Int),Lt.EB 19 0 0 x sv] A K:=by
 have hone:=BI hp;obtain ⟨so,sc,rfl⟩:=hs.slice;have hone':HE (GV.mk key 4 pv 2 1).pv:=hone;let I:Nat→Nat→List Value→AW→Prop:=fun g id vals A'=>id=1∧∃ (q0 q2 q3:Nat) (v rv:Value) (F' Fr:List Nat) (j:Nat),vals=[.pointer (some ⟨q0,0,none⟩),.pointer (some ⟨q2,0,none⟩),.pointer (some ⟨q3,0,none⟩),.int .i64 0,rv,.int .i64 4,.int .i64 (j:Int)]∧j≤2∧A.next≤q0∧q0<q2∧q2<q3∧(∀ y∈F',q3<y)∧
  Go.Abs.AF A' q0 (GV.mk key 4 v 2 1).cells 50∧Go.Abs.AF A' q2 (Lt.Cl 19 0 0 x (.slice so 0 sc)) 38∧(∃ z:GV,HE z.pv∧Go.Abs.AF A' q3 z.cells 50)∧BR 135 4 Pt.cells A' v [⟨n,x⟩] F'∧RdE 3 Rw.cells A' rv rws Fr∧AA A A' []∧A'.next≤A.next+5200+j∧AB A'∧g=2-j
 refine w36 _ _ _ _ (c36 (I:=I) ?_) ?_
 ·rintro g id vals A' d ⟨rfl,q0,q2,q3,v,rv,F',Fr,j,rfl,hj,hq0,hq02,hq23,hF',r0,r2,⟨z,hz,r3⟩,o,rd,KA,nA,fA,rfl⟩ hd;rw [Abm];simp only [L36,Mc,Mn,Li,and_true] at hd;obtain ⟨d3,d5,d6,d8,d32,d33,d34⟩:=hd;have hv:=BI o;simp only [d3,d5,d6,d8,d32,d33,d34,Bb,Ab];refine Ap.2 ⟨fun _=>?_,fun h=>absurd h (by omega)⟩;have hj4:j<rws.length:=by show j<4;omega
  have hrj:=Ge hj4;obtain ⟨r,hr⟩:∃ r,rws[j]=r:=⟨_,rfl⟩;rw [hr] at hrj;obtain ⟨rr,ro,a1,_,a2⟩:=rd.at etR hrj;simp only [a1,a2,Ab];refine AX Su fA (by omega) rfl fun A2 m2=>?_;have n2:=m2.next;have k2:=m2.keeps fA;refine m2.Bk.store m2.Ao (by omega) (UY _ _ _) rfl (by simp [Value.cells,Rw.cells]) rfl fun A3 t3 k3 n3 f3=>?_;have K3:AA A' A3 []:=k2.trans k3 (by simp);have t3:Go.Abs.AF A3 A'.next [.int .u8 (r.st:Int),.int .u8 (r.fr:Int),.int .u8 (r.k:Int),.func (.func r.f) #[] #[]] 159:=t3;have r03:=r0.keeps K3 (by simp);have r03e:Go.Abs.AF A3 q0 [.int .u32 (key.f:Int),.string key.g,.string key.b,.int .u8 4,.bool false,v,.int .u32 2,.int .u32 1] 50:=r03;have r23e:Go.Abs.AF A3 q2 [.int .u8 19,.int .u32 (x.f:Int),.string x.g,.string x.b,.int .u8 0,.int .u16 0,.slice so 0 sc] 38:=r2.keeps K3 (by simp);have o3:=o.keeps K3 (by simp);have r33:=r3.keeps K3 (by simp);have hneq:∀ st:Nat,st≠4→((st:Int)≠4):=fun st h e=>h (by omega);have hj3:j=0∨j=1∨j=2:=by omega
  rcases hj3 with rfl | rfl | rfl
  ·obtain rfl:(⟨2,0,1,153⟩:Rw)=r:=hr;simp only [JY,CG,E7,Ag t3.row,Ag r03e.row,cellOf,Au,Av,Cf,Ab,Nat.zero_add,Bn,Bw];refine AU.2 ⟨fun _=>?_,fun h=>absurd h (by decide)⟩;exact AE.2 ⟨1,by decide,rfl,q0,q2,q3,v,rv,F',Fr,1,rfl,by decide,hq0,hq02,hq23,hF',r03,r23e,⟨z,hz,r33⟩,o3,rd.keeps K3 (by simp),KA.trans K3 (by simp),by omega,f3,rfl⟩
  ·obtain rfl:(⟨3,1,2,154⟩:Rw)=r:=hr;simp only [JY,CG,E7,Ag t3.row,Ag r03e.row,cellOf,Au,Av,Cf,Ab,Nat.zero_add,Bn,Bw];refine AU.2 ⟨fun _=>?_,fun h=>absurd h (by decide)⟩;exact AE.2 ⟨0,by decide,rfl,q0,q2,q3,v,rv,F',Fr,2,rfl,by decide,hq0,hq02,hq23,hF',r03,r23e,⟨z,hz,r33⟩,o3,rd.keeps K3 (by simp),KA.trans K3 (by simp),by omega,f3,rfl⟩
  ·obtain rfl:(⟨4,0,3,154⟩:Rw)=r:=hr;simp only [JY,CG,E7,Ag t3.row,Ag r03e.row,cellOf,Au,Av,Cf,Ab,Nat.zero_add,Bn];refine AU.2 ⟨fun h=>absurd rfl h,fun _=>?_⟩;obtain ⟨r5,o5,b1,b2,_⟩:=(o3.rd fun _=>rfl).at etP (i:=0) (p:=(⟨n,x⟩:Pt)) rfl;have b1:Aj Tryz.prog 48 v (.int .i64 0)=some (.pointer (some ⟨r5,o5,none⟩)):=b1;have b4:A3.cell? ⟨r5,o5+4,none⟩=some (.int .u8 0):=cell_of (k:=4) b2 rfl;simp only [Qr,Qq,VR,CF,Ds,Cw,Lt.EW,Lt.Ft,Hm,Eb,DV,Zi,Lt.IT,Lt.JS,Ag t3.row,Ag r03e.row,Ag r23e.row,cellOf,Au,Av,Bm,VH,hv.noT,Cf,Ab,Nat.zero_add,b1,b4,Bn,Bw];refine AU.2 ⟨fun h=>absurd rfl h,fun _=>?_⟩;refine AU.2 ⟨fun h=>absurd (by decide) h,fun _=>?_⟩;refine GL (ZF A3 _ _) rfl (Aas ?_);simp only [HB,HA,BC,Ab,Bool.not_true,Ag r03e.row,cellOf,Au,Av,Bm,hv.noT,Cf];refine Ai.2 ⟨fun h=>(by cases h),fun _=>?_⟩;have o3q:BR 135 4 (Pt.cs 0) A3 v [⟨n,x⟩] F':=o3;simp only [b1,Ds,Ab];refine Tg (s':=2) o3q b1 f3 (by omega) fun A4 o4 k4 n4 f4=>?_;have hF0:q0∉F':=fun h=>by have:=hF' _ h;omega
   have r04:=r03e.keeps k4 hF0;have hg4:=Dq (g:=⟨key,4,v,2,1⟩) r04 hv;simp only [CG,E7,Ag r04.row,cellOf,Au,Av,Cf,Ab,Nat.zero_add,Bh,hg4];refine Ay.2 ⟨fun h=>absurd h (by decide),fun _=>?_⟩;refine Z0 (g:=⟨key,4,v,2,1⟩) o4 rfl f4 (by omega) fun A5 g5=>?_;have n5:=g5.next;have l5:=g5.le;refine GM (g:=⟨key,5,v,0,0⟩) ((r33.keeps k4 (fun h=>by have:=hF' _ h;omega)).keeps g5.keeps (by simp)) rfl hv g5.Ao (by omega) fun A6 r6 k6 n6 f6=>?_;have hg6:=Dq r6 hv;simp only [hg6,Ab];have K4:AA A A4 []:=(KA.trans K3 (by simp)).trans k4 (fun y hy=>.inr (by have:=hF' y hy;omega));refine hk A6 v F' ((o4.keeps g5.keeps (by simp)).keeps k6 (fun y hy=>by have:=hF' y hy;simp;omega)) (fun y hy=>by have:=hF' y hy;omega) ((K4.trans g5.keeps (by simp)).trans k6 (by simp;omega)) (by omega) f6
 ·rw [e36];refine AH (cs:=(GV.mk key 4 pv 2 1).cells) hf (by omega) (FT hone') fun A1 m1=>?_;have n1:=m1.next;have k1:=m1.keeps hf;refine AH (cs:=[.int .u8 (n:Int)]) m1.Ao (by omega) rfl fun A2 m2=>?_;have n2:=m2.next;have k2:=m2.keeps m1.Ao;refine AH (cs:=Lt.Cl 19 0 0 x (.slice so 0 sc)) m2.Ao (by omega) rfl fun A3 m3=>?_;have n3:=m3.next;have k3:=m3.keeps m2.Ao;refine AX D2 m3.Ao (by omega) rfl fun A4 m4=>?_;have n4:=m4.next;have k4:=m4.keeps m3.Ao;have K4:AA A A4 []:=((k1.trans k2 (by simp)).trans k3 (by simp)).trans k4 (by simp);have r0:Go.Abs.AF A4 A.next (GV.mk key 4 pv 2 1).cells 50:=(((m1.Bk).keeps k2 (by simp)).keeps k3 (by simp)).keeps k4 (by simp);have r1:Go.Abs.AF A4 A1.next [.int .u8 (n:Int)] 5:=((m2.Bk).keeps k3 (by simp)).keeps k4 (by simp);have r2:Go.Abs.AF A4 A2.next (Lt.Cl 19 0 0 x (.slice so 0 sc)) 38:=(m3.Bk).keeps k4 (by simp);have r3:Go.Abs.AF A4 A3.next g00.cells 50:=m4.Bk;simp only [Dq r0 hone',Ab];refine YG (g:=⟨key,4,pv,2,1⟩) (hp.keeps K4 (by simp)) (by simp) (fun q hq=>by rw [Ms.1 hq];exact hn) (.inr (.inr rfl)) (by simp) (by simp) m4.Ao (by simp;omega) fun A5 g5=>?_;have n5:A5.next≤A4.next+(20+10*1):=g5.next;have l5:=g5.le;rw [if_pos hok];simp only [Bn,Ab];refine AU.2 ⟨fun h=>absurd rfl h,fun _=>?_⟩;have r25:=r2.keeps g5.keeps (by simp);have hl5:=VA r25;simp only [hl5,Ab];refine Lt.YF (by decide) g5.Ao (by omega) ((hs.keeps K4 (by simp)).keeps g5.keeps (by simp)) (by simp) fun A6 g6=>?_;have n6:=g6.next;have l6:=g6.le;rw [Lt.Fj hlk];simp only [Bn,Ab];refine AU.2 ⟨fun h=>absurd rfl h,fun _=>?_⟩;have K46:AA A4 A6 []:=g5.keeps.trans g6.keeps (by simp);have r06:=r0.keeps K46 (by simp);simp only [Dq r06 hone',Ab];refine YE (g:=⟨key,4,pv,2,1⟩) ((hp.keeps K4 (by simp)).keeps K46 (by simp)) (by simp) g6.Ao (by omega) fun A7 v F7 o7 hF7 g7=>?_;have n7:=g7.next;have l7:=g7.le;have hv:=BI o7;refine GM (g:=⟨key,4,v,2,1⟩) (r06.keeps g7.keeps (by simp)) rfl hv g7.Ao (by omega) fun A8 r8 k8 n8 f8=>?_;have K48:AA A4 A8 [A.next]:=((K46.trans g7.keeps (by simp)).more (by simp)).trans k8 (by simp);have o8:=o7.keeps k8 (fun y hy=>by have:=hF7 y hy;simp;omega);have r8e:Go.Abs.AF A8 A.next [.int .u32 (key.f:Int),.string key.g,.string key.b,.int .u8 4,.bool false,v,.int .u32 2,.int .u32 1] 50:=r8;have r18:=r1.keeps K48 (by simp;omega);have r28:=r2.keeps K48 (by simp;omega);simp only [CF,Eb,Ag r8e.row,cellOf,Au,Av,Bm,hv.noT,Cf,Ab,Nat.zero_add];refine LZ (b:=true) (n:=1) etP (o8.rd fun _=>rfl) (fun K' h=>GL (AbF A8 _ _ _) rfl (Adp (p:=⟨n,x⟩) r18 r28 f8 (by omega) h)) fun A9 g9=>?_;have n9:=g9.next;have l9:=g9.le;rw [if_pos rfl];simp only [Bb,Ab];refine Ap.2 ⟨fun h=>absurd h (by decide),fun _=>?_⟩;refine Z1 g9.Ao (by omega) fun B rdB gB=>?_;have nB:=gB.next;have hlen:=rdB.len (B:=B) etR;simp only [hlen,Ab];have K9:AA A8 B []:=g9.keeps.trans gB.keeps (by simp);have K4B:AA A4 B [A.next]:=K48.trans K9 (by simp);refine AE.2 ⟨2,rfl,A.next,A2.next,A3.next,v,_,F7,_,0,rfl,by decide,Nl _,by omega,by omega,fun y hy=>by have:=hF7 y hy;omega,r8.keeps K9 (by simp),r2.keeps K4B (by simp;omega),⟨g00,⟨_,_,_,rfl⟩,r3.keeps K4B (by simp;omega)⟩,o8.keeps K9 (by simp),rdB,K4.trans K4B (by simp),by omega,gB.Ao,rfl⟩
end
end Go.Proofs.YtkjlldaddekegaaGreatDoor
namespace Go.Abs
section
variable {P:Program} {X:Bc} {W0:World} {m0:Inj P} {α β:Type} {ke:α→Value} {ve:β→Value} {keq:α→α→Bool} {t kt et:TypeId}
def NL(keq:α→α→Bool)(es:List (En α β))(k:α):List (En α β):=es.filter fun e=>!keq k e.k
theorem V5{es:List (En α β)}{k:α}(hn:∀ e∈es,keq k e.k=false):NL keq es k=es:=by
 unfold NL;rw [List.filter_eq_self];intro e he;rw [hn e he];rfl
theorem V6(hd:∀ {a b},keq a b=true↔a=b)(k:α):∀ (es:List (En α β)) (i j:Nat),(es.map En.k).Nodup→atE keq es k i=some j→es.eraseIdx (j-i)=NL keq es k
 |[],_,_,_,h=>by simp [atE] at h
 |e::es,i,j,hn,h=>by
  simp only [Mc,List.nodup_cons] at hn;unfold atE at h;unfold NL;split at h
  ·rename_i hk;cases h;rw [Nat.sub_self,List.eraseIdx_cons_zero,List.filter_cons_of_neg (by rw [hk];simp)];have hke:k=e.k:=hd.1 hk
   symm
   rw [List.filter_eq_self];intro x hx
   have:keq k x.k=false:=by
    cases hq:keq k x.k with
    |false=>rfl
    |true=>
     have:=hd.1 hq
     exact absurd (List.mem_map.2 ⟨x,hx,by rw [← this,hke]⟩) hn.1
   rw [this];rfl
  ·rename_i hk;obtain ⟨h1,_,_⟩:=LS h;rw [show j-i=(j-(i+1))+1 by omega,List.eraseIdx_cons_succ,List.filter_cons_of_pos (by simpa using hk),V6 hd k es (i+1) j hn.2 h];rfl
theorem JZ{γ δ:Type}(f:γ→δ):∀ (l:List γ) (i:Nat),(l.map f).eraseIdx i=(l.eraseIdx i).map f
 |[],i=>by simp
 |x::l,0=>by simp
 |x::l,i+1=>by simp [JZ f l i]
theorem Ef.del (T:MT P t kt et ke keq) {A:AW} {r:Nat} {es:List (En α β)} {c:Nat} (h:Ef ke ve A r es c) (hf:AB A) (hb:A.next≤Ak) {k:α} {K:AW→Prop}
  (hk:∀ A',Ef ke ve A' r (NL keq es k) c→AA A A' [r]→A'.next=A.next→AB A'→K A'):AQ (Fw P A t (.map (some r)) (ke k)) K:=by
 have hsub:List.Sublist (NL keq es k) es:=List.filter_sublist;have fin:∀ es',es'=NL keq es k→AQ (some (A.put r (.map (es'.map (En.entry ke ve)) c false))) K:=by
  rintro es' rfl;obtain ⟨g1,g2,g3,g4⟩:=h.row.put (es':=(NL keq es k).map (En.entry ke ve)) (c':=c) hf hb;exact GX.2 (hk _ ⟨g1,fun e he=>h.lt e (hsub.subset he),(hsub.map En.b).nodup h.nb,(hsub.map En.k).nodup h.nk⟩ g2 g3 g4)
 unfold Fw;simp only [HZ T,h.row.row,T.q,Ct,LK T];cases ha:atE keq es k 0 with
 |none=>
  simp only;exact fin es (V5 (Pb ha).1).symm
 |some i=>
  simp only;rw [JZ];refine fin _ ?_
  have:=V6 T.dec k es 0 i h.nk ha
  rwa [Nat.sub_zero] at this
end
end Go.Abs
