/-
  This text prints what the functions reached ask of their memory, and shows what they answer. Conditions: none for the last theorem, those that each theorem states for the others.
-/
import Derived.Test.YtebidlpekphaoaaGreatDoorPb
import Derived.Shelf.Strconv.AtoiInnerAll
import Derived.Shelf.Strconv.Itoa3
import Derived.Shelf.Strconv.ParseUint10b32
import Derived.Shelf.Strconv.ParseUint10b64
import Derived.Shelf.Strconv.ParseUint10b8
import Derived.Shelf.Strconv.ParseUintEmpty
set_option maxRecDepth 100000
namespace Go.Proofs.YtebidlpekphaoaaGreatDoor
open Go.Abs
structure Grow (A A':AW) (n:Nat):Prop where
 keeps:Ay A A' []
 Az:AH A'
 next:A'.next≤A.next+n
theorem Grow.le {A A':AW} {n:Nat} (h:Grow A A' n):A.next≤A'.next:=h.keeps.next
theorem Grow.refl {A:AW} (hf:AH A):Grow A A 0:=⟨.refl _ _,hf,Nl _⟩
theorem Grow.trans {A B C:AW} {n m:Nat} (h:Grow A B n) (k:Grow B C m):Grow A C (n+m):=⟨h.keeps.trans k.keeps (by simp),k.Az,by have:=h.next;have:=k.next;omega⟩
theorem Grow.more {A B:AW} {n m:Nat} (h:Grow A B n) (hm:n≤m):Grow A B m:=⟨h.keeps,h.Az,by have:=h.next;omega⟩
theorem Grow.made {A A':AW} {cs:List Value} {e:TypeId} (m:Made A A' cs e) (hf:AH A):Grow A A' 1:=⟨m.keeps hf,m.Az,by rw [m.next];omega⟩
theorem Grow.own {A B C:AW} {n m:Nat} {F:List Nat} (h:Grow A B n) (k:Ay B C F) (hF:∀ x∈F,A.next≤x) (hc:C.next≤B.next+m) (hf:AH C):Grow A C (n+m):=
 ⟨h.keeps.trans k (fun x hx=>.inr (hF x hx)),hf,by have:=h.next;omega⟩
theorem YM (xo yo:Operand):Ag Tp .eql 68 xo yo (.pointer none) (.pointer none)=some (.bool true):=by kernel_rfl
theorem YL (xo yo:Operand) (q:Nat):Ag Tp .eql 68 xo yo (pP q 0) (.pointer none)=some (.bool false):=by kernel_rfl
theorem Z7 (xo yo:Operand) (q:Nat):Ag Tp .neq 68 xo yo (.pointer (some ⟨q,0,none⟩)) (.pointer (some ⟨q,0,none⟩))=(match (bif Nat.beq q q then some (Nat.beq 0 0) else none) with | some b=>some (.bool !b) | none=>none):=by kernel_rfl
theorem nep (xo yo:Operand) (q:Nat):Ag Tp .neq 68 xo yo (pP q 0) (pP q 0)=some (.bool false):=by
 rw [Z7,Nat.beq_refl];rfl
def BB (A:AW) (q:Nat) (l:List UInt8) (F:List Nat):Prop:=
 ∃ p v,Go.Abs.AD A q [p,v] 70∧(p=.pointer none∨p=.pointer (some ⟨q,0,none⟩))∧Buf 5 A v l F∧q∉F
theorem BB.keeps {A A':AW} {q:Nat} {l:List UInt8} {F S:List Nat} (h:BB A q l F) (k:Ay A A' S) (hq:q∉S) (hd:∀ x∈F,x∉S):BB A' q l F:=by
 obtain ⟨p,v,h1,h2,h3,h4⟩:=h
 exact ⟨p,v,h1.keeps k hq,h2,h3.keeps k hd,h4⟩
theorem BB.lt {A:AW} {q:Nat} {l:List UInt8} {F:List Nat} (h:BB A q l F):q < A.next∧∀ x∈F,x < A.next:=by
 obtain ⟨p,v,h1,h2,h3,h4⟩:=h
 exact ⟨h1.lt,h3.lt⟩
section
variable {W0:World} {m0:Inj Tp}
theorem Ws {q:Nat} {p v:Value} {A:AW} {K:Value→AW→Prop} (hr:Go.Abs.AD A q [p,v] 70) (hp:p=.pointer none∨p=.pointer (some ⟨q,0,none⟩)) (hf:AH A) (hb:A.next≤Ap)
  (hk:∀ A',Go.Abs.AD A' q [pP q 0,v] 70→Ay A A' [q]→A'.next=A.next→AH A'→K (.tuple ⟨[]⟩) A'):Wc Tp Aw W0 m0 50 [pP q 0] A K:=by
 refine w50 _ _ (AA (S:=fun _ _ _=>False) fun _ _ _ h=>h) ?_
 rw [e50]
 have hn:Ce (pP q 0)=some (pP q 0):=rfl
 have hne:B4 Tp Aw A 80 [pP q 0]=.ok (.value (pP q 0)) A:=by kernel_rfl
 rcases hp with rfl | rfl
 ·simp only [hn,Tj,XA,AF hr.row,cellOf,isTuple,Cf,Ad,YM,Up,hr.row]
  refine Aj.2 ⟨fun _=>?_,fun h=>by cases h⟩
  refine Bg.2 ?_
  refine .inl ⟨_,_,hne,?_⟩
  simp only [Uq,hr.row,Nat.beq_refl,Lc,Ln,YD,Bool.and_self,Ct]
  refine Bg.2 ?_
  refine hr.store hf hb (ZS _ _ _) rfl (by simp) rfl fun A' h1 k1 n1 f1=>hk A' h1 k1 n1 f1
 ·simp only [hn,Tj,XA,AF hr.row,cellOf,isTuple,Cf,Ad,YL,nep]
  refine Aj.2 ⟨fun h=>(by cases h),fun _=>Aj.2 ⟨fun h=>(by cases h),fun _=>?_⟩⟩
  exact hk A hr (.refl _ _) rfl hf
theorem UE {q:Nat} {l:List UInt8} {F:List Nat} {b:UInt8} {A:AW} {K:Value→AW→Prop} (h:BB A q l F) (hl:l.length < 1000000000) (hf:AH A) (hb:A.next+5 < Ap)
  (hk:∀ A' F',BB A' q (l++[b]) F'→(∀ x∈F',x∈F∨A.next≤x)→Ay A A' (q::F)→A'.next≤A.next+2→AH A'→K .nilIface A'):Wc Tp Aw W0 m0 21 [pP q 0,.int .u8 (b.toNat:Int)] A K:=by
 obtain ⟨p,v,hr,hp,hv,hq⟩:=h
 have hn:Ce (pP q 0)=some (pP q 0):=rfl
 have hroom:room=68719476736:=rfl
 refine w21 _ _ _ (AA (S:=fun _ _ _=>False) fun _ _ _ h=>h) ?_
 rw [e21]
 refine Ws hr hp hf (by omega) fun A1 r1 k1 n1 f1=>?_
 have v1:=hv.keeps k1 (by simp;exact fun x hx e=>hq (e▸hx))
 simp only [hn,Ie,Nat.zero_add,KJ,AF r1.row,cellOf,v1.rd.one.2,Cf,Ad]
 refine N3 f1 (by omega) fun A2 m2=>?_
 have n2:=m2.next
 have k2:=m2.keeps f1
 have rd2:=Made.rdB (c:=1) m2
 refine El DN (v1.keeps k2 (by simp)) (Ed DN rd2) m2.Az (by omega) (by simp;omega) fun v' A3 F' v3 k3 hF3 n3 f3=>?_
 have hqF:q∉F':=fun hx=>by
  rcases hF3 q hx with h | h
  ·exact hq h
  ·have:=hr.lt;omega
 have r3:=(r1.keeps k2 (by simp)).keeps k3 hq
 obtain ⟨sa,sc,rfl⟩:=v3.rd.slice
 refine r3.store f3 (by omega) (MS _ _ _) rfl (by simp [Value.cells]) rfl fun A4 r4 k4 n4 f4=>?_
 have K1:Ay A A1 (q::F):=k1.more fun x hx=>.inl (by rw [Ms.1 hx];exact List.mem_cons_self)
 have K4:Ay A A4 (q::F):=((K1.trans k2 (by simp)).trans k3 (fun x hx=>.inl (List.mem_cons_of_mem _ hx))).trans k4 (fun x hx=>.inl (by rw [Ms.1 hx];exact List.mem_cons_self))
 refine hk A4 F' ⟨_,_,r4,.inr rfl,v3.keeps k4 (by simp;exact fun x hx e=>hqF (e▸hx)),hqF⟩ (fun x hx=>?_) K4 (by omega) f4
 rcases hF3 x hx with h | h
 ·exact .inl h
 ·exact .inr (by omega)
end
theorem HA:∀ (l:List Nat) (A:AW),(∀ i∈l,i < Ap)→(∀ i,i∉l→(Cm l A).get i=A.get i)∧(Cm l A).next=A.next∧(Cm l A).fams=A.fams
 | [],A,_=>⟨fun _ _=>rfl,rfl,rfl⟩
 | x::r,A,hl=>by
  unfold Cm
  split
  ·rename_i cs e fam base ro hx
   obtain ⟨h1,h2,h3⟩:=HA r (A.put x (.row cs e fam base true)) fun i hi=>hl i (by simp [hi])
   refine ⟨fun i hi=>?_,h2,h3⟩
   simp only [List.mem_cons,not_or] at hi
   rw [h1 i hi.2,AW.DI A x i _ (hl x (by simp)),Ff hi.1]
  ·obtain ⟨h1,h2,h3⟩:=HA r A fun i hi=>hl i (by simp [hi])
   exact ⟨fun i hi=>h1 i (fun h=>hi (by simp [h])),h2,h3⟩
theorem frozen {A:AW} {f:Nat} (hf:AH A) (hm:∀ i∈A.members f,i < A.next∧∃ cs e b ro,A.get i=some (.row cs e f b ro)) (hb:A.next≤Ap):
  Ay A (Cm (A.members f) A) [f]∧(Cm (A.members f) A).next=A.next∧AH (Cm (A.members f) A):=by
 obtain ⟨h1,h2,h3⟩:=HA (A.members f) A fun i hi=>Nat.lt_of_lt_of_le (hm i hi).1 hb
 refine ⟨⟨by rw [h2];exact Nl _,fun i o hi hlt hn=>?_,fun g _ _=>?_⟩,h2,⟨fun i hi=>?_,fun i hi=>?_⟩⟩
 ·rw [h1 i (fun hmem=>?_)]
  ·exact hi
  ·obtain ⟨_,cs,e,b,ro,hg⟩:=hm i hmem
   rw [hg] at hi
   cases hi
   exact hn (by simp [Ti])
 ·have:∀ B C:AW,B.fams=C.fams→B.members g=C.members g:=fun B C h=>by unfold AW.members;rw [h]
  exact this _ _ h3
 ·rw [h3];rw [h2] at hi;exact hf.fams i hi
 ·rw [h2] at hi
  rw [h1 i (fun hmem=>by have:=(hm i hmem).1;omega)]
  exact hf.get i hi
theorem ZN (A:AW) (b n:Nat):Cn Tp A .unsafeSliceData [33] 107 [.slice (some ⟨b,0,none⟩) (n+1) (BH+(n+1))]=.ok (.value (pP b 0)) A:=rfl
theorem ZM (A:AW) (b n c:Nat):Cn Tp A .unsafeSliceData [33] 107 [.slice (some ⟨b,0,none⟩) (n+1) c]=.ok (.value (pP b 0)) A:=rfl
theorem Yc:Tp.underlying 107=some (.pointer 5):=by kernel_rfl
theorem Acq:(Nat.beq (Tp.cellsOf 5) 1&&sameLayout Tp Tp.depth 5 5)=true:=by kernel_rfl
theorem Yb {A:AW} {b n f:Nat} {cs:List Value} {l:List UInt8} {b0:Nat} (h1:A.cells? ⟨b,0,none⟩ (n+1)=some (AM l)) (h2:A.get b=some (.row cs 5 f b0 false)) (hn:n+1 < room):
  Cn Tp A .unsafeString [107,3] 9 [pP b 0,.int .i64 (((n+1:Nat)):Int)]=.ok (.value (.string ⟨⟨l⟩⟩)) (Cm (A.members f) A):=by
 show (match A.cells? ⟨b,0,none⟩ (n+1),A.get b,Tp.underlying 107 with
  | some cs,some (.row _ e fam _ false),some (.pointer u)=>
   bif Nat.blt (n+1) room&&(Nat.beq (Tp.cellsOf e) 1&&sameLayout Tp Tp.depth e u) then
    (match BK cs with
    | some l=>(R.ok (AN.value (Value.string ⟨⟨l⟩⟩)) (Cm (A.members fam) A):R AN)
    | none=>.fail "text")
   else .fail "text layout"
  | _,_,_=>.fail "text")=_
 rw [h1,h2,Yc]
 simp only [AE.2 hn,Acq,Bool.and_self,Ct,Hb]
section
variable {W0:World} {m0:Inj Tp}
theorem AbM {v:Value} {l:List UInt8} {F:List Nat} {b:UInt8} {A:AW} {K:Value→AW→Prop} (h:Buf 5 A v l F) (hb:b.toNat < 128) (hl:l.length < 1000000000) (hf:AH A) (hA:A.next+5 < Ap)
  (hk:∀ v' A' F',Buf 5 A' v' (l++[b]) F'→Ay A A' F→(∀ x∈F',x∈F∨A.next≤x)→A'.next≤A.next+2→AH A'→K v' A'):Wc Tp Aw W0 m0 51 [v,.int .i32 (b.toNat:Int)] A K:=by
 have hroom:room=68719476736:=rfl
 refine w51 _ _ _ (AA (S:=fun _ _ _=>False) fun _ _ _ h=>h) ?_
 rw [e51]
 have w1:IntKind.u32.wrap (b.toNat:Int)=(b.toNat:Int):=by
  simp [IntKind.wrap,IntKind.bits,IntKind.signed];omega
 have w2:IntKind.u8.wrap (b.toNat:Int)=(b.toNat:Int):=by
  simp [IntKind.wrap,IntKind.bits,IntKind.signed];omega
 rw [VY,w1]
 refine Bg.2 ?_
 simp only [Fl,Ad,Aq]
 refine ⟨fun _=>?_,fun hn=>absurd (by omega) hn⟩
 rw [WZ,w2]
 refine Bg.2 ?_
 refine N3 hf (by omega) fun A2 m2=>?_
 have n2:=m2.next
 have k2:=m2.keeps hf
 refine El DN (h.keeps k2 (by simp)) (Ed DN (Made.rdB (c:=1) m2)) m2.Az (by omega) (by simp;omega) fun v' A3 F' v3 k3 hF3 n3 f3=>?_
 refine hk v' A3 F' v3 ((k2.more (T:=F) (by simp)).trans k3 (fun x hx=>.inl hx)) (fun x hx=>?_) (by omega) f3
 rcases hF3 x hx with h | h
 ·exact .inl h
 ·exact .inr (by omega)
theorem AbW {q:Nat} {l:List UInt8} {F:List Nat} {b:UInt8} {A:AW} {K:Value→AW→Prop} (h:BB A q l F) (hb:b.toNat < 128) (hl:l.length < 1000000000) (hf:AH A) (hA:A.next+5 < Ap)
  (hk:∀ v A' F',BB A' q (l++[b]) F'→(∀ x∈F',x∈F∨A.next≤x)→Ay A A' (q::F)→A'.next≤A.next+2→AH A'→K v A'):Wc Tp Aw W0 m0 22 [pP q 0,.int .i32 (b.toNat:Int)] A K:=by
 obtain ⟨p,v,hr,hp,hv,hq⟩:=h
 have hn:Ce (pP q 0)=some (pP q 0):=rfl
 refine w22 _ _ _ (AA (S:=fun _ _ _=>False) fun _ _ _ h=>h) ?_
 rw [e22]
 refine Ws hr hp hf (by omega) fun A1 r1 k1 n1 f1=>?_
 have v1:=hv.keeps k1 (by simp;exact fun x hx e=>hq (e▸hx))
 simp only [hn,Ie,Nat.zero_add,KJ,AF r1.row,cellOf,v1.rd.one.2,Cf,Ad,v1.rd.len DN]
 refine AbM v1 hb hl f1 (by omega) fun v' A3 F' v3 k3 hF3 n3 f3=>?_
 have hqF:q∉F':=fun hx=>by
  rcases hF3 q hx with h | h
  ·exact hq h
  ·have:=hr.lt;omega
 have r3:=r1.keeps k3 hq
 obtain ⟨sa,sc,rfl⟩:=v3.rd.slice
 refine r3.store f3 (by omega) (MS _ _ _) rfl (by simp [Value.cells]) rfl fun A4 r4 k4 n4 f4=>?_
 have r4':Go.Abs.AD A4 q [pP q 0,.slice sa (l++[b]).length sc] 70:=r4
 simp only [KJ,AF r4'.row,cellOf,isTuple,Cf,Ad,JJ,DS]
 have K1:Ay A A1 (q::F):=k1.more fun x hx=>.inl (by rw [Ms.1 hx];exact List.mem_cons_self)
 have K4:Ay A A4 (q::F):=(K1.trans k3 (fun x hx=>.inl (List.mem_cons_of_mem _ hx))).trans k4 (fun x hx=>.inl (by rw [Ms.1 hx];exact List.mem_cons_self))
 refine hk _ A4 F' ⟨_,_,r4,.inr rfl,v3.keeps k4 (by simp;exact fun x hx e=>hqF (e▸hx)),hqF⟩ (fun x hx=>?_) K4 (by omega) f4
 rcases hF3 x hx with h | h
 ·exact .inl h
 ·exact .inr (by omega)
theorem XZ {q:Nat} {l:List UInt8} {F:List Nat} {A:AW} {K:Value→AW→Prop} (h:BB A q l F) (h0:l≠[]) (hl:l.length < 1000000000) (hf:AH A) (hA:A.next≤Ap)
  (hk:∀ A',Ay A A' F→A'.next=A.next→AH A'→K (.string ⟨⟨l⟩⟩) A'):Wc Tp Aw W0 m0 23 [pP q 0] A K:=by
 obtain ⟨p,v,hr,hp,hv,hq⟩:=h
 have hroom:room=68719476736:=rfl
 have hn:Ce (pP q 0)=some (pP q 0):=rfl
 obtain ⟨n,hln⟩:∃ n,l.length=n+1:=⟨l.length - 1,by have:=List.length_pos_iff.2 h0;omega⟩
 refine w23 _ _ (AA (S:=fun _ _ _=>False) fun _ _ _ h=>h) ?_
 rw [e23]
 simp only [hn,Ie,Nat.zero_add,KJ,AF hr.row,cellOf,hv.rd.one.2,Cf,Ad,hv.rd.len DN]
 rcases hv with ⟨_,e,_⟩ | ⟨b,f,rfl,ho,rfl⟩ | ⟨b,c,pad,rfl,hc,h3,h4,h5,rfl⟩
 ·exact absurd e h0
 ·rw [hln]
  refine .inl ⟨_,_,ZN A b n,?_⟩
  simp only [AF hr.row,cellOf,isTuple,Cf,JJ,Ad]
  rw [hln]
  have hc:A.cells? ⟨b,0,none⟩ (n+1)=some (AM l):=by
   rw [CI ho.row,List.drop_zero]
   have:=CS (AM l) [] (FG l)
   rw [List.append_nil,Bk,hln] at this
   exact this
  refine .inl ⟨_,_,Yb hc ho.row (by omega),?_⟩
  obtain ⟨a1,a2,a3⟩:=frozen (f:=f) hf (fun i hi=>by
   obtain ⟨_,x1,cs',e',b',ro',x2⟩:=ho.mem i hi
   exact ⟨x1,cs',e',b',ro',x2⟩) hA
  exact hk _ a1 a2 a3
 ·rw [hln]
  refine .inl ⟨_,_,ZM A b n c,?_⟩
  simp only [AF hr.row,cellOf,isTuple,Cf,JJ,Ad]
  rw [hln]
  have hc:A.cells? ⟨b,0,none⟩ (n+1)=some (AM l):=by
   rw [CI h3.row,List.drop_zero]
   have:=CS (AM l) pad (FG l)
   rw [Bk,hln] at this
   exact this
  refine .inl ⟨_,_,Yb hc h3.row (by omega),?_⟩
  obtain ⟨a1,a2,a3⟩:=frozen (f:=b) hf (fun i hi=>by
   rw [h3.mem] at hi
   obtain rfl:i=b:=by simpa using hi
   exact ⟨h3.lt,_,_,_,_,h3.row⟩) hA
  exact hk _ a1 a2 a3
end
def Lx:ByteArray:=⟨⟨[48,49,50,51,52,53,54,55,56,57,97,98,99,100,101,102]⟩⟩
noncomputable def XM (n:Nat):Bool:=match quiet Tp (callFunc 82 ⟨[.string Lx,.int .u8 (n:Int)]⟩) with
 | some (.value (.int .i64 k))=>decide (k=B0 n)
 | _=>false
theorem Uw:((List.range 256).all XM)=true:=by kernel_rfl
theorem Aa5 (b:UInt8):quiet Tp (callFunc 82 ⟨[.string Lx,.int .u8 (b.toNat:Int)]⟩)=some (.value (.int .i64 (B0 b.toNat))):=by
 have h:=List.all_eq_true.1 Uw b.toNat (List.mem_range.2 b.toNat_lt)
 unfold XM at h
 split at h
 ·rename_i k hk
  rw [hk,of_decide_eq_true h]
 ·cases h
theorem VX (n:Nat) (h:n < 16):Lx.data.toList[n]? =some (CM n):=by
 have:∀ n,n < 16→Lx.data.toList[n]? =some (CM n):=by decide
 exact this n h
section
variable {W0:World} {m0:Inj Tp}
theorem AbL {b:UInt8} {A:AW} {K:Value→AW→Prop} (hk:K (.int .i64 (B0 b.toNat)) A):Wc Tp Aw W0 m0 52 [.string Lx,.int .u8 (b.toNat:Int)] A K:=by
 refine w52 _ _ _ (AA (S:=fun _ _ _=>False) fun _ _ _ h=>h) ?_
 rw [e52]
 have hb:Gt Tp 82=false:=by kernel_rfl
 have hcf:B4 Tp Aw A 82 [.string Lx,.int .u8 (b.toNat:Int)]=.ok (.value (.int .i64 (B0 b.toNat))) A:=by
  unfold B4
  have hc:([Value.string Lx,.int .u8 (b.toNat:Int)].all (AG 4))=true:=rfl
  simp only [hb,Cf,Aw,Ib,hc,Ct,Aa5]
  rfl
 exact .inl ⟨_,_,hcf,hk⟩
theorem ZA {b:UInt8} {A:AW} {K:Value→AW→Prop} (hk:K (.int .i64 (B0 b.toNat)) A):Wc Tp Aw W0 m0 24 [.string Lx,.int .u8 (b.toNat:Int)] A K:=by
 refine w24 _ _ _ (AA (S:=fun _ _ _=>False) fun _ _ _ h=>h) ?_
 rw [e24]
 exact AbL hk
theorem Wt {b:UInt8} {A:AW} {K:Value→AW→Prop} (hk:K (.int .i64 (B0 b.toNat)) A):Wc Tp Aw W0 m0 25 [.int .u8 (b.toNat:Int)] A K:=by
 have hlt:=b.toNat_lt
 refine w25 _ _ (AA (S:=fun _ _ _=>False) fun _ _ _ h=>h) ?_
 rw [e25]
 unfold B0 at hk
 have i64:∀ n:Int,0≤n→n < 256→IntKind.i64.wrap n=n:=fun n h1 h2=>wrap_i64 (by omega) (by omega)
 have u8:∀ n:Int,0≤n→n < 256→IntKind.u8.wrap n=n:=fun n h1 h2=>by
  simp [IntKind.wrap,IntKind.bits,IntKind.signed];omega
 simp only [DT,Fl,DS,Av,YU,Ad,Aq,Bg]
 have c3:97≤(b.toNat:Int)→((b.toNat:Int)≤102→K (.int .i64 (IntKind.i64.wrap (IntKind.i64.wrap (IntKind.u8.wrap ((b.toNat:Int) - 97))+10))) A):=fun h1 h2=>by
  rw [u8 _ (by omega) (by omega),i64 ((b.toNat:Int) - 97) (by omega) (by omega),i64 _ (by omega) (by omega)]
  rw [Ff (by omega),if_pos (by omega)] at hk
  rw [show (b.toNat:Int) - 97+10=(b.toNat:Int) - 87 by omega]
  exact hk
 have c4:¬ (48≤b.toNat∧b.toNat≤57)→¬ (97≤b.toNat∧b.toNat≤102)→K (.int .i64 (-1)) A:=fun h1 h2=>by
  rw [Ff h1,Ff h2] at hk;exact hk
 refine ⟨fun h1=>⟨fun h2=>?_,fun h2=>⟨fun h3=>⟨fun h4=>c3 h3 h4,fun h4=>c4 (by omega) (by omega)⟩,fun h3=>c4 (by omega) (by omega)⟩⟩,fun h1=>⟨fun h3=>⟨fun h4=>c3 h3 h4,fun h4=>c4 (by omega) (by omega)⟩,fun h3=>c4 (by omega) (by omega)⟩⟩
 rw [u8 _ (by omega) (by omega),i64 _ (by omega) (by omega)]
 rw [if_pos (by omega)] at hk
 exact hk
end
theorem PT {P:Program} {t:TypeId} {xo yo:Operand} {k:IntKind} {a b:Int} (hb:b≠0):Ag P .rem t xo yo (.int k a) (.int k b)=some (.int k (a.tmod b)):=by simp [Ag,binOp,Op.intDiv,hb,quiet,Dc,AG,pure]
theorem PU {P:Program} {t:TypeId} {xo yo:Operand} {k:IntKind} {a b:Int} (hb:b≠0):Ag P .quo t xo yo (.int k a) (.int k b)=some (.int k (k.wrap (a.tdiv b))):=by simp [Ag,binOp,Op.intDiv,hb,quiet,Dc,AG,pure]
theorem PV {P:Program} {t:TypeId} {xo yo:Operand} {k:IntKind} {a b:Int}:Ag P .mul t xo yo (.int k a) (.int k b)=some (.int k (k.wrap (a * b))):=by simp [Ag,binOp,Op.intArith,quiet,Dc,AG,pure]
theorem wrap_u8 {n:Int}:IntKind.u8.wrap n=n % 256:=by
 simp [IntKind.wrap,IntKind.bits,IntKind.signed]
theorem Xs (b:UInt8) (xo yo:Operand):Ag Tp .quo 5 xo yo (.int .u8 (b.toNat:Int)) (.int .u8 16)=some (.int .u8 ((b.toNat / 16:Nat):Int)):=by
 have:=b.toNat_lt
 rw [PU (by decide),wrap_u8,Int.tdiv_eq_ediv_of_nonneg (by omega)]
 congr 2;omega
theorem Xr (b:UInt8) (xo yo:Operand):Ag Tp .rem 5 xo yo (.int .u8 (b.toNat:Int)) (.int .u8 16)=some (.int .u8 ((b.toNat % 16:Nat):Int)):=by
 rw [PT (by decide),Int.tmod_eq_emod_of_nonneg (by omega)]
 congr 2
theorem ixd {n:Nat} {k:IntKind} (h:n < 16):Bj Tp 9 (.string Lx) (.int k (n:Int))=some (.int .u8 ((CM n).toNat:Int)):=ix9 (VX n h)
theorem H8 (b:UInt8):CN b=true↔33≤(b.toNat:Int)∧(b.toNat:Int)≤126∧(b.toNat:Int)≠37∧(b.toNat:Int)≠58:=by
 unfold CN
 simp only [Bq,decide_eq_true_eq,bne_iff_ne]
 omega
theorem Bm {α:Type} {l:List α} {i:Nat} {x:α} (h:l[i]? =some x):l.take (i+1)=l.take i++[x]:=by
 rw [List.take_add_one,h];rfl
theorem I4 (l:List UInt8):(Dp l).length≤3 * l.length:=by
 induction l with
 | nil=>simp [Dp]
 | cons b l ih=>
  rw [show Dp (b::l)=Ii b++Dp l from by simp [Dp],Lq,Lc]
  have:(Ii b).length≤3:=by unfold Ii;split <;> simp
  omega
section
variable {W0:World} {m0:Inj Tp}
theorem AbV {b:UInt8} {A:AW} {K:Value→AW→Prop} (hf:AH A) (hA:A.next < Ap) (hk:∀ A',Grow A A' 1→K (.string ⟨⟨[CM (b.toNat / 16),CM (b.toNat % 16)]⟩⟩) A'):Wc Tp Aw W0 m0 26 [.int .u8 (b.toNat:Int)] A K:=by
 have hb:=b.toNat_lt
 refine w26 _ _ (AA (S:=fun _ _ _=>False) fun _ _ _ h=>h) ?_
 rw [e26]
 have hd:(Value.string ⟨⟨[48,49,50,51,52,53,54,55,56,57,97,98,99,100,101,102]⟩⟩)=.string Lx:=rfl
 simp only [hd,Xs,Xr,ixd (k:=.u8) (show b.toNat / 16 < 16 by omega),ixd (k:=.u8) (show b.toNat % 16 < 16 by omega),Ad]
 refine Z4 hf hA fun A1 m1=>?_
 refine Nw m1.row ?_
 simp only [Ao]
 have hs:Au Tp A1 33 9 (.slice (some ⟨A.next,0,none⟩) 2 2)=.ok (.string ⟨⟨[CM (b.toNat / 16),CM (b.toNat % 16)]⟩⟩) A1:=(Made.rdB (l:=[CM (b.toNat / 16),CM (b.toNat % 16)]) (c:=2) m1).str DN
 rw [hs]
 exact Bg.2 (hk A1 (.made m1 hf))
theorem Rz {s:ByteArray} {A:AW} {K:Value→AW→Prop} (hl:s.data.toList.length < 100000000) (hf:AH A) (hA:A.next+s.data.toList.length < Ap) (hk:∀ A',Grow A A' s.data.toList.length→K (.string ⟨⟨AV s.data.toList⟩⟩) A'):Wc Tp Aw W0 m0 11 [.string s] A K:=by
 let I:Nat→Nat→List Value→AW→Prop:=fun g id vals A'=>id=0∧s.data.toList≠[]∧∃ i:Nat,vals=[.string s,.string ⟨⟨Dp (s.data.toList.take i)⟩⟩,.int .i64 (i:Int)]∧i≤s.data.toList.length∧Grow A A' i∧g=s.data.toList.length - i
 refine w11 _ _ (c11 (I:=I) ?_) ?_
 ·rintro g id vals A' d ⟨rfl,hne,i,rfl,hi,gr,rfl⟩ hd
  rw [AaP]
  simp only [L11,Mc,Mn,Li,and_true] at hd
  obtain ⟨d0,d3,d4⟩:=hd
  have hE:=I4 (s.data.toList.take i)
  rw [List.length_take] at hE
  have nx:=gr.next
  simp only [d0,d3,d4,Ef,Be,Ad,Aq]
  refine ⟨fun hlt=>?_,fun hge=>?_⟩
  ·have hlt:i < s.data.toList.length:=by omega
   have hp:=Ge hlt
   generalize hbb:s.data.toList[i]=b at hp
   have hx:=ix9 (k:=.i64) hp
   have hi1:IntKind.i64.wrap ((i:Int)+1)=((i+1:Nat):Int):=wrap_i64 (by omega) (by omega)
   have hsl:Br Tp A' 9 (.string s) (some (.int .i64 (i:Int))) (some (.int .i64 ((i+1:Nat):Int))) none=some (.string ⟨⟨[b]⟩⟩):=by
    rw [sl9 (by omega) (by omega),Bm hp]
    have hd:(s.data.toList.take i++[b]).drop i=[b]:=by
     rw [List.drop_append,List.drop_eq_nil_of_le (by rw [List.length_take];omega),List.length_take,Nat.min_eq_left (by omega)]
     simp
    rw [hd]
   have hsn:Dp (s.data.toList.take (i+1))=Dp (s.data.toList.take i)++Ii b:=by rw [Bm hp,NG,Ra]
   simp only [hx,DT,Fl,BV,Av,hi1,hsl,Ad,Aq,Bw]
   have esc:CN b=false→(Ab (Ag Tp .add 9 (.tmp 42) (.const (.string ⟨⟨[37]⟩⟩)) (.string ⟨⟨Dp (s.data.toList.take i)⟩⟩) (.string ⟨⟨[37]⟩⟩)) fun t14=>Wc Tp Aw W0 m0 26 [.int .u8 (b.toNat:Int)] A' fun t16 At16=>Ab (Ag Tp .add 9 (.tmp 43) (.tmp 47) t14 t16) fun t17=>
     AZ (T11 0) (T11 0) (∃ g',g' < s.data.toList.length - i∧I g' 0 [.string s,t17,.int .i64 ((i+1:Nat):Int)] At16)):=fun hb=>by
    rw [ID (by show (Dp _).length+1 < _;omega)]
    simp only [Ad]
    refine AbV gr.Az (by omega) fun A2 g2=>?_
    rw [ID (by show (Dp _++[37]).length+2 < _;rw [Lq];show (Dp _).length+1+2 < _;omega)]
    simp only [Ad]
    refine Ah.2 ⟨s.data.toList.length - (i+1),by omega,rfl,hne,i+1,?_,by omega,gr.trans g2,rfl⟩
    rw [hsn]
    unfold Ii
    rw [hb,Ff (by decide)]
    simp
   have hfull:∀ p:Prop,p↔p:=fun _=>Iff.rfl
   refine ⟨fun h1=>⟨fun h2=>⟨fun h3=>⟨fun h4=>?_,fun h4=>esc ?_⟩,fun h3=>esc ?_⟩,fun h2=>esc ?_⟩,fun h1=>esc ?_⟩
   ·have hb:CN b=true:=(H8 b).2 ⟨h1,h2,h3,h4⟩
    rw [ID (by show (Dp _).length+1 < _;omega)]
    simp only [Ad]
    refine Ah.2 ⟨s.data.toList.length - (i+1),by omega,rfl,hne,i+1,?_,by omega,gr.more (by omega),rfl⟩
    rw [hsn]
    unfold Ii
    rw [hb,if_pos rfl]
   all_goals
    cases hb:CN b with
    | false=>rfl
    | true=>have:=(H8 b).1 hb;omega
  ·have hil:i=s.data.toList.length:=by omega
   subst hil
   rw [List.take_length]
   have:=hk A' gr
   rw [CJ hne] at this
   exact this
 ·rw [e11,AX]
  simp only [Ad]
  refine Aj.2 ⟨fun h=>?_,fun h=>?_⟩
  ·have h0:s.data.toList=[]:=by simpa using h
   have:=hk A ((Grow.refl hf).more (by omega))
   rw [h0] at this
   exact this
  ·have h0:s.data.toList≠[]:=by simpa using h
   exact Ah.2 ⟨s.data.toList.length,rfl,h0,0,by simp [Dp],by omega,Grow.refl hf,rfl⟩
end
noncomputable def T18:Nat→List Item:=fun i=>match i with
 | _=>[]
noncomputable def T31:Nat→List Item:=fun i=>match i with
 | 0=>[(.code (cd 31 [1,1,0,0,0])),(.inLoop (cd 31 [1,1,0,0,0])),(.inBlock 0),(.code (cd 31 [1,1,1]))]
 | _=>[]
def L31:Nat→List Tmp:=fun i=>match i with
 | 0=>[0,3]
 | _=>[]
section
variable (W0:World) (m0:Inj Tp) (S:Nat→List Value→AW→Prop) (Q:Value→AW→Prop)
theorem e31 (a0:Value) (A:AW):gE W0 m0 S Q 31 23 T31 L31 [a0] A=(AZ (T31 0) (T31 0) (S 0 [a0,(.string ⟨⟨[]⟩⟩)] A)):=by kernel_rfl
theorem AaB (d:Nat→Value) (A:AW):gL W0 m0 S Q 31 23 T31 L31 d 0 A=(Ab (Ag Tp .gtr 35 (.tmp 4) (.const (.int .u64 9)) (d 0) (.int .u64 9)) fun t0=>Ae t0 (Ab (Ag Tp .rem 35 (.tmp 6) (.const (.int .u64 10)) (d 0) (.int .u64 10)) fun t1=>Ab (Ag Tp .add 35 (.const (.int .u64 48)) (.tmp 7) (.int .u64 48) t1) fun t2=>Al (Au Tp A 35 5 t2) fun t3 At3=>Al (Ar Tp At3 33 1 [(0,t3)]) fun t4 At4=>Al (Au Tp At4 33 9 t4) fun t5 At5=>Ab (Ag Tp .add 9 (.tmp 11) (.tmp 12) t5 (d 3)) fun t6=>Ab (Ag Tp .quo 35 (.tmp 14) (.const (.int .u64 10)) (d 0) (.int .u64 10)) fun t7=>AZ (T31 0) (T31 0) (S 0 [t7,t6] At5)) (Ab (Ag Tp .add 35 (.const (.int .u64 48)) (.tmp 16) (.int .u64 48) (d 0)) fun t8=>Al (Au Tp A 35 5 t8) fun t9 At9=>Al (Ar Tp At9 33 1 [(0,t9)]) fun t10 At10=>Al (Au Tp At10 33 9 t10) fun t11 At11=>Ab (Ag Tp .add 9 (.tmp 20) (.tmp 21) t11 (d 3)) fun t12=>Q t12 At11)):=by kernel_rfl
theorem w31:Wf1 31 23 T31 L31:=wf1 (fun _=>by kernel_rfl) (by decide) fun _=>rfl
theorem c31:Es 31 23 T31 L31:=EC (by decide)
theorem e32 (a0:Value) (A:AW):gE W0 m0 S Q 32 15 Tz Lz [a0] A=(Ab (Ag Tp .lss 3 (.tmp 3) (.const (.int .i64 0)) a0 (.int .i64 0)) fun t0=>Ae t0 (Ab (Ag Tp .add 3 (.tmp 5) (.const (.int .i64 1)) a0 (.int .i64 1)) fun t1=>Ab (unA Tp .neg t1) fun t2=>Al (Au Tp A 3 35 t2) fun t3 At3=>Ab (Ag Tp .add 35 (.tmp 8) (.const (.int .u64 1)) t3 (.int .u64 1)) fun t4=>Wc Tp Aw W0 m0 31 [t4] At3 fun t5 At5=>Ab (Ag Tp .add 9 (.const (.string ⟨⟨[45]⟩⟩)) (.tmp 10) (.string ⟨⟨[45]⟩⟩) t5) fun t6=>Q t6 At5) (Al (Au Tp A 3 35 a0) fun t7 At7=>Wc Tp Aw W0 m0 31 [t7] At7 fun t8 At8=>Q t8 At8)):=by kernel_rfl
theorem w32:Wf1 32 15 Tz Lz:=wf1 (fun _=>by kernel_rfl) (by decide) fun _=>rfl
theorem e33 (a0:Value) (A:AW):gE W0 m0 S Q 33 14 Tz Lz [a0] A=(Al (Fc A (Value.cells a0).toList 32) fun t0 At0=>Ab (At Tp At0 32 t0) fun t1=>Wc Tp Aw W0 m0 60 [t1] At0 fun t2 At2=>Ab (BC t2 0) fun t3=>Ab (BC t2 1) fun t4=>Ab (Ag Tp .eql 3 (.tmp 12) (.const (.int .i64 0)) t4 (.int .i64 0)) fun t5=>Q (.tuple ⟨[t3,t5]⟩) At2):=by kernel_rfl
theorem w33:Wf1 33 14 Tz Lz:=wf1 (fun _=>by kernel_rfl) (by decide) fun _=>rfl
theorem e34 (a0 a1 a2:Value) (A:AW):gE W0 m0 S Q 34 10 Tz Lz [a0,a1,a2] A=(Ae a0 (Q a1 A) (Q a2 A)):=by kernel_rfl
theorem w34:Wf3 34 10 Tz Lz:=wf3 (fun _ _ _=>by kernel_rfl) (by decide) fun _ _ _=>rfl
theorem e44 (a0:Value) (A:AW):gE W0 m0 S Q 44 11 Tz Lz [a0] A=(Al (Fc A (Value.cells a0).toList 32) fun t0 At0=>Ab (At Tp At0 32 t0) fun t1=>Wc Tp Aw W0 m0 75 [t1] At0 fun t2 At2=>Ab (BC t2 0) fun t3=>Ab (BC t2 1) fun t4=>Q t3 At2):=by kernel_rfl
theorem w44:Wf1 44 11 Tz Lz:=wf1 (fun _=>by kernel_rfl) (by decide) fun _=>rfl
theorem e46 (a0:Value) (A:AW):gE W0 m0 S Q 46 10 Tz Lz [a0] A=(Ab (Ag Tp .lss 3 (.tmp 3) (.const (.int .i64 0)) a0 (.int .i64 0)) fun t0=>Ae t0 (Wc Tp Aw W0 m0 78 [a0,(.int .i64 10)] A fun t1 At1=>Q t1 At1) (Al (Au Tp A 3 35 a0) fun t2 At2=>Wc Tp Aw W0 m0 79 [t2,(.int .i64 10)] At2 fun t3 At3=>Q t3 At3)):=by kernel_rfl
theorem w46:Wf1 46 10 Tz Lz:=wf1 (fun _=>by kernel_rfl) (by decide) fun _=>rfl
theorem e47 (a0:Value) (A:AW):gE W0 m0 S Q 47 11 Tz Lz [a0] A=(Ab (Ag Tp .lss 5 (.tmp 3) (.const (.int .u8 0)) a0 (.int .u8 0)) fun t0=>Ae t0 (Al (Au Tp A 5 2 a0) fun t1 At1=>Wc Tp Aw W0 m0 78 [t1,(.int .i64 10)] At1 fun t2 At2=>Q t2 At2) (Al (Au Tp A 5 35 a0) fun t3 At3=>Wc Tp Aw W0 m0 79 [t3,(.int .i64 10)] At3 fun t4 At4=>Q t4 At4)):=by kernel_rfl
theorem w47:Wf1 47 11 Tz Lz:=wf1 (fun _=>by kernel_rfl) (by decide) fun _=>rfl
theorem e48 (a0:Value) (A:AW):gE W0 m0 S Q 48 10 Tz Lz [a0] A=(Ab (Ag Tp .lss 35 (.tmp 3) (.const (.int .u64 0)) a0 (.int .u64 0)) fun t0=>Ae t0 (Al (Au Tp A 35 2 a0) fun t1 At1=>Wc Tp Aw W0 m0 78 [t1,(.int .i64 10)] At1 fun t2 At2=>Q t2 At2) (Wc Tp Aw W0 m0 79 [a0,(.int .i64 10)] A fun t3 At3=>Q t3 At3)):=by kernel_rfl
theorem w48:Wf1 48 10 Tz Lz:=wf1 (fun _=>by kernel_rfl) (by decide) fun _=>rfl
theorem e49 (a0 a1 a2:Value) (A:AW):gE W0 m0 S Q 49 10 Tz Lz [a0,a1,a2] A=(Ae a0 (Q a1 A) (Q a2 A)):=by kernel_rfl
theorem w49:Wf3 49 10 Tz Lz:=wf3 (fun _ _ _=>by kernel_rfl) (by decide) fun _ _ _=>rfl
theorem e60 (a0:Value) (A:AW):gE W0 m0 S Q 60 21 Tz Lz [a0] A=(Al (Fc A (Value.cells a0).toList 32) fun t0 At0=>Ab (At Tp At0 32 t0) fun t1=>Wc Tp Aw W0 m0 88 [t1] At0 fun t2 At2=>Ab (Ag Tp .neq 3 (.tmp 5) (.const (.int .i64 0)) t2 (.int .i64 0)) fun t3=>Ae t3 (Q (.tuple ⟨[(.string ⟨⟨[]⟩⟩),(.int .i64 40)]⟩) At2) (Ab (Ac Tp 32 t0 0) fun t4=>Ab (At Tp At2 30 t4) fun t5=>Al (Au Tp At2 30 35 t5) fun t6 At6=>Ab (Ac Tp 32 t0 1) fun t7=>Ab (At Tp At6 9 t7) fun t8=>Ab (Ac Tp 32 t0 2) fun t9=>Ab (At Tp At6 9 t9) fun t10=>Wc Tp Aw W0 m0 31 [t6] At6 fun t11 At11=>Ab (At Tp At11 9 t9) fun t12=>eqW t12 t10 (Ab (Ac Tp 32 t0 2) fun t13=>eqW t13 t9 (Ab (At Tp At11 9 t7) fun t14=>eqW t14 t8 (Ab (Ac Tp 32 t0 1) fun t15=>eqW t15 t7 (Ab (Ag Tp .add 9 (.tmp 10) (.const (.string ⟨⟨[46]⟩⟩)) t11 (.string ⟨⟨[46]⟩⟩)) fun t16=>Wc Tp Aw W0 m0 89 [t8] At11 fun t17 At17=>Ab (At Tp At17 9 t9) fun t18=>eqW t18 t10 (Ab (Ac Tp 32 t0 2) fun t19=>eqW t19 t9 (Ab (Ag Tp .add 9 (.tmp 10) (.const (.string ⟨⟨[46]⟩⟩)) t11 (.string ⟨⟨[46]⟩⟩)) fun t20=>eqW t20 t16 (Ab (Ag Tp .add 9 (.tmp 11) (.tmp 14) t16 t17) fun t21=>Ab (Ag Tp .add 9 (.tmp 15) (.const (.string ⟨⟨[46]⟩⟩)) t21 (.string ⟨⟨[46]⟩⟩)) fun t22=>Wc Tp Aw W0 m0 89 [t10] At17 fun t23 At23=>Ab (Ag Tp .add 9 (.tmp 15) (.const (.string ⟨⟨[46]⟩⟩)) t21 (.string ⟨⟨[46]⟩⟩)) fun t24=>eqW t24 t22 (Ab (Ag Tp .add 9 (.tmp 11) (.tmp 14) t16 t17) fun t25=>eqW t25 t21 (Ab (Ag Tp .add 9 (.tmp 10) (.const (.string ⟨⟨[46]⟩⟩)) t11 (.string ⟨⟨[46]⟩⟩)) fun t26=>eqW t26 t16 (Ab (Ag Tp .add 9 (.tmp 16) (.tmp 19) t22 t23) fun t27=>Q (.tuple ⟨[t27,(.int .i64 0)]⟩) At23)))))))))))):=by kernel_rfl
theorem w60:Wf1 60 21 Tz Lz:=wf1 (fun _=>by kernel_rfl) (by decide) fun _=>rfl
theorem e75 (a0:Value) (A:AW):gE W0 m0 S Q 75 24 Tz Lz [a0] A=(Al (Fc A (Value.cells a0).toList 32) fun t0 At0=>Ab (At Tp At0 32 t0) fun t1=>Wc Tp Aw W0 m0 100 [t1] At0 fun t2 At2=>Ab (Ag Tp .neq 24 (.tmp 7) (.const (.int .i64 0)) t2 (.int .i64 0)) fun t3=>Ae t3 (Q (.tuple ⟨[(.string ⟨⟨[]⟩⟩),t2]⟩) At2) (Ab (Ac Tp 32 t0 0) fun t4=>Ab (At Tp At2 30 t4) fun t5=>Al (Au Tp At2 30 35 t5) fun t6 At6=>Ab (Ac Tp 32 t0 1) fun t7=>Ab (At Tp At6 9 t7) fun t8=>Ab (Ac Tp 32 t0 2) fun t9=>Ab (At Tp At6 9 t9) fun t10=>Wc Tp Aw W0 m0 79 [t6,(.int .i64 10)] At6 fun t11 At11=>Ab (At Tp At11 9 t9) fun t12=>eqW t12 t10 (Ab (Ac Tp 32 t0 2) fun t13=>eqW t13 t9 (Ab (At Tp At11 9 t7) fun t14=>eqW t14 t8 (Ab (Ac Tp 32 t0 1) fun t15=>eqW t15 t7 (Ab (Ag Tp .add 9 (.tmp 13) (.const (.string ⟨⟨[46]⟩⟩)) t11 (.string ⟨⟨[46]⟩⟩)) fun t16=>Wc Tp Aw W0 m0 101 [t8] At11 fun t17 At17=>Ab (At Tp At17 9 t9) fun t18=>eqW t18 t10 (Ab (Ac Tp 32 t0 2) fun t19=>eqW t19 t9 (Ab (Ag Tp .add 9 (.tmp 13) (.const (.string ⟨⟨[46]⟩⟩)) t11 (.string ⟨⟨[46]⟩⟩)) fun t20=>eqW t20 t16 (Ab (Ag Tp .add 9 (.tmp 14) (.tmp 17) t16 t17) fun t21=>Ab (Ag Tp .add 9 (.tmp 18) (.const (.string ⟨⟨[46]⟩⟩)) t21 (.string ⟨⟨[46]⟩⟩)) fun t22=>Wc Tp Aw W0 m0 101 [t10] At17 fun t23 At23=>Ab (Ag Tp .add 9 (.tmp 18) (.const (.string ⟨⟨[46]⟩⟩)) t21 (.string ⟨⟨[46]⟩⟩)) fun t24=>eqW t24 t22 (Ab (Ag Tp .add 9 (.tmp 14) (.tmp 17) t16 t17) fun t25=>eqW t25 t21 (Ab (Ag Tp .add 9 (.tmp 13) (.const (.string ⟨⟨[46]⟩⟩)) t11 (.string ⟨⟨[46]⟩⟩)) fun t26=>eqW t26 t16 (Ab (Ag Tp .add 9 (.tmp 19) (.tmp 22) t22 t23) fun t27=>Q (.tuple ⟨[t27,(.int .i64 0)]⟩) At23)))))))))))):=by kernel_rfl
theorem w75:Wf1 75 24 Tz Lz:=wf1 (fun _=>by kernel_rfl) (by decide) fun _=>rfl
theorem e88 (a0:Value) (A:AW):gE W0 m0 S Q 88 19 Tz Lz [a0] A=(Al (Fc A (Value.cells a0).toList 32) fun t0 At0=>Ab (Ac Tp 32 t0 1) fun t1=>Ab (At Tp At0 9 t1) fun t2=>Ab (Bn Tp At0 9 t2) fun t3=>Ab (Ag Tp .lss 3 (.tmp 5) (.const (.int .i64 1)) t3 (.int .i64 1)) fun t4=>Ae t4 (Q (.int .i64 40) At0) (Ab (Ac Tp 32 t0 1) fun t5=>Ab (At Tp At0 9 t5) fun t6=>Ab (Bn Tp At0 9 t6) fun t7=>Ab (Ag Tp .gtr 3 (.tmp 10) (.const (.int .i64 64)) t7 (.int .i64 64)) fun t8=>Ae t8 (Q (.int .i64 40) At0) (Ab (Ac Tp 32 t0 2) fun t9=>Ab (At Tp At0 9 t9) fun t10=>Ab (Bn Tp At0 9 t10) fun t11=>Ab (Ag Tp .gtr 3 (.tmp 16) (.const (.int .i64 64)) t11 (.int .i64 64)) fun t12=>Ae t12 (Q (.int .i64 40) At0) (Q (.int .i64 0) At0)))):=by kernel_rfl
theorem w88:Wf1 88 19 Tz Lz:=wf1 (fun _=>by kernel_rfl) (by decide) fun _=>rfl
noncomputable def T89:Nat→List Item:=fun i=>match i with
 | 0=>[(.code (cd 89 [1,1,0,1,0,0])),(.inLoop (cd 89 [1,1,0,1,0,0])),(.inBlock 0),(.code (cd 89 [1,1,1]))]
 | _=>[]
def L89:Nat→List Tmp:=fun i=>match i with
 | 0=>[0,3,4]
 | _=>[]
theorem e89 (a0:Value) (A:AW):gE W0 m0 S Q 89 26 T89 L89 [a0] A=(AZ (T89 0) (T89 0) (S 0 [a0,(.slice none 0 0),(.int .i64 0)] A)):=by kernel_rfl
theorem Aaf (d:Nat→Value) (A:AW):gL W0 m0 S Q 89 26 T89 L89 d 0 A=(Ab (Bn Tp A 9 (d 0)) fun t0=>Ab (Ag Tp .lss 3 (.tmp 5) (.tmp 7) (d 4) t0) fun t1=>Ae t1 (Ab (Bj Tp 9 (d 0) (d 4)) fun t2=>Ab (Ag Tp .quo 5 (.tmp 14) (.const (.int .u8 16)) t2 (.int .u8 16)) fun t3=>Ab (Bj Tp 9 (d 0) (d 4)) fun t4=>Ab (Ag Tp .rem 5 (.tmp 19) (.const (.int .u8 16)) t4 (.int .u8 16)) fun t5=>Wc Tp Aw W0 m0 105 [t3] A fun t6 At6=>Ab (Ag Tp .rem 5 (.tmp 19) (.const (.int .u8 16)) t4 (.int .u8 16)) fun t7=>eqW t7 t5 (Ab (Bj Tp 9 (d 0) (d 4)) fun t8=>eqW t8 t4 (eqW (d 4) (d 4) (eqW (d 0) (d 0) (eqW (d 3) (d 3) (Wc Tp Aw W0 m0 105 [t5] At6 fun t9 At9=>eqW (d 3) (d 3) (Al (Ar Tp At9 33 2 [(0,t6),(1,t9)]) fun t10 At10=>Bz (AR Tp (BA (Tm.fill ⟨2,.nil⟩ 0 [t6,t9])) (.buildSlice 33 2 #[(0,.tmp 0),(1,.tmp 1)])) At10 t10 (Ab (Ag Tp .rem 5 (.tmp 19) (.const (.int .u8 16)) t4 (.int .u8 16)) fun t11=>eqW t11 t5 (Ab (Bj Tp 9 (d 0) (d 4)) fun t12=>eqW t12 t4 (eqW (d 4) (d 4) (eqW (d 0) (d 0) (Ab (Ag Tp .quo 5 (.tmp 14) (.const (.int .u8 16)) t2 (.int .u8 16)) fun t13=>eqW t13 t3 (Ab (Bj Tp 9 (d 0) (d 4)) fun t14=>eqW t14 t2 (eqW (d 4) (d 4) (eqW (d 0) (d 0) (eqW (d 3) (d 3) (Al (Bf Tp At10 33 33 (d 3) t10) fun t15 At15=>Ab (Ag Tp .add 3 (.tmp 9) (.const (.int .i64 1)) (d 4) (.int .i64 1)) fun t16=>AZ (T89 0) (T89 0) (S 0 [(d 0),t15,t16] At15)))))))))))))))))) (Al (Au Tp A 33 9 (d 3)) fun t17 At17=>Q t17 At17)):=by kernel_rfl
theorem w89:Wf1 89 26 T89 L89:=wf1 (fun _=>by kernel_rfl) (by decide) fun _=>rfl
theorem c89:Es 89 26 T89 L89:=EC (by decide)
theorem YR (a0:Value) (A:AW):gE W0 m0 S Q 100 18 Tz Lz [a0] A=(Al (Fc A (Value.cells a0).toList 32) fun t0 At0=>Ab (Ac Tp 32 t0 1) fun t1=>Ab (At Tp At0 9 t1) fun t2=>Ab (Ag Tp .eql 9 (.tmp 4) (.const (.string ⟨⟨[]⟩⟩)) t2 (.string ⟨⟨[]⟩⟩)) fun t3=>Ae t3 (Q (.int .i64 40) At0) (Ab (Ac Tp 32 t0 1) fun t4=>Ab (At Tp At0 9 t4) fun t5=>Ab (Bn Tp At0 9 t5) fun t6=>Ab (Ag Tp .gtr 3 (.tmp 9) (.const (.int .i64 64)) t6 (.int .i64 64)) fun t7=>Ae t7 (Q (.int .i64 40) At0) (Ab (Ac Tp 32 t0 2) fun t8=>Ab (At Tp At0 9 t8) fun t9=>Ab (Bn Tp At0 9 t9) fun t10=>Ab (Ag Tp .gtr 3 (.tmp 15) (.const (.int .i64 64)) t10 (.int .i64 64)) fun t11=>Ae t11 (Q (.int .i64 40) At0) (Q (.int .i64 0) At0)))):=by kernel_rfl
theorem Ace:Wf1 100 18 Tz Lz:=wf1 (fun _=>by kernel_rfl) (by decide) fun _=>rfl
noncomputable def Rr:Nat→List Item:=fun i=>match i with
 | 0=>[(.code (cd 101 [1,1,0,1,0,0])),(.inLoop (cd 101 [1,1,0,1,0,0])),(.inBlock 0),(.code (cd 101 [1,1,1]))]
 | _=>[]
def Wl:Nat→List Tmp:=fun i=>match i with
 | 0=>[0,3,6,7]
 | _=>[]
theorem YQ (a0:Value) (A:AW):gE W0 m0 S Q 101 24 Rr Wl [a0] A=(Al (BM Tp A 70) fun t0 At0=>Ab (Bn Tp At0 9 a0) fun t1=>AZ (Rr 0) (Rr 0) (S 0 [a0,t0,t1,(.int .i64 0)] At0)):=by kernel_rfl
theorem YH (d:Nat→Value) (A:AW):gL W0 m0 S Q 101 24 Rr Wl d 0 A=(Ab (Ag Tp .lss 3 (.tmp 7) (.tmp 6) (d 7) (d 6)) fun t0=>Ae t0 (Ab (Bj Tp 9 (d 0) (d 7)) fun t1=>Ab (Ag Tp .shr 5 (.tmp 12) (.const (.int .u64 4)) t1 (.int .u64 4)) fun t2=>Ab (Bj Tp 9 (.string ⟨⟨[48,49,50,51,52,53,54,55,56,57,97,98,99,100,101,102]⟩⟩) t2) fun t3=>Wc Tp Aw W0 m0 21 [(d 3),t3] A fun t4 At4=>Ab (Bj Tp 9 (d 0) (d 7)) fun t5=>Ab (Ag Tp .and 5 (.tmp 18) (.const (.int .u8 15)) t5 (.int .u8 15)) fun t6=>Ab (Bj Tp 9 (.string ⟨⟨[48,49,50,51,52,53,54,55,56,57,97,98,99,100,101,102]⟩⟩) t6) fun t7=>Wc Tp Aw W0 m0 21 [(d 3),t7] At4 fun t8 At8=>Ab (Ag Tp .add 3 (.tmp 7) (.const (.int .i64 1)) (d 7) (.int .i64 1)) fun t9=>AZ (Rr 0) (Rr 0) (S 0 [(d 0),(d 3),(d 6),t9] At8)) (Wc Tp Aw W0 m0 23 [(d 3)] A fun t10 At10=>Q t10 At10)):=by kernel_rfl
theorem Acd:Wf1 101 24 Rr Wl:=wf1 (fun _=>by kernel_rfl) (by decide) fun _=>rfl
theorem AcT:Es 101 24 Rr Wl:=EC (by decide)
theorem VU (a0:Value) (A:AW):gE W0 m0 S Q 105 10 Tz Lz [a0] A=(Ab (Ag Tp .lss 5 (.tmp 3) (.const (.int .u8 10)) a0 (.int .u8 10)) fun t0=>Ae t0 (Ab (Ag Tp .add 5 (.const (.int .u8 48)) (.tmp 5) (.int .u8 48) a0) fun t1=>Q t1 A) (Ab (Ag Tp .add 5 (.const (.int .u8 97)) (.tmp 7) (.int .u8 97) a0) fun t2=>Ab (Ag Tp .sub 5 (.tmp 8) (.const (.int .u8 10)) t2 (.int .u8 10)) fun t3=>Q t3 A)):=by kernel_rfl
theorem Aca:Wf1 105 10 Tz Lz:=wf1 (fun _=>by kernel_rfl) (by decide) fun _=>rfl
theorem e78 (a0 a1:Value) (A:AW):gE W0 m0 S Q 78 8 Tz Lz [a0,a1] A=(knW Tp W0 m0 103 [a0,a1] A fun t0 At0=>Q t0 At0):=by kernel_rfl
theorem w78:Wf2 78 8 Tz Lz:=wf2 (fun _ _=>by kernel_rfl) (by decide) fun _ _=>rfl
theorem e79 (a0 a1:Value) (A:AW):gE W0 m0 S Q 79 8 Tz Lz [a0,a1] A=(knW Tp W0 m0 104 [a0,a1] A fun t0 At0=>Q t0 At0):=by kernel_rfl
theorem w79:Wf2 79 8 Tz Lz:=wf2 (fun _ _=>by kernel_rfl) (by decide) fun _ _=>rfl
noncomputable def T45:Nat→List Item:=fun i=>match i with
 | 1=>[(.code (cd 45 [1,1,1,1,0,1,0,0])),(.inLoop (cd 45 [1,1,1,1,0,1,0,0])),(.inBlock 1),(.code (cd 45 [1,1,1,1,1]))]
 | 3=>[(.code (cd 45 [1,1,1,1,1,1,1,1,0,1,0,0])),(.inLoop (cd 45 [1,1,1,1,1,1,1,1,0,1,0,0])),(.inBlock 3),(.code (cd 45 [1,1,1,1,1,1,1,1,1]))]
 | _=>[]
def L45:Nat→List Tmp:=fun i=>match i with
 | 1=>[0,1,5,39,40,41]
 | 3=>[1,8,63,64,65]
 | _=>[]
theorem e45 (a0 a1:Value) (A:AW):gE W0 m0 S Q 45 75 T45 L45 [a0,a1] A=(Ab (Bn Tp A 56 a0) fun t0=>Ab (Ag Tp .eql 3 (.tmp 12) (.const (.int .i64 0)) t0 (.int .i64 0)) fun t1=>Ae t1 (Q (.string ⟨⟨[]⟩⟩) A) (Ab (Ag Tp .eql 3 (.tmp 12) (.const (.int .i64 1)) t0 (.int .i64 1)) fun t2=>Ae t2 (Ab (Am Tp 56 a0 (.int .i64 0)) fun t3=>Ab (At Tp A 9 t3) fun t4=>Q t4 A) (Ab (Bn Tp A 9 a1) fun t5=>Ab (Ag Tp .gtr 3 (.tmp 21) (.const (.int .i64 0)) t5 (.int .i64 0)) fun t6=>Ae t6 (Ab (Bn Tp A 9 a1) fun t7=>Ab (Bn Tp A 56 a0) fun t8=>Ab (Ag Tp .sub 3 (.tmp 26) (.const (.int .i64 1)) t8 (.int .i64 1)) fun t9=>Ab (Ag Tp .quo 3 (.const (.int .i64 9223372036854775807)) (.tmp 27) (.int .i64 9223372036854775807) t9) fun t10=>Ab (Ag Tp .geq 3 (.tmp 24) (.tmp 28) t7 t10) fun t11=>Ae t11 (Ab (EO Tp 9 (.string ⟨⟨[115,116,114,105,110,103,115,58,32,74,111,105,110,32,111,117,116,112,117,116,32,108,101,110,103,116,104,32,111,118,101,114,102,108,111,119]⟩⟩)) fun t12=>anW Tp Aw W0 m0 (RT A t12) fun t13 At13=>Ab (Bn Tp At13 9 a1) fun t14=>Ab (Bn Tp At13 56 a0) fun t15=>Ab (Ag Tp .sub 3 (.tmp 35) (.const (.int .i64 1)) t15 (.int .i64 1)) fun t16=>Ab (Ag Tp .mul 3 (.tmp 33) (.tmp 36) t14 t16) fun t17=>Ab (Ag Tp .add 3 (.tmp 31) (.tmp 37) (.int .i64 0) t17) fun t18=>Ab (Bn Tp At13 56 a0) fun t19=>AZ (T45 1) (T45 1) (S 1 [a0,a1,t18,a0,t19,(.int .i64 0)] At13)) (Ab (Bn Tp A 9 a1) fun t20=>Ab (Bn Tp A 56 a0) fun t21=>Ab (Ag Tp .sub 3 (.tmp 35) (.const (.int .i64 1)) t21 (.int .i64 1)) fun t22=>Ab (Ag Tp .mul 3 (.tmp 33) (.tmp 36) t20 t22) fun t23=>Ab (Ag Tp .add 3 (.tmp 31) (.tmp 37) (.int .i64 0) t23) fun t24=>Ab (Bn Tp A 56 a0) fun t25=>AZ (T45 1) (T45 1) (S 1 [a0,a1,t24,a0,t25,(.int .i64 0)] A))) (Ab (Bn Tp A 56 a0) fun t26=>AZ (T45 1) (T45 1) (S 1 [a0,a1,(.int .i64 0),a0,t26,(.int .i64 0)] A))))):=by kernel_rfl
theorem Aar (d:Nat→Value) (A:AW):gL W0 m0 S Q 45 75 T45 L45 d 1 A=(Ab (Ag Tp .lss 3 (.tmp 41) (.tmp 40) (d 41) (d 40)) fun t0=>Ae t0 (Ab (Am Tp 56 (d 39) (d 41)) fun t1=>Ab (At Tp A 9 t1) fun t2=>Ab (Bn Tp A 9 t2) fun t3=>Ab (Ag Tp .sub 3 (.const (.int .i64 9223372036854775807)) (.tmp 47) (.int .i64 9223372036854775807) (d 5)) fun t4=>Ab (Ag Tp .gtr 3 (.tmp 46) (.tmp 48) t3 t4) fun t5=>Ae t5 (Ab (EO Tp 9 (.string ⟨⟨[115,116,114,105,110,103,115,58,32,74,111,105,110,32,111,117,116,112,117,116,32,108,101,110,103,116,104,32,111,118,101,114,102,108,111,119]⟩⟩)) fun t6=>anW Tp Aw W0 m0 (RT A t6) fun t7 At7=>Ab (Bn Tp At7 9 t2) fun t8=>Ab (Ag Tp .add 3 (.tmp 51) (.tmp 53) (d 5) t8) fun t9=>Ab (Ag Tp .add 3 (.tmp 41) (.const (.int .i64 1)) (d 41) (.int .i64 1)) fun t10=>AZ (T45 1) (T45 1) (S 1 [(d 0),(d 1),t9,(d 39),(d 40),t10] At7)) (Ab (Bn Tp A 9 t2) fun t11=>Ab (Ag Tp .add 3 (.tmp 51) (.tmp 53) (d 5) t11) fun t12=>Ab (Ag Tp .add 3 (.tmp 41) (.const (.int .i64 1)) (d 41) (.int .i64 1)) fun t13=>AZ (T45 1) (T45 1) (S 1 [(d 0),(d 1),t12,(d 39),(d 40),t13] A))) (Al (BM Tp A 70) fun t14 At14=>Wc Tp Aw W0 m0 76 [t14,(d 5)] At14 fun t15 At15=>Ab (Am Tp 56 (d 0) (.int .i64 0)) fun t16=>Ab (At Tp At15 9 t16) fun t17=>Wc Tp Aw W0 m0 77 [t14,t17] At15 fun t18 At18=>Ab (Br Tp At18 56 (d 0) (some (.int .i64 1)) none none) fun t19=>Ab (Bn Tp At18 56 t19) fun t20=>AZ (T45 3) (T45 3) (S 3 [(d 1),t14,t19,t20,(.int .i64 0)] At18))):=by kernel_rfl
theorem Aaq (d:Nat→Value) (A:AW):gL W0 m0 S Q 45 75 T45 L45 d 3 A=(Ab (Ag Tp .lss 3 (.tmp 65) (.tmp 64) (d 65) (d 64)) fun t0=>Ae t0 (Ab (Am Tp 56 (d 63) (d 65)) fun t1=>Ab (At Tp A 9 t1) fun t2=>Wc Tp Aw W0 m0 77 [(d 8),(d 1)] A fun t3 At3=>Wc Tp Aw W0 m0 77 [(d 8),t2] At3 fun t4 At4=>Ab (Ag Tp .add 3 (.tmp 65) (.const (.int .i64 1)) (d 65) (.int .i64 1)) fun t5=>AZ (T45 3) (T45 3) (S 3 [(d 1),(d 8),(d 63),(d 64),t5] At4)) (Wc Tp Aw W0 m0 23 [(d 8)] A fun t6 At6=>Q t6 At6)):=by kernel_rfl
theorem w45:Wf2 45 75 T45 L45:=wf2 (fun _ _=>by kernel_rfl) (by decide) fun _ _=>rfl
theorem c45:Es 45 75 T45 L45:=EC (by decide)
theorem e76 (a0 a1:Value) (A:AW):gE W0 m0 S Q 76 25 Tz Lz [a0,a1] A=(Wc Tp Aw W0 m0 50 [a0] A fun t0 At0=>Ab (Ag Tp .lss 3 (.tmp 6) (.const (.int .i64 0)) a1 (.int .i64 0)) fun t1=>Ae t1 (Ab (EO Tp 9 (.string ⟨⟨[115,116,114,105,110,103,115,46,66,117,105,108,100,101,114,46,71,114,111,119,58,32,110,101,103,97,116,105,118,101,32,99,111,117,110,116]⟩⟩)) fun t2=>anW Tp Aw W0 m0 (RT At0 t2) fun t3 At3=>Ab (Ce a0) fun t4=>Ab (Ac Tp 70 t4 1) fun t5=>Ab (At Tp At3 33 t5) fun t6=>anW Tp Aw W0 m0 (Cn Tp At3 .cap [33] 3 [t6]) fun t7 At7=>Ab (Ce a0) fun t8=>Ab (Ac Tp 70 t8 1) fun t9=>Ab (At Tp At7 33 t9) fun t10=>Ab (Bn Tp At7 33 t10) fun t11=>Ab (Ag Tp .sub 3 (.tmp 13) (.tmp 18) t7 t11) fun t12=>Ab (Ag Tp .lss 3 (.tmp 19) (.tmp 20) t12 a1) fun t13=>Ae t13 (Wc Tp Aw W0 m0 102 [a0,a1] At7 fun t14 At14=>Q (.tuple ⟨[]⟩) At14) (Q (.tuple ⟨[]⟩) At7)) (Ab (Ce a0) fun t15=>Ab (Ac Tp 70 t15 1) fun t16=>Ab (At Tp At0 33 t16) fun t17=>anW Tp Aw W0 m0 (Cn Tp At0 .cap [33] 3 [t17]) fun t18 At18=>Ab (Ce a0) fun t19=>Ab (Ac Tp 70 t19 1) fun t20=>Ab (At Tp At18 33 t20) fun t21=>Ab (Bn Tp At18 33 t21) fun t22=>Ab (Ag Tp .sub 3 (.tmp 13) (.tmp 18) t18 t22) fun t23=>Ab (Ag Tp .lss 3 (.tmp 19) (.tmp 20) t23 a1) fun t24=>Ae t24 (Wc Tp Aw W0 m0 102 [a0,a1] At18 fun t25 At25=>Q (.tuple ⟨[]⟩) At25) (Q (.tuple ⟨[]⟩) At18))):=by kernel_rfl
theorem w76:Wf2 76 25 Tz Lz:=wf2 (fun _ _=>by kernel_rfl) (by decide) fun _ _=>rfl
theorem e77 (a0 a1:Value) (A:AW):gE W0 m0 S Q 77 19 Tz Lz [a0,a1] A=(Wc Tp Aw W0 m0 50 [a0] A fun t0 At0=>Ab (Ce a0) fun t1=>Ab (Ac Tp 70 t1 1) fun t2=>Ab (At Tp At0 33 t2) fun t3=>Al (Bf Tp At0 33 9 t3 a1) fun t4 At4=>Ab (Ce a0) fun t5=>Ab (Ac Tp 70 t5 1) fun t6=>Bb (AB Tp At4 33 t6 t4) fun At7=>Ab (Bn Tp At7 9 a1) fun t8=>Q (.tuple ⟨[t8,.nilIface]⟩) At7):=by kernel_rfl
theorem w77:Wf2 77 19 Tz Lz:=wf2 (fun _ _=>by kernel_rfl) (by decide) fun _ _=>rfl
theorem YP (a0 a1:Value) (A:AW):gE W0 m0 S Q 102 30 Tz Lz [a0,a1] A=(Ab (Ce a0) fun t0=>Ab (Ac Tp 70 t0 1) fun t1=>Ab (At Tp A 33 t1) fun t2=>anW Tp Aw W0 m0 (Cn Tp A .cap [33] 3 [t2]) fun t3 At3=>Ab (Ag Tp .mul 3 (.const (.int .i64 2)) (.tmp 9) (.int .i64 2) t3) fun t4=>Ab (Ag Tp .add 3 (.tmp 10) (.tmp 11) t4 a1) fun t5=>Ab (Ce a0) fun t6=>Ab (Ac Tp 70 t6 1) fun t7=>Ab (At Tp At3 33 t7) fun t8=>Ab (Bn Tp At3 33 t8) fun t9=>anW Tp Aw W0 m0 (B4 Tp Aw At3 116 [t5]) fun t10 At10=>Ab (Bn Tp At10 33 t8) fun t11=>eqW t11 t9 (Ab (At Tp At10 33 t7) fun t12=>eqW t12 t8 (Ab (Ac Tp 70 t6 1) fun t13=>eqW t13 t7 (Ab (Ce a0) fun t14=>eqW t14 t6 (eqW a0 a0 (Ab (Br Tp At10 33 t10 none (some t9) none) fun t15=>Ab (Ce a0) fun t16=>Ab (Ac Tp 70 t16 1) fun t17=>Ab (At Tp At10 33 t17) fun t18=>Al (Iy Tp At10 33 t15 t18) fun t19 At19=>Ab (Ce a0) fun t20=>Ab (Ac Tp 70 t20 1) fun t21=>Bb (AB Tp At19 33 t21 t15) fun At22=>Q (.tuple ⟨[]⟩) At22)))))):=by kernel_rfl
theorem Acb:Wf2 102 30 Tz Lz:=wf2 (fun _ _=>by kernel_rfl) (by decide) fun _ _=>rfl
abbrev fW (t:TypeId) (v:Value) (i:Nat) (k:Value→Prop):Prop:=Ab (Ac Tp t v i) k
abbrev lW (A:AW) (t:TypeId) (v:Value) (k:Value→Prop):Prop:=Ab (At Tp A t v) k
abbrev sW (A:AW) (t:TypeId) (a v:Value) (k:AW→Prop):Prop:=Bb (AB Tp A t a v) k
abbrev xW (v:Value) (i:Nat) (k:Value→Prop):Prop:=Ab (BC v i) k
abbrev kW (o:BinOp) (t:TypeId) (z:Nat) (c x:Value) (k:Value→Prop):Prop:=Ab (Ag Tp o t (.tmp z) (.const c) x c) k
abbrev cW (W0:World) (m0:Inj Tp) (f:FuncId) (l:List Value) (A:AW) (K:Value→AW→Prop):Prop:=Wc Tp Aw W0 m0 f l A K
end
def Aco:Go.Shelf.Ren:=⟨fun | 129=>133 | 246=>103 | 283=>117 | 284=>118 | 285=>119 | 286=>120 | 317=>132 | 318=>134 | 319=>135 | 320=>136 | 337=>143 | 338=>144 | x=>x,fun | 0=>0 | 2=>2 | 3=>3 | 4=>4 | 5=>5 | 9=>9 | 20=>20 | 37=>33 | 46=>74 | 51=>30 | 53=>35 | 171=>158 | 173=>161 | 212=>171 | 213=>172 | 232=>188 | 233=>189 | x=>x,fun | 17=>1 | 18=>6 | 19=>7 | x=>x⟩
theorem C7:Go.Proofs.LaysM.n246 Tp Aco where
 mixed:=by kernel_rfl
 f129:=Tryz.func133.trans (congrArg some (by kernel_rfl))
 f246:=Tryz.func103.trans (congrArg some (by kernel_rfl))
 f283:=Tryz.func117.trans (congrArg some (by kernel_rfl))
 f284:=Tryz.func118.trans (congrArg some (by kernel_rfl))
 f285:=Tryz.func119.trans (congrArg some (by kernel_rfl))
 f286:=Tryz.func120.trans (congrArg some (by kernel_rfl))
 f317:=Tryz.func132.trans (congrArg some (by kernel_rfl))
 f318:=Tryz.func134.trans (congrArg some (by kernel_rfl))
 f319:=Tryz.func135.trans (congrArg some (by kernel_rfl))
 f320:=Tryz.func136.trans (congrArg some (by kernel_rfl))
 f337:=Tryz.func143.trans (congrArg some (by kernel_rfl))
 f338:=Tryz.func144.trans (congrArg some (by kernel_rfl))
 t0:=Tryz.underlying0
 a0:=Tryz.isAgg0
 z0:=Tryz.sizeOf0
 v0:=Tryz.zeroValue0
 t2:=Tryz.underlying2
 a2:=Tryz.isAgg2
 z2:=Tryz.sizeOf2
 v2:=Tryz.zeroValue2
 t3:=Tryz.underlying3
 a3:=Tryz.isAgg3
 z3:=Tryz.sizeOf3
 v3:=Tryz.zeroValue3
 t4:=Tryz.underlying4
 a4:=Tryz.isAgg4
 z4:=Tryz.sizeOf4
 v4:=Tryz.zeroValue4
 t5:=Tryz.underlying5
 a5:=Tryz.isAgg5
 z5:=Tryz.sizeOf5
 v5:=Tryz.zeroValue5
 t9:=Tryz.underlying9
 a9:=Tryz.isAgg9
 z9:=Tryz.sizeOf9
 v9:=Tryz.zeroValue9
 t20:=Tryz.underlying20
 a20:=Tryz.isAgg20
 z20:=Tryz.sizeOf20
 v20:=Tryz.zeroValue20
 t37:=Tryz.underlying33
 a37:=Tryz.isAgg33
 z37:=Tryz.sizeOf33
 v37:=Tryz.zeroValue33
 t46:=Tryz.underlying74
 a46:=Tryz.isAgg74
 z46:=Tryz.sizeOf74
 v46:=Tryz.zeroValue74
 t51:=Tryz.underlying30
 a51:=Tryz.isAgg30
 z51:=Tryz.sizeOf30
 v51:=Tryz.zeroValue30
 t53:=Tryz.underlying35
 a53:=Tryz.isAgg35
 z53:=Tryz.sizeOf35
 v53:=Tryz.zeroValue35
 t171:=Tryz.underlying158
 a171:=Tryz.isAgg158
 z171:=Tryz.sizeOf158
 v171:=Tryz.zeroValue158
 t173:=Tryz.underlying161
 a173:=Tryz.isAgg161
 z173:=Tryz.sizeOf161
 v173:=Tryz.zeroValue161
 t212:=Tryz.underlying171
 a212:=Tryz.isAgg171
 z212:=Tryz.sizeOf171
 v212:=Tryz.zeroValue171
 t213:=Tryz.underlying172
 a213:=Tryz.isAgg172
 z213:=Tryz.sizeOf172
 t232:=Tryz.underlying188
 a232:=Tryz.isAgg188
 z232:=Tryz.sizeOf188
 v232:=Tryz.zeroValue188
 t233:=Tryz.underlying189
 a233:=Tryz.isAgg189
 z233:=Tryz.sizeOf189
 v233:=Tryz.zeroValue189
 g17:=by kernel_rfl
 g18:=by kernel_rfl
 g19:=by kernel_rfl
 i0:=by kernel_rfl
 i2:=by kernel_rfl
 i3:=by kernel_rfl
 i4:=by kernel_rfl
 i5:=by kernel_rfl
 i9:=by kernel_rfl
 i20:=by kernel_rfl
 i37:=by kernel_rfl
 i46:=by kernel_rfl
 i51:=by kernel_rfl
 i53:=by kernel_rfl
 i171:=by kernel_rfl
 i173:=by kernel_rfl
 i212:=by kernel_rfl
 i232:=by kernel_rfl
 i233:=by kernel_rfl
 m17:=by kernel_rfl
 m18:=by kernel_rfl
 m19:=by kernel_rfl
end Go.Proofs.YtebidlpekphaoaaGreatDoor
namespace Go.Proofs.YtebidlpekphaoaaGreatDoor
open Go Go.Shelf Go.RowKit Go.Sort Go.Lib Go.Proofs
theorem QZ (w:World) (T:TypeId) (nd:Nat) (hs:nd≤24):Holds (fun (b:UInt8)=>Value.int .u8 (b.toNat:Int)) (w.alloc (.cells zeros24 T)) w.heap.size 0 (Array.replicate nd (0:UInt8)):=fun j hj=>by
 have hj':j < nd:=by simpa using hj
 refine ⟨?_,World.frozen?_alloc_new _ _ _ _⟩
 rw [World.cell?_alloc_new,zeros24_at _ (by omega),getElem!_pos _ j hj]
 simp
theorem AcG (w:World) (o:Obj) (dk:Array UInt8) (k:Nat):∃ os,(putRow (fun (b:UInt8)=>Value.int .u8 (b.toNat:Int)) (w.alloc o) w.heap.size 0 dk).drewN k=grow (w.drewN k) os:=by
 rw [alloc_eq_grow]
 obtain ⟨os',_,e⟩:=putRow_grow_new (fun (b:UInt8)=>Value.int .u8 (b.toNat:Int)) w #[o] w.heap.size 0 dk (Nat.le_refl _)
 exact ⟨os',by rw [e];rfl⟩
set_option maxHeartbeats 6400000 in
theorem Lr (u:Nat) (hu64:u < 18446744073709551616) (w:World) (htab:Lib.TabIs Tp w "internal/strconv.uint64pow10" .u64 Lib.pow10Tab):
  Calls Tp 104 #[.int .u64 u,.int .i64 10] w fun e w'=>e=.returned (.string ⟨(Lib.decDigits u).toArray⟩)∧∃ k os,w'=grow (w.drewN k) os:=by
 have mixed:=C7.mixed
 have t2:=C7.t2;have a2:=C7.a2;have z2:=C7.z2;have v2:=C7.v2
 have t3:=C7.t3;have a3:=C7.a3;have z3:=C7.z3;have v3:=C7.v3
 have t9:=C7.t9;have a9:=C7.a9;have z9:=C7.z9;have v9:=C7.v9
 have t4:=C7.t4;have a4:=C7.a4;have z4:=C7.z4;have v4:=C7.v4
 have t171:=C7.t171;have a171:=C7.a171;have z171:=C7.z171;have v171:=C7.v171
 have t0:=C7.t0;have a0:=C7.a0;have z0:=C7.z0;have v0:=C7.v0
 have t53:=C7.t53;have a53:=C7.a53;have z53:=C7.z53;have v53:=C7.v53
 have t37:=C7.t37;have a37:=C7.a37;have z37:=C7.z37;have v37:=C7.v37
 have t5:=C7.t5;have a5:=C7.a5;have z5:=C7.z5;have v5:=C7.v5
 have t173:=C7.t173;have a173:=C7.a173;have z173:=C7.z173;have v173:=C7.v173
 have e283:∀ args w,(callFunc 117 args).run Tp w=.ok (.enter 117 args) w:=enters_of C7.f283 (by kernel_rfl) rfl
 have e284:∀ args w,(callFunc 118 args).run Tp w=.ok (.enter 118 args) w:=enters_of C7.f284 (by kernel_rfl) rfl
 have e285:∀ args w,(callFunc 119 args).run Tp w=.ok (.enter 119 args) w:=enters_of C7.f285 (by kernel_rfl) rfl
 by_cases hs:u < 100
 ·have hw1:IntKind.i64.wrap (u:Int)=(u:Int):=Go.Abs.wrap_i64 (by omega) (by omega)
  go_enter Tryz.func104,Tryz.ntmps104
  go_wp2_with (go_at_fn 117;refine (Any.internal_strconv_small { C7 with } u hs _).mono ?_;rintro e w' ⟨rfl,rfl⟩)
  go_ret
  exact ⟨rfl,0,#[],by simp [World.drewN_zero]⟩
 ·have hu1:1≤u:=by omega
  have hnd20:Lib.nDigits u≤20:=by have:=Lib.numDigits_eq u hu1 hu64;split at this <;> omega
  have hb3:Lib.nDigits u≤23:=by omega
  have hal:Tp.arrayLen 158=24:=by kernel_rfl
  have hsl1:∀ W,(Instr.sliceAt 158 (pP w.heap.size 0) none (some (.int .i64 (Lib.nDigits u:Int))) none).run Tp W=.ok (.slice (some ⟨w.heap.size,0,none⟩) (Lib.nDigits u) 24) W:=fun W=>by
   rw [run_sliceAt_array_h W 158 ⟨w.heap.size,0,none⟩ (by simp [Program.arrayLen,Program.elem,Tryz.underlying158]) .i64 (Lib.nDigits u:Int) (by omega) (by rw [hal];omega)]
   go_simp
  have hH0:=QZ w 158 (Lib.nDigits u) (by omega)
  have hfmt:=Any.internal_strconv_formatBase10 { C7 with } w.heap.size 0 24 u (Array.replicate (Lib.nDigits u) 0) (w.alloc (.cells Lib.zeros24 158)) hH0 (by rw [Array.size_replicate];exact Lib.lt_pow_nDigits u) hu64 (by rw [Array.size_replicate];omega)
  rw [Array.size_replicate] at hfmt
  have HH0:=Lib.hid hH0
  clear hH0 hal
  go_enter Tryz.func104,Tryz.ntmps104
  go_wp2_with (first
   | (go_at_fn 118;refine (Any.internal_strconv_numDigits { C7 with } u hu1 hu64 _ (Lib.tabIs_alloc htab _)).mono ?_;rintro e w' ⟨rfl,rfl⟩))
  go_at_fn 119
  refine hfmt.mono ?_
  rintro e w' ⟨rfl,k,v',dk,rfl,hF⟩
  have hcv:(convert 33 9 (.slice (some ⟨w.heap.size,0,none⟩) (Lib.nDigits u) 24)).run Tp ((putRow (fun (b:UInt8)=>Value.int .u8 (b.toNat:Int)) (w.alloc (.cells Lib.zeros24 158)) w.heap.size 0 dk).drewN k)=.ok (.string ⟨(Lib.decDigits u).toArray⟩) ((putRow (fun (b:UInt8)=>Value.int .u8 (b.toNat:Int)) (w.alloc (.cells Lib.zeros24 158)) w.heap.size 0 dk).drewN k):=by
   have h:=run_convert_bytes_back (P:=Tp) ((putRow (fun (b:UInt8)=>Value.int .u8 (b.toNat:Int)) (w.alloc (.cells Lib.zeros24 158)) w.heap.size 0 dk).drewN k) 33 9 5 ⟨w.heap.size,0,none⟩ 24 (Lib.decDigits u) C7.t37 C7.t5 C7.t9 (fun j hj=>by
    rw [Lib.row_is_numeral hF j hj,Lib.add_plain,World.cell?_drewN]
    exact cell?_putRow (fun (b:UInt8)=>Value.int .u8 (b.toNat:Int)) _ w.heap.size 0 _ dk HH0.out (by rw [hF.size,Array.size_replicate]) j (by rw [hF.size];rw [Lib.decDigits_length] at hj;exact hj))
   rw [Lib.decDigits_length] at h
   exact h
  go_wp2
  go_ret
  obtain ⟨os,eo⟩:=AcG w (.cells Lib.zeros24 158) dk k
  exact ⟨rfl,k,os,eo⟩
end Go.Proofs.YtebidlpekphaoaaGreatDoor
namespace Go.Proofs.YtebidlpekphaoaaGreatDoor
open Go.Abs
def Pow (W:World):Prop:=Lib.TabIs Tp W "internal/strconv.uint64pow10" .u64 Lib.pow10Tab
theorem Pow.grow {W W':World} (h:Pow W) (hb:Go.RowKit.Below W.heap.size W W'):Pow W':=by
 unfold Pow Lib.TabIs World.var? at *
 have hg:Tp.globalNamed "internal/strconv.uint64pow10"=some 1:=by kernel_rfl
 rw [hg] at h ⊢
 simp only [Option.bind_some] at h ⊢
 have hlt:1 < W.heap.size:=by
  rcases Nat.lt_or_ge 1 W.heap.size with h' | h'
  ·exact h'
  ·rw [Array.getElem?_eq_none h'] at h;simp at h
 rw [hb.block 1 hlt]
 exact h
theorem QM (w:World) (k:Nat) (os:Array Obj):Low w (Go.Sort.grow (w.drewN k) os):=by
 refine ⟨⟨rfl,rfl,rfl,?_,fun i hi=>?_⟩,?_⟩
 ·simp [Go.Sort.grow,World.drewN]
 ·show (w.heap++os)[i]? =w.heap[i]?
  rw [Array.getElem?_append_left hi]
 ·simp [Go.Sort.grow,World.drewN]
theorem QO {W0:World} {m0:Inj Tp} {g:FuncId} {k1 k2:IntKind} {n1 n2:Int} {s:ByteArray} (h:∀ w,Pow w→Calls Tp g #[.int k1 n1,.int k2 n2] w fun e w'=>e=.returned (.string s)∧∃ k os,w'=Go.Sort.grow (w.drewN k) os) (hp:Pow W0) {A:AW} {K:Value→AW→Prop} (hk:K (.string s) A):
  Abm Tp W0 m0 g [.int k1 n1,.int k2 n2] A K:=by
 intro m w args' hr _ hb ha
 cases ha with
 | cons h1 h2=>
  cases h2 with
  | cons h3 h4=>
   cases h4
   cases h1
   cases h3
   refine (h w (hp.grow hb)).mono ?_
   rintro e w' ⟨rfl,k,os,rfl⟩
   exact ⟨_,_,m,A,hk,rfl,.string _,EvL.grow hr (QM w k os) _⟩
theorem Ek {n:Nat} (h:n < 10):Lib.decDigits n=[UInt8.ofNat (48+n)]:=by
 rw [Lib.decDigits,dif_pos h]
theorem EX {n:Nat} (h:¬ n < 10):Lib.decDigits n=Lib.decDigits (n / 10)++[UInt8.ofNat (48+n % 10)]:=by
 rw [Lib.decDigits,dif_neg h]
theorem F7 {n:Nat} (h:n < 18446744073709551616):(Lib.decDigits n).length≤20:=by
 rw [Lib.decDigits_length]
 rcases Nat.eq_zero_or_pos n with rfl | h1
 ·rw [← Lib.decDigits_length,Ek (by decide)];decide
 ·have:=Lib.numDigits_eq n h1 h
  have h3:=this.2
  have h4:=this.1
  split at h4 <;> omega
theorem Ik (A:AW) (n:Int) (k:IntKind):Au Tp A 35 5 (.int k n)=.ok (.int .u8 (IntKind.u8.wrap n)) A:=by kernel_rfl
theorem PM (A:AW) (n:Int) (k:IntKind):Au Tp A 3 35 (.int k n)=.ok (.int .u64 (IntKind.u64.wrap n)) A:=by kernel_rfl
theorem To (A:AW) (n:Int) (k:IntKind):Au Tp A 5 35 (.int k n)=.ok (.int .u64 (IntKind.u64.wrap n)) A:=by kernel_rfl
theorem wrap_u64 {n:Int} (h1:0≤n) (h2:n < 18446744073709551616):IntKind.u64.wrap n=n:=by
 simp [IntKind.wrap,IntKind.bits,IntKind.signed]
 omega
theorem UN {k:IntKind} {n:Int}:unA Tp .neg (.int k n)=some (.int k (k.wrap (-n))):=by simp [unA,AG,Op.unary,Op.intArith,quiet,Dc,pure]
section
variable {W0:World} {m0:Inj Tp}
theorem TA {u:Nat} {A:AW} {K:Value→AW→Prop} (hp:Pow W0) (hu:u < 18446744073709551616) (hk:K (.string ⟨⟨Lib.decDigits u⟩⟩) A):Wc Tp Aw W0 m0 79 [.int .u64 (u:Int),.int .i64 10] A K:=by
 refine w79 _ _ _ (AA (S:=fun _ _ _=>False) fun _ _ _ h=>h) ?_
 rw [e79]
 exact .inr (QO (s:=⟨⟨Lib.decDigits u⟩⟩) (fun w hw=>Lr u hu w hw) hp hk)
theorem Abz {n:Int} {A:AW} {K:Value→AW→Prop} (hp:Pow W0) (h0: -9223372036854775808≤n) (h1:n≤9223372036854775807) (hk:K (.string ⟨⟨Lib.itoa n⟩⟩) A):Wc Tp Aw W0 m0 78 [.int .i64 n,.int .i64 10] A K:=by
 refine w78 _ _ _ (AA (S:=fun _ _ _=>False) fun _ _ _ h=>h) ?_
 rw [e78]
 exact .inr (QO (s:=⟨⟨Lib.itoa n⟩⟩) (fun w hw=>Any.internal_strconv_FormatInt_10 C7 n h0 h1 w hw) hp hk)
theorem P7 {n:Int} {A:AW} {K:Value→AW→Prop} (hp:Pow W0) (h0: -9223372036854775808≤n) (h1:n≤9223372036854775807) (hk:K (.string ⟨⟨Lib.itoa n⟩⟩) A):Wc Tp Aw W0 m0 46 [.int .i64 n] A K:=by
 refine w46 _ _ (AA (S:=fun _ _ _=>False) fun _ _ _ h=>h) ?_
 rw [e46]
 simp only [Be,Ad,Aq]
 refine ⟨fun h=>Abz hp h0 h1 hk,fun h=>?_⟩
 obtain ⟨u,rfl⟩:∃ u:Nat,n=(u:Int):=⟨n.toNat,by omega⟩
 rw [PM,wrap_u64 (by omega) (by omega)]
 rw [Lib.itoa_nonneg] at hk
 exact Bg.2 (TA hp (by omega) hk)
theorem Jt {u:Nat} {A:AW} {K:Value→AW→Prop} (hp:Pow W0) (hu:u < 256) (hk:K (.string ⟨⟨Lib.decDigits u⟩⟩) A):Wc Tp Aw W0 m0 47 [.int .u8 (u:Int)] A K:=by
 refine w47 _ _ (AA (S:=fun _ _ _=>False) fun _ _ _ h=>h) ?_
 rw [e47]
 simp only [Be,Ad,Aq]
 refine ⟨fun h=>absurd h (by omega),fun _=>?_⟩
 rw [To,wrap_u64 (by omega) (by omega)]
 exact Bg.2 (TA hp (by omega) hk)
theorem Zq {u:Nat} {A:AW} {K:Value→AW→Prop} (hp:Pow W0) (hu:u < 18446744073709551616) (hk:K (.string ⟨⟨Lib.decDigits u⟩⟩) A):Wc Tp Aw W0 m0 48 [.int .u64 (u:Int)] A K:=by
 refine w48 _ _ (AA (S:=fun _ _ _=>False) fun _ _ _ h=>h) ?_
 rw [e48]
 simp only [Be,Ad,Aq]
 exact ⟨fun h=>absurd h (by omega),fun _=>TA hp hu hk⟩
theorem Pd {u:Nat} {A:AW} {K:Value→AW→Prop} (hu:u < 18446744073709551616) (hf:AH A) (hA:A.next+100 < Ap) (hk:∀ A',Grow A A' 25→K (.string ⟨⟨Lib.decDigits u⟩⟩) A'):Wc Tp Aw W0 m0 31 [.int .u64 (u:Int)] A K:=by
 have h20:=F7 hu
 let I:Nat→Nat→List Value→AW→Prop:=fun g id vals A'=>id=0∧∃ (n:Nat) (l:List UInt8),vals=[.int .u64 (n:Int),.string ⟨⟨l⟩⟩]∧n≤u∧Lib.decDigits u=Lib.decDigits n++l∧Grow A A' l.length∧g=n
 refine w31 _ _ (c31 (I:=I) ?_) ?_
 ·rintro g id vals A' d ⟨rfl,n,l,rfl,hn,he,gr,hg⟩ hd
  rw [AaB]
  simp only [L31,Mc,Mn,Li,and_true] at hd
  obtain ⟨d0,d3⟩:=hd
  have hl:l.length≤20:=by
   have:=congrArg List.length he
   rw [Lq] at this;omega
  have nx:=gr.next
  simp only [d0,d3,DK,Ad,Aq]
  refine ⟨fun hlt=>?_,fun hge=>?_⟩
  ·have hlt:¬ n < 10:=by omega
   have h1:Ag Tp .rem 35 (.tmp 8) (.const (.int .u64 10)) (.int .u64 (n:Int)) (.int .u64 10)=some (.int .u64 ((n % 10:Nat):Int)):=by
    rw [PT (by decide),Int.tmod_eq_emod_of_nonneg (by omega)];rfl
   have h2:IntKind.u8.wrap (48+((n % 10:Nat):Int))=((UInt8.ofNat (48+n % 10)).toNat:Int):=by
    rw [wrap_u8,UInt8.toNat_ofNat'];omega
   have h3:∀ xo yo,Ag Tp .quo 35 xo yo (.int .u64 (n:Int)) (.int .u64 10)=some (.int .u64 ((n / 10:Nat):Int)):=fun xo yo=>by
    rw [PU (by decide),Int.tdiv_eq_ediv_of_nonneg (by omega),wrap_u64 (by omega) (by omega)];rfl
   have h1:∀ xo yo,Ag Tp .rem 35 xo yo (.int .u64 (n:Int)) (.int .u64 10)=some (.int .u64 ((n % 10:Nat):Int)):=fun xo yo=>by
    rw [PT (by decide),Int.tmod_eq_emod_of_nonneg (by omega)];rfl
   simp only [h1,h3,Av,Ad,wrap_u64 (show (0:Int)≤48+((n % 10:Nat):Int) by omega) (by omega),Ik,h2,Bg]
   refine N3 gr.Az (by omega) fun A2 m2=>?_
   have hs:Au Tp A2 33 9 (.slice (some ⟨A'.next,0,none⟩) 1 1)=.ok (.string ⟨⟨[UInt8.ofNat (48+n % 10)]⟩⟩) A2:=(Made.rdB (c:=1) m2).str DN
   rw [hs]
   refine Bg.2 ?_
   rw [ID (by show 1+l.length < _;omega)]
   simp only [Ad]
   refine Ah.2 ⟨n / 10,by omega,rfl,n / 10,[UInt8.ofNat (48+n % 10)]++l,rfl,by omega,?_,(gr.trans (.made m2 gr.Az)).more (by simp),rfl⟩
   rw [he,EX hlt,List.append_assoc]
  ·have hlt:n < 10:=by omega
   have h2:IntKind.u8.wrap (48+(n:Int))=((UInt8.ofNat (48+n)).toNat:Int):=by
    rw [wrap_u8,UInt8.toNat_ofNat'];omega
   simp only [Av,Ad,wrap_u64 (show (0:Int)≤48+(n:Int) by omega) (by omega),Ik,h2,Bg]
   refine N3 gr.Az (by omega) fun A2 m2=>?_
   have hs:Au Tp A2 33 9 (.slice (some ⟨A'.next,0,none⟩) 1 1)=.ok (.string ⟨⟨[UInt8.ofNat (48+n)]⟩⟩) A2:=(Made.rdB (c:=1) m2).str DN
   rw [hs]
   refine Bg.2 ?_
   rw [ID (by show 1+l.length < _;omega)]
   simp only [Ad]
   have:=hk A2 ((gr.trans (.made m2 gr.Az)).more (by omega))
   rw [he,Ek hlt] at this
   exact this
 ·rw [e31]
  exact Ah.2 ⟨u,rfl,u,[],rfl,Nl _,by simp,Grow.refl hf,rfl⟩
theorem Zx {n:Int} {A:AW} {K:Value→AW→Prop} (h0: -9223372036854775808≤n) (h1:n≤9223372036854775807) (hf:AH A) (hA:A.next+100 < Ap) (hk:∀ A',Grow A A' 25→K (.string ⟨⟨Lib.itoa n⟩⟩) A'):Wc Tp Aw W0 m0 32 [.int .i64 n] A K:=by
 refine w32 _ _ (AA (S:=fun _ _ _=>False) fun _ _ _ h=>h) ?_
 rw [e32]
 simp only [Be,Ad,Aq]
 refine ⟨fun h=>?_,fun h=>?_⟩
 ·obtain ⟨u,hu⟩:∃ u:Nat,n= -((u:Int)+1):=⟨(-n - 1).toNat,by omega⟩
  subst hu
  simp only [Av,Ad,UN]
  rw [wrap_i64 (n:= -((u:Int)+1)+1) (by omega) (by omega),wrap_i64 (by omega) (by omega),PM,wrap_u64 (by omega) (by omega)]
  refine Bg.2 ?_
  simp only [Av,Ad]
  rw [wrap_u64 (by omega) (by omega)]
  have e:(-(-((u:Int)+1)+1)+1)=((u+1:Nat):Int):=by omega
  rw [e]
  refine Pd (by omega) hf hA fun A2 g2=>?_
  have h20:(Lib.decDigits (u+1)).length≤20:=F7 (by omega)
  rw [ID (by show 1+(Lib.decDigits (u+1)).length < _;omega)]
  simp only [Ad]
  have:=hk A2 g2
  rw [show -((u:Int)+1)= -((u+1:Nat):Int) by omega,Lib.itoa_neg _ (by omega)] at this
  exact this
 ·obtain ⟨u,rfl⟩:∃ u:Nat,n=(u:Int):=⟨n.toNat,by omega⟩
  rw [PM,wrap_u64 (by omega) (by omega)]
  rw [Lib.itoa_nonneg] at hk
  exact Bg.2 (Pd (by omega) hf hA hk)
end
theorem Tl (b o:Nat):Ac Tp 32 (pP b o) 0=some (pP b o):=by kernel_rfl
theorem MB (b o:Nat):Ac Tp 32 (pP b o) 1=some (pP b (o+1)):=by kernel_rfl
theorem MA (b o:Nat):Ac Tp 32 (pP b o) 2=some (pP b (o+2)):=by kernel_rfl
theorem Tk (b o:Nat):Ac Tp 54 (pP b o) 0=some (pP b o):=by kernel_rfl
theorem PG (b o:Nat):Ac Tp 54 (pP b o) 1=some (pP b (o+1)):=by kernel_rfl
theorem WH (A:AW) (a:Addr):At Tp A 4 (.pointer (some a))=A.cell? a:=by kernel_rfl
theorem Vz (A:AW) (a:Addr):At Tp A 30 (.pointer (some a))=A.cell? a:=by kernel_rfl
theorem Vy (A:AW) (a:Addr):At Tp A 32 (.pointer (some a))=(match A.cells? a 3 with | some l=>some (.agg ⟨l⟩) | none=>none):=by kernel_rfl
theorem Vx (A:AW) (a:Addr):At Tp A 35 (.pointer (some a))=A.cell? a:=by kernel_rfl
theorem VF (b o n c i:Nat) (k:IntKind):Am Tp 56 (.slice (some ⟨b,o,none⟩) n c) (.int k (.ofNat i))=(bif Nat.blt i n then some (.pointer (some (Fo ⟨b,o,none⟩ (i * 1)))) else none):=by kernel_rfl
theorem Xy (A:AW) (a:Option Addr) (n c:Nat):Bn Tp A 56 (.slice a n c)=some (.int .i64 n):=by kernel_rfl
theorem NM (A:AW) (n:Int) (k:IntKind):Au Tp A 30 35 (.int k n)=.ok (.int .u64 (IntKind.u64.wrap n)) A:=by kernel_rfl
end Go.Proofs.YtebidlpekphaoaaGreatDoor
namespace Go.Abs
structure SIt (A:AW) (it:Nat) (s:ByteArray) (pos:Nat):Prop where
 get:A.get it=some (.sit s pos)
 lt:it < A.next
theorem SIt.keeps {A A':AW} {it:Nat} {s:ByteArray} {pos:Nat} {S:List Nat} (h:SIt A it s pos) (k:Ay A A' S) (hn:it∉S):SIt A' it s pos:=⟨k.get it _ h.get h.lt hn,Nat.lt_of_lt_of_le h.lt k.next⟩
section
variable {P:Program} {X:Bx} {W0:World} {m0:Inj P}
theorem Qh {t:TypeId} (hu:P.underlying t=some .string) {s:ByteArray} {A:AW} (hf:AH A) (hA:A.next < Ap) {K:Value→AW→Prop}
  (hk:∀ A',SIt A' A.next s 0→Ay A A' []→A'.next=A.next+1→AH A'→K (.pointer (some ⟨A.next,0,none⟩)) A'):anW P X W0 m0 (J5 P A t (.string s)) K:=by
 unfold J5 AW.new
 simp only [hu,AE.2 hA,Ct]
 exact .inl ⟨_,_,rfl,hk (A.push (.sit s 0)) ⟨by rw [AW.CF _ hA,if_pos rfl],by rw [AW.CH];omega⟩ ((AW.Dv _ hA).keeps hf) rfl (hf.push _ hA)⟩
theorem WD {A:AW} {it:Nat} {s:ByteArray} {pos p2:Nat} (h:SIt A it s pos) (hf:AH A) (hA:A.next≤Ap):SIt (A.put it (.sit s p2)) it s p2∧Ay A (A.put it (.sit s p2)) [it]∧(A.put it (.sit s p2)).next=A.next∧AH (A.put it (.sit s p2)):=by
 have hlt:=h.lt
 have hg:∀ i,(A.put it (.sit s p2)).get i=if i=it then some (.sit s p2) else A.get i:=fun i=>AW.DI A it i _ (by omega)
 refine ⟨⟨by rw [hg,if_pos rfl],h.lt⟩,⟨Nl _,fun i o hi _ hn=>?_,fun f _ _=>rfl⟩,rfl,⟨fun i hi=>hf.fams i hi,fun i hi=>?_⟩⟩
 ·rw [hg,Ff (fun e=>?_)]
  ·exact hi
  ·subst e
   rw [h.get] at hi
   cases hi
   exact hn (by simp [Ti])
 ·have hi:A.next≤i:=hi
  rw [hg,Ff (by omega)]
  exact hf.get i hi
theorem SIt.next {A:AW} {it:Nat} {s:ByteArray} {pos:Nat} (h:SIt A it s pos) (hf:AH A) (hA:A.next≤Ap) {K:Value→AW→Prop}
  (hmore:pos < s.data.toList.length→∀ A',SIt A' it s (pos+(Utf8.decode s pos).2)→Ay A A' [it]→A'.next=A.next→AH A'→K (.tuple #[.bool true,.int .i64 (pos:Int),.int .i32 ((Utf8.decode s pos).1:Int)]) A')
  (hdone:s.data.toList.length≤pos→K (.tuple #[.bool false]) A):anW P X W0 m0 (It A (.pointer (some ⟨it,0,none⟩)) true) K:=by
 rcases Nat.lt_or_ge pos s.data.toList.length with hp | hp
 ·refine .inl ⟨.tuple #[.bool true,.int .i64 (pos:Int),.int .i32 ((Utf8.decode s pos).1:Int)],A.put it (.sit s (pos+(Utf8.decode s pos).2)),?_,?_⟩
  ·unfold It
   simp only [h.get,AE.2 hp,Ct]
  ·obtain ⟨a1,a2,a3,a4⟩:=WD (p2:=pos+(Utf8.decode s pos).2) h hf hA
   exact hmore hp _ a1 a2 a3 a4
 ·refine .inl ⟨.tuple #[.bool false],A,?_,hdone hp⟩
  unfold It
  simp only [h.get,GG.2 hp,Cf]
end
end Go.Abs
namespace Go.Proofs.YtebidlpekphaoaaGreatDoor
open Go.Abs
def Hx (l:List UInt8):List UInt8:=l.flatMap fun b=>[37,CM (b.toNat / 16),CM (b.toNat % 16)]
theorem Vg (a b:List UInt8):Hx (a++b)=Hx a++Hx b:=List.flatMap_append
theorem QC (l:List UInt8):(Hx l).length=3 * l.length:=by
 induction l with
 | nil=>rfl
 | cons b l ih=>
  rw [show Hx (b::l)=[37,CM (b.toNat / 16),CM (b.toNat % 16)]++Hx l from by simp [Hx],Lq,ih]
  simp only [Lc,Ln]
  omega
theorem QD:∀ {l:List UInt8},(∀ b∈l,CN b=false)→Hx l=Dp l
 | [],_=>rfl
 | b::l,h=>by
  rw [show Hx (b::l)=[37,CM (b.toNat / 16),CM (b.toNat % 16)]++Hx l from by simp [Hx],show Dp (b::l)=Ii b++Dp l from by simp [Dp],QD (fun c hc=>h c (List.mem_cons_of_mem _ hc))]
  unfold Ii
  rw [h b List.mem_cons_self,Ff (by decide)]
noncomputable def V0 (n:Nat):Bool:=match Ag Tp .shr 5 (.tmp 0) (.tmp 0) (.int .u8 (n:Int)) (.int .u64 4) with
 | some (.int .u8 k)=>decide (k=((n / 16:Nat):Int))
 | _=>false
theorem Sw:((List.range 256).all V0)=true:=by kernel_rfl
theorem ZU (b:UInt8) (xo yo:Operand):Ag Tp .shr 5 xo yo (.int .u8 (b.toNat:Int)) (.int .u64 4)=some (.int .u8 ((b.toNat / 16:Nat):Int)):=by
 have h:=List.all_eq_true.1 Sw b.toNat (List.mem_range.2 b.toNat_lt)
 unfold V0 at h
 show Ag Tp .shr 5 (.tmp 0) (.tmp 0) (.int .u8 (b.toNat:Int)) (.int .u64 4)=_
 split at h
 ·rename_i k hk
  rw [hk,of_decide_eq_true h]
 ·cases h
noncomputable def V2 (n:Nat):Bool:=match Ag Tp .and 5 (.tmp 0) (.tmp 0) (.int .u8 (n:Int)) (.int .u8 15) with
 | some (.int .u8 k)=>decide (k=((n % 16:Nat):Int))
 | _=>false
theorem Sz:((List.range 256).all V2)=true:=by kernel_rfl
theorem XO (b:UInt8) (xo yo:Operand):Ag Tp .and 5 xo yo (.int .u8 (b.toNat:Int)) (.int .u8 15)=some (.int .u8 ((b.toNat % 16:Nat):Int)):=by
 have h:=List.all_eq_true.1 Sz b.toNat (List.mem_range.2 b.toNat_lt)
 unfold V2 at h
 show Ag Tp .and 5 (.tmp 0) (.tmp 0) (.int .u8 (b.toNat:Int)) (.int .u8 15)=_
 split at h
 ·rename_i k hk
  rw [hk,of_decide_eq_true h]
 ·cases h
section
variable {W0:World} {m0:Inj Tp}
theorem AbX {s:ByteArray} {ps pf q fr to:Nat} {l:List UInt8} {F:List Nat} {A:AW} {K:Value→AW→Prop} (hs:Go.Abs.AD A ps [.string s] 9) (hfm:Go.Abs.AD A pf [.int .i64 (fr:Int)] 3) (h:BB A q l F) (hd1:pf≠q) (hd2:pf∉F) (h1:fr≤to) (h2:to≤s.data.toList.length) (hlen:s.data.toList.length < 100000000)
  (hl:l.length+3 * (to - fr) < 1000000000) (hf:AH A) (hA:A.next+10+6 * (to - fr) < Ap)
  (hk:∀ A' F',Go.Abs.AD A' pf [.int .i64 (to:Int)] 3→BB A' q (l++Hx ((s.data.toList.take to).drop fr)) F'→(∀ x∈F',x∈F∨A.next≤x)→Ay A A' (pf::q::F)→A'.next≤A.next+1+6 * (to - fr)→AH A'→K (.tuple ⟨[]⟩) A'):
  Wc Tp Aw W0 m0 20 [.int .i64 (to:Int),pP ps 0,pP pf 0,pP q 0] A K:=by
 obtain ⟨sg,hsg⟩:∃ sg,(s.data.toList.take to).drop fr=sg:=⟨_,rfl⟩
 have hsl:sg.length=to - fr:=by rw [← hsg,List.length_drop,List.length_take,Nat.min_eq_left h2]
 rw [hsg] at hk
 have hpl:=hfm.lt
 have hql:=h.lt
 let I:Nat→Nat→List Value→AW→Prop:=fun g id vals A'=>id=0∧∃ (i:Nat) (sv:Value) (F':List Nat) (A1:AW),vals=[.int .i64 (to:Int),pP pf 0,pP q 0,sv,.int .i64 (sg.length:Int),.int .i64 (i:Int)]∧i≤sg.length∧
  RdB A' sv sg [A.next]∧Ay A A1 []∧A1.next=A.next+1∧BB A' q (l++Hx (sg.take i)) F'∧(∀ x∈F',x∈F∨A1.next≤x)∧Ay A1 A' (q::F)∧A'.next≤A1.next+6 * i∧AH A'∧g=sg.length - i
 refine w20 _ _ _ _ _ (c20 (I:=I) ?_) ?_
 ·rintro g id vals A' d ⟨rfl,i,sv,F',A1,rfl,hi,rd,k1,n1,hB,hF',k,nx,f,rfl⟩ hd
  rw [AaE]
  simp only [L20,Mc,Mn,Li,and_true] at hd
  obtain ⟨d0,d2,d3,d11,d12,d13⟩:=hd
  have hle:=k.next
  simp only [d0,d2,d3,d11,d12,d13,Be,Ad,Aq]
  refine ⟨fun hlt=>?_,fun hge=>?_⟩
  ·have hlt:i < sg.length:=by omega
   have hp:=Ge hlt
   generalize hbb:sg[i]=b at hp
   have hb:=b.toNat_lt
   obtain ⟨a,a1,a2⟩:=rd.at DN hp
   simp only [a1,a2,Ad]
   have hpl':(l++Hx (sg.take i)).length < 900000000+100000000:=by
    rw [Lq,QC,List.length_take];omega
   have h37:(37:Int)=((37:UInt8).toNat:Int):=rfl
   have hdig:(Value.string ⟨⟨[48,49,50,51,52,53,54,55,56,57,97,98,99,100,101,102]⟩⟩)=.string Lx:=rfl
   have hl1:(l++Hx (sg.take i)).length+3 < 1000000000:=by
    rw [Lq,QC,List.length_take];omega
   rw [hdig,h37]
   refine UE (b:=37) hB (by omega) f (by omega) fun A2 F2 hB2 hF2 k2 n2 f2=>?_
   have l2:=k2.next
   simp only [ZU,ixd (k:=.u8) (show b.toNat / 16 < 16 by omega),Ad]
   refine UE hB2 (by rw [Lq];show _+1 < _;omega) f2 (by omega) fun A3 F3 hB3 hF3 k3 n3 f3=>?_
   have l3:=k3.next
   simp only [XO,ixd (k:=.u8) (show b.toNat % 16 < 16 by omega),Ad]
   refine UE hB3 (by rw [Lq,Lq];show _+1+1 < _;omega) f3 (by omega) fun A4 F4 hB4 hF4 k4 n4 f4=>?_
   simp only [Av,Ad]
   have hi1:IntKind.i64.wrap ((i:Int)+1)=((i+1:Nat):Int):=wrap_i64 (by omega) (by omega)
   rw [hi1]
   have fr2:∀ x∈F2,x∈F∨A1.next≤x:=fun x hx=>by
    rcases hF2 x hx with h | h
    ·exact hF' x h
    ·exact .inr (by omega)
   have fr3:∀ x∈F3,x∈F∨A1.next≤x:=fun x hx=>by
    rcases hF3 x hx with h | h
    ·exact fr2 x h
    ·exact .inr (by omega)
   have fr4:∀ x∈F4,x∈F∨A1.next≤x:=fun x hx=>by
    rcases hF4 x hx with h | h
    ·exact fr3 x h
    ·exact .inr (by omega)
   have up:∀ {G:List Nat},(∀ x∈G,x∈F∨A1.next≤x)→∀ x∈q::G,x∈q::F∨A1.next≤x:=fun hG x hx=>by
    rcases List.mem_cons.1 hx with h | h
    ·exact .inl (by rw [h];exact List.mem_cons_self)
    ·rcases hG x h with h | h
     ·exact .inl (List.mem_cons_of_mem _ h)
     ·exact .inr h
   have K2:Ay A1 A2 (q::F):=k.trans k2 (up hF')
   have K3:Ay A1 A3 (q::F):=K2.trans k3 (up fr2)
   have K4:Ay A1 A4 (q::F):=K3.trans k4 (up fr3)
   have hnot:∀ {G:List Nat},(∀ x∈G,x∈F∨A1.next≤x)→∀ x∈[A.next],x∉q::G:=fun hG x hx hm=>by
    have hx:x=A.next:=by simpa using hx
    subst hx
    rcases List.mem_cons.1 hm with h | h
    ·omega
    ·rcases hG _ h with h | h
     ·have:=hql.2 _ h;omega
     ·omega
   refine Ah.2 ⟨sg.length - (i+1),by omega,rfl,i+1,sv,F4,A1,rfl,by omega,((rd.keeps k2 (hnot hF')).keeps k3 (hnot fr2)).keeps k4 (hnot fr3),k1,n1,?_,fr4,K4,by omega,f4,rfl⟩
   have e:Hx (sg.take (i+1))=Hx (sg.take i)++[37,CM (b.toNat / 16),CM (b.toNat % 16)]:=by
    rw [Bm hp,Vg];simp [Hx]
   rw [e]
   simpa using hB4
  ·have hil:i=sg.length:=by omega
   subst hil
   rw [List.take_length] at hB
   have hfm1:=(hfm.keeps k1 (by simp)).keeps k (by
    intro hm
    rcases List.mem_cons.1 hm with h | h
    ·exact hd1 h
    ·exact hd2 h)
   refine hfm1.store f (by omega) (Mj _ _ _) rfl (by simp) rfl fun A3 r3 k3 n3 f3=>?_
   have hpF:pf∉F':=fun hm=>by
    rcases hF' _ hm with h | h
    ·exact hd2 h
    ·omega
   refine hk A3 F' r3 (hB.keeps k3 (by simp;exact fun e=>hd1 e.symm) (fun x hx=>by simp;exact fun e=>hpF (e▸hx))) (fun x hx=>?_) ?_ (by omega) f3
   ·rcases hF' x hx with h | h
    ·exact .inl h
    ·exact .inr (by omega)
   ·exact (((k1.more (T:=q::F) (by simp)).trans k (fun x hx=>.inl hx)).more (T:=pf::q::F) fun x hx=>.inl (List.mem_cons_of_mem _ hx)).trans k3 fun x hx=>.inl (by rw [Ms.1 hx];exact List.mem_cons_self)
 ·rw [e20]
  simp only [GS,YE,AF hs.row,AF hfm.row,cellOf,isTuple,Cf,Ad,sl9 h1 h2,hsg]
  refine Wy hf (by omega) fun A1 m1=>?_
  have n1:=m1.next
  have k1:=m1.keeps hf
  have rd:=Made.rdB (l:=sg) (c:=BH+sg.length) m1
  show Ab (Bn Tp A1 33 (.slice (some ⟨A.next,0,none⟩) sg.length (BH+sg.length))) _
  rw [JJ]
  simp only [Ad]
  refine Ah.2 ⟨sg.length,rfl,0,_,F,A1,rfl,by omega,rd,k1,n1,?_,fun x hx=>.inl hx,.refl _ _,by omega,m1.Az,rfl⟩
  rw [List.take_zero,show Hx []=[] from rfl,List.append_nil]
  exact h.keeps k1 (by simp) (by simp)
end
theorem Rw:D4 Tp 70=some (.agg #[.pointer none,.slice none 0 0]):=by kernel_rfl
theorem Zb:D4 Tp 3=some (.int .i64 0):=by kernel_rfl
theorem Aa8 (a b c:Value):BC (.tuple #[a,b,c]) 0=some a:=rfl
theorem Aa7 (a b c:Value):BC (.tuple #[a,b,c]) 1=some b:=rfl
theorem Aa6 (a b c:Value):BC (.tuple #[a,b,c]) 2=some c:=rfl
theorem Aa9 (a:Value):BC (.tuple #[a]) 0=some a:=rfl
theorem Tn {l:List UInt8} {fr to:Nat} (h1:fr≤to) (h:∀ j (hj:j < l.length),fr≤j→j < to→CN l[j]=false):Dp (l.take fr)++Hx ((l.take to).drop fr)=Dp (l.take to):=by
 rw [QD,← NG]
 ·congr 1
  have:l.take fr=(l.take to).take fr:=by rw [List.take_take,Nat.min_eq_left h1]
  rw [this,List.take_append_drop]
 ·intro b hb
  obtain ⟨j,hj,e⟩:=List.getElem_of_mem hb
  rw [List.length_drop,List.length_take] at hj
  rw [List.getElem_drop,List.getElem_take] at e
  rw [← e]
  exact h (fr+j) (by omega) (by omega) (by omega)
section
variable {W0:World} {m0:Inj Tp}
theorem Xq {s:ByteArray} {ps pf q fr to:Nat} {l:List UInt8} {F:List Nat} {A:AW} {K:Value→AW→Prop} (hs:Go.Abs.AD A ps [.string s] 9) (hfm:Go.Abs.AD A pf [.int .i64 (fr:Int)] 3) (h:BB A q l F) (hd1:pf≠q) (hd2:pf∉F) (h1:fr≤to) (h2:to≤s.data.toList.length) (hlen:s.data.toList.length < 100000000)
  (hl:l.length+3 * (to - fr) < 1000000000) (hf:AH A) (hA:A.next+10+6 * (to - fr) < Ap)
  (hk:∀ A' F',Go.Abs.AD A' pf [.int .i64 (to:Int)] 3→BB A' q (l++Hx ((s.data.toList.take to).drop fr)) F'→(∀ x∈F',x∈F∨A.next≤x)→Ay A A' (pf::q::F)→A'.next≤A.next+1+6 * (to - fr)→AH A'→K (.tuple ⟨[]⟩) A'):
  anW Tp Aw W0 m0 (Gg Tp Aw A (.func (.func 20) ⟨[]⟩ ⟨[pP ps 0,pP pf 0,pP q 0]⟩) [.int .i64 (to:Int)]) K:=by
 have hd:Gg Tp Aw A (.func (.func 20) ⟨[]⟩ ⟨[pP ps 0,pP pf 0,pP q 0]⟩) [.int .i64 (to:Int)]=
   .ok (.enter 20 [.int .i64 (to:Int),pP ps 0,pP pf 0,pP q 0]) A:=by kernel_rfl
 rw [hd]
 exact .inr (.inl ⟨_,_,_,rfl,show Wc Tp Aw W0 m0 20 _ A K from AbX hs hfm h hd1 hd2 h1 h2 hlen hl hf hA hk⟩)
set_option maxHeartbeats 1000000 in
theorem wc8 {s:ByteArray} {A:AW} {K:Value→AW→Prop} (hl:s.data.toList.length < 100000000) (hf:AH A) (hA:A.next+100+10 * s.data.toList.length < Ap) (hk:∀ A',Grow A A' (20+10 * s.data.toList.length)→K (.string ⟨⟨AV s.data.toList⟩⟩) A'):Wc Tp Aw W0 m0 8 [.string s] A K:=by
 let N:=s.data.toList.length
 have hN:N=s.data.toList.length:=rfl
 let I:Nat→Nat→List Value→AW→Prop:=fun g id vals A'=>id=0∧s.data.toList≠[]∧∃ (pos fr:Nat) (F:List Nat),vals=[pP A.next 0,pP (A.next+1) 0,pP (A.next+2) 0,
   .func (.func 20) ⟨[]⟩ ⟨[pP A.next 0,pP (A.next+2) 0,pP (A.next+1) 0]⟩,pP (A.next+3) 0]∧
   fr≤pos∧pos≤N∧(∀ j (hj:j < s.data.toList.length),fr≤j→j < pos→CN s.data.toList[j]=false)∧Go.Abs.AD A' A.next [.string s] 9∧Go.Abs.AD A' (A.next+2) [.int .i64 (fr:Int)] 3∧BB A' (A.next+1) (Dp (s.data.toList.take fr)) F∧(∀ x∈F,A.next+4≤x)∧
   SIt A' (A.next+3) s pos∧Ay A A' []∧A'.next≤A.next+4+3 * pos+6 * fr∧AH A'∧g=N - pos
 refine w8 _ _ (c8 (I:=I) ?_) ?_
 ·rintro g id vals A' d ⟨rfl,hne,pos,fr,F,rfl,hfp,hpn,hnp,hs,hfm,hB,hF,hit,k,nx,f,rfl⟩ hd
  rw [Acs]
  simp only [L8,Mc,Mn,Li,and_true] at hd
  obtain ⟨d1,d3,d4,d5,d12⟩:=hd
  have hle:=k.next
  have hE:=I4 (s.data.toList.take fr)
  rw [List.length_take] at hE
  have hlts:=hs.lt
  simp only [d1,d3,d4,d5,d12]
  refine hit.next f (by omega) (fun hp A1 hit1 k1 n1 f1=>?_) fun hge=>?_
  ·have hs1:=hs.keeps k1 (by simp)
   have hfm1:=hfm.keeps k1 (by simp)
   have hB1:=hB.keeps k1 (by simp) (fun x hx=>by have:=hF x hx;simp;omega)
   simp only [Aa8,Aa7,Aa6,Ad]
   refine Aj.2 ⟨fun _=>?_,fun h=>by cases h⟩
   refine Xq hs1 hfm1 hB1 (by omega) (fun hm=>by have:=hF _ hm;omega) hfp (by omega) hl (by omega) f1 (by omega) fun A2 F2 hfm2 hB2 hF2 k2 n2 f2=>?_
   rw [Tn hfp hnp] at hB2
   have hF2':∀ x∈F2,A.next+4≤x:=fun x hx=>by
    rcases hF2 x hx with h | h
    ·exact hF x h
    ·have:=hit.lt;omega
   have not2:∀ y,y < A.next+4→y≠A.next+2→y≠A.next+1→y∉(A.next+2)::(A.next+1)::F:=fun y h1 h2 h3 hm=>by
    rcases List.mem_cons.1 hm with h | h
    ·exact h2 h
    ·rcases List.mem_cons.1 h with h | h
     ·exact h3 h
     ·have:=hF y h;omega
   have hs2:=hs1.keeps k2 (not2 _ (by omega) (by omega) (by omega))
   have hit2:=hit1.keeps k2 (not2 _ (by omega) (by omega) (by omega))
   have K2:Ay A A2 []:=(k.trans k1 (fun x hx=>.inr (by rw [Ms.1 hx];omega))).trans k2 (fun x hx=>.inr (by
    rcases List.mem_cons.1 hx with h | h
    ·omega
    ·rcases List.mem_cons.1 h with h | h
     ·omega
     ·have:=hF x h;omega))
   have hE2:=I4 (s.data.toList.take pos)
   rw [List.length_take] at hE2
   have hget:s.data.toList[pos]? =some s.data.toList[pos]:=Ge hp
   generalize hbb:s.data.toList[pos]=b at hget
   simp only [DK,Be,BV,Ad,Aq,Bw]
   have go:CN b=false→1≤(Utf8.decode s pos).2→pos+(Utf8.decode s pos).2≤N→(∀ j (hj:pos+j < s.data.toList.length),j < (Utf8.decode s pos).2→CN (s.data.toList[pos+j]'hj)=false)→
     AZ (T8 0) (T8 0) (∃ g',g' < N - pos∧I g' 0 [pP A.next 0,pP (A.next+1) 0,pP (A.next+2) 0,.func (.func 20) ⟨[]⟩ ⟨[pP A.next 0,pP (A.next+2) 0,pP (A.next+1) 0]⟩,pP (A.next+3) 0] A2):=fun _ hw1 hw2 hw3=>
    Ah.2 ⟨N - (pos+(Utf8.decode s pos).2),by omega,rfl,hne,pos+(Utf8.decode s pos).2,pos,F2,rfl,by omega,hw2,fun j hj h1 h2=>by
     have:=hw3 (j - pos) (by omega) (by omega)
     rwa [show s.data.toList[pos+(j - pos)]'(by omega)=s.data.toList[j] from by congr 1;omega] at this,hs2,hfm2,hB2,hF2',hit2,K2,by omega,f2,rfl⟩
   rcases Tr s pos hp with ⟨hlo,hdec⟩ | ⟨hhi,hw1,hw2,hw3⟩
   ·rw [hbb] at hlo hdec
    have go':CN b=false→_:=fun h=>go h (by rw [hdec];exact Nl 1) (by rw [hdec];show pos+1≤_;omega) (fun j hj h1=>by
     rw [hdec] at h1
     have h1:j < 1:=h1
     have:j=0:=by omega
     subst this
     rw [show s.data.toList[pos+0]'hj=b from hbb];exact h)
    rw [hdec] at hit2 ⊢
    refine ⟨fun h1=>⟨fun h2=>⟨fun h3=>⟨fun h4=>?_,fun h4=>go' ?_⟩,fun h3=>go' ?_⟩,fun h2=>go' ?_⟩,fun h1=>go' ?_⟩
    ·have h1:(32:Int) < (b.toNat:Int):=h1
     have h2:(b.toNat:Int) < 127:=h2
     have hb:CN b=true:=(H8 b).2 ⟨by omega,by omega,h3,h4⟩
     refine AbW hB2 hlo (by omega) f2 (by omega) fun v A3 F3 hB3 hF3 k3 n3 f3=>?_
     have not3:∀ y,y < A.next+4→y≠A.next+1→y∉(A.next+1)::F2:=fun y h1 h2 hm=>by
      rcases List.mem_cons.1 hm with h | h
      ·exact h2 h
      ·have:=hF2' y h;omega
     have hi1:IntKind.i64.wrap ((pos:Int)+1)=((pos+1:Nat):Int):=wrap_i64 (by omega) (by omega)
     simp only [Av,Ad,hi1]
     have hfm3:=hfm2.keeps k3 (not3 _ (by omega) (by omega))
     have hF3':∀ x∈F3,A.next+4≤x:=fun x hx=>by
      rcases hF3 x hx with h | h
      ·exact hF2' x h
      ·have:=hit2.lt;omega
     refine hfm3.store f3 (by omega) (Mj _ _ _) rfl (by simp) rfl fun A4 r4 k4 n4 f4=>?_
     refine Ah.2 ⟨N - (pos+1),by omega,rfl,hne,pos+1,pos+1,F3,rfl,by omega,by omega,fun j hj h1 h2=>by omega,(hs2.keeps k3 (not3 _ (by omega) (by omega))).keeps k4 (by simp),r4,?_,hF3',(hit2.keeps k3 (not3 _ (by omega) (by omega))).keeps k4 (by simp),?_,by omega,f4,rfl⟩
     ·rw [Bm hget,NG,Ra]
      unfold Ii
      rw [hb,if_pos rfl]
      exact hB3.keeps k4 (by simp) (fun x hx=>by have:=hF3' x hx;simp;omega)
     ·refine (K2.trans k3 (fun x hx=>.inr ?_)).trans k4 (fun x hx=>.inr (by rw [Ms.1 hx];omega))
      rcases List.mem_cons.1 hx with h | h
      ·omega
      ·have:=hF2' x h;omega
    all_goals
     cases hb:CN b with
     | false=>rfl
     | true=>
      have:=(H8 b).1 hb
      have hc:((b.toNat,1).1:Int)=(b.toNat:Int):=rfl
      omega
   ·have hpl:CN b=false:=by
     have:=hw3 0 (by omega) (by omega)
     rwa [show s.data.toList[pos+0]'(by omega)=b from hbb] at this
    refine ⟨fun h1=>⟨fun h2=>absurd h2 (by omega),fun h2=>go hpl hw1 hw2 hw3⟩,fun h1=>absurd (by omega) h1⟩
  ·have hpl:pos=N:=by omega
   subst hpl
   simp only [Aa9,Ad]
   refine Aj.2 ⟨fun h=>(by cases h),fun _=>?_⟩
   simp only [GS,AF hs.row,cellOf,isTuple,Cf,Ad,Ef]
   refine Xq hs hfm hB (by omega) (fun hm=>by have:=hF _ hm;omega) hfp (by omega) hl (by omega) f (by omega) fun A2 F2 hfm2 hB2 hF2 k2 n2 f2=>?_
   rw [Tn hfp hnp,List.take_length] at hB2
   have hE2:=I4 s.data.toList
   have hne2:Dp s.data.toList≠[]:=fun e=>by
    have h1:=F8 s.data.toList
    rw [e,Gw] at h1
    exact hne (Option.some.inj h1).symm
   refine XZ hB2 hne2 (by omega) f2 (by omega) fun A3 k3 n3 f3=>?_
   rw [← CJ hne]
   refine hk A3 ⟨(k.trans k2 (fun x hx=>.inr ?_)).trans k3 (fun x hx=>.inr ?_),f3,by omega⟩
   ·rcases List.mem_cons.1 hx with h | h
    ·omega
    ·rcases List.mem_cons.1 h with h | h
     ·omega
     ·have:=hF x h;omega
   ·rcases hF2 x hx with h | h
    ·have:=hF x h;omega
    ·omega
 ·rw [e8]
  refine BX (cs:=[.string s]) hf (by omega) rfl fun A1 m1=>?_
  have n1:=m1.next
  have k1:=m1.keeps hf
  simp only [GS,AF m1.BU.row,cellOf,isTuple,Cf,Ad,AX]
  refine Aj.2 ⟨fun h=>?_,fun h=>?_⟩
  ·have h0:s.data.toList=[]:=by simpa using h
   have:=hk A1 ((Grow.made m1 hf).more (by omega))
   rw [h0] at this
   exact this
  ·have h0:s.data.toList≠[]:=by simpa using h
   refine AI Rw m1.Az (by omega) rfl fun A2 m2=>?_
   have n2:=m2.next
   have k2:=m2.keeps m1.Az
   refine AI Zb m2.Az (by omega) rfl fun A3 m3=>?_
   have n3:=m3.next
   have k3:=m3.keeps m2.Az
   refine m3.BU.store m3.Az (by omega) (Mj _ _ _) rfl (by simp [Value.cells]) rfl fun A4 r4 k4 n4 f4=>?_
   have hs4:=((m1.BU.keeps k2 (by simp)).keeps k3 (by simp)).keeps k4 (by simp;omega)
   have hb4:=(m2.BU.keeps k3 (by simp)).keeps k4 (by simp;omega)
   simp only [GS,AF hs4.row,cellOf,isTuple,Cf,Ad]
   refine Qh UL f4 (by omega) fun A5 hit k5 n5 f5=>?_
   have e1:A1.next=A.next+1:=n1
   have e2:A2.next=A.next+2:=by omega
   have e4:A4.next=A.next+3:=by omega
   have r5:=r4.keeps k5 (by simp)
   have hb5:=hb4.keeps k5 (by simp)
   have hs5:=hs4.keeps k5 (by simp)
   rw [e1] at hb5
   rw [e2] at r5
   rw [e4] at hit
   have K5:Ay A A5 []:=(((k1.trans k2 (by simp)).trans k3 (by simp)).trans k4 (fun x hx=>.inr (by rw [Ms.1 hx];omega))).trans k5 (by simp)
   refine Ah.2 ⟨N,rfl,h0,0,0,[],by rw [e1,e2,e4],by omega,by omega,fun j hj h1 h2=>by omega,hs5,r5,⟨.pointer none,.slice none 0 0,hb5,.inl rfl,.nil _ _,by simp⟩,by simp,hit,K5,by omega,f5,by omega⟩
end
end Go.Proofs.YtebidlpekphaoaaGreatDoor
namespace Go.Abs
section
variable {P:Program} {tb ts tst:TypeId}
structure Oj (tb:TypeId) (A:AW) (v:Value) (l:List UInt8) (c b:Nat):Prop where
 val:v=.slice (some ⟨b,0,none⟩) l.length (BH+c)
 room:c < room
 row:∃ pad,AD A b (AM l++pad) tb∧l.length+pad.length=c
theorem Oj.keeps {A A':AW} {v:Value} {l:List UInt8} {c b:Nat} {S:List Nat} (h:Oj tb A v l c b) (k:Ay A A' S) (hd:b∉S):Oj tb A' v l c b:=by
 obtain ⟨h1,h2,pad,h3,h4⟩:=h
 exact ⟨h1,h2,pad,h3.keeps k hd,h4⟩
theorem Oj.lt {A:AW} {v:Value} {l:List UInt8} {c b:Nat} (h:Oj tb A v l c b):b < A.next:=by
 obtain ⟨_,_,pad,h3,_⟩:=h
 exact h3.lt
theorem Oj.buf {A:AW} {v:Value} {l:List UInt8} {c b:Nat} (h:Oj tb A v l c b) (hl:l.length=c) (h0:0 < c):Buf tb A v l [b]:=by
 obtain ⟨rfl,h2,pad,h3,h4⟩:=h
 have hp:pad=[]:=List.eq_nil_of_length_eq_zero (by omega)
 subst hp
 subst hl
 rw [List.append_nil] at h3
 refine .inr (.inl ⟨b,b,rfl,⟨h0,h3.row,by rw [Bk,Nat.mul_one],Nat.zero_le _,Nat.zero_le _,h3.lt,fun i hi=>?_⟩,rfl⟩)
 rw [h3.mem] at hi
 obtain rfl:i=b:=by simpa using hi
 exact ⟨Nat.zero_le _,h3.lt,_,_,_,_,h3.row⟩
theorem W7 {A:AW} {t2:TypeId} {v x:Value} {l new:List UInt8} {c b:Nat} {K:Value→AW→Prop} (T:BT P tb ts tst) (h:Oj tb A v l c b) (hx:B9 P A tb t2 1 x=some (new.length,AM new)) (hf:AH A) (hA:A.next≤Ap) (hfit:l.length+new.length≤c)
  (hk:∀ A' v',Oj tb A' v' (l++new) c b→Ay A A' [b]→A'.next=A.next→AH A'→K v' A'):Al (Bf P A ts t2 v x) K:=by
 have hc:=h.room
 have hroom:(Nat.blt (l.length+new.length) Go.Abs.room&&Nat.blt ((l.length+new.length) * 1) Go.Abs.room&&DH P tb 1)=true:=by rw [Nat.mul_one,AE.2 (by omega),T.hz];rfl
 obtain ⟨rfl,h2,pad,h3,h4⟩:=h
 have hlt:=h3.lt
 rcases Nat.eq_zero_or_pos new.length with h0 | hpos
 ·have hnew:new=[]:=List.eq_nil_of_length_eq_zero h0
  subst hnew
  have e:Bf P A ts t2 (.slice (some ⟨b,0,none⟩) l.length (BH+c)) x=.ok (.slice (some ⟨b,0,none⟩) l.length (BH+c)) A:=by
   unfold Bf
   simp only [T.sl,T.sz,T.by_,hx]
   rw [hroom]
   rfl
  rw [e]
  refine Bg.2 (hk A _ ⟨by rw [List.append_nil],h2,pad,by rw [List.append_nil];exact h3,by rw [List.append_nil];exact h4⟩ (.refl _ _) rfl hf)
 ·obtain ⟨m,hm⟩:∃ m,new.length=m+1:=⟨new.length - 1,by omega⟩
  obtain ⟨A',h1,w⟩:=Ee (new:=AM new) (off:=l.length) h3.row h3.mem (by rw [Lq,Bk,Bk];omega) (Ha new) (by omega)
  have e:Bf P A ts t2 (.slice (some ⟨b,0,none⟩) l.length (BH+c)) x=.ok (.slice (some ⟨b,0,none⟩) (l.length+new.length) (BH+c)) A':=by
   rw [hm] at hx hroom
   rw [hm]
   exact SJ T hx hroom (Bt.2 (Nat.le_add_right _ _)) (Bt.2 (by rw [Nat.add_sub_cancel_left,← hm];exact hfit)) h1
  rw [e]
  have hcs:IA (AM l++pad) l.length (AM new)=AM (l++new)++pad.drop new.length:=by
   have hp:pad=pad.take new.length++pad.drop new.length:=(List.take_append_drop _ _).symm
   conv=>lhs;rw [hp]
   have hl2:l.length=(AM l).length:=(Bk l).symm
   conv=>lhs;arg 2;rw [hl2]
   rw [HI (AM l) (pad.take new.length) (AM new) (pad.drop new.length) (by rw [List.length_take,Bk];omega),FO,List.append_assoc]
  refine Bg.2 (hk A' _ ⟨by rw [Lq],h2,pad.drop new.length,?_,by rw [Lq,List.length_drop];omega⟩ (w.keeps h3.row) w.next (w.Az hf h3.row))
  rw [← hcs]
  exact ⟨w.row,by rw [w.mem];exact h3.mem,by rw [w.next];exact h3.lt⟩
end
structure Nm where
 f:Nat
 g:ByteArray
 b:ByteArray
def Nm.cells (p:Nm):List Value:=[.int .u32 (p.f:Int),.string p.g,.string p.b]
theorem ED {a b:ByteArray} (h:a.data.toList=b.data.toList):a=b:=by
 obtain ⟨⟨x⟩⟩:=a
 obtain ⟨⟨y⟩⟩:=b
 have h:x=y:=h
 rw [h]
end Go.Abs
namespace Go.Proofs.YtebidlpekphaoaaGreatDoor
open Go.Abs
def BN (l:List UInt8):List UInt8:=l.flatMap fun b=>[CM (b.toNat / 16),CM (b.toNat % 16)]
theorem Nt (a b:List UInt8):BN (a++b)=BN a++BN b:=List.flatMap_append
theorem Dy (l:List UInt8):(BN l).length=2 * l.length:=by
 induction l with
 | nil=>rfl
 | cons b l ih=>
  rw [show BN (b::l)=[CM (b.toNat / 16),CM (b.toNat % 16)]++BN l from by simp [BN],Lq,ih]
  simp only [Lc,Ln]
  omega
abbrev bl (s:ByteArray):List UInt8:=s.data.toList
def okX (p:Nm):Bool:=decide (1≤(bl p.g).length∧(bl p.g).length≤64∧(bl p.b).length≤64)
def Cs (p:Nm):List UInt8:=Lib.decDigits p.f++[46]++BN (bl p.g)++[46]++BN (bl p.b)
def Kq (p:Nm):Value:=.tuple ⟨[.string ⟨⟨if okX p=true then Cs p else []⟩⟩,.int .i64 (if okX p=true then 0 else 40)]⟩
theorem QH {p:Nm} (h:1≤(bl p.g).length∧(bl p.g).length≤64∧(bl p.b).length≤64):okX p=true:=decide_eq_true h
theorem Gz {p:Nm} (h:¬ (1≤(bl p.g).length∧(bl p.g).length≤64∧(bl p.b).length≤64)):okX p=false:=decide_eq_false h
theorem FB {A:AW} {b:Nat} {p:Nm} {e:TypeId} (h:Go.Abs.AD A b p.cells e):At Tp A 32 (pP b 0)=some (.agg ⟨p.cells⟩):=by
 rw [Vy,CI h.row];rfl
section
variable {W0:World} {m0:Inj Tp}
theorem Xk {p:Nm} {A:AW} {K:Value→AW→Prop} (hf:AH A) (hA:A.next < Ap) (hk:∀ A',Grow A A' 1→K (.int .i64 (if okX p=true then 0 else 40)) A'):Wc Tp Aw W0 m0 100 [.agg ⟨p.cells⟩] A K:=by
 refine Ace _ _ (AA (S:=fun _ _ _=>False) fun _ _ _ h=>h) ?_
 rw [YR]
 refine BX (cs:=p.cells) hf hA rfl fun A1 m1=>?_
 have r1:Go.Abs.AD A1 A.next [.int .u32 (p.f:Int),.string p.g,.string p.b] 32:=m1.BU
 have hk:=hk A1 (.made m1 hf)
 simp only [MB,MA,GS,AF r1.row,cellOf,isTuple,Cf,Ad,Nat.zero_add,Ef,AX,DK,Aq]
 refine Aj.2 ⟨fun h=>?_,fun h=>⟨fun h2=>?_,fun h2=>⟨fun h3=>?_,fun h3=>?_⟩⟩⟩
 ·have h0:p.g.data.toList=[]:=by simpa using h
  rw [Gz (by show ¬ (1≤p.g.data.toList.length∧_);rw [h0];simp)] at hk;exact hk
 ·rw [Gz (by show ¬ (1≤p.g.data.toList.length∧p.g.data.toList.length≤64∧p.b.data.toList.length≤64);omega)] at hk;exact hk
 ·rw [Gz (by show ¬ (1≤p.g.data.toList.length∧p.g.data.toList.length≤64∧p.b.data.toList.length≤64);omega)] at hk;exact hk
 ·have h0:p.g.data.toList≠[]:=by simpa using h
  have:=List.length_pos_iff.2 h0
  rw [QH (by show 1≤p.g.data.toList.length∧p.g.data.toList.length≤64∧p.b.data.toList.length≤64;omega)] at hk;exact hk
theorem Aby {p:Nm} {A:AW} {K:Value→AW→Prop} (hf:AH A) (hA:A.next < Ap) (hk:∀ A',Grow A A' 1→K (.int .i64 (if okX p=true then 0 else 40)) A'):Wc Tp Aw W0 m0 88 [.agg ⟨p.cells⟩] A K:=by
 refine w88 _ _ (AA (S:=fun _ _ _=>False) fun _ _ _ h=>h) ?_
 rw [e88]
 refine BX (cs:=p.cells) hf hA rfl fun A1 m1=>?_
 have r1:Go.Abs.AD A1 A.next [.int .u32 (p.f:Int),.string p.g,.string p.b] 32:=m1.BU
 have hk:=hk A1 (.made m1 hf)
 simp only [MB,MA,GS,AF r1.row,cellOf,isTuple,Cf,Ad,Nat.zero_add,Ef,Be,DK,Aq]
 refine ⟨fun h=>?_,fun h=>⟨fun h2=>?_,fun h2=>⟨fun h3=>?_,fun h3=>?_⟩⟩⟩
 ·rw [Gz (by show ¬ (1≤p.g.data.toList.length∧p.g.data.toList.length≤64∧p.b.data.toList.length≤64);omega)] at hk;exact hk
 ·rw [Gz (by show ¬ (1≤p.g.data.toList.length∧p.g.data.toList.length≤64∧p.b.data.toList.length≤64);omega)] at hk;exact hk
 ·rw [Gz (by show ¬ (1≤p.g.data.toList.length∧p.g.data.toList.length≤64∧p.b.data.toList.length≤64);omega)] at hk;exact hk
 ·rw [QH (by show 1≤p.g.data.toList.length∧p.g.data.toList.length≤64∧p.b.data.toList.length≤64;omega)] at hk;exact hk
theorem UG {n:Nat} {A:AW} {K:Value→AW→Prop} (hn:n < 16) (hk:K (.int .u8 ((CM n).toNat:Int)) A):Wc Tp Aw W0 m0 105 [.int .u8 (n:Int)] A K:=by
 refine Aca _ _ (AA (S:=fun _ _ _=>False) fun _ _ _ h=>h) ?_
 rw [VU]
 have e:((CM n).toNat:Int)=if n < 10 then 48+(n:Int) else 87+(n:Int):=by
  have:∀ n,n < 16→((CM n).toNat:Int)=if n < 10 then 48+(n:Int) else 87+(n:Int):=by decide
  exact this n hn
 rw [e] at hk
 simp only [Be,Av,DS,Ad,Aq,wrap_u8]
 refine ⟨fun h=>?_,fun h=>?_⟩
 ·rw [if_pos (by omega)] at hk
  rw [show (48+(n:Int)) % 256=48+(n:Int) by omega];exact hk
 ·rw [Ff (by omega)] at hk
  rw [show ((97+(n:Int)) % 256 - 10) % 256=87+(n:Int) by omega];exact hk
theorem ZB {q:Nat} {A:AW} {K:Value→AW→Prop} (hr:Go.Abs.AD A q [.pointer none,.slice none 0 0] 70) (hk:K (.string ⟨⟨[]⟩⟩) A):Wc Tp Aw W0 m0 23 [pP q 0] A K:=by
 have hn:Ce (pP q 0)=some (pP q 0):=rfl
 refine w23 _ _ (AA (S:=fun _ _ _=>False) fun _ _ _ h=>h) ?_
 rw [e23]
 simp only [hn,Ie,Nat.zero_add,KJ,AF hr.row,cellOf,isTuple,Cf,Ad]
 refine .inl ⟨.pointer none,A,rfl,?_⟩
 simp only [AF hr.row,cellOf,isTuple,Cf,JJ,Ad]
 exact .inl ⟨.string .empty,A,rfl,hk⟩
theorem Xj {s:ByteArray} {A:AW} {K:Value→AW→Prop} (hl:(bl s).length < 100000000) (hf:AH A) (hA:A.next+10+4 * (bl s).length < Ap) (hk:∀ A',Grow A A' (1+4 * (bl s).length)→K (.string ⟨⟨BN (bl s)⟩⟩) A'):Wc Tp Aw W0 m0 101 [.string s] A K:=by
 let I:Nat→Nat→List Value→AW→Prop:=fun g id vals A'=>id=0∧∃ (i:Nat) (F:List Nat),vals=[.string s,pP A.next 0,.int .i64 ((bl s).length:Int),.int .i64 (i:Int)]∧i≤(bl s).length∧BB A' A.next (BN ((bl s).take i)) F∧(∀ x∈F,A.next < x)∧
  (i=0→Go.Abs.AD A' A.next [.pointer none,.slice none 0 0] 70)∧Ay A A' []∧A'.next≤A.next+1+4 * i∧AH A'∧g=(bl s).length - i
 refine Acd _ _ (AcT (I:=I) ?_) ?_
 ·rintro g id vals A' d ⟨rfl,i,F,rfl,hi,hB,hF,h0,k,nx,f,rfl⟩ hd
  rw [YH]
  simp only [Wl,Mc,Mn,Li,and_true] at hd
  obtain ⟨d0,d3,d6,d7⟩:=hd
  have hle:=k.next
  simp only [d0,d3,d6,d7,Be,Ad,Aq]
  have hbl:(BN ((bl s).take i)).length=2 * i:=by rw [Dy,List.length_take,Nat.min_eq_left hi]
  refine ⟨fun hlt=>?_,fun hge=>?_⟩
  ·have hlt:i < (bl s).length:=by omega
   have hp:=Ge hlt
   generalize hbb:(bl s)[i]=b at hp
   have hb:=b.toNat_lt
   have hdig:(Value.string ⟨⟨[48,49,50,51,52,53,54,55,56,57,97,98,99,100,101,102]⟩⟩)=.string Lx:=rfl
   have hix:=ix9 (k:=.i64) hp
   have hi1:IntKind.i64.wrap ((i:Int)+1)=((i+1:Nat):Int):=wrap_i64 (by omega) (by omega)
   rw [hdig]
   simp only [hix,ZU,XO,ixd (k:=.u8) (show b.toNat / 16 < 16 by omega),Ad]
   refine UE hB (by omega) f (by omega) fun A2 F2 hB2 hF2 k2 n2 f2=>?_
   have l2:=k2.next
   simp only [ixd (k:=.u8) (show b.toNat % 16 < 16 by omega),Ad]
   refine UE hB2 (by rw [Lq,hbl];show 2 * i+1 < _;omega) f2 (by omega) fun A3 F3 hB3 hF3 k3 n3 f3=>?_
   simp only [Av,Ad,hi1]
   have x2:∀ x∈F2,A.next < x:=fun x hx=>by
    rcases hF2 x hx with h | h
    ·exact hF x h
    ·have:=hB.lt.1;omega
   have x3:∀ x∈F3,A.next < x:=fun x hx=>by
    rcases hF3 x hx with h | h
    ·exact x2 x h
    ·have:=hB.lt.1;omega
   have up:∀ {G:List Nat},(∀ x∈G,A.next < x)→∀ x∈A.next::G,x∈([]:List Nat)∨A.next≤x:=fun hG x hx=>.inr (by
    rcases List.mem_cons.1 hx with h | h
    ·omega
    ·have:=hG x h;omega)
   refine Ah.2 ⟨(bl s).length - (i+1),by omega,rfl,i+1,F3,rfl,by omega,?_,x3,fun h=>by omega,(k.trans k2 (up hF)).trans k3 (up x2),by omega,f3,rfl⟩
   have e:BN ((bl s).take (i+1))=BN ((bl s).take i)++[CM (b.toNat / 16)]++[CM (b.toNat % 16)]:=by
    rw [Bm hp,Nt];simp [BN]
   rw [e]
   exact hB3
  ·have hil:i=(bl s).length:=by omega
   rcases Nat.eq_zero_or_pos (bl s).length with hz | hpos
   ·have hs:bl s=[]:=List.eq_nil_of_length_eq_zero hz
    refine ZB (h0 (by omega)) ?_
    have:=hk A' ⟨k,f,by omega⟩
    rw [hs] at this
    exact this
   ·rw [hil,List.take_length] at hB
    have hne:BN (bl s)≠[]:=fun e=>by
     have:=Dy (bl s)
     rw [e] at this;simp only [Ln] at this;omega
    refine XZ hB hne (by rw [Dy];omega) f (by omega) fun A2 k2 n2 f2=>?_
    exact hk A2 ⟨k.trans k2 (fun x hx=>.inr (by have:=hF x hx;omega)),f2,by omega⟩
 ·rw [YQ]
  refine AI Rw hf (by omega) rfl fun A1 m1=>?_
  have n1:=m1.next
  simp only [Ef,Ad]
  exact Ah.2 ⟨(bl s).length,rfl,0,[],rfl,by omega,⟨_,_,m1.BU,.inl rfl,.nil _ _,by simp⟩,by simp,fun _=>m1.BU,m1.keeps hf,by omega,m1.Az,by simp⟩
theorem Ze {s:ByteArray} {A:AW} {K:Value→AW→Prop} (hl:(bl s).length < 100000000) (hf:AH A) (hA:A.next+10+2 * (bl s).length < Ap) (hk:∀ A',Grow A A' (2 * (bl s).length)→K (.string ⟨⟨BN (bl s)⟩⟩) A'):Wc Tp Aw W0 m0 89 [.string s] A K:=by
 have hroom:room=68719476736:=rfl
 let I:Nat→Nat→List Value→AW→Prop:=fun g id vals A'=>id=0∧∃ (i:Nat) (v:Value) (F:List Nat),vals=[.string s,v,.int .i64 (i:Int)]∧i≤(bl s).length∧Buf 5 A' v (BN ((bl s).take i)) F∧(∀ x∈F,A.next≤x)∧Grow A A' (2 * i)∧g=(bl s).length - i
 refine w89 _ _ (c89 (I:=I) ?_) ?_
 ·rintro g id vals A' d ⟨rfl,i,v,F,rfl,hi,hB,hF,gr,rfl⟩ hd
  rw [Aaf]
  simp only [L89,Mc,Mn,Li,and_true] at hd
  obtain ⟨d0,d3,d4⟩:=hd
  have nx:=gr.next
  have le:=gr.le
  have hbl:(BN ((bl s).take i)).length=2 * i:=by rw [Dy,List.length_take,Nat.min_eq_left hi]
  simp only [d0,d3,d4,Ef,Be,Ad,Aq]
  refine ⟨fun hlt=>?_,fun hge=>?_⟩
  ·have hlt:i < (bl s).length:=by
    have:(i:Int) < ((bl s).length:Int):=hlt
    omega
   have hp:=Ge hlt
   generalize hbb:(bl s)[i]=b at hp
   have hb:=b.toNat_lt
   have hix:=ix9 (k:=.i64) hp
   have hi1:IntKind.i64.wrap ((i:Int)+1)=((i+1:Nat):Int):=wrap_i64 (by omega) (by omega)
   simp only [hix,Xs,Xr,Ad]
   refine UG (by omega) ?_
   simp only [Ao,Ad]
   refine UG (by omega) ?_
   refine Z4 gr.Az (by omega) fun A2 m2=>?_
   have n2:=m2.next
   have k2:=m2.keeps gr.Az
   refine Nw m2.row ?_
   refine El DN (hB.keeps k2 (by simp)) (Ed DN (Made.rdB (l:=[CM (b.toNat / 16),CM (b.toNat % 16)]) (c:=2) m2)) m2.Az (by omega) (by rw [hbl];show 2 * i+2 < _;omega) fun v' A3 F' v3 k3 hF3 n3 f3=>?_
   simp only [Av,Ad,hi1]
   refine Ah.2 ⟨(bl s).length - (i+1),by omega,rfl,i+1,v',F',rfl,by omega,?_,fun x hx=>?_,⟨(gr.keeps.trans k2 (by simp)).trans k3 (fun x hx=>.inr (hF x hx)),f3,by omega⟩,rfl⟩
   ·have e:BN ((bl s).take (i+1))=BN ((bl s).take i)++[CM (b.toNat / 16),CM (b.toNat % 16)]:=by
     rw [Bm hp,Nt];simp [BN]
    rw [e];exact v3
   ·rcases hF3 x hx with h | h
    ·exact hF x h
    ·omega
  ·have hil:i=(bl s).length:=by
    have:¬ (i:Int) < ((bl s).length:Int):=hge
    omega
   rw [hil,List.take_length] at hB
   rw [hB.rd.str DN]
   exact Bg.2 (hk A' (gr.more (by omega)))
 ·rw [e89]
  exact Ah.2 ⟨(bl s).length,rfl,0,.slice none 0 0,[],rfl,by omega,.nil _ _,by simp,(Grow.refl hf).more (by omega),by simp⟩
end
def RdT (A:AW) (v:Value) (l:List ByteArray) (F:List Nat):Prop:=
 ∃ r o c cs e f b ro,v=.slice (some ⟨r,o,none⟩) l.length c∧A.get r=some (.row cs e f b ro)∧f < A.next∧F=[f]∧∀ (i:Nat) s,l[i]? =some s→cs[o+i]? =some (Value.string s)
theorem RdT.keeps {A A':AW} {v:Value} {l:List ByteArray} {F S:List Nat} (h:RdT A v l F) (k:Ay A A' S) (hd:∀ x∈F,x∉S):RdT A' v l F:=by
 obtain ⟨r,o,c,cs,e,f,b,ro,h1,h2,h3,rfl,h4⟩:=h
 exact ⟨r,o,c,cs,e,f,b,ro,h1,k.get r _ h2 h3 (hd f (by simp)),Nat.lt_of_lt_of_le h3 k.next,rfl,h4⟩
theorem RdT.len {A B:AW} {v:Value} {l:List ByteArray} {F:List Nat} (h:RdT A v l F):Bn Tp B 56 v=some (.int .i64 (l.length:Int)):=by
 obtain ⟨r,o,c,cs,e,f,b,ro,rfl,_⟩:=h
 exact Xy _ _ _ _
theorem RdT.at {A:AW} {v:Value} {l:List ByteArray} {F:List Nat} (h:RdT A v l F) {i:Nat} {s:ByteArray} {k:IntKind} (hi:l[i]? =some s):∃ a,Am Tp 56 v (.int k (i:Int))=some (.pointer (some a))∧A.cell? a=some (.string s):=by
 obtain ⟨r,o,c,cs,e,f,b,ro,rfl,h2,_,_,h4⟩:=h
 have hlt:i < l.length:=(Gs.1 hi).1
 refine ⟨Fo ⟨r,o,none⟩ (i * 1),?_,?_⟩
 ·show Am Tp 56 _ (.int k (.ofNat i))=_
  rw [VF,AE.2 hlt,Ct]
 ·have e:Fo ⟨r,o,none⟩ (i * 1)=⟨r,o+i,none⟩:=by
   unfold Fo
   cases hb:Nat.beq (i * 1) 0 with
   | true=>rw [Ct];have:=Nb hb;rw [Nat.mul_one] at this;rw [this];rfl
   | false=>rw [Cf,Nat.mul_one]
  rw [e,AF h2]
  exact Ci (h4 i s hi) rfl
theorem Wx:Tp.underlying 56=some (.slice 9):=by kernel_rfl
theorem sz9:szT Tp 9=some 1:=by kernel_rfl
theorem V4 (A:AW):Cn Tp A .cap [33] 3 [.slice none 0 0]=.ok (.value (.int .i64 0)) A:=by kernel_rfl
theorem noZ (A:AW) (n:Nat):B4 Tp Aw A 116 [.int .i64 (.ofNat n)]=(bif Nat.blt n room&&true then (match A.new (.row (CK n) 5 A.next 0 false) with
    | some (b,w')=>.ok (.value (.slice (some ⟨b,0,none⟩) n (BH+n))) w'
    | none=>.fail "MakeNoZero")
   else .fail "MakeNoZero"):=by kernel_rfl
theorem LQ:∀ n,(CK n).length=n
 | 0=>rfl
 | n+1=>by simp [CK,LQ n]
def GB (A:AW) (q:Nat) (l:List UInt8) (c b:Nat):Prop:=
 ∃ p v,Go.Abs.AD A q [p,v] 70∧(p=.pointer none∨p=.pointer (some ⟨q,0,none⟩))∧Oj 5 A v l c b∧q≠b
theorem GB.lt {A:AW} {q:Nat} {l:List UInt8} {c b:Nat} (h:GB A q l c b):q < A.next∧b < A.next:=by
 obtain ⟨p,v,h1,h2,h3,h4⟩:=h
 exact ⟨h1.lt,h3.lt⟩
theorem GB.full {A:AW} {q:Nat} {l:List UInt8} {c b:Nat} (h:GB A q l c b) (hl:l.length=c) (h0:0 < c):BB A q l [b]:=by
 obtain ⟨p,v,h1,h2,h3,h4⟩:=h
 exact ⟨p,v,h1,h2,h3.buf hl h0,by simpa using h4⟩
section
variable {W0:World} {m0:Inj Tp}
theorem XY {q:Nat} {l:List UInt8} {c b:Nat} {s:ByteArray} {A:AW} {K:Value→AW→Prop} (h:GB A q l c b) (hfit:l.length+(bl s).length≤c) (hf:AH A) (hA:A.next≤Ap)
  (hk:∀ v A',GB A' q (l++bl s) c b→Ay A A' [q,b]→A'.next=A.next→AH A'→K v A'):Wc Tp Aw W0 m0 77 [pP q 0,.string s] A K:=by
 obtain ⟨p,v,hr,hp,hv,hq⟩:=h
 have hn:Ce (pP q 0)=some (pP q 0):=rfl
 refine w77 _ _ _ (AA (S:=fun _ _ _=>False) fun _ _ _ h=>h) ?_
 rw [e77]
 refine Ws hr hp hf hA fun A1 r1 k1 n1 f1=>?_
 have v1:=hv.keeps k1 (by simp;exact fun e=>hq e.symm)
 obtain ⟨rfl,hroom,hpad⟩:=v1
 simp only [hn,Ie,Nat.zero_add,KJ,AF r1.row,cellOf,isTuple,Cf,Ad]
 refine W7 DN ⟨rfl,hroom,hpad⟩ (UX DN) f1 (by omega) hfit fun A2 v' v2 k2 n2 f2=>?_
 have r2:=r1.keeps k2 (by simpa using hq)
 have hv':=v2.val
 subst hv'
 refine r2.store f2 (by omega) (MS _ _ _) rfl (by simp [Value.cells]) rfl fun A3 r3 k3 n3 f3=>?_
 simp only [Ef,Ad]
 refine hk _ A3 ⟨_,_,r3,.inr rfl,v2.keeps k3 (by simp;exact fun e=>hq e.symm),hq⟩ ?_ (by omega) f3
 have K1:Ay A A1 [q,b]:=k1.more fun x hx=>.inl (by rw [Ms.1 hx];simp)
 exact (K1.trans k2 (fun x hx=>.inl (by rw [Ms.1 hx];simp))).trans k3 (fun x hx=>.inl (by rw [Ms.1 hx];simp))
theorem AbA {q n:Nat} {A:AW} {K:Value→AW→Prop} (hr:Go.Abs.AD A q [.pointer none,.slice none 0 0] 70) (hn0:0 < n) (hn:n < 1000000000) (hf:AH A) (hA:A.next+2 < Ap)
  (hk:∀ v A',GB A' q [] n A.next→Ay A A' [q]→A'.next=A.next+1→AH A'→K v A'):Wc Tp Aw W0 m0 76 [pP q 0,.int .i64 (n:Int)] A K:=by
 have hroom:room=68719476736:=rfl
 have hnp:Ce (pP q 0)=some (pP q 0):=rfl
 refine w76 _ _ _ (AA (S:=fun _ _ _=>False) fun _ _ _ h=>h) ?_
 rw [e76]
 refine Ws hr (.inl rfl) hf (by omega) fun A1 r1 k1 n1 f1=>?_
 have hql:=r1.lt
 simp only [Be,Ad,Aq]
 refine ⟨fun h=>absurd h (by omega),fun _=>?_⟩
 simp only [hnp,Ie,Nat.zero_add,KJ,AF r1.row,cellOf,isTuple,Cf,Ad]
 refine .inl ⟨_,_,V4 A1,?_⟩
 simp only [AF r1.row,cellOf,isTuple,Cf,Ad,JJ,DS]
 rw [wrap_i64 (by omega) (by omega)]
 simp only [Be,Ad,Aq]
 refine ⟨fun _=>?_,fun h=>absurd (by omega) h⟩
 refine Acb _ _ _ (AA (S:=fun _ _ _=>False) fun _ _ _ h=>h) ?_
 rw [YP]
 simp only [hnp,Ie,Nat.zero_add,KJ,AF r1.row,cellOf,isTuple,Cf,Ad]
 refine .inl ⟨_,_,V4 A1,?_⟩
 simp only [PV,Av,Ad,AF r1.row,cellOf,isTuple,Cf,JJ]
 rw [wrap_i64 (n:=2 * 0) (by omega) (by omega),wrap_i64 (by omega) (by omega),show (2 * 0+(n:Int))=((n:Nat):Int) by omega]
 have hpush:=A1.push (.row (CK n) 5 A1.next 0 false)
 have hnz:B4 Tp Aw A1 116 [.int .i64 (n:Int)]=.ok (.value (.slice (some ⟨A1.next,0,none⟩) n (BH+n))) (A1.push (.row (CK n) 5 A1.next 0 false)):=by
  show B4 Tp Aw A1 116 [.int .i64 (.ofNat n)]=_
  rw [noZ,AE.2 (show n < room by omega)]
  unfold AW.new
  simp only [Bool.and_self,Ct,AE.2 (show A1.next < Ap by omega)]
  rfl
 refine .inl ⟨_,_,hnz,?_⟩
 have hx2:=(AW.Dv (.row (CK n) 5 A1.next 0 false) (show A1.next < Ap by omega)).keeps f1
 have f2:=f1.push (.row (CK n) 5 A1.next 0 false) (show A1.next < Ap by omega)
 have hg2:(A1.push (.row (CK n) 5 A1.next 0 false)).get A1.next=some (.row (CK n) 5 A1.next 0 false):=by rw [AW.CF _ (by omega),if_pos rfl]
 have hn2:(A1.push (.row (CK n) 5 A1.next 0 false)).next=A1.next+1:=rfl
 have rb:Go.Abs.AD (A1.push (.row (CK n) 5 A1.next 0 false)) A1.next (CK n) 5:=⟨hg2,f1.alone (Nl _),by omega⟩
 generalize A1.push (.row (CK n) 5 A1.next 0 false)=A2 at *
 have r2:=r1.keeps hx2 (by simp)
 have hri:JA A2 (some ⟨A1.next,0,none⟩) 5=true:=by
  unfold JA;simp only [hg2];rfl
 have hsl:Br Tp A2 33 (.slice (some ⟨A1.next,0,none⟩) n (BH+n)) none (some (.int .i64 ((0:Nat):Int))) none=some (.slice (some ⟨A1.next,0,none⟩) 0 (BH+n)):=by
  have:=RF (A:=A2) DN (a:=some ⟨A1.next,0,none⟩) (len:=n) (c:=n) (n:=0) hri (Nat.zero_le _)
  exact this
 simp only [hnp,JJ,AF r2.row,cellOf,isTuple,Cf,Ad,Ao,hsl]
 have hrd:RdB A2 (.slice none 0 0) [] []:=.inl ⟨rfl,rfl,none,0,rfl⟩
 refine W3 (dl:=0) DN rb hrd f2 (by omega) (by simp) fun A3 v3 rb3 k3 n3 f3=>?_
 have rb3:Go.Abs.AD A3 A1.next (CK n) 5:=rb3
 have r3:=r2.keeps k3 (by simp;omega)
 refine r3.store f3 (by omega) (MS _ _ _) rfl (by simp [Value.cells]) rfl fun A4 r4 k4 n4 f4=>?_
 have rb4:=rb3.keeps k4 (by simp;omega)
 have K4:Ay A A4 [q]:=((k1.trans hx2 (by simp)).trans k3 (fun x hx=>.inr (by rw [Ms.1 hx];omega))).trans k4 (fun x hx=>.inl hx)
 rw [n1] at rb4
 exact hk _ A4 ⟨_,_,r4,.inr rfl,⟨by rw [n1];rfl,by omega,CK n,rb4,by simp [LQ]⟩,by omega⟩ K4 (by omega) f4
end
theorem Acx:quiet Tp (underlying 32)=some (.struct (Tp.fieldsOf 32)):=by kernel_rfl
noncomputable def F32 (i:Nat):Field:=(Tp.fieldsOf 32).toList.getD i default
theorem Acz:(Tp.fieldsOf 32).toList=[F32 0,F32 1,F32 2]:=by kernel_rfl
theorem Vd (f:Int) (g b:ByteArray):quiet Tp (part (F32 0).type ⟨[.int .u32 f,.string g,.string b]⟩ (F32 0).offset)=some (.int .u32 f):=by kernel_rfl
theorem Vc (f:Int) (g b:ByteArray):quiet Tp (part (F32 1).type ⟨[.int .u32 f,.string g,.string b]⟩ (F32 1).offset)=some (.string g):=by kernel_rfl
theorem Vb (f:Int) (g b:ByteArray):quiet Tp (part (F32 2).type ⟨[.int .u32 f,.string g,.string b]⟩ (F32 2).offset)=some (.string b):=by kernel_rfl
theorem Yh:(F32 0).type=30:=by kernel_rfl
theorem Yg:(F32 1).type=9:=by kernel_rfl
theorem Yf:(F32 2).type=9:=by kernel_rfl
theorem ut9:quiet Tp (underlying 9)=some .string:=by kernel_rfl
theorem Acg:quiet Tp (underlying 30)=some (.int .u32):=by kernel_rfl
def MU (f f':Int) (g g' b b':ByteArray):Bool:=f==f'&&(g.data.toList==g'.data.toList&&b.data.toList==b'.data.toList)
theorem WC (n:Nat) (f f':Int) (g g' b b':ByteArray):quiet Tp (Op.equalIn (n+1+1) 32 (.agg ⟨[.int .u32 f,.string g,.string b]⟩) (.agg ⟨[.int .u32 f',.string g',.string b']⟩))=some (MU f f' g g' b b'):=by
 rw [Kw (n+1) 32 _ _ Acx (by kernel_rfl),Acz]
 rw [E5 (by kernel_rfl) (Vd f g b) (Vd f' g' b') (by rw [Yh];exact Kx n 30 _ _ _ _ Acg)]
 rw [E5 (by kernel_rfl) (Vc f g b) (Vc f' g' b') (by rw [Yg];exact Jo ut9)]
 rw [E5 (by kernel_rfl) (Vb f g b) (Vb f' g' b') (by rw [Yf];exact Jo ut9)]
 unfold MU
 cases f==f' <;> cases g.data.toList==g'.data.toList <;> cases b.data.toList==b'.data.toList <;> rfl
def kX (p:Nm):Value:=.agg ⟨p.cells⟩
theorem eqX (p q:Nm):eqA Tp 32 (kX p) (kX q)=some (MU (p.f:Int) (q.f:Int) p.g q.g p.b q.b):=by
 unfold eqA
 have hc:(AG 4 (kX p)&&AG 4 (kX q))=true:=rfl
 rw [hc,Ct]
 exact WC 9998 _ _ _ _ _ _
def DY:Nm:=⟨0,.empty,.empty⟩
theorem P1:Bo Tp 32 []=some (.agg ⟨DY.cells⟩):=by kernel_rfl
section
variable {W0:World} {m0:Inj Tp}
theorem AbN {b:Bool} {x y:Value} {A:AW} {K:Value→AW→Prop} (hk:K (if b=true then x else y) A):Wc Tp Aw W0 m0 49 [.bool b,x,y] A K:=by
 refine w49 _ _ _ _ (AA (S:=fun _ _ _=>False) fun _ _ _ h=>h) ?_
 rw [e49]
 exact Aj.2 ⟨fun h=>by rw [if_pos h] at hk;exact hk,fun h=>by rw [Ff (by rw [h];decide)] at hk;exact hk⟩
theorem AbT {b:Bool} {x y:Value} {A:AW} {K:Value→AW→Prop} (hk:K (if b=true then x else y) A):Wc Tp Aw W0 m0 34 [.bool b,x,y] A K:=by
 refine w34 _ _ _ _ (AA (S:=fun _ _ _=>False) fun _ _ _ h=>h) ?_
 rw [e34]
 exact Aj.2 ⟨fun h=>by rw [if_pos h] at hk;exact hk,fun h=>by rw [Ff (by rw [h];decide)] at hk;exact hk⟩
def HV (p:Nm):Prop:=p.f < 4294967296
theorem AbB {p:Nm} {A:AW} {K:Value→AW→Prop} (hp:Pow W0) (hn:HV p) (hf:AH A) (hA:A.next+1000 < Ap) (hk:∀ A',Grow A A' 700→K (Kq p) A'):Wc Tp Aw W0 m0 75 [.agg ⟨p.cells⟩] A K:=by
 have hn1:p.f < 4294967296:=hn
 refine w75 _ _ (AA (S:=fun _ _ _=>False) fun _ _ _ h=>h) ?_
 rw [e75]
 refine BX (cs:=p.cells) hf (by omega) rfl fun A1 m1=>?_
 have r1:Go.Abs.AD A1 A.next [.int .u32 (p.f:Int),.string p.g,.string p.b] 32:=m1.BU
 have n1:=m1.next
 rw [FB m1.BU]
 simp only [Ad]
 refine Xk m1.Az (by omega) fun A2 g2=>?_
 have n2:=g2.next
 have r2:=r1.keeps g2.keeps (by simp)
 simp only [BV,Ad,Bw]
 refine ⟨fun h=>?_,fun h=>?_⟩
 ·have h:okX p=false:=by
   cases ho:okX p with
   | false=>rfl
   | true=>rw [ho] at h;exact absurd rfl h
  have hk:=hk A2 (((Grow.made m1 hf).trans g2).more (by omega))
  unfold Kq at hk
  rw [h] at hk ⊢
  exact hk
 ·have h:okX p=true:=by
   cases ho:okX p with
   | true=>rfl
   | false=>rw [ho] at h;exact absurd h (by decide)
  have ho:1≤(bl p.g).length∧(bl p.g).length≤64∧(bl p.b).length≤64:=of_decide_eq_true h
  obtain ⟨_,hn2,hn3⟩:=ho
  have h20:=F7 (n:=p.f) (by omega)
  have hl1:=Dy (bl p.g)
  have hl2:=Dy (bl p.b)
  have j1:∀ xo yo,Ag Tp .add 9 xo yo (.string ⟨⟨Lib.decDigits p.f⟩⟩) (.string ⟨⟨[46]⟩⟩)=some (.string ⟨⟨Lib.decDigits p.f++[46]⟩⟩):=fun xo yo=>ID (by show (Lib.decDigits p.f).length+1 < _;omega)
  have j2:∀ xo yo,Ag Tp .add 9 xo yo (.string ⟨⟨Lib.decDigits p.f++[46]⟩⟩) (.string ⟨⟨BN (bl p.g)⟩⟩)=some (.string ⟨⟨Lib.decDigits p.f++[46]++BN (bl p.g)⟩⟩):=fun xo yo=>ID (by show (Lib.decDigits p.f++[46]).length+(BN (bl p.g)).length < _;simp only [Lq,Lc,Ln];omega)
  have j3:∀ xo yo,Ag Tp .add 9 xo yo (.string ⟨⟨Lib.decDigits p.f++[46]++BN (bl p.g)⟩⟩) (.string ⟨⟨[46]⟩⟩)=some (.string ⟨⟨Lib.decDigits p.f++[46]++BN (bl p.g)++[46]⟩⟩):=fun xo yo=>ID (by show (Lib.decDigits p.f++[46]++BN (bl p.g)).length+1 < _;simp only [Lq,Lc,Ln];omega)
  have j4:∀ xo yo,Ag Tp .add 9 xo yo (.string ⟨⟨Lib.decDigits p.f++[46]++BN (bl p.g)++[46]⟩⟩) (.string ⟨⟨BN (bl p.b)⟩⟩)=some (.string ⟨⟨Cs p⟩⟩):=fun xo yo=>ID (by show (Lib.decDigits p.f++[46]++BN (bl p.g)++[46]).length+(BN (bl p.b)).length < _;simp only [Lq,Lc,Ln];omega)
  simp only [Tl,MB,MA,GS,Vz,Nat.zero_add,AF r2.row,cellOf,isTuple,Cf,Ad,NM,Bg]
  rw [wrap_u64 (by omega) (by omega)]
  refine TA hp (by omega) ?_
  simp only [AF r2.row,cellOf,isTuple,Cf,j1,Ad,Ao]
  refine Xj (by omega) g2.Az (by omega) fun A3 g3=>?_
  have n3:=g3.next
  have r3:=r2.keeps g3.keeps (by simp)
  simp only [AF r3.row,cellOf,isTuple,Cf,j1,j2,j3,Ad,Ao]
  refine Xj (by omega) g3.Az (by omega) fun A4 g4=>?_
  have n4:=g4.next
  simp only [j1,j2,j3,j4,Ad,Ao]
  have hk:=hk A4 (((((Grow.made m1 hf).trans g2).trans g3).trans g4).more (by omega))
  unfold Kq at hk
  rw [h] at hk
  exact hk
theorem Zk {p:Nm} {A:AW} {K:Value→AW→Prop} (hn:HV p) (hf:AH A) (hA:A.next+1000 < Ap) (hk:∀ A',Grow A A' 700→K (Kq p) A'):Wc Tp Aw W0 m0 60 [.agg ⟨p.cells⟩] A K:=by
 have hn1:p.f < 4294967296:=hn
 refine w60 _ _ (AA (S:=fun _ _ _=>False) fun _ _ _ h=>h) ?_
 rw [e60]
 refine BX (cs:=p.cells) hf (by omega) rfl fun A1 m1=>?_
 have r1:Go.Abs.AD A1 A.next [.int .u32 (p.f:Int),.string p.g,.string p.b] 32:=m1.BU
 have n1:=m1.next
 rw [FB m1.BU]
 simp only [Ad]
 refine Aby m1.Az (by omega) fun A2 g2=>?_
 have n2:=g2.next
 have r2:=r1.keeps g2.keeps (by simp)
 simp only [BV,Ad,Bw]
 refine ⟨fun h=>?_,fun h=>?_⟩
 ·have h:okX p=false:=by
   cases ho:okX p with
   | false=>rfl
   | true=>rw [ho] at h;exact absurd rfl h
  have hk:=hk A2 (((Grow.made m1 hf).trans g2).more (by omega))
  unfold Kq at hk
  rw [h] at hk
  exact hk
 ·have h:okX p=true:=by
   cases ho:okX p with
   | true=>rfl
   | false=>rw [ho] at h;exact absurd h (by decide)
  have ho:1≤(bl p.g).length∧(bl p.g).length≤64∧(bl p.b).length≤64:=of_decide_eq_true h
  obtain ⟨_,hn2,hn3⟩:=ho
  have h20:=F7 (n:=p.f) (by omega)
  have hl1:=Dy (bl p.g)
  have hl2:=Dy (bl p.b)
  have j1:∀ xo yo,Ag Tp .add 9 xo yo (.string ⟨⟨Lib.decDigits p.f⟩⟩) (.string ⟨⟨[46]⟩⟩)=some (.string ⟨⟨Lib.decDigits p.f++[46]⟩⟩):=fun xo yo=>ID (by show (Lib.decDigits p.f).length+1 < _;omega)
  have j2:∀ xo yo,Ag Tp .add 9 xo yo (.string ⟨⟨Lib.decDigits p.f++[46]⟩⟩) (.string ⟨⟨BN (bl p.g)⟩⟩)=some (.string ⟨⟨Lib.decDigits p.f++[46]++BN (bl p.g)⟩⟩):=fun xo yo=>ID (by show (Lib.decDigits p.f++[46]).length+(BN (bl p.g)).length < _;simp only [Lq,Lc,Ln];omega)
  have j3:∀ xo yo,Ag Tp .add 9 xo yo (.string ⟨⟨Lib.decDigits p.f++[46]++BN (bl p.g)⟩⟩) (.string ⟨⟨[46]⟩⟩)=some (.string ⟨⟨Lib.decDigits p.f++[46]++BN (bl p.g)++[46]⟩⟩):=fun xo yo=>ID (by show (Lib.decDigits p.f++[46]++BN (bl p.g)).length+1 < _;simp only [Lq,Lc,Ln];omega)
  have j4:∀ xo yo,Ag Tp .add 9 xo yo (.string ⟨⟨Lib.decDigits p.f++[46]++BN (bl p.g)++[46]⟩⟩) (.string ⟨⟨BN (bl p.b)⟩⟩)=some (.string ⟨⟨Cs p⟩⟩):=fun xo yo=>ID (by show (Lib.decDigits p.f++[46]++BN (bl p.g)++[46]).length+(BN (bl p.b)).length < _;simp only [Lq,Lc,Ln];omega)
  simp only [Tl,MB,MA,GS,Vz,Nat.zero_add,AF r2.row,cellOf,isTuple,Cf,Ad,NM,Bg]
  rw [wrap_u64 (by omega) (by omega)]
  refine Pd (by omega) g2.Az (by omega) fun B1 b1=>?_
  have nb:=b1.next
  have r2:=r2.keeps b1.keeps (by simp)
  simp only [AF r2.row,cellOf,isTuple,Cf,j1,Ad,Ao]
  refine Ze (by omega) b1.Az (by omega) fun A3 g3=>?_
  have n3:=g3.next
  have r3:=r2.keeps g3.keeps (by simp)
  simp only [AF r3.row,cellOf,isTuple,Cf,j1,j2,j3,Ad,Ao]
  refine Ze (by omega) g3.Az (by omega) fun A4 g4=>?_
  have n4:=g4.next
  simp only [j1,j2,j3,j4,Ad,Ao]
  have hk:=hk A4 ((((((Grow.made m1 hf).trans g2).trans b1).trans g3).trans g4).more (by omega))
  unfold Kq at hk
  rw [h] at hk
  exact hk
theorem Cw {a b:Value}:BC (.tuple ⟨[a,b]⟩) 0=some a:=rfl
theorem Cv {a b:Value}:BC (.tuple ⟨[a,b]⟩) 1=some b:=rfl
def tx (p:Nm):ByteArray:=⟨⟨if okX p=true then Cs p else []⟩⟩
theorem TC {p:Nm} {A:AW} {K:Value→AW→Prop} (hp:Pow W0) (hn:HV p) (hf:AH A) (hA:A.next+1100 < Ap) (hk:∀ A',Grow A A' 701→K (.string (tx p)) A'):Wc Tp Aw W0 m0 44 [.agg ⟨p.cells⟩] A K:=by
 refine w44 _ _ (AA (S:=fun _ _ _=>False) fun _ _ _ h=>h) ?_
 rw [e44]
 refine BX (cs:=p.cells) hf (by omega) rfl fun A1 m1=>?_
 have n1:=m1.next
 rw [FB m1.BU]
 simp only [Ad]
 refine AbB hp hn m1.Az (by omega) fun A2 g2=>?_
 unfold Kq
 simp only [Cw,Cv,Ad]
 exact hk A2 (((Grow.made m1 hf).trans g2).more (by omega))
theorem Zw {p:Nm} {A:AW} {K:Value→AW→Prop} (hn:HV p) (hf:AH A) (hA:A.next+1100 < Ap) (hk:∀ A',Grow A A' 701→K (.tuple ⟨[.string (tx p),.bool (okX p)]⟩) A'):Wc Tp Aw W0 m0 33 [.agg ⟨p.cells⟩] A K:=by
 refine w33 _ _ (AA (S:=fun _ _ _=>False) fun _ _ _ h=>h) ?_
 rw [e33]
 refine BX (cs:=p.cells) hf (by omega) rfl fun A1 m1=>?_
 have n1:=m1.next
 rw [FB m1.BU]
 simp only [Ad]
 refine Zk hn m1.Az (by omega) fun A2 g2=>?_
 unfold Kq
 simp only [Cw,Cv,Ai,Ad]
 have hk:=hk A2 (((Grow.made m1 hf).trans g2).more (by omega))
 have e:((if okX p=true then (0:Int) else 40)==0)=okX p:=by cases okX p <;> rfl
 rw [e]
 exact hk
end
def Dm (r:List ByteArray):List UInt8:=r.flatMap fun y=>32::bl y
def BP:List ByteArray→List UInt8
 | []=>[]
 | x::r=>bl x++Dm r
def D2 (l:List ByteArray):Nat:=(l.map fun s=>(bl s).length).sum
theorem KY (a b:List ByteArray):Dm (a++b)=Dm a++Dm b:=List.flatMap_append
theorem Qg (a b:List ByteArray):D2 (a++b)=D2 a+D2 b:=by simp [D2]
theorem Jk (r:List ByteArray):(Dm r).length=r.length+D2 r:=by
 induction r with
 | nil=>rfl
 | cons y r ih=>
  rw [show Dm (y::r)=(32::bl y)++Dm r from by simp [Dm],Lq,ih,show D2 (y::r)=(bl y).length+D2 r from by simp [D2]]
  simp only [Lc]
  omega
theorem Ou {l:List ByteArray} {i:Nat} {s:ByteArray} (h:l[i]? =some s):D2 (l.take (i+1))=D2 (l.take i)+(bl s).length:=by
 rw [Bm h,Qg];simp [D2]
theorem My (l:List ByteArray) (i:Nat):D2 (l.take i)≤D2 l:=by
 conv=>rhs;rw [← List.take_append_drop i l,Qg]
 exact Nat.le_add_right _ _
theorem Aci {A:AW} {r n:Nat} (hn:n < 1000000000):Br Tp A 56 (.slice (some ⟨r,0,none⟩) (n+2) (n+2)) (some (.int .i64 1)) none none=some (.slice (some ⟨r,1,none⟩) (n+1) (n+1)):=by
 have hc:BH=18446744073709551616:=rfl
 have hb:Nat.beq (n+2) 1=false:=rfl
 show Br Tp A 56 (.slice (some ⟨r,0,none⟩) (n+2) (n+2)) (some (.int .i64 (.ofNat 1))) none none=_
 unfold Br
 simp only [Wx,sz9,BZ.2 (show n+2 < BH by omega),Cf,bounds,Is,EQ,Bt.2 (show 1≤n+2 by omega),Option.isSome_none,Bool.not_false,Bool.or_true,Ct,hb]
 rfl
section
variable {W0:World} {m0:Inj Tp}
set_option maxHeartbeats 1000000 in
theorem Zs {x:ByteArray} {r:List ByteArray} {n:Nat} {w:Value} {F:List Nat} {A:AW} {K:Value→AW→Prop} (hrl:r.length=n+1) (hn:n < 10000000) (hsum:D2 (x::r) < 900000000) (hfull:∀ {B:AW},Ay A B []→RdT B w (x::r) F)
  (htail:∀ {B:AW},Ay A B []→∃ w',Br Tp B 56 w (some (.int .i64 1)) none none=some w'∧∀ {C:AW},Ay A C []→RdT C w' r F) (hf:AH A) (hA:A.next+10 < Ap)
  (hk:∀ A',Grow A A' 2→K (.string ⟨⟨BP (x::r)⟩⟩) A'):Wc Tp Aw W0 m0 45 [w,.string ⟨⟨[32]⟩⟩] A K:=by
 have hlen:(x::r).length=n+2:=by simp [hrl]
 have hln:∀ {B:AW},Bn Tp B 56 w=some (.int .i64 ((n+2:Nat):Int)):=fun {B}=>by
  have:=(hfull (.refl A [])).len (B:=B)
  rwa [hlen] at this
 have htot:(bl x++Dm r).length=D2 (x::r)+(n+1):=by
  rw [Lq,Jk,show D2 (x::r)=(bl x).length+D2 r from by simp [D2],hrl]
  omega
 let I:Nat→Nat→List Value→AW→Prop:=fun g id vals A'=>
  (id=1∧A'=A∧∃ i:Nat,vals=[w,.string ⟨⟨[32]⟩⟩,.int .i64 (((n+1+D2 ((x::r).take i):Nat)):Int),w,.int .i64 ((n+2:Nat):Int),.int .i64 (i:Int)]∧i≤n+2∧g=20000000+(n+2 - i))∨
  (id=3∧∃ (i b:Nat) (w':Value),vals=[.string ⟨⟨[32]⟩⟩,pP A.next 0,w',.int .i64 ((n+1:Nat):Int),.int .i64 (i:Int)]∧(∀ {C:AW},Ay A C []→RdT C w' r F)∧i≤n+1∧GB A' A.next (bl x++Dm (r.take i)) (D2 (x::r)+(n+1)) b∧A.next < b∧Ay A A' []∧A'.next≤A.next+2∧AH A'∧g=n+1 - i)
 refine w45 _ _ _ (c45 (I:=I) ?_) ?_
 ·rintro g id vals A' d (⟨rfl,rfl,i,rfl,hi,rfl⟩ | ⟨rfl,i,b,w',rfl,htl,hi,hB,hb,k,nx,f,rfl⟩) hd
  ·rw [Aar]
   simp only [L45,Mc,Mn,Li,and_true] at hd
   obtain ⟨d0,d1,d5,d39,d40,d41⟩:=hd
   have hsi:=My (x::r) i
   simp only [d0,d1,d5,d39,d40,d41,Be,Ad,Aq]
   refine ⟨fun hlt=>?_,fun hge=>?_⟩
   ·have hlt:i < n+2:=by omega
    have hp:=Ge (show i < (x::r).length by omega)
    generalize hss:(x::r)[i]'(show i < (x::r).length by omega)=s at hp
    obtain ⟨a,a1,a2⟩:=(hfull (.refl A' [])).at (k:=.i64) hp
    have hs1:=Ou hp
    have hs2:=My (x::r) (i+1)
    simp only [a1,GS,a2,Ad,Ef,DS]
    rw [wrap_i64 (by omega) (by omega)]
    simp only [DK,Ad,Aq]
    refine ⟨fun h=>absurd h ?_,fun _=>?_⟩
    ·have:(bl s).length=s.data.toList.length:=rfl
     omega
    ·simp only [Av,Ad]
     have e1:IntKind.i64.wrap (((n+1+D2 ((x::r).take i):Nat):Int)+((s.data.toList.length:Nat):Int))=((n+1+D2 ((x::r).take (i+1)):Nat):Int):=by
      have:(bl s).length=s.data.toList.length:=rfl
      rw [wrap_i64 (by omega) (by omega)];omega
     have e2:IntKind.i64.wrap ((i:Int)+1)=((i+1:Nat):Int):=wrap_i64 (by omega) (by omega)
     rw [e1,e2]
     exact Ah.2 ⟨20000000+(n+2 - (i+1)),by omega,.inl ⟨rfl,rfl,i+1,rfl,by omega,rfl⟩⟩
   ·have hil:i=(x::r).length:=by omega
    rw [hil,List.take_length]
    refine AI Rw hf (by omega) rfl fun A1 m1=>?_
    have n1:=m1.next
    have k1:=m1.keeps hf
    refine AbA m1.BU (by omega) (by omega) m1.Az (by omega) fun v A2 hB2 k2 n2 f2=>?_
    have K2:Ay A' A2 []:=k1.trans k2 (fun y hy=>.inr (by rw [Ms.1 hy];exact Nl _))
    have ix0:=(hfull K2).at (k:=.i64) (i:=0) (s:=x) rfl
    obtain ⟨a,a1,a2⟩:=ix0
    have a1:Am Tp 56 (w) (.int .i64 0)=some (.pointer (some a)):=a1
    simp only [a1,GS,a2,Ad]
    have hx:D2 (x::r)=(bl x).length+D2 r:=by simp [D2]
    have e:(n+1+D2 (x::r))=(D2 (x::r)+(n+1)):=Nat.add_comm _ _
    rw [e] at hB2
    refine XY hB2 (by simp only [Ln];omega) f2 (by omega) fun v A3 hB3 k3 n3 f3=>?_
    have hy2:∀ y∈[A'.next,A1.next],A'.next≤y:=fun y hy=>by
     simp only [List.mem_cons,List.mem_nil_iff,or_false] at hy
     rcases hy with rfl | rfl <;> omega
    have K3:Ay A' A3 []:=K2.trans k3 (fun y hy=>.inr (hy2 y hy))
    obtain ⟨w',s1,s2⟩:=htail K3
    have s3:=(s2 (.refl A' [])).len (B:=A3)
    rw [hrl] at s3
    refine Aa s1 (Aa s3 ?_)
    refine Ah.2 ⟨n+1,by omega,.inr ⟨rfl,0,A1.next,w',rfl,s2,by omega,?_,by omega,K3,by omega,f3,rfl⟩⟩
    rw [List.take_zero,show Dm []=[] from rfl,List.append_nil];exact hB3
  ·rw [Aaq]
   simp only [L45,Mc,Mn,Li,and_true] at hd
   obtain ⟨d1,d8,d63,d64,d65⟩:=hd
   have hle:=k.next
   have hlt8:=hB.lt
   simp only [d1,d8,d63,d64,d65,Be,Ad,Aq]
   have hx:D2 (x::r)=(bl x).length+D2 r:=by simp [D2]
   have hst:=My r i
   have hcur:(bl x++Dm (r.take i)).length=(bl x).length+(i+D2 (r.take i)):=by rw [Lq,Jk,List.length_take,Nat.min_eq_left (by omega)]
   refine ⟨fun hlt=>?_,fun hge=>?_⟩
   ·have hlt:i < r.length:=by omega
    have hp:=Ge hlt
    generalize hss:r[i]=s at hp
    obtain ⟨a,a1,a2⟩:=(htl k).at (k:=.i64) hp
    have hs1:=Ou hp
    have hs2:=My r (i+1)
    simp only [a1,GS,a2,Ad]
    refine XY hB (by rw [hcur];show _+1≤_;omega) f (by omega) fun v A2 hB2 k2 n2 f2=>?_
    refine XY hB2 (by rw [Lq,hcur];show _+1+_≤_;omega) f2 (by omega) fun v A3 hB3 k3 n3 f3=>?_
    have e2:IntKind.i64.wrap ((i:Int)+1)=((i+1:Nat):Int):=wrap_i64 (by omega) (by omega)
    simp only [Av,Ad,e2]
    have hin:∀ y∈[A.next,b],y∈([]:List Nat)∨A.next≤y:=fun y hy=>.inr (by
     simp only [List.mem_cons,List.mem_nil_iff,or_false] at hy
     rcases hy with rfl | rfl <;> omega)
    refine Ah.2 ⟨n+1 - (i+1),by omega,.inr ⟨rfl,i+1,b,w',rfl,htl,by omega,?_,hb,(k.trans k2 hin).trans k3 hin,by omega,f3,rfl⟩⟩
    have e:bl x++Dm (r.take (i+1))=bl x++Dm (r.take i)++[32]++bl s:=by
     rw [Bm hp,KY];simp [Dm]
    rw [e]
    exact hB3
   ·have hil:i=r.length:=by omega
    rw [hil,List.take_length] at hB
    have hne:bl x++Dm r≠[]:=fun e=>by
     rw [e] at htot;simp only [Ln] at htot;omega
    refine XZ (hB.full htot (by omega)) hne (by omega) f (by omega) fun A2 k2 n2 f2=>?_
    exact hk A2 ⟨k.trans k2 (fun y hy=>.inr (by rw [Ms.1 hy];omega)),f2,by omega⟩
 ·rw [e45]
  have hl1:Bn Tp A 9 (.string ⟨⟨[32]⟩⟩)=some (.int .i64 1):=Ef _ _
  simp only [hln,hl1,Ai,Ad,Af]
  refine ⟨fun h=>absurd h (by omega),fun _=>⟨fun h=>absurd h (by omega),fun _=>?_⟩⟩
  simp only [DK,Ad,Aq]
  refine ⟨fun _=>?_,fun h=>absurd (by decide) h⟩
  simp only [DS,Ad]
  rw [wrap_i64 (n:=(((n+2:Nat):Int) - 1)) (by omega) (by omega),show (((n+2:Nat):Int) - 1)=((n+1:Nat):Int) by omega,PU (by omega)]
  have hq:(1000:Int)≤(9223372036854775807:Int).tdiv ((n+1:Nat):Int)∧(9223372036854775807:Int).tdiv ((n+1:Nat):Int)≤9223372036854775807:=by
   rw [Int.tdiv_eq_ediv_of_nonneg (by omega)]
   constructor
   ·exact (Int.le_ediv_iff_mul_le (by omega)).2 (by omega)
   ·exact Int.ediv_le_self _ (by omega)
  rw [wrap_i64 (by omega) (by omega)]
  simp only [DT,Ad,Aq]
  refine ⟨fun h=>absurd h (by omega),fun _=>?_⟩
  simp only [PV,Av,Ad]
  rw [wrap_i64 (n:=1 * ((n+1:Nat):Int)) (by omega) (by omega),wrap_i64 (by omega) (by omega),show (0+1 * ((n+1:Nat):Int))=((n+1+D2 ((x::r).take 0):Nat):Int) by simp [D2]]
  exact Ah.2 ⟨20000000+(n+2),.inl ⟨rfl,rfl,0,rfl,by omega,rfl⟩⟩
theorem Zr {x:ByteArray} {w:Value} {F:List Nat} {A:AW} {K:Value→AW→Prop} (h:RdT A w [x] F) (hk:K (.string x) A):Wc Tp Aw W0 m0 45 [w,.string ⟨⟨[32]⟩⟩] A K:=by
 refine w45 _ _ _ (AA (S:=fun _ _ _=>False) fun _ _ _ h=>h) ?_
 rw [e45]
 obtain ⟨a,a1,a2⟩:=h.at (k:=.i64) (i:=0) (s:=x) rfl
 refine Aa h.len (Aa Ai (Af.2 ⟨fun h=>absurd h (show ((1:Nat):Int)≠0 by decide),fun _=>Aa Ai (Af.2 ⟨fun _=>Aa a1 (Aa (by rw [GS];exact a2) hk),fun h=>absurd rfl h⟩)⟩))
end
structure Ax where
 what:Nat
 ses:Nat
 queue:ByteArray
 tag:ByteArray
 x:Nm
 n:Nat
 a:Bool
 b:Bool
 refs:List (ByteArray × Nat)
 body:ByteArray
structure EvD where
 kind:Nat
 node:Nat
 to:Nat
 n:Int
 x:Nm
 nodes:List Nat
 Bd:List Int
 s:ByteArray
 a:Bool
 call:Ax
abbrev Word:=List UInt8
abbrev U64 (n:Nat):Prop:=n < 18446744073709551616
structure Ax.Wf (c:Ax):Prop where
 what:c.what < 256
 ses:U64 c.ses
 x:HV c.x
 n:c.n < 4294967296
 refs:∀ r∈c.refs,U64 r.2
structure EvD.Wf (e:EvD):Prop where
 kind:e.kind < 256
 node:e.node < 256
 to:e.to < 256
 n: -9223372036854775808≤e.n∧e.n≤9223372036854775807
 x:HV e.x
 nodes:∀ k∈e.nodes,k < 256
 Bd:∀ k∈e.Bd,-9223372036854775808≤k∧k≤9223372036854775807
 call:e.call.Wf
def Ys:List (Word × Word):=[([],[]),
 ([97,116,116,97,99,104],[]),([100,101,116,97,99,104],[]),([100,101,99,108,97,114,101],[81,78]),([100,101,108,101,116,101],[81,101]),([112,117,114,103,101],[81]),([113,117,101,114,121],[81]),
 ([112,117,98,108,105,115,104],[81,84,66]),([115,117,98,115,99,114,105,98,101],[81,84]),([99,97,110,99,101,108],[84]),([102,108,111,119],[84,78]),([115,116,111,112],[84]),([100,101,108,105,118,101,114],[]),
 ([97,99,99,101,112,116],[82]),([114,101,108,101,97,115,101],[109,82]),([114,101,106,101,99,116],[82]),([115,101,108,101,99,116],[100]),([116,120,99,111,109,109,105,116],[]),([116,120,114,111,108,108,98,97,99,107],[]),
 ([115,116,97,114,116],[88,115]),([101,110,100],[88,102]),([116,105,109,101,111,117,116],[88,78])]
def YI:List (Word × Word):=[([],[]),
 ([98,101,103,105,110],[98]),([101,110,100],[88,99]),([116,97,107,101],[110,116,105]),([100,114,111,112],[110,116,105]),([100,111,117,98,108,101],[110,116,105]),([116,105,99,107],[]),
 ([99,114,97,115,104],[110]),([119,97,107,101],[110,107]),([102,117,115,101],[110,105]),([100,101,99,105,100,101],[110,88,99]),([102,111,114,103,101,116],[88]),([99,111,110,110,101,99,116],[110]),
 ([102,101,101,100],[110,105,83]),([108,111,115,116],[110,105]),([102,101,116,99,104],[110,105]),([99,97,108,108],[110,67]),([99,97,108,109],[])]
def partsOf (n:Nat):Word × Word:=Ys.getD n ([],[])
def Ak (n:Nat):Word × Word:=YI.getD n ([],[])
def Cd (b:Bool) (x y:Word):Word:=if b=true then x else y
def EW (a b:Bool) (w0 w1 w2 w3:Word):Word:=if b=true then (if a=true then w3 else w2) else if a=true then w1 else w0
def Dn (r:ByteArray × Nat):Word:=AV (bl r.1)++[58]++Lib.decDigits r.2
def Dg:Word:=[101,109,112,116,121]
def Qa:Word:=[97,110,121]
def Et:Word:=[109,97,114,107]
def LJ:Word:=[107,101,101,112]
def IJ:Word:=[100,116,120]
def II:Word:=[108,111,99,97,108]
def MJ:Word:=[110,101,119]
def E2:Word:=[106,111,105,110]
def C9:Word:=[114,101,115,117,109,101]
def Dl:Word:=[98,111,116,104]
def IK:Word:=[100,111,110,101]
def FP:Word:=[102,97,105,108]
def CV:Word:=[115,117,115,112,101,110,100]
def Da:Word:=[99,111,109,109,105,116]
def MK:Word:=[98,97,99,107]
def Dk (c:Ax) (h:UInt8):Option (List Word):=
 if h=81 then some [AV (bl c.queue)] else if h=84 then some [AV (bl c.tag)] else if h=66 then some [AV (bl c.body)] else if h=78 then some [Lib.decDigits c.n]
 else if h=88 then (if okX c.x=true then some [Cs c.x] else none) else if h=101 then some [Cd c.a Dg Qa] else if h=109 then some [Cd c.a Et LJ] else if h=100 then some [Cd c.a IJ II]
 else if h=115 then some [EW c.a c.b MJ E2 C9 Dl] else if h=102 then some [EW c.a c.b IK FP CV Dl] else if h=82 then some (c.refs.map Dn) else some [[]]
def Dh (c:Ax) (h:UInt8):Ax:=
 if h=81 then { c with queue:=.empty } else if h=84 then { c with tag:=.empty } else if h=66 then { c with body:=.empty } else if h=78 then { c with n:=0 }
 else if h=88 then { c with x:=DY } else if h=101 then { c with a:=false } else if h=109 then { c with a:=false } else if h=100 then { c with a:=false }
 else if h=115 then { c with a:=false,b:=false } else if h=102 then { c with a:=false,b:=false } else if h=82 then { c with refs:=[] } else c
def goC (c:Ax):List UInt8→List Word→Ax→Option (List Word × Ax)
 | [],ws,left=>some (ws,left)
 | h::hs,ws,left=>match Dk c h with
  | none=>none
  | some w=>goC c hs (ws++w) (Dh left h)
def CB (c:Ax):Option (List Word × Ax):=goC c (partsOf c.what).2 [Lib.decDigits c.ses,(partsOf c.what).1] { c with what:=0,ses:=0 }
def Bc:Ax:=⟨0,0,.empty,.empty,DY,0,false,false,[],.empty⟩
def FC (e:EvD) (h:UInt8):Option (List Word):=
 if h=110 then some [Lib.decDigits e.node] else if h=116 then some [Lib.decDigits e.to] else if h=105 then some [Lib.itoa e.n] else if h=88 then (if okX e.x=true then some [Cs e.x] else none)
 else if h=99 then some [Cd e.a Da MK] else if h=83 then some [AV (bl e.s)] else if h=98 then some (e.nodes.map Lib.decDigits) else if h=107 then some (e.Bd.map Lib.itoa)
 else if h=67 then (match CB e.call with | some (ws,_)=>if (partsOf e.call.what).1=[] then none else some ws | none=>none) else some [[]]
def Hi (e:EvD) (h:UInt8) (left:EvD):EvD:=
 if h=110 then { left with node:=0 } else if h=116 then { left with to:=0 } else if h=105 then { left with n:=0 } else if h=88 then { left with x:=DY }
 else if h=99 then { left with a:=false } else if h=83 then { left with s:=.empty } else if h=98 then { left with nodes:=[] } else if h=107 then { left with Bd:=[] }
 else if h=67 then (match CB e.call with | some (_,c)=>{ left with call:=c } | none=>left) else left
def goE (e:EvD):List UInt8→List Word→EvD→Option (List Word × EvD)
 | [],ws,left=>some (ws,left)
 | h::hs,ws,left=>match FC e h with
  | none=>none
  | some w=>goE e hs (ws++w) (Hi e h left)
def BQ:EvD:=⟨0,0,0,0,DY,[],[],.empty,false,Bc⟩
noncomputable def DL (e:EvD):Option (List Word):=open Classical in
 match goE e (Ak e.kind).2 [(Ak e.kind).1] { e with kind:=0 } with
 | none=>none
 | some (ws,left)=>if (Ak e.kind).1≠[]∧left=BQ then some ws else none
section
variable (W0:World) (m0:Inj Tp) (S:Nat→List Value→AW→Prop) (Q:Value→AW→Prop)
theorem e83 (A:AW):gE W0 m0 S Q 83 3 Tz Lz [] A=(Al (Hp A) fun t0 At0=>Bb (AK Tp At0 109 t0 (.string ⟨⟨[97,116,116,97,99,104]⟩⟩) (.int .u8 1)) fun At1=>Bb (AK Tp At1 109 t0 (.string ⟨⟨[100,101,116,97,99,104]⟩⟩) (.int .u8 2)) fun At2=>Bb (AK Tp At2 109 t0 (.string ⟨⟨[100,101,99,108,97,114,101]⟩⟩) (.int .u8 3)) fun At3=>Bb (AK Tp At3 109 t0 (.string ⟨⟨[100,101,108,101,116,101]⟩⟩) (.int .u8 4)) fun At4=>Bb (AK Tp At4 109 t0 (.string ⟨⟨[112,117,114,103,101]⟩⟩) (.int .u8 5)) fun At5=>Bb (AK Tp At5 109 t0 (.string ⟨⟨[113,117,101,114,121]⟩⟩) (.int .u8 6)) fun At6=>Bb (AK Tp At6 109 t0 (.string ⟨⟨[112,117,98,108,105,115,104]⟩⟩) (.int .u8 7)) fun At7=>Bb (AK Tp At7 109 t0 (.string ⟨⟨[115,117,98,115,99,114,105,98,101]⟩⟩) (.int .u8 8)) fun At8=>Bb (AK Tp At8 109 t0 (.string ⟨⟨[99,97,110,99,101,108]⟩⟩) (.int .u8 9)) fun At9=>Bb (AK Tp At9 109 t0 (.string ⟨⟨[102,108,111,119]⟩⟩) (.int .u8 10)) fun At10=>Bb (AK Tp At10 109 t0 (.string ⟨⟨[115,116,111,112]⟩⟩) (.int .u8 11)) fun At11=>Bb (AK Tp At11 109 t0 (.string ⟨⟨[100,101,108,105,118,101,114]⟩⟩) (.int .u8 12)) fun At12=>Bb (AK Tp At12 109 t0 (.string ⟨⟨[97,99,99,101,112,116]⟩⟩) (.int .u8 13)) fun At13=>Bb (AK Tp At13 109 t0 (.string ⟨⟨[114,101,108,101,97,115,101]⟩⟩) (.int .u8 14)) fun At14=>Bb (AK Tp At14 109 t0 (.string ⟨⟨[114,101,106,101,99,116]⟩⟩) (.int .u8 15)) fun At15=>Bb (AK Tp At15 109 t0 (.string ⟨⟨[115,101,108,101,99,116]⟩⟩) (.int .u8 16)) fun At16=>Bb (AK Tp At16 109 t0 (.string ⟨⟨[116,120,99,111,109,109,105,116]⟩⟩) (.int .u8 17)) fun At17=>Bb (AK Tp At17 109 t0 (.string ⟨⟨[116,120,114,111,108,108,98,97,99,107]⟩⟩) (.int .u8 18)) fun At18=>Bb (AK Tp At18 109 t0 (.string ⟨⟨[115,116,97,114,116]⟩⟩) (.int .u8 19)) fun At19=>Bb (AK Tp At19 109 t0 (.string ⟨⟨[101,110,100]⟩⟩) (.int .u8 20)) fun At20=>Bb (AK Tp At20 109 t0 (.string ⟨⟨[116,105,109,101,111,117,116]⟩⟩) (.int .u8 21)) fun At21=>Q t0 At21):=by kernel_rfl
theorem w83:Wf0 83 3 Tz Lz:=wf0 (by kernel_rfl) (by decide) rfl
theorem e84 (a0 a1:Value) (A:AW):gE W0 m0 S Q 84 6 Tz Lz [a0,a1] A=(lW A 56 a1 fun t0=>Al (Bf Tp A 56 56 t0 a0) fun t1 At1=>sW At1 56 a1 t1 fun At2=>Q (.tuple ⟨[]⟩) At2):=by kernel_rfl
theorem w84:Wf2 84 6 Tz Lz:=wf2 (fun _ _=>by kernel_rfl) (by decide) fun _ _=>rfl
theorem e85 (a0:Value) (A:AW):gE W0 m0 S Q 85 11 Tz Lz [a0] A=(kW .lss 30 3 (.int .u32 0) a0 fun t0=>Ae t0 (Al (Au Tp A 30 2 a0) fun t1 At1=>cW W0 m0 78 [t1,(.int .i64 10)] At1 fun t2 At2=>Q t2 At2) (Al (Au Tp A 30 35 a0) fun t3 At3=>cW W0 m0 79 [t3,(.int .i64 10)] At3 fun t4 At4=>Q t4 At4)):=by kernel_rfl
theorem w85:Wf1 85 11 Tz Lz:=wf1 (fun _=>by kernel_rfl) (by decide) fun _=>rfl
noncomputable def T86:Nat→List Item:=fun i=>match i with
 | 0=>[(.code (cd 86 [1,1,0,1,0,0])),(.inLoop (cd 86 [1,1,0,1,0,0])),(.inBlock 0),(.code (cd 86 [1,1,1]))]
 | _=>[]
def L86:Nat→List Tmp:=fun i=>match i with
 | 0=>[3,6,7,8]
 | _=>[]
theorem e86 (a0:Value) (A:AW):gE W0 m0 S Q 86 25 T86 L86 [a0] A=(Ab (Bn Tp A 36 a0) fun t0=>AZ (T86 0) (T86 0) (S 0 [(.slice none 0 0),a0,t0,(.int .i64 0)] A)):=by kernel_rfl
theorem Aag (d:Nat→Value) (A:AW):gL W0 m0 S Q 86 25 T86 L86 d 0 A=(Ab (Ag Tp .lss 3 (.tmp 8) (.tmp 7) (d 8) (d 7)) fun t0=>Ae t0 (Ab (Am Tp 36 (d 6) (d 8)) fun t1=>lW A 54 t1 fun t2=>Al (BM Tp A 54) fun t3 At3=>sW At3 54 t3 t2 fun At4=>fW 54 t3 0 fun t5=>lW At4 9 t5 fun t6=>fW 54 t3 1 fun t7=>lW At4 35 t7 fun t8=>cW W0 m0 8 [t6] At4 fun t9 At9=>lW At9 35 t7 fun t10=>eqW t10 t8 (fW 54 t3 1 fun t11=>eqW t11 t7 (eqW (d 3) (d 3) (Ab (Ag Tp .add 9 (.tmp 15) (.const (.string ⟨⟨[58]⟩⟩)) t9 (.string ⟨⟨[58]⟩⟩)) fun t12=>cW W0 m0 48 [t8] At9 fun t13 At13=>Ab (Ag Tp .add 9 (.tmp 15) (.const (.string ⟨⟨[58]⟩⟩)) t9 (.string ⟨⟨[58]⟩⟩)) fun t14=>eqW t14 t12 (eqW (d 3) (d 3) (Ab (Ag Tp .add 9 (.tmp 16) (.tmp 19) t12 t13) fun t15=>Al (Ar Tp At13 56 1 [(0,t15)]) fun t16 At16=>Bz (AR Tp (BA (Tm.fill ⟨1,.nil⟩ 0 [t15])) (.buildSlice 56 1 #[(0,.tmp 0)])) At16 t16 (Ab (Ag Tp .add 9 (.tmp 16) (.tmp 19) t12 t13) fun t17=>eqW t17 t15 (lW At16 35 t7 fun t18=>eqW t18 t8 (fW 54 t3 1 fun t19=>eqW t19 t7 (Ab (Ag Tp .add 9 (.tmp 15) (.const (.string ⟨⟨[58]⟩⟩)) t9 (.string ⟨⟨[58]⟩⟩)) fun t20=>eqW t20 t12 (lW At16 9 t5 fun t21=>eqW t21 t6 (fW 54 t3 0 fun t22=>eqW t22 t5 (eqW (d 3) (d 3) (Al (Bf Tp At16 56 56 (d 3) t16) fun t23 At23=>Ab (Ag Tp .add 3 (.tmp 8) (.const (.int .i64 1)) (d 8) (.int .i64 1)) fun t24=>AZ (T86 0) (T86 0) (S 0 [t23,(d 6),(d 7),t24] At23))))))))))))))) (Q (d 3) A)):=by kernel_rfl
theorem w86:Wf1 86 25 T86 L86:=wf1 (fun _=>by kernel_rfl) (by decide) fun _=>rfl
theorem c86:Es 86 25 T86 L86:=EC (by decide)
theorem e87 (a0 a1 a2:Value) (A:AW):gE W0 m0 S Q 87 25 Tz Lz [a0,a1,a2] A=(Ab (Am Tp 56 a2 (.int .i64 3)) fun t0=>lW A 9 t0 fun t1=>Ab (Am Tp 56 a2 (.int .i64 2)) fun t2=>lW A 9 t2 fun t3=>Ab (Am Tp 56 a2 (.int .i64 1)) fun t4=>lW A 9 t4 fun t5=>Ab (Am Tp 56 a2 (.int .i64 0)) fun t6=>lW A 9 t6 fun t7=>cW W0 m0 49 [a0,t1,t3] A fun t8 At8=>lW At8 9 t6 fun t9=>eqW t9 t7 (Ab (Am Tp 56 a2 (.int .i64 0)) fun t10=>eqW t10 t6 (eqW a2 a2 (lW At8 9 t4 fun t11=>eqW t11 t5 (Ab (Am Tp 56 a2 (.int .i64 1)) fun t12=>eqW t12 t4 (eqW a2 a2 (eqW a0 a0 (eqW a1 a1 (cW W0 m0 49 [a0,t5,t7] At8 fun t13 At13=>eqW a1 a1 (cW W0 m0 49 [a1,t8,t13] At13 fun t14 At14=>Q t14 At14)))))))))):=by kernel_rfl
theorem w87:Wf3 87 25 Tz Lz:=wf3 (fun _ _ _=>by kernel_rfl) (by decide) fun _ _ _=>rfl
noncomputable def T91:Nat→List Item:=fun i=>match i with
 | 0=>[(.code (cd 91 [1,1,1,1,0,0])),(.inLoop (cd 91 [1,1,1,1,0,0])),(.inBlock 0)]
 | _=>[]
def L91:Nat→List Tmp:=fun i=>match i with
 | 0=>[0,1,5]
 | _=>[]
theorem e91 (a0 a1:Value) (A:AW):gE W0 m0 S Q 91 34 T91 L91 [a0,a1] A=(Ab (Bn Tp A 9 a1) fun t0=>kW .eql 3 8 (.int .i64 0) t0 fun t1=>Ae t1 (cW W0 m0 106 [a0] A fun t2 At2=>kW .add 3 11 (.int .i64 1) t2 fun t3=>Q t3 At2) (Ab (Bn Tp A 9 a1) fun t4=>kW .eql 3 14 (.int .i64 1) t4 fun t5=>Ae t5 (Ab (Bj Tp 9 a1 (.int .i64 0)) fun t6=>anW Tp Aw W0 m0 (B4 Tp Aw A 108 [a0,t6]) fun t7 At7=>Q t7 At7) (AZ (T91 0) (T91 0) (S 0 [a0,a1,(.int .i64 0)] A)))):=by kernel_rfl
theorem w91:Wf2 91 34 T91 L91:=wf2 (fun _ _=>by kernel_rfl) (by decide) fun _ _=>rfl
theorem e92 (a0 a1:Value) (A:AW):gE W0 m0 S Q 92 8 Tz Lz [a0,a1] A=(cW W0 m0 109 [a0,a1] A fun t0 At0=>Q t0 At0):=by kernel_rfl
theorem w92:Wf2 92 8 Tz Lz:=wf2 (fun _ _=>by kernel_rfl) (by decide) fun _ _=>rfl
theorem e93 (a0 a1:Value) (A:AW):gE W0 m0 S Q 93 26 Tz Lz [a0,a1] A=(cW W0 m0 64 [a0] A fun t0 At0=>cW W0 m0 110 [t0,(.int .i64 10),a1] At0 fun t1 At1=>xW t1 0 fun t2=>xW t1 1 fun t3=>Ab (Ce a0) fun t4=>fW 96 t4 1 fun t5=>lW At1 4 t5 fun t6=>Ae t6 (Ab (Ce a0) fun t7=>fW 96 t7 1 fun t8=>Bb (AB Tp At1 4 t8 (.bool true)) fun At9=>Q t2 At9) (Ab (Ag Tp .neq 72 (.tmp 20) (.const .nilIface) t3 .nilIface) fun t10=>Ab (Ce a0) fun t11=>fW 96 t11 1 fun t12=>sW At1 4 t12 t10 fun At13=>Q t2 At13)):=by kernel_rfl
theorem w93:Wf2 93 26 Tz Lz:=wf2 (fun _ _=>by kernel_rfl) (by decide) fun _ _=>rfl
abbrev K0 (X1:AW) (x2:Value):Prop:=Ab (Bo Tp 32 []) fun t900=>sW X1 32 x2 t900 fun At903=>lW At903 32 x2 fun t904=>Q (.tuple ⟨[t904,(.int .i64 5)]⟩) At903
theorem e94 (a0:Value) (A:AW):gE W0 m0 S Q 94 69 Tz Lz [a0] A=(Al (BM Tp A 32) fun t0 At0=>cW W0 m0 37 [a0,(.string ⟨⟨[46]⟩⟩)] At0 fun t1 At1=>Ab (Bn Tp At1 56 t1) fun t2=>kW .neq 3 15 (.int .i64 3) t2 fun t3=>Ae t3 (K0 Q At1 t0) (Ab (Am Tp 56 t1 (.int .i64 0)) fun t7=>lW At1 9 t7 fun t8=>cW W0 m0 110 [t8,(.int .i64 10),(.int .i64 32)] At1 fun t9 At9=>xW t9 0 fun t10=>xW t9 1 fun t11=>Ab (Am Tp 56 t1 (.int .i64 1)) fun t12=>lW At9 9 t12 fun t13=>cW W0 m0 111 [t13] At9 fun t14 At14=>xW t14 0 fun t15=>xW t14 1 fun t16=>Ab (Am Tp 56 t1 (.int .i64 2)) fun t17=>lW At14 9 t17 fun t18=>cW W0 m0 111 [t18] At14 fun t19 At19=>xW t19 0 fun t20=>xW t19 1 fun t21=>Al (Au Tp At19 35 30 t10) fun t22 At22=>Ab (Bo Tp 32 [(0,t22),(1,t15),(2,t20)]) fun t23=>Al (BM Tp At22 32) fun t24 At24=>sW At24 32 t24 t23 fun At25=>Ab (Ag Tp .neq 72 (.tmp 44) (.const .nilIface) t11 .nilIface) fun t26=>Ae t26 (eqW undef undef (eqW undef undef (eqW undef undef (K0 Q At25 t0)))) (Ab (unA Tp .not t16) fun t30=>Ae t30 (eqW undef undef (eqW undef undef (eqW undef undef (K0 Q At25 t0)))) (Ab (unA Tp .not t21) fun t34=>Ae t34 (eqW undef undef (eqW undef undef (eqW undef undef (K0 Q At25 t0)))) (Ab (Am Tp 56 t1 (.int .i64 0)) fun t38=>lW At25 9 t38 fun t39=>cW W0 m0 79 [t10,(.int .i64 10)] At25 fun t40 At40=>lW At40 9 t38 fun t41=>eqW t41 t39 (Ab (Am Tp 56 t1 (.int .i64 0)) fun t42=>eqW t42 t38 (eqW t1 t1 (Ab (Ag Tp .neq 9 (.tmp 56) (.tmp 59) t40 t39) fun t43=>Ae t43 (K0 Q At40 t0) (lW At40 32 t24 fun t47=>cW W0 m0 100 [t47] At40 fun t48 At48=>kW .neq 24 64 (.int .i64 0) t48 fun t49=>Ae t49 (K0 Q At48 t0) (lW At48 32 t24 fun t53=>sW At48 32 t0 t53 fun At54=>lW At54 32 t0 fun t55=>Q (.tuple ⟨[t55,(.int .i64 0)]⟩) At54)))))))))):=by kernel_rfl
theorem w94:Wf1 94 69 Tz Lz:=wf1 (fun _=>by kernel_rfl) (by decide) fun _=>rfl
theorem e95 (a0:Value) (A:AW):gE W0 m0 S Q 95 18 Tz Lz [a0] A=(knW Tp W0 m0 112 [a0] A fun t0 At0=>xW t0 0 fun t1=>xW t0 1 fun t2=>Ab (Ag Tp .neq 72 (.tmp 11) (.const .nilIface) t2 .nilIface) fun t3=>Ae t3 (cW W0 m0 113 [(.string ⟨⟨[65,116,111,105]⟩⟩),a0,(.int .i64 0),(.int .i64 0),t2] At0 fun t4 At4=>Q (.tuple ⟨[t1,t4]⟩) At4) (Q (.tuple ⟨[t1,.nilIface]⟩) At0)):=by kernel_rfl
theorem w95:Wf1 95 18 Tz Lz:=wf1 (fun _=>by kernel_rfl) (by decide) fun _=>rfl
noncomputable def T96:Nat→List Item:=fun i=>match i with
 | 0=>[(.code (cd 96 [1,1,0,0,0])),(.inLoop (cd 96 [1,1,0,0,0])),(.inBlock 0),(.code (cd 96 [1,1,1]))]
 | _=>[]
def L96:Nat→List Tmp:=fun i=>match i with
 | 0=>[0,1,5]
 | _=>[]
theorem e96 (a0 a1:Value) (A:AW):gE W0 m0 S Q 96 25 T96 L96 [a0,a1] A=(AZ (T96 0) (T96 0) (S 0 [a0,a1,(.slice none 0 0)] A)):=by kernel_rfl
theorem Aae (d:Nat→Value) (A:AW):gL W0 m0 S Q 96 25 T96 L96 d 0 A=(Ab (Ce (d 0)) fun t0=>fW 96 t0 0 fun t1=>lW A 56 t1 fun t2=>Ab (Bn Tp A 56 t2) fun t3=>kW .gtr 3 10 (.int .i64 0) t3 fun t4=>Ae t4 (Ab (Ce (d 0)) fun t5=>fW 96 t5 1 fun t6=>lW A 4 t6 fun t7=>Ab (unA Tp .not t7) fun t8=>Ae t8 (anW Tp Aw W0 m0 (Gg Tp Aw A (d 1) []) fun t9 At9=>Al (Ar Tp At9 36 1 [(0,t9)]) fun t10 At10=>Al (Bf Tp At10 36 36 (d 5) t10) fun t11 At11=>AZ (T96 0) (T96 0) (S 0 [(d 0),(d 1),t11] At11)) (Q (d 5) A)) (Q (d 5) A)):=by kernel_rfl
theorem w96:Wf2 96 25 T96 L96:=wf2 (fun _ _=>by kernel_rfl) (by decide) fun _ _=>rfl
theorem c96:Es 96 25 T96 L96:=EC (by decide)
theorem e97 (a0:Value) (A:AW):gE W0 m0 S Q 97 39 Tz Lz [a0] A=(Al (BM Tp A 54) fun t0 At0=>cW W0 m0 64 [a0] At0 fun t1 At1=>cW W0 m0 114 [t1,(.string ⟨⟨[58]⟩⟩)] At1 fun t2 At2=>xW t2 0 fun t3=>xW t2 1 fun t4=>xW t2 2 fun t5=>Al (Ar Tp At2 56 2 [(0,t3),(1,t4)]) fun t6 At6=>Ab (Bo Tp 96 [(0,t6)]) fun t7=>Al (Fc At6 (Value.cells t7).toList 96) fun t8 At8=>cW W0 m0 71 [t8] At8 fun t9 At9=>cW W0 m0 93 [t8,(.int .i64 64)] At9 fun t10 At10=>Ab (Bo Tp 54 [(0,t9),(1,t10)]) fun t11=>Al (BM Tp At10 54) fun t12 At12=>sW At12 54 t12 t11 fun At13=>Ab (Ce a0) fun t14=>fW 96 t14 1 fun t15=>lW At13 4 t15 fun t16=>Ae t16 (Ab (Ce a0) fun t17=>fW 96 t17 1 fun t18=>Bb (AB Tp At13 4 t18 (.bool true)) fun At19=>lW At19 54 t12 fun t20=>sW At19 54 t0 t20 fun At21=>lW At21 54 t0 fun t22=>Q t22 At21) (Ab (Ce t8) fun t23=>fW 96 t23 1 fun t24=>lW At13 4 t24 fun t25=>Ab (Ce a0) fun t26=>fW 96 t26 1 fun t27=>sW At13 4 t27 t25 fun At28=>lW At28 54 t12 fun t29=>sW At28 54 t0 t29 fun At30=>lW At30 54 t0 fun t31=>Q t31 At30)):=by kernel_rfl
theorem w97:Wf1 97 39 Tz Lz:=wf1 (fun _=>by kernel_rfl) (by decide) fun _=>rfl
theorem e98 (a0 a1:Value) (A:AW):gE W0 m0 S Q 98 16 Tz Lz [a0,a1] A=(cW W0 m0 64 [a0] A fun t0 At0=>cW W0 m0 115 [a1,t0] At0 fun t1 At1=>kW .and 3 11 (.int .i64 1) t1 fun t2=>kW .eql 3 12 (.int .i64 1) t2 fun t3=>kW .geq 3 14 (.int .i64 2) t1 fun t4=>Q (.tuple ⟨[t3,t4]⟩) At1):=by kernel_rfl
theorem w98:Wf2 98 16 Tz Lz:=wf2 (fun _ _=>by kernel_rfl) (by decide) fun _ _=>rfl
noncomputable def T99:Nat→List Item:=fun i=>match i with
 | 0=>[(.code (cd 99 [1,0,1,0,0])),(.inLoop (cd 99 [1,0,1,0,0])),(.inBlock 0),(.code (cd 99 [1,1]))]
 | _=>[]
def L99:Nat→List Tmp:=fun i=>match i with
 | 0=>[0,3]
 | _=>[]
theorem e99 (a0:Value) (A:AW):gE W0 m0 S Q 99 13 T99 L99 [a0] A=(AZ (T99 0) (T99 0) (S 0 [a0,(.int .u8 0)] A)):=by kernel_rfl
theorem Aad (d:Nat→Value) (A:AW):gL W0 m0 S Q 99 13 T99 L99 d 0 A=(Ab (Ag Tp .lss 5 (.tmp 4) (.const (.int .u8 16)) (d 3) (.int .u8 16)) fun t0=>Ae t0 (cW W0 m0 105 [(d 3)] A fun t1 At1=>Ab (Ag Tp .eql 5 (.tmp 9) (.tmp 10) t1 (d 0)) fun t2=>Ae t2 (Q (d 3) At1) (Ab (Ag Tp .add 5 (.tmp 6) (.const (.int .u8 1)) (d 3) (.int .u8 1)) fun t3=>AZ (T99 0) (T99 0) (S 0 [(d 0),t3] At1))) (Q (.int .u8 16) A)):=by kernel_rfl
theorem w99:Wf1 99 13 T99 L99:=wf1 (fun _=>by kernel_rfl) (by decide) fun _=>rfl
theorem c99:Es 99 13 T99 L99:=EC (by decide)
noncomputable def Xb:Nat→List Item:=fun i=>match i with
 | 1=>[(.code (cd 109 [1,1,1,1,1,1,1,1,0,0,0])),(.inLoop (cd 109 [1,1,1,1,1,1,1,1,0,0,0])),(.inBlock 1),(.code (cd 109 [1,1,1,1,1,1,1,1,1]))]
 | _=>[]
def Abn:Nat→List Tmp:=fun i=>match i with
 | 1=>[0,1,5,6,7,8,9,10]
 | _=>[]
abbrev SZ (a0:Value) (a1:Value) (A:AW) (x3:Value):Prop:=Ab (Bj Tp 9 a1 (.int .i64 0)) fun t900=>Ab (Bj Tp 9 a1 (.int .i64 1)) fun t901=>Ab (Bn Tp A 9 a0) fun t902=>Ab (Ag Tp .sub 3 (.tmp 53) (.tmp 54) t902 x3) fun t904=>kW .add 3 55 (.int .i64 1) t904 fun t905=>AZ (Xb 1) (Xb 1) (S 1 [a0,a1,x3,t900,t901,(.int .i64 0),t905,(.int .i64 0)] A)
theorem YO (a0 a1:Value) (A:AW):gE W0 m0 S Q 109 143 Xb Abn [a0,a1] A=(Ab (Bn Tp A 9 a1) fun t0=>kW .eql 3 17 (.int .i64 0) t0 fun t1=>Ae t1 (Q (.int .i64 0) A) (Ab (Ag Tp .eql 9 (.tmp 20) (.tmp 21) a1 a0) fun t2=>Ae t2 (Q (.int .i64 0) A) (kW .eql 3 25 (.int .i64 1) t0 fun t3=>Ae t3 (Ab (Bj Tp 9 a1 (.int .i64 0)) fun t4=>cW W0 m0 52 [a0,t4] A fun t5 At5=>Q t5 At5) (Ab (Bn Tp A 9 a0) fun t6=>Ab (Ag Tp .geq 3 (.tmp 32) (.tmp 34) t0 t6) fun t7=>Ae t7 (Q (.int .i64 (-1)) A) (Ab (At Tp A 3 (pP 0 0)) fun t8=>Ab (Ag Tp .leq 3 (.tmp 37) (.tmp 38) t0 t8) fun t9=>Ae t9 (Ab (Bn Tp A 9 a0) fun t10=>kW .leq 3 42 (.int .i64 64) t10 fun t11=>Ae t11 (anW Tp Aw W0 m0 (B4 Tp Aw A 122 [a0,a1]) fun t12 At12=>Q t12 At12) (SZ S a0 a1 A t0)) (SZ S a0 a1 A t0)))))):=by kernel_rfl
theorem Ab9:Wf2 109 143 Xb Abn:=wf2 (fun _ _=>by kernel_rfl) (by decide) fun _ _=>rfl
theorem VT (a0 a1 a2:Value) (A:AW):gE W0 m0 S Q 110 26 Tz Lz [a0,a1,a2] A=(knW Tp W0 m0 125 [a0,a1,a2] A fun t0 At0=>xW t0 0 fun t1=>xW t0 1 fun t2=>Ab (Ag Tp .neq 72 (.tmp 17) (.const .nilIface) t2 .nilIface) fun t3=>Ae t3 (cW W0 m0 113 [(.string ⟨⟨[80,97,114,115,101,85,105,110,116]⟩⟩),a0,a1,a2,t2] At0 fun t4 At4=>Q (.tuple ⟨[t1,t4]⟩) At4) (Q (.tuple ⟨[t1,.nilIface]⟩) At0)):=by kernel_rfl
theorem Ab8:Wf3 110 26 Tz Lz:=wf3 (fun _ _ _=>by kernel_rfl) (by decide) fun _ _ _=>rfl
noncomputable def E0:Nat→List Item:=fun i=>match i with
 | 0=>[(.code (cd 111 [1,1,1,0,1,0,0])),(.inLoop (cd 111 [1,1,1,0,1,0,0])),(.inBlock 0),(.code (cd 111 [1,1,1,1]))]
 | _=>[]
def Wk:Nat→List Tmp:=fun i=>match i with
 | 0=>[4,5,10]
 | _=>[]
theorem AcP (a0:Value) (A:AW):gE W0 m0 S Q 111 52 E0 Wk [a0] A=(anW Tp Aw W0 m0 (J5 Tp A 9 a0) fun t0 At0=>AZ (E0 0) (E0 0) (S 0 [(.slice none 0 0),(.int .i64 (-1)),t0] At0)):=by kernel_rfl
abbrev Oy (x0:Value) (X4:AW) (x9:Value) (x11:Value) (x12:Value):Prop:=kW .geq 21 25 (.int .i32 97) x0 fun t901=>Ae t901 (kW .leq 21 28 (.int .i32 102) x0 fun t902=>Ae t902 (kW .sub 21 31 (.int .i32 97) x0 fun t903=>Al (Au Tp X4 21 3 t903) fun t905 At906=>kW .add 3 33 (.int .i64 10) t905 fun t907=>kW .lss 3 35 (.int .i64 0) t907 fun t908=>Ae t908 (Q (.tuple ⟨[(.string ⟨⟨[]⟩⟩),(.bool false)]⟩) At906) (Ab (Ag Tp .lss 3 (.tmp 37) (.const (.int .i64 0)) x9 (.int .i64 0)) fun t910=>Ae t910 (AZ (E0 0) (E0 0) (S 0 [x11,t907,x12] At906)) (Ab (Ag Tp .shl 3 (.tmp 41) (.const (.int .u64 4)) x9 (.int .u64 4)) fun t913=>Ab (Ag Tp .or 3 (.tmp 42) (.tmp 43) t913 t907) fun t914=>Al (Au Tp At906 3 5 t914) fun t915 At916=>Al (Ar Tp At916 33 1 [(0,t915)]) fun t917 At918=>Al (Bf Tp At918 33 33 x11 t917) fun t919 At920=>AZ (E0 0) (E0 0) (S 0 [t919,(.int .i64 (-1)),x12] At920)))) (Ab (Ag Tp .lss 3 (.tmp 35) (.const (.int .i64 0)) (.int .i64 (-1)) (.int .i64 0)) fun t921=>Ae t921 (Q (.tuple ⟨[(.string ⟨⟨[]⟩⟩),(.bool false)]⟩) X4) (Ab (Ag Tp .lss 3 (.tmp 37) (.const (.int .i64 0)) x9 (.int .i64 0)) fun t922=>Ae t922 (AZ (E0 0) (E0 0) (S 0 [x11,(.int .i64 (-1)),x12] X4)) (Ab (Ag Tp .shl 3 (.tmp 41) (.const (.int .u64 4)) x9 (.int .u64 4)) fun t923=>Ab (Ag Tp .or 3 (.tmp 42) (.tmp 43) t923 (.int .i64 (-1))) fun t924=>Al (Au Tp X4 3 5 t924) fun t925 At926=>Al (Ar Tp At926 33 1 [(0,t925)]) fun t927 At928=>Al (Bf Tp At928 33 33 x11 t927) fun t929 At930=>AZ (E0 0) (E0 0) (S 0 [t929,(.int .i64 (-1)),x12] At930))))) (Ab (Ag Tp .lss 3 (.tmp 35) (.const (.int .i64 0)) (.int .i64 (-1)) (.int .i64 0)) fun t931=>Ae t931 (Q (.tuple ⟨[(.string ⟨⟨[]⟩⟩),(.bool false)]⟩) X4) (Ab (Ag Tp .lss 3 (.tmp 37) (.const (.int .i64 0)) x9 (.int .i64 0)) fun t932=>Ae t932 (AZ (E0 0) (E0 0) (S 0 [x11,(.int .i64 (-1)),x12] X4)) (Ab (Ag Tp .shl 3 (.tmp 41) (.const (.int .u64 4)) x9 (.int .u64 4)) fun t933=>Ab (Ag Tp .or 3 (.tmp 42) (.tmp 43) t933 (.int .i64 (-1))) fun t934=>Al (Au Tp X4 3 5 t934) fun t935 At936=>Al (Ar Tp At936 33 1 [(0,t935)]) fun t937 At938=>Al (Bf Tp At938 33 33 x11 t937) fun t939 At940=>AZ (E0 0) (E0 0) (S 0 [t939,(.int .i64 (-1)),x12] At940))))
theorem YG (d:Nat→Value) (A:AW):gL W0 m0 S Q 111 52 E0 Wk d 0 A=(anW Tp Aw W0 m0 (It A (d 10) true) fun t0 At0=>xW t0 0 fun t1=>Ae t1 (xW t0 2 fun t2=>kW .geq 21 15 (.int .i32 48) t2 fun t3=>Ae t3 (kW .leq 21 18 (.int .i32 57) t2 fun t4=>Ae t4 (kW .sub 21 21 (.int .i32 48) t2 fun t5=>Al (Au Tp At0 21 3 t5) fun t6 At6=>kW .lss 3 35 (.int .i64 0) t6 fun t7=>Ae t7 (Q (.tuple ⟨[(.string ⟨⟨[]⟩⟩),(.bool false)]⟩) At6) (Ab (Ag Tp .lss 3 (.tmp 37) (.const (.int .i64 0)) (d 5) (.int .i64 0)) fun t8=>Ae t8 (AZ (E0 0) (E0 0) (S 0 [(d 4),t6,(d 10)] At6)) (Ab (Ag Tp .shl 3 (.tmp 41) (.const (.int .u64 4)) (d 5) (.int .u64 4)) fun t9=>Ab (Ag Tp .or 3 (.tmp 42) (.tmp 43) t9 t6) fun t10=>Al (Au Tp At6 3 5 t10) fun t11 At11=>Al (Ar Tp At11 33 1 [(0,t11)]) fun t12 At12=>Al (Bf Tp At12 33 33 (d 4) t12) fun t13 At13=>AZ (E0 0) (E0 0) (S 0 [t13,(.int .i64 (-1)),(d 10)] At13)))) (Oy S Q t2 At0 (d 5) (d 4) (d 10))) (Oy S Q t2 At0 (d 5) (d 4) (d 10))) (Al (Au Tp At0 33 9 (d 4)) fun t66 At66=>Ab (Ag Tp .lss 3 (.tmp 50) (.const (.int .i64 0)) (d 5) (.int .i64 0)) fun t67=>Q (.tuple ⟨[t66,t67]⟩) At66)):=by kernel_rfl
theorem Ab7:Wf1 111 52 E0 Wk:=wf1 (fun _=>by kernel_rfl) (by decide) fun _=>rfl
theorem AcS:Es 111 52 E0 Wk:=EC (by decide)
theorem AcN (a0 a1:Value) (A:AW):gE W0 m0 S Q 114 13 Tz Lz [a0,a1] A=(cW W0 m0 131 [a0,a1] A fun t0 At0=>xW t0 0 fun t1=>xW t0 1 fun t2=>xW t0 2 fun t3=>Q (.tuple ⟨[t1,t2,t3]⟩) At0):=by kernel_rfl
theorem Ab5:Wf2 114 13 Tz Lz:=wf2 (fun _ _=>by kernel_rfl) (by decide) fun _ _=>rfl
noncomputable def Rq:Nat→List Item:=fun i=>match i with
 | 0=>[(.code (cd 115 [1,0,1,0,0])),(.inLoop (cd 115 [1,0,1,0,0])),(.inBlock 0),(.code (cd 115 [1,1]))]
 | _=>[]
def Wj:Nat→List Tmp:=fun i=>match i with
 | 0=>[0,1,7,8]
 | _=>[]
theorem YN (a0 a1:Value) (A:AW):gE W0 m0 S Q 115 19 Rq Wj [a0,a1] A=(Ab (Bn Tp A 56 a0) fun t0=>AZ (Rq 0) (Rq 0) (S 0 [a0,a1,t0,(.int .i64 0)] A)):=by kernel_rfl
theorem YF (d:Nat→Value) (A:AW):gL W0 m0 S Q 115 19 Rq Wj d 0 A=(Ab (Ag Tp .lss 3 (.tmp 8) (.tmp 7) (d 8) (d 7)) fun t0=>Ae t0 (Ab (Am Tp 56 (d 0) (d 8)) fun t1=>lW A 9 t1 fun t2=>Ab (Ag Tp .eql 9 (.tmp 11) (.tmp 15) (d 1) t2) fun t3=>Ae t3 (Q (d 8) A) (Ab (Ag Tp .add 3 (.tmp 8) (.const (.int .i64 1)) (d 8) (.int .i64 1)) fun t4=>AZ (Rq 0) (Rq 0) (S 0 [(d 0),(d 1),(d 7),t4] A))) (Q (.int .i64 (-1)) A)):=by kernel_rfl
theorem Ab4:Wf2 115 19 Rq Wj:=wf2 (fun _ _=>by kernel_rfl) (by decide) fun _ _=>rfl
theorem AcR:Es 115 19 Rq Wj:=EC (by decide)
theorem AcK (a0 a1:Value) (A:AW):gE W0 m0 S Q 131 23 Tz Lz [a0,a1] A=(cW W0 m0 109 [a0,a1] A fun t0 At0=>kW .geq 3 11 (.int .i64 0) t0 fun t1=>Ae t1 (Ab (Br Tp At0 9 a0 none (some t0) none) fun t2=>Ab (Bn Tp At0 9 a1) fun t3=>Ab (Ag Tp .add 3 (.tmp 17) (.tmp 19) t0 t3) fun t4=>Ab (Br Tp At0 9 a0 (some t4) none none) fun t5=>Ab (Br Tp At0 9 a0 (some t4) none none) fun t6=>eqW t6 t5 (Ab (Ag Tp .add 3 (.tmp 17) (.tmp 19) t0 t3) fun t7=>eqW t7 t4 (Ab (Bn Tp At0 9 a1) fun t8=>eqW t8 t3 (eqW a1 a1 (eqW t0 t0 (eqW a0 a0 (Q (.tuple ⟨[t2,t5,(.bool true)]⟩) At0))))))) (Q (.tuple ⟨[a0,(.string ⟨⟨[]⟩⟩),(.bool false)]⟩) At0)):=by kernel_rfl
theorem Ab1:Wf2 131 23 Tz Lz:=wf2 (fun _ _=>by kernel_rfl) (by decide) fun _ _=>rfl
theorem AcO (a0 a1 a2 a3 a4:Value) (A:AW):gE W0 m0 S Q 113 43 Tz Lz [a0,a1,a2,a3,a4] A=(Ab (EO Tp 164 (.int .i64 2)) fun t0=>Ab (Ag Tp .eql 72 (.tmp 11) (.tmp 13) a4 t0) fun t1=>Ae t1 (cW W0 m0 127 [a0,a1] A fun t2 At2=>Ab (EO Tp 167 t2) fun t3=>Q t3 At2) (Ab (EO Tp 164 (.int .i64 1)) fun t4=>Ab (Ag Tp .eql 72 (.tmp 11) (.tmp 20) a4 t4) fun t5=>Ae t5 (cW W0 m0 128 [a0,a1] A fun t6 At6=>Ab (EO Tp 167 t6) fun t7=>Q t7 At6) (Ab (EO Tp 164 (.int .i64 3)) fun t8=>Ab (Ag Tp .eql 72 (.tmp 11) (.tmp 27) a4 t8) fun t9=>Ae t9 (cW W0 m0 129 [a0,a1,a2] A fun t10 At10=>Ab (EO Tp 167 t10) fun t11=>Q t11 At10) (Ab (EO Tp 164 (.int .i64 4)) fun t12=>Ab (Ag Tp .eql 72 (.tmp 11) (.tmp 35) a4 t12) fun t13=>Ae t13 (cW W0 m0 130 [a0,a1,a3] A fun t14 At14=>Ab (EO Tp 167 t14) fun t15=>Q t15 At14) (Q a4 A))))):=by kernel_rfl
theorem Ab6:Wf5 113 43 Tz Lz:=wf5 (fun _ _ _ _ _=>by kernel_rfl) (by decide) fun _ _ _ _ _=>rfl
end
def puR:Go.Shelf.Ren:=⟨fun | 287=>125 | 321=>138 | 322=>139 | x=>x,fun | 37=>33 | 46=>74 | 53=>35 | 75=>72 | 80=>78 | 167=>164 | x=>x,fun x=>x⟩
theorem puX:Go.Proofs.Lays.n287 Tp puR where
 mixed:=by kernel_rfl
 f287:=Tryz.func125.trans (congrArg some (by kernel_rfl))
 f321:=Tryz.func138.trans (congrArg some (by kernel_rfl))
 f322:=Tryz.func139.trans (congrArg some (by kernel_rfl))
 t0:=Tryz.underlying0
 a0:=Tryz.isAgg0
 z0:=Tryz.sizeOf0
 v0:=Tryz.zeroValue0
 t3:=Tryz.underlying3
 a3:=Tryz.isAgg3
 z3:=Tryz.sizeOf3
 v3:=Tryz.zeroValue3
 t4:=Tryz.underlying4
 a4:=Tryz.isAgg4
 z4:=Tryz.sizeOf4
 v4:=Tryz.zeroValue4
 t5:=Tryz.underlying5
 a5:=Tryz.isAgg5
 z5:=Tryz.sizeOf5
 v5:=Tryz.zeroValue5
 t9:=Tryz.underlying9
 a9:=Tryz.isAgg9
 z9:=Tryz.sizeOf9
 v9:=Tryz.zeroValue9
 t21:=Tryz.underlying21
 a21:=Tryz.isAgg21
 z21:=Tryz.sizeOf21
 v21:=Tryz.zeroValue21
 t37:=Tryz.underlying33
 a37:=Tryz.isAgg33
 z37:=Tryz.sizeOf33
 v37:=Tryz.zeroValue33
 t46:=Tryz.underlying74
 a46:=Tryz.isAgg74
 z46:=Tryz.sizeOf74
 v46:=Tryz.zeroValue74
 t53:=Tryz.underlying35
 a53:=Tryz.isAgg35
 z53:=Tryz.sizeOf35
 v53:=Tryz.zeroValue35
 t75:=Tryz.underlying72
 a75:=Tryz.isAgg72
 z75:=Tryz.sizeOf72
 v75:=Tryz.zeroValue72
 t167:=Tryz.underlying164
 a167:=Tryz.isAgg164
 z167:=Tryz.sizeOf164
 v167:=Tryz.zeroValue164
def atR:Go.Shelf.Ren:=⟨fun | 244=>112 | 247=>126 | 287=>125 | 321=>138 | 322=>139 | x=>x,fun | 37=>33 | 46=>74 | 53=>35 | 75=>72 | 80=>78 | 85=>165 | 167=>164 | 175=>151 | x=>x,fun x=>x⟩
theorem atX:Go.Proofs.LaysC.n244 Tp atR where
 mixed:=by kernel_rfl
 f244:=Tryz.func112.trans (congrArg some (by kernel_rfl))
 f247:=Tryz.func126.trans (congrArg some (by kernel_rfl))
 f287:=Tryz.func125.trans (congrArg some (by kernel_rfl))
 f321:=Tryz.func138.trans (congrArg some (by kernel_rfl))
 f322:=Tryz.func139.trans (congrArg some (by kernel_rfl))
 t0:=Tryz.underlying0
 a0:=Tryz.isAgg0
 z0:=Tryz.sizeOf0
 v0:=Tryz.zeroValue0
 t2:=Tryz.underlying2
 a2:=Tryz.isAgg2
 z2:=Tryz.sizeOf2
 v2:=Tryz.zeroValue2
 t3:=Tryz.underlying3
 a3:=Tryz.isAgg3
 z3:=Tryz.sizeOf3
 v3:=Tryz.zeroValue3
 t4:=Tryz.underlying4
 a4:=Tryz.isAgg4
 z4:=Tryz.sizeOf4
 v4:=Tryz.zeroValue4
 t5:=Tryz.underlying5
 a5:=Tryz.isAgg5
 z5:=Tryz.sizeOf5
 v5:=Tryz.zeroValue5
 t9:=Tryz.underlying9
 a9:=Tryz.isAgg9
 z9:=Tryz.sizeOf9
 v9:=Tryz.zeroValue9
 t21:=Tryz.underlying21
 a21:=Tryz.isAgg21
 z21:=Tryz.sizeOf21
 v21:=Tryz.zeroValue21
 t37:=Tryz.underlying33
 a37:=Tryz.isAgg33
 z37:=Tryz.sizeOf33
 v37:=Tryz.zeroValue33
 t46:=Tryz.underlying74
 a46:=Tryz.isAgg74
 z46:=Tryz.sizeOf74
 v46:=Tryz.zeroValue74
 t53:=Tryz.underlying35
 a53:=Tryz.isAgg35
 z53:=Tryz.sizeOf35
 v53:=Tryz.zeroValue35
 t75:=Tryz.underlying72
 a75:=Tryz.isAgg72
 z75:=Tryz.sizeOf72
 v75:=Tryz.zeroValue72
 t85:=Tryz.underlying165
 a85:=Tryz.isAgg165
 z85:=Tryz.sizeOf165
 v85:=Tryz.zeroValue165
 t167:=Tryz.underlying164
 a167:=Tryz.isAgg164
 z167:=Tryz.sizeOf164
 v167:=Tryz.zeroValue164
 t175:=Tryz.underlying151
 a175:=Tryz.isAgg151
 z175:=Tryz.sizeOf151
 v175:=Tryz.zeroValue151
 t80:=Tryz.underlying78
 a80:=Tryz.isAgg78
 z80:=Tryz.sizeOf78
 v80:=Tryz.zeroValue78
 i0:=by kernel_rfl
 i2:=by kernel_rfl
 i3:=by kernel_rfl
 i4:=by kernel_rfl
 i5:=by kernel_rfl
 i9:=by kernel_rfl
 i21:=by kernel_rfl
 i37:=by kernel_rfl
 i46:=by kernel_rfl
 i53:=by kernel_rfl
 i75:=by kernel_rfl
 i80:=by kernel_rfl
 i85:=by kernel_rfl
 i167:=by kernel_rfl
 i175:=by kernel_rfl
 c0:=by kernel_rfl
 c2:=by kernel_rfl
 c3:=by kernel_rfl
 c4:=by kernel_rfl
 c5:=by kernel_rfl
 c9:=by kernel_rfl
 c21:=by kernel_rfl
 c37:=by kernel_rfl
 c46:=by kernel_rfl
 c53:=by kernel_rfl
 c75:=by kernel_rfl
 c80:=by kernel_rfl
 c85:=by kernel_rfl
 c167:=by kernel_rfl
 c175:=by kernel_rfl
def UW (M:Nat) (w:Word) (n:Nat) (bad:Bool):Prop:=n≤M∧∀ m,m≤M→w=Lib.decDigits m→n=m∧bad=false
theorem OB (M:Nat):∀ (l r:List UInt8) (acc a:Nat),Lib.parseUintM M acc l=.ok a→Lib.parseUintM M acc (l++r)=Lib.parseUintM M a r
 | [],r,acc,a,h=>by
  simp only [Lib.parseUintM] at h
  cases h
  rfl
 | c::l,r,acc,a,h=>by
  simp only [List.cons_append,Lib.parseUintM] at h ⊢
  split at h
  ·rename_i h1
   rw [if_pos h1]
   split at h
   ·cases h
   ·rename_i h2
    rw [Ff h2]
    split at h
    ·cases h
    ·rename_i h3
     rw [Ff h3]
     exact OB M l r _ a h
  ·cases h
theorem Jp (M:Nat) (hM:M < 18446744073709551616) (m:Nat) (hm:m≤M):Lib.parseUintM M 0 (Lib.decDigits m)=.ok m:=by
 induction m using Nat.strongRecOn with
 | ind m ih=>
  by_cases h:m < 10
  ·rw [Ek h]
   have h1:(UInt8.ofNat (48+m)).toNat=48+m:=by rw [UInt8.toNat_ofNat'];omega
   simp only [Lib.parseUintM,h1]
   rw [if_pos ⟨by omega,by omega⟩,Ff (by omega),Ff (by omega)]
   congr 1;omega
  ·rw [EX h,OB M _ _ 0 (m / 10) (ih (m / 10) (by omega) (by omega))]
   have h1:(UInt8.ofNat (48+m % 10)).toNat=48+m % 10:=by rw [UInt8.toNat_ofNat'];omega
   simp only [Lib.parseUintM,h1]
   rw [if_pos ⟨by omega,by omega⟩,Ff (by omega),Ff (by omega)]
   congr 1;omega
theorem QF (M:Nat):∀ (l:List UInt8) (acc n:Nat),acc≤M→Lib.parseUintM M acc l=.ok n→n≤M
 | [],acc,n,h0,h=>by
  simp only [Lib.parseUintM] at h
  cases h;exact h0
 | c::l,acc,n,h0,h=>by
  simp only [Lib.parseUintM] at h
  split at h
  ·split at h
   ·cases h
   ·split at h
    ·cases h
    ·exact QF M l _ n (by omega) h
  ·cases h
def Yv (n:Nat) (er:Value):Value:=.tuple #[.int .u64 (n:Int),er]
def Wo (er:Value) (bad:Bool):Prop:=(bad=false∧er=.nilIface)∨(bad=true∧∃ c:Int,(c=1∨c=2)∧er=.iface 164 (.int .i64 c))
theorem Px (w:World) (t:ByteArray):Low w (Lib.bytesWorld w 5 t):=by
 refine ⟨⟨rfl,rfl,rfl,by rw [Lib.bytesWorld_size];omega,fun k hk=>Lib.bytesWorld_at_old w 5 t k (by omega)⟩,?_⟩
 simp [Lib.bytesWorld,World.freeze,World.alloc,World.drew,-World.alloc_eq,-World.drew_eq]
theorem QL (w:World):Low w w:=⟨⟨rfl,rfl,rfl,Nl _,fun _ _=>rfl⟩,Nl _⟩
section
variable {W0:World} {m0:Inj Tp}
theorem M3 (M:Nat) (e:Lib.NumEnd Nat) (w:Word) (he:e=Lib.parseUintM M 0 w) (hM:M < 18446744073709551616):∃ n er bad,Lib.uintTupleM 164 (M:Int) e=Yv n er∧Wo er bad∧UW M w n bad:=by
 cases hp:e
 case ok n=>exact ⟨n,.nilIface,false,rfl,.inl ⟨rfl,rfl⟩,QF M w 0 n (Nat.zero_le _) (he.symm.trans hp),fun m hm hw=>by
   rw [hw,Jp M hM m hm] at he
   rw [he] at hp;cases hp
   exact ⟨rfl,rfl⟩⟩
 case range=>exact ⟨M,_,true,rfl,.inr ⟨rfl,1,.inl rfl,rfl⟩,Nl _,fun m hm hw=>by
   rw [hw,Jp M hM m hm] at he
   rw [he] at hp;cases hp⟩
 exact ⟨0,_,true,rfl,.inr ⟨rfl,2,.inr rfl,rfl⟩,Nat.zero_le _,fun m hm hw=>by
   rw [hw,Jp M hM m hm] at he
   rw [he] at hp;cases hp⟩
theorem Le:∀ (l:List UInt8) (acc:Nat),Lib.parseUint10 acc l=Lib.parseUintM 18446744073709551615 acc l
 | [],acc=>rfl
 | c::l,acc=>by
  simp only [Lib.parseUint10,Lib.parseUintM]
  have h:(18446744073709551616≤acc * 10+(c.toNat - 48))=(18446744073709551615 < acc * 10+(c.toNat - 48)):=rfl
  simp only [h,Le l]
def R3 (bits:Int):Nat:=if bits=8 then 255 else if bits=32 then 4294967295 else 18446744073709551615
theorem AaR (s:ByteArray) {bits:Int} (hb:bits=8∨bits=32∨bits=64) (hs:(bl s).length < 100000000):∃ n er bad,KC.Holds Tp W0 m0 ⟨125,[.string s,.int .i64 10,.int .i64 bits],[Yv n er]⟩∧Wo er bad∧UW (R3 bits) (bl s) n bad:=by
 have hsz:s.size=(bl s).length:=Lib.size_eq s
 have key:∀ (v:Value),(∀ W,Calls Tp 125 #[.string s,.int .i64 10,.int .i64 bits] W fun e W'=>e=.returned v∧Low W W')→KC.Holds Tp W0 m0 ⟨125,[.string s,.int .i64 10,.int .i64 bits],[v]⟩:=fun v hv=>by
  refine ⟨fun h=>absurd h (show (125:Nat)≠J2 by decide),fun _ m args' W _ _ ha=>?_⟩
  cases ha with
  | cons h1 h2=>
   cases h2 with
   | cons h3 h4=>
    cases h4 with
    | cons h5 h6=>
     cases h6;cases h1;cases h3;cases h5
     exact (hv W).mono fun e W' ⟨he,hl⟩=>⟨v,Ms.2 rfl,he,hl⟩
 by_cases h0:bl s=[]
 ·refine ⟨0,.iface 164 (.int .i64 2),true,key _ fun W=>?_,.inr ⟨rfl,2,.inr rfl,rfl⟩,Nat.zero_le _,fun m hm hw=>?_⟩
  ·have e:s=⟨#[]⟩:=by
    obtain ⟨⟨l⟩⟩:=s
    have h0:l=[]:=h0
    rw [h0]
   subst e
   exact (Any.internal_strconv_ParseUint_empty puX 10 bits W).mono fun e W' ⟨he,hw⟩=>⟨he,hw▸QL W⟩
  ·rw [h0] at hw
   have:=congrArg List.length hw
   rw [Lib.decDigits_length] at this
   rcases Nat.eq_zero_or_pos m with rfl | hp
   ·rw [Ek (by decide)] at hw;cases hw
   ·rw [← Lib.decDigits_length,← hw] at this
    by_cases h10:m < 10
    ·rw [Ek h10] at hw;cases hw
    ·rw [EX h10] at hw;simp at hw
 ·have hne:s.size≠0:=by rw [hsz];exact fun h=>h0 (List.eq_nil_of_length_eq_zero h)
  have hmax:s.size≤9223372036854775806:=by omega
  rcases hb with rfl | rfl | rfl
  ·obtain ⟨n,er,bad,e,h1,h2⟩:=M3 255 _ (bl s) rfl (by decide)
   refine ⟨n,er,bad,key _ fun W=>?_,h1,h2⟩
   exact (Any.internal_strconv_ParseUint_10_b8 puX s hne hmax W).mono fun e' W' ⟨he,hw⟩=>⟨by rw [he];exact congrArg _ e,hw▸Px W s⟩
  ·obtain ⟨n,er,bad,e,h1,h2⟩:=M3 4294967295 _ (bl s) rfl (by decide)
   refine ⟨n,er,bad,key _ fun W=>?_,h1,h2⟩
   exact (Any.internal_strconv_ParseUint_10_b32 puX s hne hmax W).mono fun e' W' ⟨he,hw⟩=>⟨by rw [he];exact congrArg _ e,hw▸Px W s⟩
  ·obtain ⟨n,er,bad,e,h1,h2⟩:=M3 18446744073709551615 _ (bl s) rfl (by decide)
   refine ⟨n,er,bad,key _ fun W=>?_,h1,h2⟩
   exact (Any.internal_strconv_ParseUint_10_b64 puX s hne hmax W).mono fun e' W' ⟨he,hw⟩=>⟨by rw [he,Lib.uintTuple_eq,Le];exact congrArg _ e,hw▸Px W s⟩
end
def Mx (n:Int):Prop:= -9223372036854775808≤n∧n≤9223372036854775807
def IW (w:Word) (n:Int) (bad:Bool):Prop:=Mx n∧∀ m:Int,Mx m→w=Lib.itoa m→n=m∧bad=false
theorem NH (m:Nat):∃ c r,Lib.decDigits m=c::r∧48≤c.toNat∧c.toNat≤57:=by
 induction m using Nat.strongRecOn with
 | ind m ih=>
  by_cases h:m < 10
  ·rw [Ek h]
   have h1:(UInt8.ofNat (48+m)).toNat=48+m:=by rw [UInt8.toNat_ofNat'];omega
   exact ⟨_,_,rfl,by omega,by omega⟩
  ·rw [EX h]
   obtain ⟨c,r,e,h1,h2⟩:=ih (m / 10) (by omega)
   exact ⟨c,r++[UInt8.ofNat (48+m % 10)],by rw [e];rfl,h1,h2⟩
theorem S9 {m:Nat} (hm:m < 18446744073709551616):Lib.parseMag (Lib.decDigits m)=.ok m:=by
 obtain ⟨c,r,e,_,_⟩:=NH m
 unfold Lib.parseMag
 rw [Ff (by rw [e];simp),Le,Jp _ (by decide) m (by omega)]
theorem LG {m:Int} (hm:Mx m):Lib.atoiAll (Lib.itoa m)=.ok m:=by
 obtain ⟨h0,h1⟩:=hm
 rcases Int.lt_or_le m 0 with h | h
 ·obtain ⟨u,hu⟩:∃ u:Nat,m= -(u:Int):=⟨(-m).toNat,by omega⟩
  subst hu
  rw [Lib.itoa_neg _ (by omega)]
  have e:(45:UInt8).toNat=45:=rfl
  simp only [Lib.atoiAll,e,or_true,if_true,S9 (show u < 18446744073709551616 by omega)]
  rw [Ff (by simp),Ff (by omega)]
 ·obtain ⟨u,rfl⟩:∃ u:Nat,m=(u:Int):=⟨m.toNat,by omega⟩
  rw [Lib.itoa_nonneg]
  obtain ⟨c,r,e,h2,h3⟩:=NH u
  have hm:=S9 (show u < 18446744073709551616 by omega)
  rw [e] at hm ⊢
  simp only [Lib.atoiAll]
  rw [Ff (by omega),hm]
  simp only
  rw [Ff (by omega),Ff (by omega),Ff (by omega)]
theorem W5 {l:Word} {n:Int} (h:Lib.atoiAll l=.ok n):Mx n:=by
 match l with
 | []=>cases h
 | c::r=>
  cases hp:Lib.parseMag (if c.toNat=43∨c.toNat=45 then r else c::r)
  case range=>simp only [Lib.atoiAll,hp] at h;cases h
  case ok u=>
   simp only [Lib.atoiAll,hp] at h
   split at h
   ·cases h
   ·rename_i h1
    split at h
    ·cases h
    ·rename_i h2
     cases h
     show _∧_
     split
     ·rename_i h3
      have:¬ (9223372036854775808 < u):=fun h4=>h2 ⟨h3,h4⟩
      omega
     ·rename_i h3
      have:¬ (9223372036854775808≤u):=fun h4=>h1 ⟨h3,h4⟩
      omega
  simp only [Lib.atoiAll,hp] at h;cases h
theorem Ym (l:Word):Mx (Lib.atoiSat l):=by
 unfold Lib.atoiSat
 split <;> exact ⟨by decide,by decide⟩
def Ry (n:Int) (er:Value):Value:=.tuple #[.int .i64 n,er]
section
variable {W0:World} {m0:Inj Tp}
theorem Wa (w:Word):∃ n er bad,Lib.intTuple 164 (Lib.atoiSat w) (Lib.atoiAll w)=Ry n er∧Wo er bad∧IW w n bad:=by
 cases hp:Lib.atoiAll w
 case ok n=>exact ⟨n,.nilIface,false,rfl,.inl ⟨rfl,rfl⟩,W5 hp,fun m hm hw=>by
   rw [hw,LG hm] at hp;cases hp
   exact ⟨rfl,rfl⟩⟩
 case range=>exact ⟨_,_,true,rfl,.inr ⟨rfl,1,.inl rfl,rfl⟩,Ym w,fun m hm hw=>by
   rw [hw,LG hm] at hp;cases hp⟩
 exact ⟨0,_,true,rfl,.inr ⟨rfl,2,.inr rfl,rfl⟩,⟨by decide,by decide⟩,fun m hm hw=>by
   rw [hw,LG hm] at hp;cases hp⟩
theorem AaS (s:ByteArray) (hs:(bl s).length < 100000000):∃ n er bad,KC.Holds Tp W0 m0 ⟨112,[.string s],[Ry n er]⟩∧Wo er bad∧IW (bl s) n bad:=by
 have hsz:s.size=(bl s).length:=Lib.size_eq s
 obtain ⟨n,er,bad,e,h1,h2⟩:=Wa (bl s)
 refine ⟨n,er,bad,⟨fun h=>absurd h (show (112:Nat)≠J2 by decide),fun _ m args' W _ _ ha=>?_⟩,h1,h2⟩
 cases ha with
 | cons h3 h4=>
  cases h4;cases h3
  refine (Any.internal_strconv_Atoi_all atX s (by omega) W).mono fun e' W' ⟨he,hw⟩=>⟨_,Ms.2 rfl,by rw [he];exact congrArg _ e,?_⟩
  rcases hw with rfl | ⟨t,rfl⟩
  ·exact QL _
  ·exact Px _ t
end
section
variable (W0:World) (m0:Inj Tp) (S:Nat→List Value→AW→Prop) (Q:Value→AW→Prop)
theorem AcM (a0 a1:Value) (A:AW):gE W0 m0 S Q 127 11 Tz Lz [a0,a1] A=(Ab (At Tp A 72 (pP 4 0)) fun t0=>cW W0 m0 140 [a1] A fun t1 At1=>Ab (At Tp At1 72 (pP 4 0)) fun t2=>eqW t2 t0 (eqW a0 a0 (Ab (Bo Tp 182 [(0,a0),(1,t1),(2,t0)]) fun t3=>Al (Fc At1 (Value.cells t3).toList 182) fun t4 At4=>Bz (AR Tp (fun _=>t3) (.box 182 (.tmp 0))) At4 t4 (Ab (Bo Tp 182 [(0,a0),(1,t1),(2,t0)]) fun t5=>eqW t5 t3 (Ab (At Tp At4 72 (pP 4 0)) fun t6=>eqW t6 t0 (eqW a1 a1 (eqW a0 a0 (Q t4 At4)))))))):=by kernel_rfl
theorem Ab3:Wf2 127 11 Tz Lz:=wf2 (fun _ _=>by kernel_rfl) (by decide) fun _ _=>rfl
theorem AcL (a0 a1:Value) (A:AW):gE W0 m0 S Q 128 11 Tz Lz [a0,a1] A=(Ab (At Tp A 72 (pP 5 0)) fun t0=>cW W0 m0 140 [a1] A fun t1 At1=>Ab (At Tp At1 72 (pP 5 0)) fun t2=>eqW t2 t0 (eqW a0 a0 (Ab (Bo Tp 182 [(0,a0),(1,t1),(2,t0)]) fun t3=>Al (Fc At1 (Value.cells t3).toList 182) fun t4 At4=>Bz (AR Tp (fun _=>t3) (.box 182 (.tmp 0))) At4 t4 (Ab (Bo Tp 182 [(0,a0),(1,t1),(2,t0)]) fun t5=>eqW t5 t3 (Ab (At Tp At4 72 (pP 5 0)) fun t6=>eqW t6 t0 (eqW a1 a1 (eqW a0 a0 (Q t4 At4)))))))):=by kernel_rfl
theorem Ab2:Wf2 128 11 Tz Lz:=wf2 (fun _ _=>by kernel_rfl) (by decide) fun _ _=>rfl
theorem AcJ (a0:Value) (A:AW):gE W0 m0 S Q 140 18 Tz Lz [a0] A=(Ab (Bn Tp A 9 a0) fun t0=>kW .eql 3 5 (.int .i64 0) t0 fun t1=>Ae t1 (Q (.string ⟨⟨[]⟩⟩) A) (Ab (Bn Tp A 9 a0) fun t2=>Al (Cu Tp A 33 t2 t2) fun t3 At3=>Al (Iy Tp At3 33 t3 a0) fun t4 At4=>Ab (Am Tp 33 t3 (.int .i64 0)) fun t5=>Ab (Bn Tp At4 33 t3) fun t6=>anW Tp Aw W0 m0 (Cn Tp At4 .unsafeString [107,3] 9 [t5,t6]) fun t7 At7=>Q t7 At7)):=by kernel_rfl
theorem Ab0:Wf1 140 18 Tz Lz:=wf1 (fun _=>by kernel_rfl) (by decide) fun _=>rfl
end
section
variable {W0:World} {m0:Inj Tp}
theorem W2 {A:AW} {b n dc:Nat} {cs:List Value} {s:ByteArray} {K:Value→AW→Prop} (hd:Go.Abs.AD A b cs 5) (hf:AH A) (hA:A.next≤Ap) (hn:n=s.data.toList.length) (hcs:s.data.toList.length=cs.length)
  (hk:∀ A' v,Go.Abs.AD A' b (AM s.data.toList) 5→Ay A A' [b]→A'.next=A.next→AH A'→K v A'):Al (Iy Tp A 33 (.slice (some ⟨b,0,none⟩) n dc) (.string s)) K:=by
 have hlt:=hd.lt
 obtain ⟨A',h1,w⟩:=Ee (new:=AM s.data.toList) (off:=0) hd.row hd.mem (by rw [Bk];omega) (Ha _) (by omega)
 have hc:GD A 1 (least s.data.toList.length n) (.string s)=some (AM s.data.toList):=by
  rw [hn,OO,Nat.min_self]
  show some ((s.data.toList.take s.data.toList.length).map _)=_
  rw [List.take_length]
  rfl
 have e:Iy Tp A 33 (.slice (some ⟨b,0,none⟩) n dc) (.string s)=.ok (.int .i64 (least s.data.toList.length n:Nat)) A':=by
  unfold Iy
  simp only [DN.sl,DN.sz,show Ng (.string s)=some s.data.toList.length from rfl,hc,h1]
 rw [e]
 have hw:IA cs 0 (AM s.data.toList)=AM s.data.toList:=by
  have:=HI [] cs (AM s.data.toList) [] (by rw [Bk];omega)
  simpa using this
 have hr:=w.row
 rw [hw] at hr
 exact Bg.2 (hk A' _ ⟨hr,by rw [w.mem];exact hd.mem,by rw [w.next];exact hd.lt⟩ (w.keeps hd.row) w.next (w.Az hf hd.row))
theorem Xe {s:ByteArray} {A:AW} {K:Value→AW→Prop} (hl:(bl s).length < 100000000) (hf:AH A) (hA:A.next+5 < Ap) (hk:∀ A',Grow A A' 1→K (.string s) A'):Wc Tp Aw W0 m0 140 [.string s] A K:=by
 have hroom:room=68719476736:=rfl
 have hl:s.data.toList.length < 100000000:=hl
 refine Ab0 _ _ (AA (S:=fun _ _ _=>False) fun _ _ _ h=>h) ?_
 rw [AcJ]
 refine Aa (Ef _ _) (Aa Ai (Af.2 ⟨fun h=>?_,fun h=>?_⟩))
 ·have e:s=⟨⟨[]⟩⟩:=ED (List.eq_nil_of_length_eq_zero (by omega))
  rw [e] at hk
  exact hk A ((Grow.refl hf).more (by omega))
 ·obtain ⟨n,hn⟩:∃ n,s.data.toList.length=n+1:=⟨s.data.toList.length - 1,by omega⟩
  refine Aa (Ef _ _) ?_
  refine TY DN hf (by omega) (Nl _) (by omega) fun A1 m1=>?_
  have n1:=m1.next
  refine W2 m1.BU m1.Az (by omega) rfl (by simp) fun A2 v r2 k2 n2 f2=>?_
  have ix:Am Tp 33 (.slice (some ⟨A.next,0,none⟩) s.data.toList.length s.data.toList.length) (.int .i64 0)=some (pP A.next 0):=by
   have:=XD A.next 0 s.data.toList.length s.data.toList.length 0 .i64
   rw [AE.2 (by omega),Ct] at this
   exact this
  refine Aa ix (Aa (JJ _ _ _ _) ?_)
  have hc:A2.cells? ⟨A.next,0,none⟩ (n+1)=some (AM s.data.toList):=by
   rw [CI r2.row,List.drop_zero]
   have:=CS (AM s.data.toList) [] (FG _)
   rw [List.append_nil,Bk,hn] at this
   exact this
  rw [hn]
  refine .inl ⟨_,_,Yb hc r2.row (by omega),?_⟩
  obtain ⟨a1,a2,a3⟩:=frozen (f:=A.next) f2 (fun i hi=>by
   have:=r2.mem
   rw [this] at hi
   rw [Ms.1 hi]
   exact ⟨r2.lt,_,_,_,_,r2.row⟩) (by omega)
  refine hk _ ⟨((m1.keeps hf).trans k2 fun x hx=>.inr (by rw [Ms.1 hx];exact Nl _)).trans a1 fun x hx=>.inr (by rw [Ms.1 hx];exact Nl _),a3,by omega⟩
end
theorem Fy (l:List UInt8):(AV l).length≤3 * l.length+1:=by
 unfold AV
 split
 ·simp
 ·have:=I4 l;omega
theorem ck {r:Option Value} {v:Value} {p:Prop} (h:r=some v) (hp:p):Ab r fun t=>eqW t v p:=⟨v,h,rfl,hp⟩
theorem ckb {r:R Value} {v:Value} {A:AW} {p:Prop} (h:r=.ok v A) (hp:p):Al r fun t _=>eqW t v p:=⟨v,A,h,rfl,hp⟩
theorem Co {r:R Value} {v:Value} {A:AW} {K:Value→AW→Prop} (h:r=.ok v A) (hk:K v A):Al r K:=⟨v,A,h,hk⟩
theorem Abk {x y:ByteArray} (h:(bl x).length+(bl y).length < 1099511627776):∃ S:ByteArray,bl S=bl x++bl y∧∀ xo yo,Ag Tp .add 9 xo yo (.string x) (.string y)=some (.string S):=
 ⟨⟨⟨bl x++bl y⟩⟩,rfl,fun _ _=>ID h⟩
theorem Tb {n:Int} (h0: -9223372036854775808≤n) (h1:n≤9223372036854775807):(Lib.itoa n).length≤21:=by
 rcases Int.lt_or_le n 0 with h | h
 ·obtain ⟨u,hu⟩:∃ u:Nat,n= -(u:Int):=⟨(-n).toNat,by omega⟩
  subst hu
  rw [Lib.itoa_neg _ (by omega)]
  have:=F7 (n:=u) (by omega)
  simp only [Lc,Lq,Ln]
  omega
 ·obtain ⟨u,rfl⟩:∃ u:Nat,n=(u:Int):=⟨n.toNat,by omega⟩
  rw [Lib.itoa_nonneg]
  have:=F7 (n:=u) (by omega)
  omega
section
variable {W0:World} {m0:Inj Tp}
end
structure GE (A:AW):Prop where
 four:∃ (a f b:Nat) (ro:Bool),A.get 4=some (.row [.iface 185 (pP a 0)] 72 f b ro)∧f < A.next∧f < 8
 five:∃ (a f b:Nat) (ro:Bool),A.get 5=some (.row [.iface 185 (pP a 0)] 72 f b ro)∧f < A.next∧f < 8
 lt:8≤A.next
theorem GE.keeps {A A':AW} {S:List Nat} (h:GE A) (k:Ay A A' S) (hn:∀ x∈S,8≤x):GE A':=by
 obtain ⟨⟨a,f,b,ro,h1,h2,h3⟩,⟨a',f',b',ro',h1',h2',h3'⟩,h4⟩:=h
 have hle:=k.next
 exact ⟨⟨a,f,b,ro,k.get 4 _ h1 (show f < A.next from h2) (fun hx=>by have:8≤f:=hn _ hx;omega),by omega,h3⟩,⟨a',f',b',ro',k.get 5 _ h1' (show f' < A.next from h2') (fun hx=>by have:8≤f':=hn _ hx;omega),by omega,h3'⟩,by omega⟩
theorem Xz (A:AW) (a:Addr):At Tp A 72 (.pointer (some a))=A.cell? a:=by kernel_rfl
theorem Tu (x y:ByteArray) (a:Nat):Bo Tp 182 [(0,.string x),(1,.string y),(2,.iface 185 (pP a 0))]=some (.agg ⟨[.string x,.string y,.iface 185 (pP a 0)]⟩):=by kernel_rfl
def Uo (x y:ByteArray) (a:Nat):List Value:=[.string x,.string y,.iface 185 (pP a 0)]
theorem Q3 {A:AW} {q a:Nat} {x y:ByteArray} {p:Prop} (h:A.get q=some (.row (Uo x y a) 182 q 0 false)) (hp:p):Bz (AR Tp (fun _=>.agg ⟨Uo x y a⟩) (.box 182 (.tmp 0))) A (pP q 0) p:=by
 refine ⟨⟨.row (Uo x y a) 182,rfl,?_⟩,hp⟩
 have ha:Go.Abs.sameAddr ⟨a,0,none⟩ ⟨a,0,none⟩=true:=by simp [Go.Abs.sameAddr]
 simp only [B8,Eo,h,Uo,Em,Hn,ha,GL,Bool.and_self,Option.isNone_none,Bool.true_and,Nat.beq_refl]
section
variable {W0:World} {m0:Inj Tp}
theorem ZH {x s:ByteArray} {A:AW} {K:Value→AW→Prop} (hl:(bl s).length < 100000000) (hg:GE A) (hf:AH A) (hA:A.next+8 < Ap) (hk:∀ A' q,Grow A A' 2→K (pP q 0) A'):Wc Tp Aw W0 m0 127 [.string x,.string s] A K:=by
 refine Ab3 _ _ _ (AA (S:=fun _ _ _=>False) fun _ _ _ h=>h) ?_
 rw [AcM]
 obtain ⟨⟨a,f,b,ro,h1,h2,h3⟩,h4,h5⟩:=hg
 have l0:∀ {B:AW},B.get 4=some (.row [.iface 185 (pP a 0)] 72 f b ro)→At Tp B 72 (pP 4 0)=some (.iface 185 (pP a 0)):=fun h=>by rw [Xz,AF h];rfl
 refine Aa (l0 h1) ?_
 refine Xe hl hf (by omega) fun A1 g1=>?_
 have n1:=g1.next
 have le1:=g1.le
 have h6:=g1.keeps.get 4 _ h1 (show f < A.next from h2) (by simp)
 refine ck (l0 h6) (Ao.2 (Aa (Tu x s a) ?_))
 refine BX (cs:=Uo x s a) g1.Az (by omega) rfl fun A2 m2=>?_
 have n2:=m2.next
 have h7:=(m2.keeps g1.Az).get 4 _ h6 (show f < A1.next by omega) (by simp)
 refine Q3 m2.row (ck (Tu x s a) (ck (l0 h7) (Ao.2 (Ao.2 ?_))))
 exact hk A2 A1.next ((g1.trans (.made m2 g1.Az)).more (by omega))
theorem ZG {x s:ByteArray} {A:AW} {K:Value→AW→Prop} (hl:(bl s).length < 100000000) (hg:GE A) (hf:AH A) (hA:A.next+8 < Ap) (hk:∀ A' q,Grow A A' 2→K (pP q 0) A'):Wc Tp Aw W0 m0 128 [.string x,.string s] A K:=by
 refine Ab2 _ _ _ (AA (S:=fun _ _ _=>False) fun _ _ _ h=>h) ?_
 rw [AcL]
 obtain ⟨h4,⟨a,f,b,ro,h1,h2,h3⟩,h5⟩:=hg
 have l0:∀ {B:AW},B.get 5=some (.row [.iface 185 (pP a 0)] 72 f b ro)→At Tp B 72 (pP 5 0)=some (.iface 185 (pP a 0)):=fun h=>by rw [Xz,AF h];rfl
 refine Aa (l0 h1) ?_
 refine Xe hl hf (by omega) fun A1 g1=>?_
 have n1:=g1.next
 have le1:=g1.le
 have h6:=g1.keeps.get 5 _ h1 (show f < A.next from h2) (by simp)
 refine ck (l0 h6) (Ao.2 (Aa (Tu x s a) ?_))
 refine BX (cs:=Uo x s a) g1.Az (by omega) rfl fun A2 m2=>?_
 have n2:=m2.next
 have h7:=(m2.keeps g1.Az).get 5 _ h6 (show f < A1.next by omega) (by simp)
 refine Q3 m2.row (ck (Tu x s a) (ck (l0 h7) (Ao.2 (Ao.2 ?_))))
 exact hk A2 A1.next ((g1.trans (.made m2 g1.Az)).more (by omega))
theorem ifP (n:Int):EO Tp 164 (.int .i64 n)=some (.iface 164 (.int .i64 n)):=by kernel_rfl
theorem WV (xo yo:Operand):Ag Tp .eql 72 xo yo (.iface 164 (.int .i64 2)) (.iface 164 (.int .i64 2))=some (.bool true):=by kernel_rfl
theorem WW (xo yo:Operand):Ag Tp .eql 72 xo yo (.iface 164 (.int .i64 1)) (.iface 164 (.int .i64 2))=some (.bool false):=by kernel_rfl
theorem WX (xo yo:Operand):Ag Tp .eql 72 xo yo (.iface 164 (.int .i64 1)) (.iface 164 (.int .i64 1))=some (.bool true):=by kernel_rfl
def Ta (q:Nat):Value:=.iface 167 (pP q 0)
theorem ifM (q:Nat):EO Tp 167 (pP q 0)=some (Ta q):=by kernel_rfl
theorem Xf {x s:ByteArray} {v2 v3:Value} {c:Int} {A:AW} {K:Value→AW→Prop} (hc:c=1∨c=2) (hl:(bl s).length < 100000000) (hg:GE A) (hf:AH A) (hA:A.next+8 < Ap) (hk:∀ A' q,Grow A A' 2→K (Ta q) A'):Wc Tp Aw W0 m0 113 [.string x,.string s,v2,v3,.iface 164 (.int .i64 c)] A K:=by
 refine Ab6 _ _ _ _ _ _ (AA (S:=fun _ _ _=>False) fun _ _ _ h=>h) ?_
 rw [AcO]
 rcases hc with rfl | rfl
 ·refine Aa (ifP _) (Aa (WW _ _) (Aj.2 ⟨fun h=>(by cases h),fun _=>?_⟩))
  refine Aa (ifP _) (Aa (WX _ _) (Aj.2 ⟨fun _=>?_,fun h=>(by cases h)⟩))
  exact ZG hl hg hf hA fun A' q g=>Aa (ifM q) (hk A' q g)
 ·refine Aa (ifP _) (Aa (WV _ _) (Aj.2 ⟨fun _=>?_,fun h=>(by cases h)⟩))
  exact ZH hl hg hf hA fun A' q g=>Aa (ifM q) (hk A' q g)
end
def NE (v:Value) (bad:Bool):Prop:=(bad=false∧v=.nilIface)∨(bad=true∧∃ q,v=Ta q)
theorem R2 (k:Nat):Ag Tp .neq 72 (.tmp k) (.const .nilIface) .nilIface .nilIface=some (.bool false):=by kernel_rfl
theorem Vp (xo:Operand) (n:Int):Ag Tp .neq 72 xo (.const .nilIface) (.iface 164 (.int .i64 n)) .nilIface=some (.bool true):=by kernel_rfl
theorem Yy (xo:Operand) (q:Nat):Ag Tp .neq 72 xo (.const .nilIface) (Ta q) .nilIface=some (.bool true):=by kernel_rfl
theorem NE.neq {v:Value} {bad:Bool} (h:NE v bad) (k:Nat):Ag Tp .neq 72 (.tmp k) (.const .nilIface) v .nilIface=some (.bool bad):=by
 rcases h with ⟨rfl,rfl⟩ | ⟨rfl,q,rfl⟩
 ·exact R2 _
 ·exact Yy _ _
theorem Z1 {k:IntKind} {n:Int} {er:Value} {bad:Bool} (h:Wo er bad):[Value.tuple #[.int k n,er]].all (AG 4)=true:=by
 rcases h with ⟨_,rfl⟩ | ⟨_,c,_,rfl⟩ <;> rfl
section
variable {W0:World} {m0:Inj Tp}
theorem Xh {s:ByteArray} {bits:Int} {A:AW} {K:Value→AW→Prop} (hb:bits=8∨bits=32∨bits=64) (hl:(bl s).length < 100000000) (hg:GE A) (hf:AH A) (hA:A.next+8 < Ap)
  (hk:∀ A' n er bad,Grow A A' 2→NE er bad→UW (R3 bits) (bl s) n bad→K (.tuple ⟨[.int .u64 (n:Int),er]⟩) A'):Wc Tp Aw W0 m0 110 [.string s,.int .i64 10,.int .i64 bits] A K:=by
 refine Ab8 _ _ _ _ (AA (S:=fun _ _ _=>False) fun _ _ _ h=>h) ?_
 rw [VT]
 obtain ⟨n,er,bad,hkc,he,hu⟩:=AaR (W0:=W0) (m0:=m0) s hb hl
 refine .inl ⟨_,by decide,hkc,Z1 he,fun v hv=>?_⟩
 obtain rfl:v=Yv n er:=by simpa using hv
 refine Aa Cw (Aa Cv ?_)
 rcases he with ⟨rfl,rfl⟩ | ⟨rfl,c,hc,rfl⟩
 ·refine Aa (R2 _) (Aj.2 ⟨fun h=>(by cases h),fun _=>?_⟩)
  exact hk A n _ false ((Grow.refl hf).more (by omega)) (.inl ⟨rfl,rfl⟩) hu
 ·refine Aa (Vp _ _) (Aj.2 ⟨fun _=>?_,fun h=>(by cases h)⟩)
  exact Xf hc hl hg hf hA fun A' q g=>hk A' n _ true g (.inr ⟨rfl,q,rfl⟩) hu
theorem Abu {s:ByteArray} {A:AW} {K:Value→AW→Prop} (hl:(bl s).length < 100000000) (hg:GE A) (hf:AH A) (hA:A.next+8 < Ap)
  (hk:∀ A' n er bad,Grow A A' 2→NE er bad→IW (bl s) n bad→K (.tuple ⟨[.int .i64 n,er]⟩) A'):Wc Tp Aw W0 m0 95 [.string s] A K:=by
 refine w95 _ _ (AA (S:=fun _ _ _=>False) fun _ _ _ h=>h) ?_
 rw [e95]
 obtain ⟨n,er,bad,hkc,he,hu⟩:=AaS (W0:=W0) (m0:=m0) s hl
 refine .inl ⟨_,by decide,hkc,Z1 he,fun v hv=>?_⟩
 obtain rfl:v=Ry n er:=by simpa using hv
 refine Aa Cw (Aa Cv ?_)
 rcases he with ⟨rfl,rfl⟩ | ⟨rfl,c,hc,rfl⟩
 ·refine Aa (R2 _) (Aj.2 ⟨fun h=>(by cases h),fun _=>?_⟩)
  exact hk A n _ false ((Grow.refl hf).more (by omega)) (.inl ⟨rfl,rfl⟩) hu
 ·refine Aa (Vp _ _) (Aj.2 ⟨fun _=>?_,fun h=>(by cases h)⟩)
  exact Xf hc hl hg hf hA fun A' q g=>hk A' n _ true g (.inr ⟨rfl,q,rfl⟩) hu
end
def RdW (A:AW) (v:Value) (ws:List ByteArray) (F:List Nat):Prop:=
 ∃ r o c cs g b ro,v=.slice (some ⟨r,o,none⟩) ws.length c∧ws.length≤c∧c < BH∧A.get r=some (.row cs 9 g b ro)∧g < A.next∧F=[g]∧∀ (i:Nat) p,ws[i]? =some p→cs[o+i]? =some (.string p)
theorem RdW.keeps {A A':AW} {v:Value} {ws:List ByteArray} {F S:List Nat} (h:RdW A v ws F) (k:Ay A A' S) (hd:∀ x∈F,x∉S):RdW A' v ws F:=by
 obtain ⟨r,o,c,cs,g,b,ro,h1,h2,h3,h4,h5,rfl,h6⟩:=h
 exact ⟨r,o,c,cs,g,b,ro,h1,h2,h3,k.get r _ h4 h5 (hd g (by simp)),Nat.lt_of_lt_of_le h5 k.next,rfl,h6⟩
theorem RdW.one {A:AW} {v:Value} {ws:List ByteArray} {F:List Nat} (h:RdW A v ws F):AL v=true∧isTuple v=false:=by
 obtain ⟨r,o,c,cs,g,b,ro,rfl,_⟩:=h
 exact ⟨rfl,rfl⟩
theorem RdW.len {A B:AW} {v:Value} {ws:List ByteArray} {F:List Nat} (h:RdW A v ws F):Bn Tp B 56 v=some (.int .i64 (ws.length:Int)):=by
 obtain ⟨r,o,c,cs,g,b,ro,rfl,_⟩:=h
 exact Xy _ _ _ _
theorem RdW.at0 {A:AW} {v:Value} {w:ByteArray} {ws:List ByteArray} {F:List Nat} (h:RdW A v (w::ws) F):∃ a,Am Tp 56 v (.int .i64 0)=some (.pointer (some a))∧At Tp A 9 (.pointer (some a))=some (.string w):=by
 obtain ⟨r,o,c,cs,g,b,ro,rfl,h2,h3,h4,h5,_,h6⟩:=h
 have h7:=h6 0 w rfl
 refine ⟨⟨r,o,none⟩,?_,?_⟩
 ·have:=VF r o (w::ws).length c 0 .i64
  rw [AE.2 (by simp),Ct] at this
  rw [Nat.zero_mul] at this
  exact this
 ·rw [GS,AF h4]
  exact Ci h7 rfl
theorem RdW.Aa0 {A:AW} {v:Value} {w:ByteArray} {ws:List ByteArray} {F:List Nat} (h:RdW A v (w::ws) F):∃ v',Br Tp A 56 v (some (.int .i64 1)) none none=some v'∧RdW A v' ws F:=by
 obtain ⟨r,o,c,cs,g,b,ro,rfl,h2,h3,h4,h5,hF,h6⟩:=h
 have us:Tp.underlying 56=some (.slice 9):=by kernel_rfl
 have sz:szT Tp 9=some 1:=by kernel_rfl
 have e:Br Tp A 56 (.slice (some ⟨r,o,none⟩) (w::ws).length c) (some (.int .i64 (.ofNat 1))) none none=some (.slice (bif Nat.beq c 1 then some ⟨r,o,none⟩ else JG (some ⟨r,o,none⟩) (1 * 1)) ((w::ws).length - 1) (c - 1)):=by
  unfold Br
  have h1:1≤(w::ws).length:=by simp
  simp only [us,sz,BZ.2 h3,Cf,bounds,Is,EQ,Bt.2 h1,Option.isSome_none,Bool.not_false,Bool.or_true,Ct]
 refine ⟨_,e,?_⟩
 have hl:(w::ws).length - 1=ws.length:=by simp
 have h2:ws.length+1≤c:=h2
 rw [hl]
 cases hb:Nat.beq c 1 with
 | true=>
  have hc:c=1:=Nb hb
  have hw:ws=[]:=List.eq_nil_of_length_eq_zero (by omega)
  subst hw
  exact ⟨r,o,c - 1,cs,g,b,ro,rfl,by simp,by omega,h4,h5,hF,fun i p hp=>by simp at hp⟩
 | false=>
  refine ⟨r,o+1,c - 1,cs,g,b,ro,?_,by omega,by omega,h4,h5,hF,fun i p hp=>?_⟩
  ·rw [Cf,Vu]
  ·have:=h6 (i+1) p (by simpa using hp)
   rw [show o+1+i=o+(i+1) by omega]
   exact this
end Go.Proofs.YtebidlpekphaoaaGreatDoor
