/-
  This text prints what the functions reached ask of their memory, and shows what they answer. Conditions: none for the last theorem, those that each theorem states for the others.
-/
import Derived.Test.YtbchfeibhoobeaaGreatDoorPc
import Derived.DeepKeys2
import Derived.Shelf.Lays
import Derived.Shelf.Slices.In.SortNone
import Derived.Shelf.Sort.Plain
set_option maxRecDepth 100000
set_option maxHeartbeats 1000000
namespace Go.Proofs.YtbchfeibhoobeaaGreatDoor
open Go.Abs
theorem pe41n (xo yo:Operand):binA Tp .eql 41 xo yo (.slice none 0 0) (.slice none 0 0)=some (.bool true):=by kernel_rfl
theorem pe41s (a:Addr) (n c:Nat) (xo yo:Operand):binA Tp .eql 41 xo yo (.slice (some a) n c) (.slice none 0 0)=some (.bool false):=by kernel_rfl
theorem bs41_0 (A:AW):buildSliceA Tp A 41 0 []=(match A.newRow [] 5 with | some (a,w')=>.ok (.slice (some a) 0 0) w' | none=>.fail "buildSlice new"):=by kernel_rfl
theorem bslice0 {A:AW} {K:Value→AW→Prop} (hf:Fine A) (h:A.next < maxId) (hk:∀ A',Made A A' [] 5→K (.slice (some ⟨A.next,0,none⟩) 0 0) A'):bothW (buildSliceA Tp A 41 0 []) K:=by
 rw [bs41_0]
 unfold AW.newRow AW.new
 simp only [show (([]:List Value).all oneCell)=true from rfl,cond_true,blt_true.2 h]
 exact bothW_ok.2 (hk (A.push (.row [] 5 A.next 0 false)) ⟨AW.push_ext _ h,rfl,by rw [AW.push_get _ h,if_pos rfl],hf.alone (Nat.le_refl _),hf.push _ h⟩)
theorem buf0 {A:AW} {b:Nat} (h:Go.Abs.Row1 A b [] 5):Buf 5 A (.slice (some ⟨b,0,none⟩) 0 0) [] [b]:=.inr (.inr ⟨b,0,[],rfl,by decide,by simpa [bytesV] using h,rfl,rfl,rfl⟩)
theorem bin_shl {P:Program} {t:TypeId} {xo yo:Operand} {k k2:IntKind} {a b:Int} (hb:¬ b < 0):binA P .shl t xo yo (.int k a) (.int k2 b)=some (.int k (k.wrap (a * 2 ^ (min b.toNat k.bits)))):=by simp [binA,binOp,Op.shift,hb,quiet,closedO,closedV,pure]
theorem bin_or {P:Program} {t:TypeId} {xo yo:Operand} {k:IntKind} {a b:Int}:binA P .or t xo yo (.int k a) (.int k b)=some (.int k (k.wrap ((BitVec.ofInt k.bits a ||| BitVec.ofInt k.bits b).toNat:Int))):=by simp [binA,binOp,Op.intBits,quiet,closedO,closedV,pure]
theorem or_low {a c:Nat} (hc:c < 256) (h:a * 256+c < 18446744073709551616):IntKind.u64.wrap ((BitVec.ofInt (IntKind.bits .u64) ((a * 256:Nat):Int) ||| BitVec.ofInt (IntKind.bits .u64) (c:Int)).toNat:Int)=((a * 256+c:Nat):Int):=by
 have e:(BitVec.ofInt 64 ((a * 256:Nat):Int) ||| BitVec.ofInt 64 (c:Int)).toNat=a * 256+c:=by
  have h1:(a * 256) % 2 ^ 64=a * 256:=Nat.mod_eq_of_lt (Nat.lt_of_le_of_lt (Nat.le_add_right _ c) h)
  have h2:c % 2 ^ 64=c:=Nat.mod_eq_of_lt (Nat.lt_trans hc (by decide))
  rw [BitVec.toNat_or,BitVec.ofInt_natCast,BitVec.ofInt_natCast,BitVec.toNat_ofNat,BitVec.toNat_ofNat,h1,h2]
  have:=Nat.shiftLeft_add_eq_or_of_lt (i:=8) (show c < 2 ^ 8 by omega) a
  rw [Nat.shiftLeft_eq] at this
  exact this.symm
 show IntKind.u64.wrap ((BitVec.ofInt 64 ((a * 256:Nat):Int) ||| BitVec.ofInt 64 (c:Int)).toNat:Int)=_
 rw [e,wrap_u64 (by omega) (by omega)]
abbrev St:=List UInt8 × Bool
def tk (n:Nat) (s:St):List UInt8 × St:=if s.2=true∨s.1.length < n then ([],([],true)) else (s.1.take n,(s.1.drop n,false))
def beval (l:List UInt8):Nat:=l.foldl (fun a c=>a * 256+c.toNat) 0
theorem beval_snoc (l:List UInt8) (c:UInt8):beval (l++[c])=beval l * 256+c.toNat:=by simp [beval]
theorem beval_lt:∀ (l:List UInt8),beval l < 256 ^ l.length:=by
 intro l
 induction h:l.length generalizing l with
 | zero=>have:=List.eq_nil_of_length_eq_zero h;subst this;decide
 | succ n ih=>
  have hne:l≠[]:=by intro h0;subst h0;simp at h
  obtain ⟨q,c,rfl⟩:∃ q c,l=q++[c]:=⟨l.dropLast,l.getLast hne,(List.dropLast_concat_getLast hne).symm⟩
  have:=ih q (by simpa using h)
  have hc:c.toNat < 256:=c.toNat_lt
  rw [beval_snoc,Nat.pow_succ]
  omega
def nm (w:Nat) (s:St):Nat × St:=(beval (tk w s).1,(tk w s).2)
theorem tk_len (n:Nat) (s:St):(tk n s).1.length≤n:=by
 unfold tk;split
 ·exact Nat.zero_le _
 ·rw [List.length_take];omega
section
variable {W0:World} {m0:Inj Tp}
theorem wc136 {A:AW} {x:Value} {l:List UInt8} {F:List Nat} {K:Value→AW→Prop} (h:RdS 5 A x l F) (hf:Fine A) (hA:A.next+2 < maxId) (hl:l.length < 1000000)
  (hk:∀ A' v F',Grow A A' 2→RdS 5 A' v l F'→(∀ y∈F',A.next≤y)→K v A'):Wc Tp theX W0 m0 136 [x] A K:=by
 have hroom:room=68719476736:=rfl
 refine w136 _ _ (cuts_none (S:=fun _ _ _=>False) fun _ _ _ h=>h) ?_
 rw [e136]
 obtain ⟨o,c,rfl⟩:=h.rd.slice
 have hlt:=h.rd.lt
 cases o with
 | none=>
  obtain ⟨hn,rfl⟩:l=[]∧c=0:=by
   rcases h with ⟨h1,_,o',c',h2,_,h3⟩ | ⟨r,o,c,C,cs,f,b,ro,rest,h1,_⟩
   ·simp only [Value.slice.injEq] at h2
    exact ⟨h1,by rw [h2.2.2];exact h3 h2.1.symm⟩
   ·simp at h1
  subst hn
  rw [List.length_nil]
  simp only [pe41n,pureW_some]
  exact forkW_bool.2 ⟨fun _=>hk A _ [] ((Grow.refl hf).more (by omega)) (.nil _ _) (by simp),fun h=>by simp at h⟩
 | some a=>
  simp only [pe41s,pureW_some]
  refine forkW_bool.2 ⟨fun h=>by simp at h,fun _=>?_⟩
  refine bslice0 hf (by omega) fun A1 m1=>?_
  have n1:=m1.next
  refine appendBuf tb (buf0 m1.row1) (src_slice tb (h.rd.keeps (m1.keeps hf) (by simp))) m1.fine (by omega) (by simp;omega) fun v2 A2 F2 b2 k2 hF2 n2 f2=>?_
  rw [List.nil_append] at b2
  refine hk A2 v2 F2 ((Grow.made m1 hf).own k2 (by simp) (m:=1) (by omega) f2) b2.rdS fun y hy=>?_
  rcases hF2 y hy with h | h
  ·simp at h;omega
  ·omega
theorem wc138 {A:AW} {r v:Nat} {s:St} {F:List Nat} {n:Nat} {K:Value→AW→Prop} (h:OR A r v s.1 s.2 F) (hf:Fine A) (hA:A.next+4 < maxId) (hl:s.1.length < 1000000) (hn:n < 1000000)
  (hk:∀ A' x F' Fo,OR A' r v (tk n s).2.1 (tk n s).2.2 F'→RdS 5 A' x (tk n s).1 Fo→Keeps A A' [v]→A'.next≤A.next+2→Fine A'→(∀ y∈F',y∈F)→(∀ y∈Fo,A.next≤y)→K x A'):Wc Tp theX W0 m0 138 [.pointer (some ⟨r,0,none⟩),.int .i64 (n:Int)] A K:=by
 obtain ⟨l,bad⟩:=s
 have h:OR A r v l bad F:=h
 refine w138 _ _ _ (cuts_none (S:=fun _ _ _=>False) fun _ _ _ h=>h) ?_
 rw [e138]
 have spoil:(bad=true∨l.length < n)→Wc Tp theX W0 m0 137 [.pointer (some ⟨r,0,none⟩)] A fun _ A'=>K (.slice none 0 0) A':=fun hb=>by
  refine wc137 h hf (by omega) fun A' o' k' n' f'=>?_
  have e:tk n (l,bad)=([],([],true)):=by unfold tk;rw [if_pos hb]
  rw [e] at hk
  exact hk A' (.slice none 0 0) [] [] o' (.nil _ _) k' (by omega) f' (by simp) (by simp)
 refine wc166 h ?_
 refine forkW_bool.2 ⟨fun hb=>spoil (.inl hb),fun hb=>?_⟩
 simp only [bin_lss,pureW_some,forkW_dec]
 refine ⟨fun h=>by omega,fun _=>?_⟩
 refine wc167 h ?_
 simp only [bin_gtr,pureW_some,forkW_dec]
 refine ⟨fun h=>spoil (.inr (by omega)),fun hle=>?_⟩
 have hle:n≤l.length:=by omega
 obtain ⟨bs,h1,h2⟩:=h.ex
 obtain ⟨x1,hx1,s1⟩:=h2.to tb hle
 have e:tk n (l,bad)=(l.take n,(l.drop n,false)):=by unfold tk;rw [if_neg (by simp [hb];omega)]
 rw [e] at hk
 simp only [nilP_some,fa_171_0,fa_169_0,ld_167,ld_41,cell_row h.rr.row,cell_row h1.row,cellOf,isT_ptr,h2.rd.one.2,cond_false,hx1,pureW_some]
 refine wc136 s1 hf (by omega) (by rw [List.length_take];omega) fun A2 x2 F2 g2 s2 hF2=>?_
 have n2:=g2.next
 have r2:=h.rr.keeps g2.keeps (by simp)
 have q2:=h1.keeps g2.keeps (by simp)
 have t2:=h2.keeps g2.keeps (by simp)
 obtain ⟨x3,hx3,s3⟩:=t2.from tb hle
 simp only [nilP_some,fa_171_0,fa_169_0,ld_167,ld_41,cell_row r2.row,cell_row q2.row,cellOf,isT_ptr,h2.rd.one.2,cond_false,hx3,pureW_some]
 have one3:=s3.rd.one
 obtain ⟨o3,c3,hx⟩:=s3.rd.slice
 refine q2.store g2.fine (by omega) (st_41 _ _ _) (by rw [hx];rfl) (by simp) (by rw [hx];rfl) fun A3 r3 k3 n3 f3=>?_
 have r3:Go.Abs.Row1 A3 v [x3,.bool true,.bool bad] 169:=by rw [hx] at r3 ⊢;exact r3
 rw [hb] at r3
 have hrv:r∉[v]:=by simpa using h.ne
 have hvF:=h.hv
 refine hk A3 x2 F F2 ⟨r2.keeps k3 hrv,⟨x3,r3,s3.keeps k3 fun y hy=>by simp;intro h0;subst h0;exact hvF hy⟩,by simp,h.ne,h.hv⟩ (s2.keeps k3 fun y hy=>by have:=hF2 y hy;have:=h1.lt;simp;omega) ?_ (by omega) f3 (fun y hy=>hy) hF2
 exact g2.keeps.more (by simp) |>.trans k3 (fun y hy=>.inl hy)
theorem wc114 {A:AW} {r v:Nat} {s:St} {F:List Nat} {w:Nat} {K:Value→AW→Prop} (h:OR A r v s.1 s.2 F) (hf:Fine A) (hA:A.next+4 < maxId) (hl:s.1.length < 1000000) (hw:w=1∨w=2∨w=4∨w=8)
  (hk:∀ A' F',OR A' r v (nm w s).2.1 (nm w s).2.2 F'→Keeps A A' [v]→A'.next≤A.next+2→Fine A'→(∀ y∈F',y∈F)→K (.int .u64 ((nm w s).1:Int)) A'):Wc Tp theX W0 m0 114 [.pointer (some ⟨r,0,none⟩),.int .i64 (w:Int)] A K:=by
 have hwl:w≤8:=by omega
 have hlen:=tk_len w s
 let I:Nat→Nat→List Value→AW→Prop:=fun g' id vals A'=>id=0∧∃ (i:Nat) (x:Value) (F' Fo:List Nat),vals=[.int .u64 (beval ((tk w s).1.take i):Nat),x,.int .i64 ((tk w s).1.length:Int),.int .i64 (i:Int)]∧i≤(tk w s).1.length∧
  RdS 5 A' x (tk w s).1 Fo∧OR A' r v (tk w s).2.1 (tk w s).2.2 F'∧Keeps A A' [v]∧A'.next≤A.next+2∧Fine A'∧(∀ y∈F',y∈F)∧g'=(tk w s).1.length - i
 refine w114 _ _ _ (c114 (I:=I) ?_) ?_
 ·rintro g' id vals A' d ⟨rfl,i,x,F',Fo,rfl,hi,hx,ho,k,n,f,hF,rfl⟩ hd
  rw [l114_0]
  simp only [L114,List.map_cons,List.map_nil,List.cons.injEq,and_true] at hd
  obtain ⟨h5,h15,h16,h17⟩:=hd
  simp only [h5,h15,h16,h17,bin_lss,pureW_some,forkW_dec]
  refine ⟨fun hlt=>?_,fun hge=>?_⟩
  ·have hlt:i < (tk w s).1.length:=by omega
   obtain ⟨c,hc⟩:∃ c,(tk w s).1[i]? =some c:=⟨_,List.getElem?_eq_getElem hlt⟩
   obtain ⟨a,a1,a2⟩:=hx.rd.at tb hc
   have hcl:c.toNat < 256:=c.toNat_lt
   have hb:=beval_lt ((tk w s).1.take i)
   have hb1:=beval_lt ((tk w s).1.take (i+1))
   have e1:(tk w s).1.take (i+1)=(tk w s).1.take i++[c]:=by rw [List.take_add_one,hc];rfl
   rw [e1,beval_snoc] at hb1
   have hp:(256:Nat) ^ ((tk w s).1.take i++[c]).length≤256 ^ 8:=Nat.pow_le_pow_right (by decide) (by rw [← e1,List.length_take];omega)
   have hp8:(256:Nat) ^ 8=18446744073709551616:=by decide
   simp only [a1,a2,pureW_some,cv_5_134,bothW_ok,bin_add]
   rw [bin_shl (by decide)]
   have e8:(beval ((tk w s).1.take i):Int) * 2 ^ (min (8:Int).toNat (IntKind.bits .u64))=((beval ((tk w s).1.take i) * 256:Nat):Int):=by
    show (beval ((tk w s).1.take i):Int) * 2 ^ 8=_
    rw [Int.natCast_mul];rfl
   rw [e8,wrap_u64 (by omega) (by omega),wrap_u64 (by omega) (by omega),wrap_i64 (by omega) (by omega)]
   simp only [pureW_some]
   rw [bin_or,or_low hcl (by omega)]
   simp only [pureW_some]
   refine cutW_self.2 ⟨(tk w s).1.length - (i+1),by omega,rfl,i+1,x,F',Fo,?_,by omega,hx,ho,k,n,f,hF,rfl⟩
   rw [e1,beval_snoc]
   rfl
  ·have hi:i=(tk w s).1.length:=by omega
   subst hi
   rw [List.take_length]
   exact hk A' F' ho k n f hF
 ·rw [e114]
  refine wc124 ?_
  have hb:((w:Int)==1 || ((w:Int)==2 || ((w:Int)==4 || (w:Int)==8)))=true:=by rcases hw with rfl | rfl | rfl | rfl <;> rfl
  rw [hb]
  simp only [un_not,pureW_some]
  refine forkW_bool.2 ⟨fun h=>by simp at h,fun _=>?_⟩
  refine wc138 h hf hA hl (by omega) fun A' x F' Fo ho hx k n f hF hFo=>?_
  simp only [hx.rd.len tb,pureW_some]
  exact cutW_self.2 ⟨(tk w s).1.length,rfl,0,x,F',Fo,rfl,Nat.zero_le _,hx,ho,k,n,f,hF,rfl⟩
end
section
variable {W0:World} {m0:Inj Tp}
theorem wc113 {A:AW} {x:Value} {l:List UInt8} {F:List Nat} {K:Value→AW→Prop} (h:RdS 5 A x l F) (hf:Fine A) (hA:A.next+6 < maxId) (hl:l.length < 1000000)
  (hk:∀ A' r v F',Grow A A' 4→OR A' r v l false F'→A.next≤r→A.next≤v→(∀ y∈F',A.next≤y)→K (.pointer (some ⟨r,0,none⟩)) A'):Wc Tp theX W0 m0 113 [x] A K:=by
 refine w113 _ _ (cuts_none (S:=fun _ _ _=>False) fun _ _ _ h=>h) ?_
 rw [e113]
 refine wc136 h hf (by omega) hl fun A1 v1 F1 g1 s1 hF1=>?_
 have n1:=g1.next
 have l1:=g1.le
 obtain ⟨o,c,e1⟩:=s1.rd.slice
 have hlt:=s1.rd.lt
 rw [e1,ba169]
 simp only [pureW_some]
 rw [← e1]
 refine newP_made (cs:=[v1,.bool true,.bool false]) g1.fine (by omega) (by simp [s1.rd.one.1,one_bool]) fun A2 m2=>?_
 have n2:=m2.next
 rw [ba171]
 simp only [pureW_some]
 refine newP_made (cs:=[.pointer (some ⟨A1.next,0,none⟩)]) m2.fine (by omega) rfl fun A3 m3=>?_
 have n3:=m3.next
 have k3:=m3.keeps m2.fine
 refine hk A3 A2.next A1.next F1 ((g1.trans (.made m2 g1.fine)).trans (.made m3 m2.fine)) ⟨m3.row1,⟨v1,m2.row1.keeps k3 (by simp),(s1.keeps (m2.keeps g1.fine) (by simp)).keeps k3 (by simp)⟩,by simp,by omega,fun hm=>by have:=hlt _ hm;omega⟩ (by omega) (by omega) hF1
end
end Go.Proofs.YtbchfeibhoobeaaGreatDoor
namespace Go.Proofs.YtbchfeibhoobeaaGreatDoor
open Go.Abs Go.Crc
theorem slice3_known {P:Program} {tb ts tst:TypeId} {A:AW} (T:BT P tb ts tst) {a:Option Addr} {len C n:Nat} (hc:C < capU) (hn:n≤C):sliceA P A ts (.slice a len C) none (some (.int .i64 (.ofNat n))) (some (.int .i64 (.ofNat n)))=some (.slice (bif Nat.beq n 0 then a else moved a (0 * 1)) n n):=by
 unfold sliceA
 simp only [T.us,T.sz,ble_false.2 hc,cond_false,bounds,okMax,boundA,ble_true.2 hn,ble_true.2 (Nat.le_refl n),Nat.sub_zero,Option.isSome_some,Bool.true_or,cond_true]
theorem slice3_open {P:Program} {tb ts tst:TypeId} {A:AW} (T:BT P tb ts tst) {a:Option Addr} {len c n:Nat} (hn:n≤c) (hr:n < capU):sliceA P A ts (.slice a len (capU+c)) none (some (.int .i64 (.ofNat n))) (some (.int .i64 (.ofNat n)))=some (.slice (moved a (0 * 1)) n n):=by
 unfold sliceA
 simp only [T.us,T.sz,ble_true.2 (show capU≤capU+c from Nat.le_add_right _ _),cond_true,bounds,okMax,boundA,Nat.add_sub_cancel_left,ble_true.2 hn,ble_true.2 (Nat.le_refl n),Nat.sub_zero,Option.isSome_some,Bool.true_or,blt_true.2 hr]
theorem RdS.to3 {P:Program} {tb ts tst:TypeId} {A:AW} {v:Value} {l:List UInt8} {F:List Nat} (T:BT P tb ts tst) (h:RdS tb A v l F) {n:Nat} (hn:n≤l.length) (hr:n < capU):
  ∃ v',sliceA P A ts v none (some (.int .i64 (n:Int))) (some (.int .i64 (n:Int)))=some v'∧RdS tb A v' (l.take n) F:=by
 show ∃ v',sliceA P A ts v none (some (.int .i64 (.ofNat n))) (some (.int .i64 (.ofNat n)))=some v'∧_
 rcases h with ⟨rfl,rfl,o,c,rfl,hc,hz⟩ | ⟨r,o,c,C,cs,f,b,ro,rest,rfl,hC,hl,h2,h3,rfl,h5⟩
 ·have hn0:n=0:=Nat.le_zero.1 hn
  refine ⟨_,slice3_known T hc (by omega),.inl ⟨List.take_nil,rfl,o,0,?_,by decide,fun _=>rfl⟩⟩
  rw [hn0]
  rfl
 ·have hd:cs.drop o=bytesV (l.take n)++(bytesV (l.drop n)++rest):=by
   rw [h5,bytesV_take,bytesV_drop,← List.append_assoc,List.take_append_drop]
  have hlen:(l.take n).length=n:=by rw [List.length_take];omega
  have hfin:RdS tb A (.slice (some ⟨r,o,none⟩) n n) (l.take n) [f]:=.inr ⟨r,o,n,n,cs,f,b,ro,_,by rw [hlen],.inr ⟨rfl,hr⟩,by omega,h2,h3,rfl,hd⟩
  rcases hC with rfl | ⟨rfl,hc⟩
  ·refine ⟨_,slice3_open T (by omega) hr,?_⟩
   rw [moved_eq,Nat.add_zero]
   exact hfin
  ·refine ⟨_,slice3_known T hc (by omega),?_⟩
   rw [moved_eq,Nat.add_zero]
   cases Nat.beq n 0
   ·rw [cond_false];exact hfin
   ·rw [cond_true];exact hfin
theorem lt_capU {n:Nat} (h:n < 1000000):n < capU:=Nat.lt_of_lt_of_le h (by decide)
section
variable {W0:World} {m0:Inj Tp}
end
theorem drop4 {l:List UInt8} (h4:4≤l.length):sealed l=true↔l.drop (l.length - 4)=le4 (sum32 (l.take (l.length - 4))):=by
 unfold sealed
 rw [decide_eq_true h4,Bool.true_and,beq_iff_eq]
 constructor
 ·intro h
  have h2:=List.take_append_drop (l.length - 4) l
  have h3:l.take (l.length - 4)++l.drop (l.length - 4)=l.take (l.length - 4)++le4 (sum32 (l.take (l.length - 4))):=h2.trans h
  exact List.append_cancel_left h3
 ·intro h
  unfold sealT
  rw [← h,List.take_append_drop]
theorem sealed_at {l:List UInt8} (h4:4≤l.length):sealed l=true↔∀ i,i < 4→l[l.length - 4+i]? =(le4 (sum32 (l.take (l.length - 4))))[i]? :=by
 rw [drop4 h4]
 constructor
 ·intro h i _
  rw [← h,List.getElem?_drop]
 ·intro h
  refine List.ext_getElem? fun i=>?_
  rw [List.getElem?_drop]
  by_cases hi:i < 4
  ·exact h i hi
  ·rw [List.getElem?_eq_none (by omega),List.getElem?_eq_none (by rw [le4_length];omega)]
theorem sealed_short {l:List UInt8} (h:l.length < 4):sealed l=false:=by
 unfold sealed
 rw [decide_eq_false (by omega)]
 rfl
section
variable {W0:World} {m0:Inj Tp}
theorem wc112 {A:AW} {x:Value} {l:List UInt8} {F:List Nat} {K:Value→AW→Prop} (h:RdS 5 A x l F) (hg:Glb A) (hf:Fine A) (hA:A.next+5 < maxId) (hl:l.length < 900000)
  (h1:sealed l=true→∀ A' v F',Grow A A' 1→RdS 5 A' v (l.take (l.length - 4)) F'→(∀ y∈F',A.next≤y)→K (.tuple ⟨[v,.bool true]⟩) A') (h2:sealed l=false→K (.tuple ⟨[.slice none 0 0,.bool false]⟩) A):
  Wc Tp theX W0 m0 112 [x] A K:=by
 have hroom:room=68719476736:=rfl
 let I:Nat→Nat→List Value→AW→Prop:=fun g id vals A'=>id=0∧A'=A∧4≤l.length∧∃ i:Nat,vals=[x,.int .i64 ((l.length - 4:Nat):Int),.int .u32 ((sum32 (l.take (l.length - 4)):Nat):Int),.int .i64 (i:Int)]∧g=4 - i∧i≤4∧
  ∀ j,j < i→l[l.length - 4+j]? =(le4 (sum32 (l.take (l.length - 4))))[j]?
 refine w112 _ _ (c112 (I:=I) ?_) ?_
 ·rintro g id vals A' d ⟨rfl,rfl,h4,i,rfl,rfl,hi,hj⟩ hd
  rw [l112_0]
  simp only [L112,List.map_cons,List.map_nil,List.cons.injEq,and_true] at hd
  obtain ⟨d0,d4,d5,d18⟩:=hd
  simp only [d0,d4,d5,d18,bin_lss,pureW_some,forkW_dec]
  refine ⟨fun hlt=>?_,fun hge=>?_⟩
  ·have hlt:i < 4:=by omega
   obtain ⟨c,hc⟩:∃ c,l[l.length - 4+i]? =some c:=⟨_,List.getElem?_eq_getElem (by omega)⟩
   obtain ⟨a,a1,a2⟩:=h.rd.at tb hc
   simp only [bin_add,bin_mul,pureW_some]
   rw [wrap_i64 (n:=((l.length - 4:Nat):Int)+i) (by omega) (by omega),wrap_i64 (n:=8 * (i:Int)) (by omega) (by omega),wrap_i64 (n:=(i:Int)+1) (by omega) (by omega),bin_shr (by omega)]
   have e1:((l.length - 4:Nat):Int)+(i:Int)=((l.length - 4+i:Nat):Int):=by omega
   have e3:min (8 * (i:Int)).toNat (IntKind.bits .u32)=8 * i:=by show min _ 32=_;omega
   rw [e1,e3]
   simp only [a1,a2,pureW_some,cv_24_5,bothW_ok,byte_of,bin_neq,forkW_bne]
   refine ⟨fun hne=>h2 ?_,fun heq=>?_⟩
   ·cases hs:sealed l with
    | false=>rfl
    | true=>
     exfalso
     have:=(sealed_at h4).1 hs i hlt
     rw [hc,le4_get hlt,Option.some.injEq] at this
     rw [this] at hne
     exact hne rfl
   ·refine cutW_self.2 ⟨4 - (i+1),by omega,rfl,rfl,h4,i+1,rfl,rfl,by omega,fun j hji=>?_⟩
    by_cases hjl:j < i
    ·exact hj j hjl
    ·obtain rfl:j=i:=by omega
     rw [hc,le4_get hlt,Option.some.injEq]
     exact UInt8.toNat_inj.1 (by omega)
  ·have hi':i=4:=by omega
   subst hi'
   have hs:=(sealed_at h4).2 hj
   refine makeBytes (n:=l.length - 4) (c:=l.length - 4) tb hf (by omega) (Nat.le_refl _) (by omega) fun A1 m1=>?_
   have n1:=m1.next
   have k1:=m1.keeps hf
   refine copyOwn tb m1.row1 (h.rd.keeps k1 (by simp)) m1.fine (by omega) (by rw [List.length_replicate];omega) fun A2 vv r2 k2 n2 f2=>?_
   rw [Nat.min_eq_right (by omega)] at r2
   have g2:Grow A' A2 1:=(Grow.made m1 hf).own k2 (by simp) (m:=0) (by omega) f2
   have lt:(l.take (l.length - 4)).length=l.length - 4:=by rw [List.length_take];omega
   have e:setL (List.replicate (l.length - 4) (Value.int .u8 0)) 0 (bytesV (l.take (l.length - 4)))=bytesV (l.take (l.length - 4)):=by
    have:=setL_mid [] (List.replicate (l.length - 4) (Value.int .u8 0)) (bytesV (l.take (l.length - 4))) [] (by rw [List.length_replicate,bytesV_length,lt])
    simpa using this
   rw [e] at r2
   have b2:=(bufN r2 (by rw [lt];omega)).rdS
   rw [lt] at b2
   exact h1 hs A2 _ _ g2 b2 (by simp)
 ·rw [e112]
  simp only [h.rd.len tb,bin_sub,pureW_some,bin_lss]
  rw [wrap_i64 (by omega) (by omega)]
  simp only [forkW_dec]
  refine ⟨fun hlt=>h2 (sealed_short (by omega)),fun hge=>?_⟩
  have e4:(l.length:Int) - 4=((l.length - 4:Nat):Int):=by omega
  rw [e4]
  obtain ⟨v,hv,hs⟩:=RdS.to3 tb h (n:=l.length - 4) (by omega) (lt_capU (by omega))
  rw [hv]
  simp only [pureW_some]
  refine wc123 hs.rd hg (by rw [List.length_take];omega) ?_
  exact cutW_self.2 ⟨4,rfl,rfl,by omega,0,rfl,rfl,by omega,fun j hj=>by omega⟩
end
end Go.Proofs.YtbchfeibhoobeaaGreatDoor
namespace Go.Abs
structure En (α β:Type) where
 k:α
 v:β
 b:Nat
section
variable {α β:Type} (ke:α→Value) (ve:β→Value)
def En.entry (e:En α β):MapEntry:={ key:=ke e.k,val:=ve e.v,born:=e.b }
structure MT (P:Program) (t kt et:TypeId) (ke:α→Value) (keq:α→α→Bool):Prop where
 ty:P.underlying t=some (.map kt et)
 eq:∀ a b,eqA P kt (ke a) (ke b)=some (keq a b)
 dec:∀ {a b},keq a b=true↔a=b
 q:∀ e a,keyQ P e kt (ke a)=true
 same:∀ a,(closedV 4 (ke a)&&Instr.sameBits 10000 (ke a) (ke a))=true
structure OwnM (A:AW) (r:Nat) (es:List (En α β)) (c:Nat):Prop where
 row:Map1 A r (es.map (En.entry ke ve)) c
 lt:∀ e∈es,e.b < c
 nb:(es.map En.b).Nodup
 nk:(es.map En.k).Nodup
end
section
variable {P:Program} {X:XNames} {W0:World} {m0:Inj P} {α β:Type} {ke:α→Value} {ve:β→Value} {keq:α→α→Bool} {t kt et:TypeId}
theorem OwnM.keeps {A A':AW} {r:Nat} {es:List (En α β)} {c:Nat} {S:List Nat} (h:OwnM ke ve A r es c) (k:Keeps A A' S) (hn:r∉S):OwnM ke ve A' r es c:=⟨h.row.keeps k hn,h.lt,h.nb,h.nk⟩
theorem OwnM.ltA {A:AW} {r:Nat} {es:List (En α β)} {c:Nat} (h:OwnM ke ve A r es c):r < A.next:=h.row.lt
theorem newM {A:AW} {K:Value→AW→Prop} (hf:Fine A) (h:A.next < maxId) (hk:∀ A',OwnM (α:=α) (β:=β) ke ve A' A.next [] 0→Keeps A A' []→A'.next=A.next+1→Fine A'→K (.map (some A.next)) A'):bothW (newMapP A) K:=
 newMap hf h fun A' h1 h2 h3 h4=>hk A' ⟨h1,by simp,by simp,by simp⟩ h2 h3 h4
def lookE (keq:α→α→Bool):List (En α β)→α→Option β
 | [],_=>none
 | e::es,k=>if keq k e.k=true then some e.v else lookE keq es k
def atE (keq:α→α→Bool):List (En α β)→α→Nat→Option Nat
 | [],_,_=>none
 | e::es,k,i=>if keq k e.k=true then some i else atE keq es k (i+1)
theorem find_eq (T:MT P t kt et ke keq) (k:α):∀ (es:List (En α β)) (i:Nat),findA P kt (ke k) (es.map (En.entry ke ve)) i=some (atE keq es k i)
 | [],i=>rfl
 | e::es,i=>by
  show (match eqA P kt (ke k) (ke e.k) with | some true=>some (some i) | some false=>findA P kt (ke k) (es.map (En.entry ke ve)) (i+1) | none=>none)=_
  rw [T.eq]
  unfold atE
  cases h:keq k e.k with
  | true=>simp
  | false=>
   simp only [Bool.false_eq_true,if_false]
   exact find_eq T k es (i+1)
theorem at_some {es:List (En α β)} {k:α} {i j:Nat} (h:atE keq es k i=some j):i≤j∧j - i < es.length∧∃ e,es[j - i]? =some e∧keq k e.k=true∧lookE keq es k=some e.v:=by
 induction es generalizing i with
 | nil=>cases h
 | cons e es ih=>
  unfold atE at h
  unfold lookE
  split at h
  ·rename_i hk
   cases h
   rw [if_pos hk,Nat.sub_self]
   exact ⟨Nat.le_refl _,by simp,e,rfl,hk,rfl⟩
  ·rename_i hk
   obtain ⟨h1,h2,e',h3,h4,h5⟩:=ih h
   refine ⟨by omega,by simp;omega,e',?_,h4,?_⟩
   ·rw [show j - i=(j - (i+1))+1 by omega]
    exact h3
   ·rw [if_neg hk]
    exact h5
theorem at_none {es:List (En α β)} {k:α} {i:Nat} (h:atE keq es k i=none):(∀ e∈es,keq k e.k=false)∧lookE keq es k=none:=by
 induction es generalizing i with
 | nil=>exact ⟨by simp,rfl⟩
 | cons e es ih=>
  unfold atE at h
  unfold lookE
  split at h
  ·cases h
  ·rename_i hk
   obtain ⟨h1,h2⟩:=ih h
   refine ⟨fun x hx=>?_,by rw [if_neg hk];exact h2⟩
   rcases List.mem_cons.1 hx with rfl | hx
   ·simpa using hk
   ·exact h1 x hx
theorem mapTypes_eq (T:MT P t kt et ke keq):mapTypes P t=some (kt,et):=by unfold mapTypes;rw [T.ty]
theorem OwnM.look (T:MT P t kt et ke keq) {A:AW} {r:Nat} {es:List (En α β)} {c:Nat} (h:OwnM ke ve A r es c) {z:Value} (hz:zeroT P et=some z) (k:α) (ok:Bool):
  lookupA P A t (.map (some r)) (ke k) ok=some (match lookE keq es k with | some v=>(bif ok then .tuple #[ve v,.bool true] else ve v) | none=>(bif ok then .tuple #[z,.bool false] else z)):=by
 unfold lookupA mapRef
 simp only [mapTypes_eq T,h.row.row,T.q,cond_true,find_eq T]
 cases ha:atE keq es k 0 with
 | none=>
  rw [(at_none ha).2]
  simp only [hz]
 | some i=>
  obtain ⟨_,_,e,h3,_,h5⟩:=at_some ha
  rw [Nat.sub_zero] at h3
  rw [h5]
  simp only [List.getElem?_map,h3,Option.map_some]
  rfl
def putE (keq:α→α→Bool):List (En α β)→α→β→Nat→List (En α β)
 | [],k,v,c=>[⟨k,v,c⟩]
 | e::es,k,v,c=>if keq k e.k=true then ⟨k,v,e.b⟩::es else e::putE keq es k v c
theorem set_put (k:α) (v:β) (c:Nat):∀ (es:List (En α β)) (i j:Nat),(∀ {a b},keq a b=true↔a=b)→atE keq es k i=some j→setVal (es.map (En.entry ke ve)) (j - i) (ke k) (ve v)=(putE keq es k v c).map (En.entry ke ve)
 | [],i,j,_,h=>by cases h
 | e::es,i,j,hd,h=>by
  unfold atE at h
  unfold putE
  split at h
  ·rename_i hk
   cases h
   rw [if_pos hk,Nat.sub_self]
   rfl
  ·rename_i hk
   have:=(at_some h).1
   rw [if_neg hk,show j - i=(j - (i+1))+1 by omega]
   show e.entry ke ve::setVal (es.map (En.entry ke ve)) (j - (i+1)) (ke k) (ve v)=_
   rw [set_put k v c es (i+1) j hd h]
   rfl
theorem put_none {es:List (En α β)} {k:α} (hn:∀ e∈es,keq k e.k=false) (v:β) (c:Nat):putE keq es k v c=es++[(⟨k,v,c⟩:En α β)]:=by
 induction es with
 | nil=>rfl
 | cons e es ih=>
  unfold putE
  rw [if_neg (by rw [hn e List.mem_cons_self];simp),ih fun x hx=>hn x (List.mem_cons_of_mem _ hx)]
  rfl
theorem put_keys (k:α) (v:β) (c:Nat):∀ (es:List (En α β)),(∀ {a b},keq a b=true↔a=b)→(∃ e∈es,keq k e.k=true)→(putE keq es k v c).map En.k=es.map En.k∧(putE keq es k v c).map En.b=es.map En.b
 | [],_,h=>by obtain ⟨e,he,_⟩:=h;cases he
 | e::es,hd,h=>by
  unfold putE
  split
  ·rename_i hk
   rw [List.map_cons,List.map_cons,List.map_cons,List.map_cons,← hd.1 hk]
   exact ⟨rfl,rfl⟩
  ·rename_i hk
   obtain ⟨x,hx,h2⟩:=h
   rcases List.mem_cons.1 hx with rfl | hx
   ·exact absurd h2 hk
   ·obtain ⟨h3,h4⟩:=put_keys k v c es hd ⟨x,hx,h2⟩
    rw [List.map_cons,List.map_cons,List.map_cons,List.map_cons,h3,h4]
    exact ⟨rfl,rfl⟩
theorem OwnM.put (T:MT P t kt et ke keq) {A:AW} {r:Nat} {es:List (En α β)} {c:Nat} (h:OwnM ke ve A r es c) (hf:Fine A) (hb:A.next≤maxId) {k:α} {v:β} {K:AW→Prop}
  (hk:∀ A' c',OwnM ke ve A' r (putE keq es k v c) c'→Keeps A A' [r]→A'.next=A.next→Fine A'→K A'):effW (mapUpdateA P A t (.map (some r)) (ke k) (ve v)) K:=by
 unfold mapUpdateA
 simp only [mapTypes_eq T,h.row.row,T.q,cond_true,find_eq T]
 cases ha:atE keq es k 0 with
 | none=>
  obtain ⟨h1,h2⟩:=at_none ha
  obtain ⟨g1,g2,g3,g4⟩:=h.row.put (es':=es.map (En.entry ke ve)++[{ key:=ke k,val:=ve v,born:=c }]) (c':=c+1) hf hb
  simp only
  refine effW_some.2 (hk _ (c+1) ⟨?_,?_,?_,?_⟩ g2 g3 g4)
  ·rw [put_none h1,List.map_append]
   exact g1
  ·rw [put_none h1]
   intro e he
   rcases List.mem_append.1 he with he | he
   ·have:=h.lt e he;omega
   ·rw [List.mem_singleton.1 he]
    exact Nat.lt_succ_self c
  ·rw [put_none h1,List.map_append,List.nodup_append]
   refine ⟨h.nb,by simp,fun a ha b hb=>?_⟩
   obtain ⟨e,he,rfl⟩:=List.mem_map.1 ha
   have:=h.lt e he
   simp at hb
   omega
  ·rw [put_none h1,List.map_append,List.nodup_append]
   refine ⟨h.nk,by simp,fun a ha b hb=>?_⟩
   obtain ⟨e,he,rfl⟩:=List.mem_map.1 ha
   have:=h1 e he
   simp at hb
   subst hb
   intro h0
   rw [T.dec.2 h0.symm] at this
   cases this
 | some i=>
  obtain ⟨_,_,e,h3,h4,_⟩:=at_some ha
  rw [Nat.sub_zero] at h3
  have hke:k=e.k:=T.dec.1 h4
  simp only [List.getElem?_map,h3,Option.map_some]
  have hs:(closedV 4 (e.entry ke ve).key&&Instr.sameBits 10000 (e.entry ke ve).key (ke k))=true:=by
   show (closedV 4 (ke e.k)&&Instr.sameBits 10000 (ke e.k) (ke k))=true
   rw [hke]
   exact T.same _
  rw [hs,cond_true]
  have hset:=set_put (ke:=ke) (ve:=ve) k v c es 0 i T.dec ha
  rw [Nat.sub_zero] at hset
  rw [hset]
  obtain ⟨g1,g2,g3,g4⟩:=h.row.put (es':=(putE keq es k v c).map (En.entry ke ve)) (c':=c) hf hb
  obtain ⟨p1,p2⟩:=put_keys k v c es T.dec ⟨e,List.mem_of_getElem? h3,h4⟩
  refine effW_some.2 (hk _ c ⟨g1,fun x hx=>?_,by rw [p2];exact h.nb,by rw [p1];exact h.nk⟩ g2 g3 g4)
  have:x.b∈(putE keq es k v c).map En.b:=List.mem_map.2 ⟨x,hx,rfl⟩
  rw [p2] at this
  obtain ⟨y,hy,hyb⟩:=List.mem_map.1 this
  have:=h.lt y hy
  omega
structure Iter (A:AW) (it m c:Nat) (vs:List (En α β)):Prop where
 get:A.get it=some (.mit (some m) c (vs.map En.b) c)
 lt:it < A.next
theorem Iter.keeps {A A':AW} {it m c:Nat} {vs:List (En α β)} {S:List Nat} (h:Iter A it m c vs) (k:Keeps A A' S) (hn:it∉S):Iter A' it m c vs:=⟨k.get it _ h.get h.lt hn,Nat.lt_of_lt_of_le h.lt k.next⟩
theorem OwnM.range (T:MT P t kt et ke keq) {A:AW} {r:Nat} {es:List (En α β)} {c:Nat} (h:OwnM ke ve A r es c) (hf:Fine A) (hA:A.next < maxId) {K:Value→AW→Prop}
  (hk:∀ A',Iter (α:=α) (β:=β) A' A.next r c []→Keeps A A' []→A'.next=A.next+1→Fine A'→K (.pointer (some ⟨A.next,0,none⟩)) A'):anW P X W0 m0 (rangeP P A t (.map (some r))) K:=by
 unfold rangeP AW.new
 simp only [T.ty,h.row.row,blt_true.2 hA,cond_true]
 exact .inl ⟨_,_,rfl,hk (A.push (.mit (some r) c [] c)) ⟨by rw [AW.push_get _ hA,if_pos rfl];rfl,by rw [AW.push_next];omega⟩ ((AW.push_ext _ hA).keeps hf) rfl (hf.push _ hA)⟩
theorem put_iter {A:AW} {it m c:Nat} {vs:List (En α β)} (h:Iter A it m c vs) (hf:Fine A) (hA:A.next≤maxId) (e:En α β):Iter (A.put it (.mit (some m) c (vs.map En.b++[e.b]) c)) it m c (vs++[e])∧Keeps A (A.put it (.mit (some m) c (vs.map En.b++[e.b]) c)) [it]∧
  (A.put it (.mit (some m) c (vs.map En.b++[e.b]) c)).next=A.next∧Fine (A.put it (.mit (some m) c (vs.map En.b++[e.b]) c)):=by
 have hlt:=h.lt
 have hg:∀ i,(A.put it (.mit (some m) c (vs.map En.b++[e.b]) c)).get i=if i=it then some (.mit (some m) c (vs.map En.b++[e.b]) c) else A.get i:=fun i=>AW.get_put A it i _ (by omega)
 refine ⟨⟨by rw [hg,if_pos rfl,List.map_append];rfl,hlt⟩,⟨Nat.le_refl _,fun i o hi _ hn=>?_,fun f _ _=>rfl⟩,rfl,⟨hf.fams,fun i hi=>?_⟩⟩
 ·rw [hg,if_neg (fun e=>?_)]
  ·exact hi
  ·subst e
   rw [h.get] at hi
   cases hi
   exact hn (List.mem_singleton.2 rfl)
 ·have hi:A.next≤i:=hi
  rw [hg,if_neg (by omega)]
  exact hf.get i hi
theorem inj_b {es:List (En α β)} (hn:(es.map En.b).Nodup):∀ {x y:En α β},x∈es→y∈es→x.b=y.b→x=y:=by
 induction es with
 | nil=>intro x y hx;cases hx
 | cons e es ih=>
  simp only [List.map_cons,List.nodup_cons] at hn
  intro x y hx hy hxy
  rcases List.mem_cons.1 hx with hx | hx
  ·rcases List.mem_cons.1 hy with hy | hy
   ·rw [hx,hy]
   ·exact absurd (List.mem_map.2 ⟨y,hy,by rw [← hxy,hx]⟩) hn.1
  ·rcases List.mem_cons.1 hy with hy | hy
   ·exact absurd (List.mem_map.2 ⟨x,hx,by rw [hxy,hy]⟩) hn.1
   ·exact ih hn.2 hx hy hxy
theorem nodup_of {γ δ:Type} (f:γ→δ):∀ {l:List γ},(l.map f).Nodup→l.Nodup
 | [],_=>List.nodup_nil
 | x::l,h=>by
  simp only [List.map_cons,List.nodup_cons] at h
  exact List.nodup_cons.2 ⟨fun hx=>h.1 (List.mem_map.2 ⟨x,hx,rfl⟩),nodup_of f h.2⟩
theorem OwnM.next {A:AW} {r it:Nat} {es vs:List (En α β)} {c:Nat} (h:OwnM ke ve A r es c) (hi:Iter A it r c vs) (hv:∀ e∈vs,e∈es) (hf:Fine A) (hA:A.next≤maxId) {K:Value→AW→Prop}
  (hmore:∀ e A',e∈es→e∉vs→Iter A' it r c (vs++[e])→Keeps A A' [it]→A'.next=A.next→Fine A'→K (.tuple #[.bool true,ke e.k,ve e.v]) A') (hdone:(∀ e∈es,e∈vs)→K (.tuple #[.bool false]) A):
  anW P X W0 m0 (nextA A (.pointer (some ⟨it,0,none⟩)) false) K:=by
 refine .inr (.inr (.inr ⟨it,A,by unfold nextA;simp only [hi.get],r,c,vs.map En.b,c,es.map (En.entry ke ve),c,false,hi.get,h.row.row,?_,fun cd hcd=>?_⟩))
 ·cases hes:es with
  | nil=>simp
  | cons e es'=>
   have:e.b < c:=h.lt e (by rw [hes];simp)
   have hb:Nat.ble c e.b=false:=ble_false.2 this
   simp [En.entry,hb]
 ·have inj:∀ {x y:En α β},x∈es→y∈es→x.b=y.b→x=y:=inj_b h.nb
  have seen:∀ e∈es,(vs.map En.b).contains e.b=true↔e∈vs:=by
   intro e he
   rw [List.contains_iff_mem,List.mem_map]
   constructor
   ·rintro ⟨x,hx,hxe⟩
    rw [← inj (hv x hx) he hxe]
    exact hx
   ·intro hv'
    exact ⟨e,hv',rfl⟩
  unfold candsOf at hcd
  rcases List.mem_append.1 hcd with hcd | hcd
  ·split at hcd
   ·rename_i hem
    obtain rfl:cd=none:=by simpa using hcd
    refine hdone fun e he=>?_
    by_cases hin:e∈vs
    ·exact hin
    ·exfalso
     have hc:(vs.map En.b).contains e.b=false:=by
      cases hcc:(vs.map En.b).contains e.b with
      | false=>rfl
      | true=>exact absurd ((seen e he).1 hcc) hin
     have:e.entry ke ve∈(((es.map (En.entry ke ve)).filter fun e=>!(vs.map En.b).contains e.born).filter fun e=>Nat.blt e.born c):=by
      rw [List.mem_filter,List.mem_filter]
      refine ⟨⟨List.mem_map.2 ⟨e,he,rfl⟩,?_⟩,blt_true.2 (h.lt e he)⟩
      show (!(vs.map En.b).contains e.b)=true
      rw [hc];rfl
     rw [List.isEmpty_iff.1 hem] at this
     cases this
   ·cases hcd
  ·obtain ⟨me,hme,rfl⟩:=List.mem_map.1 hcd
   have hme2:me∈(es.map (En.entry ke ve)).filter fun e=>!(vs.map En.b).contains e.born:=by
    rcases List.mem_append.1 hme with hme | hme
    ·exact (List.mem_filter.1 hme).1
    ·exact (List.mem_filter.1 hme).1
   obtain ⟨hm1,hm2⟩:=List.mem_filter.1 hme2
   obtain ⟨e,he,rfl⟩:=List.mem_map.1 hm1
   have hm2:(!(vs.map En.b).contains e.b)=true:=hm2
   have hnv:e∉vs:=fun hin=>by rw [(seen e he).2 hin] at hm2;cases hm2
   obtain ⟨g1,g2,g3,g4⟩:=put_iter hi hf hA e
   exact hmore e _ he hnv g1 g2 g3 g4
theorem lastOf_snoc (l:List Nat) (x:Nat):lastOf (l++[x])=some x:=by
 induction l with
 | nil=>rfl
 | cons a l ih=>
  cases l with
  | nil=>rfl
  | cons b l=>exact ih
theorem OwnM.entry {A:AW} {r it:Nat} {es vs:List (En α β)} {c:Nat} (h:OwnM ke ve A r es c) {e:En α β} (hi:Iter A it r c (vs++[e])) (he:e∈es) {K:Value→AW→Prop} (hk:K (.tuple #[ke e.k,ve e.v]) A):
  anW P X W0 m0 (entryP A (.pointer (some ⟨it,0,none⟩))) K:=by
 have hfind:∀ (l:List (En α β)) (i:Nat),e∈l→(l.map En.b).Nodup→∃ j,findBorn e.b (l.map (En.entry ke ve)) i=some (i+j)∧l[j]? =some e:=by
  intro l
  induction l with
  | nil=>intro i h;cases h
  | cons x l ih=>
   intro i hx hn
   simp only [List.map_cons,List.nodup_cons] at hn
   by_cases hxb:x.b=e.b
   ·rcases List.mem_cons.1 hx with rfl | hx
    ·refine ⟨0,?_,rfl⟩
     show (bif Nat.beq e.b e.b then some i else _)=_
     rw [Nat.beq_refl]
     rfl
    ·exact absurd (List.mem_map.2 ⟨e,hx,hxb.symm⟩) hn.1
   ·rcases List.mem_cons.1 hx with rfl | hx
    ·exact absurd rfl hxb
    ·obtain ⟨j,h1,h2⟩:=ih (i+1) hx hn.2
     refine ⟨j+1,?_,h2⟩
     show (bif Nat.beq x.b e.b then some i else findBorn e.b (l.map (En.entry ke ve)) (i+1))=_
     have:Nat.beq x.b e.b=false:=by
      cases hb:Nat.beq x.b e.b with
      | false=>rfl
      | true=>exact absurd (Nat.eq_of_beq_eq_true hb) hxb
     rw [this,cond_false,h1,show i+1+j=i+(j+1) by omega]
 obtain ⟨j,h1,h2⟩:=hfind es 0 he h.nb
 rw [Nat.zero_add] at h1
 have hl:lastOf ((vs++[e]).map En.b)=some e.b:=by rw [List.map_append];exact lastOf_snoc _ _
 have e1:entryA A (.pointer (some ⟨it,0,none⟩))=some (.tuple #[ke e.k,ve e.v]):=by
  unfold entryA
  simp only [hi.get,hl,h.row.row,Nat.beq_refl,cond_true,h1,List.getElem?_map,h2,Option.map_some]
  rfl
 unfold entryP
 rw [e1]
 exact .inl ⟨_,_,rfl,hk⟩
theorem told_all {es vs:List (En α β)} (hn:(es.map En.b).Nodup) (hvn:(vs.map En.b).Nodup) (h1:∀ e∈vs,e∈es) (h2:∀ e∈es,e∈vs):vs.Perm es:=by
 have n1:es.Nodup:=nodup_of _ hn
 have n2:vs.Nodup:=nodup_of _ hvn
 exact (List.perm_ext_iff_of_nodup n2 n1).2 fun e=>⟨h1 e,h2 e⟩
end
section
variable {P:Program} {X:XNames} {W0:World} {m0:Inj P}
theorem put_obj {A:AW} {i:Nat} {o o':AO} (h:A.get i=some o) (hfam:famOf i o=i) (hlt:i < A.next) (hf:Fine A) (hA:A.next≤maxId):(A.put i o').get i=some o'∧Keeps A (A.put i o') [i]∧(A.put i o').next=A.next∧Fine (A.put i o'):=by
 have hg:∀ j,(A.put i o').get j=if j=i then some o' else A.get j:=fun j=>AW.get_put A i j _ (by omega)
 refine ⟨by rw [hg,if_pos rfl],⟨Nat.le_refl _,fun j q hj _ hn=>?_,fun f _ _=>rfl⟩,rfl,⟨hf.fams,fun j hj=>?_⟩⟩
 ·rw [hg,if_neg (fun e=>?_)]
  ·exact hj
  ·subst e
   rw [h] at hj
   cases hj
   exact hn (by rw [hfam];exact List.mem_singleton.2 rfl)
 ·have hj:A.next≤j:=hj
  rw [hg,if_neg (by omega)]
  exact hf.get j hj
structure LoopR (A:AW) (l:Nat) (r:ALoop):Prop where
 get:A.get l=some (.loop r)
 lt:l < A.next
theorem LoopR.keeps {A A':AW} {l:Nat} {r:ALoop} {S:List Nat} (h:LoopR A l r) (k:Keeps A A' S) (hn:l∉S):LoopR A' l r:=⟨k.get l _ h.get h.lt hn,Nat.lt_of_lt_of_le h.lt k.next⟩
structure DefR (A:AW) (D:Nat):Prop where
 get:A.get D=some (.deferred (some []))
 lt:D < A.next
theorem DefR.keeps {A A':AW} {D:Nat} {S:List Nat} (h:DefR A D) (k:Keeps A A' S) (hn:D∉S):DefR A' D:=⟨k.get D _ h.get h.lt hn,Nat.lt_of_lt_of_le h.lt k.next⟩
theorem loopW_made {A:AW} {fn:FuncId} {tm:Tm} {ps:List Tmp} {assign body:Code} {K:Nat→Nat→AW→Prop} (hf:Fine A) (hA:A.next+1 < maxId)
  (hk:∀ A',DefR A' A.next→LoopR A' (A.next+1) { state:=.ready,pending:=none,fn:=fn,tm:=tm,params:=ps,assign:=assign,body:=body,defers:=A.next }→Keeps A A' []→A'.next=A.next+2→Fine A'→K A.next (A.next+1) A'):
  loopW A fn tm ps assign body K:=by
 have e1:A.new (.deferred (some []))=some (A.next,A.push (.deferred (some []))):=by
  unfold AW.new
  simp only [blt_true.2 (show A.next < maxId by omega),cond_true]
  rfl
 have f1:=hf.push (.deferred (some [])) (show A.next < maxId by omega)
 have k1:=(AW.push_ext (A:=A) (.deferred (some [])) (show A.next < maxId by omega)).keeps hf
 have n1:(A.push (.deferred (some []))).next=A.next+1:=rfl
 generalize A.push (.deferred (some []))=A1 at e1 f1 k1 n1
 refine ⟨A.next,A1,A1.next,A1.push (.loop { state:=.ready,pending:=none,fn:=fn,tm:=tm,params:=ps,assign:=assign,body:=body,defers:=A.next }),e1,?_,?_⟩
 ·unfold AW.new
  simp only [blt_true.2 (show A1.next < maxId by omega),cond_true]
  rfl
 ·have k2:=(AW.push_ext (A:=A1) (.loop { state:=.ready,pending:=none,fn:=fn,tm:=tm,params:=ps,assign:=assign,body:=body,defers:=A.next }) (show A1.next < maxId by omega)).keeps f1
  have hD:DefR A1 A.next:=⟨by
   unfold AW.new at e1
   rw [blt_true.2 (show A.next < maxId by omega),cond_true,Option.some.injEq,Prod.mk.injEq] at e1
   rw [← e1.2]
   show (A.put A.next _).get A.next=_
   rw [AW.get_put A A.next A.next _ (by omega),if_pos rfl],by omega⟩
  rw [n1]
  refine hk _ (hD.keeps k2 (by simp)) ⟨?_,?_⟩ (k1.trans k2 (by simp)) ?_ (f1.push _ (by omega))
  ·rw [← n1,AW.push_get _ (by omega),if_pos rfl]
  ·rw [AW.push_next];omega
  ·rw [AW.push_next];omega
theorem beginW_made {A:AW} {l:Nat} {r:ALoop} {K:AW→Prop} (h:LoopR A l r) (hs:r.state=.ready) (hf:Fine A) (hA:A.next≤maxId) (hk:∀ A',LoopR A' l { r with state:=.busy }→Keeps A A' [l]→A'.next=A.next→Fine A'→K A'):beginW A l K:=by
 obtain ⟨h1,h2,h3,h4⟩:=put_obj (o':=.loop { r with state:=.busy }) h.get rfl h.lt hf hA
 exact ⟨r,h.get,hs,hk _ ⟨h1,h.lt⟩ h2 h3 h4⟩
theorem leaveW_made {A:AW} {l:Nat} {r:ALoop} {j:Option Code} {K:Value→AW→Prop} (h:LoopR A l r) (hf:Fine A) (hA:A.next≤maxId) (hk:∀ A',LoopR A' l { r with state:=if j.isNone then .ready else .done,pending:=j }→Keeps A A' [l]→A'.next=A.next→Fine A'→K (.bool j.isNone) A'):leaveW A l j K:=by
 obtain ⟨h1,h2,h3,h4⟩:=put_obj (o':=.loop { r with state:=if j.isNone then .ready else .done,pending:=j }) h.get rfl h.lt hf hA
 exact ⟨r,h.get,hk _ ⟨h1,h.lt⟩ h2 h3 h4⟩
theorem endLoopW_made {A:AW} {l:Nat} {r:ALoop} {p q:AW→Prop} (h:LoopR A l r) (hs:r.state≠ .busy) (hp:r.pending=none) (hf:Fine A) (hA:A.next≤maxId) (hk:∀ A',Keeps A A' [l]→A'.next=A.next→Fine A'→p A'):endLoopW A l p q:=by
 obtain ⟨h1,h2,h3,h4⟩:=put_obj (o':=.loop { r with state:=.exhausted }) h.get rfl h.lt hf hA
 exact ⟨r,h.get,hs,.inl ⟨hp,hk _ h2 h3 h4⟩⟩
theorem takeDs_one {A:AW} {D:Nat} {K:AW→Prop} (h:DefR A D) (hf:Fine A) (hA:A.next≤maxId) (hk:∀ A',Keeps A A' [D]→A'.next=A.next→Fine A'→K A'):takeDs [D] A K:=by
 obtain ⟨h1,h2,h3,h4⟩:=put_obj (o':=.deferred none) h.get rfl h.lt hf hA
 exact ⟨h.get,hk _ h2 h3 h4⟩
theorem yield_round {A:AW} {l:Nat} {r:ALoop} {args:List Value} {K:Value→AW→Prop} (h:LoopR A l r) (hn:args.length=r.params.length) (hk:RoundW P X W0 m0 l r.fn (setAll r.tm (r.params.zip args)) r.assign r.body A K):
  anW P X W0 m0 (dynA P X A (.func (.yield l) #[] #[]) args) K:=by
 refine .inr (.inr (.inl ⟨l,r.fn,setAll r.tm (r.params.zip args),r.assign,r.body,A,?_,hk⟩))
 unfold dynA invokeA
 simp only [h.get]
 rw [show (#[]:Array Value).toList++args=args from rfl]
 rw [show Nat.beq args.length r.params.length=true by rw [hn,Nat.beq_refl]]
 rfl
end
section
variable {P:Program} {X:XNames} {W0:World} {m0:Inj P} {α β:Type} {ke:α→Value} {ve:β→Value} {keq:α→α→Bool} {t kt et:TypeId}
def delE (keq:α→α→Bool) (es:List (En α β)) (k:α):List (En α β):=es.filter fun e=>!keq k e.k
theorem del_none {es:List (En α β)} {k:α} (hn:∀ e∈es,keq k e.k=false):delE keq es k=es:=by
 unfold delE
 rw [List.filter_eq_self]
 intro e he
 rw [hn e he];rfl
theorem del_at (hd:∀ {a b},keq a b=true↔a=b) (k:α):∀ (es:List (En α β)) (i j:Nat),(es.map En.k).Nodup→atE keq es k i=some j→es.eraseIdx (j - i)=delE keq es k
 | [],_,_,_,h=>by simp [atE] at h
 | e::es,i,j,hn,h=>by
  simp only [List.map_cons,List.nodup_cons] at hn
  unfold atE at h
  unfold delE
  split at h
  ·rename_i hk
   cases h
   rw [Nat.sub_self,List.eraseIdx_cons_zero,List.filter_cons_of_neg (by rw [hk];simp)]
   have hke:k=e.k:=hd.1 hk
   symm
   rw [List.filter_eq_self]
   intro x hx
   have:keq k x.k=false:=by
    cases hq:keq k x.k with
    | false=>rfl
    | true=>
     have:=hd.1 hq
     exact absurd (List.mem_map.2 ⟨x,hx,by rw [← this,hke]⟩) hn.1
   rw [this];rfl
  ·rename_i hk
   obtain ⟨h1,_,_⟩:=at_some h
   rw [show j - i=(j - (i+1))+1 by omega,List.eraseIdx_cons_succ,List.filter_cons_of_pos (by simpa using hk),del_at hd k es (i+1) j hn.2 h]
   rfl
theorem eraseIdx_map {γ δ:Type} (f:γ→δ):∀ (l:List γ) (i:Nat),(l.map f).eraseIdx i=(l.eraseIdx i).map f
 | [],i=>by simp
 | x::l,0=>by simp
 | x::l,i+1=>by simp [eraseIdx_map f l i]
theorem OwnM.del (T:MT P t kt et ke keq) {A:AW} {r:Nat} {es:List (En α β)} {c:Nat} (h:OwnM ke ve A r es c) (hf:Fine A) (hb:A.next≤maxId) {k:α} {K:AW→Prop}
  (hk:∀ A',OwnM ke ve A' r (delE keq es k) c→Keeps A A' [r]→A'.next=A.next→Fine A'→K A'):effW (deleteA P A t (.map (some r)) (ke k)) K:=by
 have hsub:List.Sublist (delE keq es k) es:=List.filter_sublist
 have fin:∀ es',es'=delE keq es k→effW (some (A.put r (.map (es'.map (En.entry ke ve)) c false))) K:=by
  rintro es' rfl
  obtain ⟨g1,g2,g3,g4⟩:=h.row.put (es':=(delE keq es k).map (En.entry ke ve)) (c':=c) hf hb
  exact effW_some.2 (hk _ ⟨g1,fun e he=>h.lt e (hsub.subset he),(hsub.map En.b).nodup h.nb,(hsub.map En.k).nodup h.nk⟩ g2 g3 g4)
 unfold deleteA
 simp only [mapTypes_eq T,h.row.row,T.q,cond_true,find_eq T]
 cases ha:atE keq es k 0 with
 | none=>
  simp only
  exact fin es (del_none (at_none ha).1).symm
 | some i=>
  simp only
  rw [eraseIdx_map]
  refine fin _ ?_
  have:=del_at T.dec k es 0 i h.nk ha
  rwa [Nat.sub_zero] at this
theorem OwnM.clone {A:AW} {r:Nat} {es:List (En α β)} {c:Nat} (h:OwnM ke ve A r es c) (hf:Fine A) (hA:A.next < maxId):
  ∃ A',A.new (.map (es.map (En.entry ke ve)) c false)=some (A.next,A')∧OwnM ke ve A' A.next es c∧Keeps A A' []∧A'.next=A.next+1∧Fine A':=by
 refine ⟨A.push (.map (es.map (En.entry ke ve)) c false),?_,⟨⟨?_,?_⟩,h.lt,h.nb,h.nk⟩,(AW.push_ext _ hA).keeps hf,rfl,hf.push _ hA⟩
 ·unfold AW.new
  rw [blt_true.2 hA,cond_true]
  rfl
 ·rw [AW.push_get _ hA,if_pos rfl]
 ·rw [AW.push_next];omega
end
theorem ba_eq {a b:ByteArray} (h:a.data.toList=b.data.toList):a=b:=by
 obtain ⟨⟨x⟩⟩:=a
 obtain ⟨⟨y⟩⟩:=b
 have h:x=y:=h
 rw [h]
end Go.Abs
namespace Go.Proofs.YtbchfeibhoobeaaGreatDoor
open Go.Abs
theorem keyS (e:Bool) (s:ByteArray):keyQ Tp e 9 (.string s)=true:=by
 cases e <;> kernel_rfl
theorem sameBS (s:ByteArray):(closedV 4 (.string s)&&Instr.sameBits 10000 (.string s) (.string s))=true:=by
 have hs:Instr.sameBits 10000 (.string s) (.string s)=true:=by
  show Instr.sameBits (9999+1) (.string s) (.string s)=true
  simp [Instr.sameBits,beq_toListBytes]
 rw [hs];rfl
theorem eqS (a b:ByteArray):eqA Tp 9 (.string a) (.string b)=some (a.data.toList==b.data.toList):=by
 unfold eqA
 have hc:(closedV 4 (.string a)&&closedV 4 (.string b))=true:=rfl
 rw [hc,cond_true]
 show quiet Tp (Op.equalIn (9999+1) 9 _ _)=_
 exact quiet_eqs (by kernel_rfl)
theorem se37:sliceElemT Tp 37=some 9:=by kernel_rfl
theorem sz9:szT Tp 9=some 1:=by kernel_rfl
theorem by9:bytesT Tp 9=some 16:=by kernel_rfl
theorem hz9:hasZero Tp 9 1=true:=by kernel_rfl
theorem us37:Tp.underlying 37=some (.slice 9):=by kernel_rfl
theorem bs37 (A:AW) (s:ByteArray):buildSliceA Tp A 37 1 [(0,.string s)]=(match A.newRow [.string s] 9 with | some (a,w')=>.ok (.slice (some a) 1 1) w' | none=>.fail "buildSlice new"):=by kernel_rfl
theorem dyn103 (A:AW) (l:Nat) (a:Addr):dynA Tp theX A (.func (.func 103) ⟨[]⟩ ⟨[.pointer (some a)]⟩) [.func (.yield l) #[] #[]]=.ok (.enter 103 [.func (.yield l) #[] #[],.pointer (some a)]) A:=by kernel_rfl
theorem ex_pair0 (a b:Value):extractP (.tuple #[a,b]) 0=some a:=rfl
theorem ex_tri0 (a b c:Value):extractP (.tuple #[a,b,c]) 0=some a:=rfl
theorem ex_one0 (a:Value):extractP (.tuple #[a]) 0=some a:=rfl
theorem nodup_len {γ:Type}:∀ {a b:List γ},a.Nodup→(∀ x∈a,x∈b)→a.length≤b.length
 | [],_,_,_=>Nat.zero_le _
 | x::a,b,hn,hs=>by
  obtain ⟨s,t,rfl⟩:=List.append_of_mem (hs x List.mem_cons_self)
  rw [List.nodup_cons] at hn
  have:=nodup_len (a:=a) (b:=s++t) hn.2 fun y hy=>by
   have hne:y≠x:=fun e=>hn.1 (e▸hy)
   rcases List.mem_append.1 (hs y (List.mem_cons_of_mem _ hy)) with h | h
   ·exact List.mem_append_left _ h
   ·rcases List.mem_cons.1 h with h | h
    ·exact absurd h hne
    ·exact List.mem_append_right _ h
  simp only [List.length_append,List.length_cons] at *
  omega
theorem newStr1 {A:AW} {s:ByteArray} {K:Value→AW→Prop} (hf:Fine A) (h:A.next < maxId) (hk:∀ A',Made A A' [.string s] 9→K (.slice (some ⟨A.next,0,none⟩) 1 1) A'):bothW (buildSliceA Tp A 37 1 [(0,.string s)]) K:=by
 rw [bs37]
 unfold AW.newRow AW.new
 have hc:([Value.string s].all oneCell)=true:=rfl
 simp only [hc,cond_true,blt_true.2 h]
 exact bothW_ok.2 (hk (A.push (.row [.string s] 9 A.next 0 false)) ⟨AW.push_ext _ h,rfl,by rw [AW.push_get _ h,if_pos rfl],hf.alone (Nat.le_refl _),hf.push _ h⟩)
theorem tm127 (q b:Nat) (v:Value):(setAll (setsT ⟨13,.nil⟩ [(0,.slice none 0 0),(1,.func (.func 103) ⟨[]⟩ ⟨[.pointer (some ⟨q,0,none⟩)]⟩),(2,.pointer (some ⟨b,0,none⟩)),(4,.slice none 0 0),(6,.func (.func 103) ⟨[]⟩ ⟨[.pointer (some ⟨q,0,none⟩)]⟩)]) [(7,v)]).sz=13∧
  (setAll (setsT ⟨13,.nil⟩ [(0,.slice none 0 0),(1,.func (.func 103) ⟨[]⟩ ⟨[.pointer (some ⟨q,0,none⟩)]⟩),(2,.pointer (some ⟨b,0,none⟩)),(4,.slice none 0 0),(6,.func (.func 103) ⟨[]⟩ ⟨[.pointer (some ⟨q,0,none⟩)]⟩)]) [(7,v)]).get 2=.pointer (some ⟨b,0,none⟩)∧
  (setAll (setsT ⟨13,.nil⟩ [(0,.slice none 0 0),(1,.func (.func 103) ⟨[]⟩ ⟨[.pointer (some ⟨q,0,none⟩)]⟩),(2,.pointer (some ⟨b,0,none⟩)),(4,.slice none 0 0),(6,.func (.func 103) ⟨[]⟩ ⟨[.pointer (some ⟨q,0,none⟩)]⟩)]) [(7,v)]).get 7=v:=⟨by kernel_rfl,by kernel_rfl,by kernel_rfl⟩
section
variable {W0:World} {m0:Inj Tp} {β:Type} {ve:β→Value}
def kS (s:ByteArray):Value:=.string s
abbrev loopC (tm:Tm) (D:Nat) (ac bd:Code):ALoop:={ state:=.ready,pending:=none,fn:=127,tm:=tm,params:=[7],assign:=ac,body:=bd,defers:=D }
theorem wc103 {A:AW} {q r b l c D:Nat} {es:List (En ByteArray β)} {tm:Tm} {ac bd:Code} {K:Value→AW→Prop} (has:ac=cd 127 [1,0,1,0,0]) (hbd:bd=cd 127 [1,0,1,0,1]) (hq:Go.Abs.Row1 A q [.map (some r)] 74) (hm:OwnM kS ve A r es c) (hb:Go.Abs.Row1 A b [.slice none 0 0] 37) (hl:LoopR A l (loopC tm D ac bd)) (hbl:b≠l) (hqb:q≠b) (hql:q≠l) (hrb:r≠b) (hrl:r≠l)
  (ht:∀ v,(setAll tm [(7,v)]).sz=13∧(setAll tm [(7,v)]).get 2=.pointer (some ⟨b,0,none⟩)∧(setAll tm [(7,v)]).get 7=v) (hf:Fine A) (hes:es.length < 100000) (hA:A.next+10+3 * es.length < maxId)
  (hk:∀ A' sv F (vs:List (En ByteArray β)),Go.Abs.Row1 A' b [sv] 37→LoopR A' l (loopC tm D ac bd)→OwnG A' 9 1 sv vs.length (vs.map fun e=>kS e.k) F→vs.Perm es→(∀ x∈F,A.next < x)→Keeps A A' [b,l]→A'.next≤A.next+1+3 * es.length→Fine A'→K (.tuple ⟨[]⟩) A'):
  Wc Tp theX W0 m0 103 [.func (.yield l) #[] #[],.pointer (some ⟨q,0,none⟩)] A K:=by
 have hblt:=hb.lt
 have hllt:=hl.lt
 have hqlt:=hq.lt
 have hrlt:=hm.ltA
 let I:Nat→Nat→List Value→AW→Prop:=fun g id vals A'=>id=0∧∃ (sv:Value) (F:List Nat) (vs:List (En ByteArray β)),vals=[.func (.yield l) #[] #[],.pointer (some ⟨A.next,0,none⟩)]∧Iter A' A.next r c vs∧OwnM kS ve A' r es c∧Go.Abs.Row1 A' b [sv] 37∧LoopR A' l (loopC tm D ac bd)∧
  OwnG A' 9 1 sv vs.length (vs.map fun e=>kS e.k) F∧(∀ e∈vs,e∈es)∧(vs.map En.b).Nodup∧(∀ x∈F,A.next < x)∧Keeps A A' [b,l]∧Fine A'∧A'.next≤A.next+1+3 * vs.length∧g=es.length - vs.length
 refine w103 _ _ _ (c103 (I:=I) ?_) ?_
 ·rintro g id vals A' d ⟨rfl,sv,F,vs,rfl,hit,hm',hb',hl',ho,hvs,hnd,hF,k,f,nx,rfl⟩ hd
  rw [l103_0]
  simp only [L103,List.map_cons,List.map_nil,List.cons.injEq,and_true] at hd
  obtain ⟨d0,d5⟩:=hd
  rw [d0,d5]
  have hlen:=nodup_len (nodup_of _ hnd) hvs
  refine hm'.next hit hvs f (by omega) (fun e A2 he hnv it2 k2 n2 f2=>?_) fun hall=>?_
  ·have hm2:=hm'.keeps k2 (by simp;omega)
   have hb2:=hb'.keeps k2 (by simp;omega)
   have hl2:=hl'.keeps k2 (by simp;omega)
   have ho2:=ho.keeps k2 (fun x hx=>by have:=hF x hx;simp;omega)
   have K2:Keeps A A2 [b,l]:=k.trans k2 (by simp)
   have hvs2:∀ x∈vs++[e],x∈es:=fun x hx=>by
    rcases List.mem_append.1 hx with h | h
    ·exact hvs x h
    ·rw [List.mem_singleton.1 h];exact he
   have hnd2:((vs++[e]).map En.b).Nodup:=by
    rw [List.map_append,List.nodup_append]
    refine ⟨hnd,by simp,fun x hx y hy hxy=>hnv ?_⟩
    obtain ⟨z,hz,rfl⟩:=List.mem_map.1 hx
    obtain rfl:y=e.b:=by simpa using hy
    rw [← inj_b hm.nb (hvs z hz) he hxy]
    exact hz
   have hlen2:=nodup_len (nodup_of _ hnd2) hvs2
   have hl1:(vs++[e]).length=vs.length+1:=by simp
   simp only [ex_tri0,pureW_some]
   refine forkW_bool.2 ⟨fun _=>?_,fun h=>by cases h⟩
   refine hm2.entry it2 he ?_
   simp only [ex_pair0,pureW_some]
   obtain ⟨t1,t2,t3⟩:=ht (kS e.k)
   refine yield_round hl2 rfl (round_of (T:=Tz) (L:=Lz) (N:=4000) gX gP gPlain (by decide) t1 ?_)
   rw [has,hbd,r127_0]
   have t2:(setAll tm (List.zip [7] [kS e.k])).get 2=.pointer (some ⟨b,0,none⟩):=t2
   have t3:(setAll tm (List.zip [7] [kS e.k])).get 7=kS e.k:=t3
   refine beginW_made hl2 rfl f2 (by omega) fun A3 hl3 k3 n3 f3=>?_
   have hb3:=hb2.keeps k3 (by simp;omega)
   have ho3:=ho2.keeps k3 (fun x hx=>by have:=hF x hx;simp;omega)
   have one3:=ho3.one
   simp only [t2,t3,ld_37,cell_row hb3.row,cellOf,one3.2,cond_false,pureW_some]
   refine newStr1 f3 (by omega) fun A4 m4=>?_
   have n4:=m4.next
   have k4:=m4.keeps f3
   have hx:sourceZ Tp A4 9 37 (0+1) (.slice (some ⟨A3.next,0,none⟩) 1 1)=some (0+1,[kS e.k]):=by
    unfold sourceZ
    rw [us37]
    show sourceA A4 1 (.slice (some ⟨A3.next,0,none⟩) 1 1)=_
    unfold sourceA
    simp only [cells_row m4.row1.row]
    rfl
   refine appendG (m:=0) (size:=0) se37 sz9 by9 hz9 hx rfl rfl (ho3.keeps k4 (by simp)) m4.fine (by omega) (by have:room=68719476736:=rfl;omega) (by have:room=68719476736:=rfl;omega) fun sv5 A5 F5 ho5 k5 hF5 n5 f5=>?_
   have hb5:=(hb3.keeps k4 (by simp)).keeps k5 (fun hm=>by have:=hF _ hm;omega)
   have hl5:=(hl3.keeps k4 (by simp)).keeps k5 (fun hm=>by have:=hF _ hm;omega)
   have hm5:=((hm2.keeps k3 (by simp;omega)).keeps k4 (by simp)).keeps k5 (fun hm=>by have:=hF _ hm;omega)
   have hit5:=((it2.keeps k3 (by simp;omega)).keeps k4 (by simp)).keeps k5 (fun hm=>by have:=hF _ hm;omega)
   have hF5':∀ x∈F5,A.next < x:=fun x hx=>by
    rcases hF5 x hx with h | h
    ·exact hF x h
    ·have:=k4.next;have:=K2.next;have:=it2.lt;omega
   obtain ⟨o5,hx5⟩:∃ o n c,sv5=.slice o n c:=by
    rcases ho5 with ⟨rfl,_⟩ | ⟨_,_,rfl,_⟩
    ·exact ⟨_,_,_,rfl⟩
    ·exact ⟨_,_,_,rfl⟩
   refine hb5.store f5 (by omega) (st_37 _ _ _) (by obtain ⟨n,c,rfl⟩:=hx5;rfl) (by simp) (by obtain ⟨n,c,rfl⟩:=hx5;rfl) fun A6 hb6 k6 n6 f6=>?_
   have hb6:Go.Abs.Row1 A6 b [sv5] 37:=by obtain ⟨n,c,rfl⟩:=hx5;exact hb6
   refine leaveW_made (hl5.keeps k6 (by simp;omega)) f6 (by omega) fun A7 hl7 k7 n7 f7=>?_
   have hl7:LoopR A7 l (loopC tm D ac bd):=hl7
   simp only [un_not,pureW_some]
   refine forkW_bool.2 ⟨fun h=>(by cases h),fun _=>?_⟩
   refine cutW_self.2 ⟨es.length - (vs.length+1),by omega,rfl,sv5,F5,vs++[e],rfl,(hit5.keeps k6 (by simp;omega)).keeps k7 (by simp;omega),(hm5.keeps k6 (by simp;omega)).keeps k7 (by simp;omega),hb6.keeps k7 (by simp;omega),hl7,?_,hvs2,hnd2,hF5',?_,f7,by omega,by omega⟩
   ·rw [List.map_append,hl1]
    exact (ho5.keeps k6 (fun x hx=>by have:=hF5' x hx;simp;omega)).keeps k7 (fun x hx=>by have:=hF5' x hx;simp;omega)
   ·exact ((((K2.trans k3 (by simp)).trans k4 (by simp)).trans k5 (fun x hx=>.inr (by have:=hF x hx;omega))).trans k6 (by simp)).trans k7 (by simp)
  ·simp only [ex_one0,pureW_some]
   refine forkW_bool.2 ⟨fun h=>(by cases h),fun _=>?_⟩
   exact hk A' sv F vs hb' hl' ho (told_all hm.nb hnd hvs hall) hF k (by omega) f
 ·rw [e103]
  simp only [ld_74,cell_row hq.row,cellOf,isT_map,cond_false,pureW_some]
  refine hm.range (t:=74) (P:=Tp) (kt:=9) (et:=100) (keq:=fun a b=>a.data.toList==b.data.toList) ?_ hf (by omega) fun A1 hit k1 n1 f1=>?_
  ·exact ⟨by kernel_rfl,eqS,fun {a b}=>by rw [beq_iff_eq];exact ⟨ba_eq,fun h=>by rw [h]⟩,keyS,sameBS⟩
  ·exact cutW_self.2 ⟨es.length,rfl,.slice none 0 0,[],[],rfl,hit,hm.keeps k1 (by simp),hb.keeps k1 (by simp),hl.keeps k1 (by simp),.nil _ _ _,by simp,by simp,by simp,k1.more (by simp),f1,by simp;omega,rfl⟩
theorem wc127 {A:AW} {q r c:Nat} {es:List (En ByteArray β)} {K:Value→AW→Prop} (hq:Go.Abs.Row1 A q [.map (some r)] 74) (hm:OwnM kS ve A r es c) (hf:Fine A) (hes:es.length < 100000) (hA:A.next+20+3 * es.length < maxId)
  (hk:∀ A' sv F (vs:List (En ByteArray β)),OwnG A' 9 1 sv vs.length (vs.map fun e=>kS e.k) F→vs.Perm es→(∀ x∈F,A.next≤x)→Keeps A A' []→A'.next≤A.next+10+3 * es.length→Fine A'→K sv A'):
  Wc Tp theX W0 m0 127 [.slice none 0 0,.func (.func 103) ⟨[]⟩ ⟨[.pointer (some ⟨q,0,none⟩)]⟩] A K:=by
 have hqlt:=hq.lt
 have hrlt:=hm.ltA
 refine w127 _ _ _ (cuts_none (S:=fun _ _ _=>False) fun _ _ _ h=>h) ?_
 rw [e127]
 refine newP_made (cs:=[.slice none 0 0]) hf (by omega) rfl fun A1 m1=>?_
 have n1:=m1.next
 have k1:=m1.keeps hf
 refine loopW_made m1.fine (by omega) fun A2 hD hl k2 n2 f2=>?_
 have K2:Keeps A A2 []:=k1.trans k2 (by simp)
 refine ⟨103,_,A2,dyn103 A2 _ ⟨q,0,none⟩,wc103 rfl rfl (hq.keeps K2 (by simp)) (hm.keeps K2 (by simp)) (m1.row1.keeps k2 (by simp)) hl (by omega) (by omega) (by omega) (by omega) (by omega) (fun v=>tm127 q _ v) f2 hes (by omega) fun A3 sv F vs hb3 hl3 ho3 hp hF k3 n3 f3=>?_⟩
 refine endLoopW_made hl3 (show LoopState.ready≠LoopState.busy from fun h=>by cases h) rfl f3 (by omega) fun A4 k4 n4 f4=>?_
 have hb4:=hb3.keeps k4 (by simp;omega)
 have ho4:=ho3.keeps k4 (fun x hx=>by have:=hF x hx;simp;omega)
 have one4:=ho4.one
 simp only [ld_37,cell_row hb4.row,cellOf,one4.2,cond_false,pureW_some]
 refine takeDs_one ((hD.keeps k3 (by simp;omega)).keeps k4 (by simp)) f4 (by omega) fun A5 k5 n5 f5=>?_
 refine hk A5 sv F vs (ho4.keeps k5 (fun x hx=>by have:=hF x hx;simp;omega)) hp (fun x hx=>by have:=hF x hx;omega) ?_ (by omega) f5
 exact ((K2.trans k3 (by simp;omega)).trans k4 (by simp;omega)).trans k5 (by simp;omega)
theorem wc101 {A:AW} {q r c:Nat} {es:List (En ByteArray β)} {K:Value→AW→Prop} (hq:Go.Abs.Row1 A q [.map (some r)] 74) (hm:OwnM kS ve A r es c) (hf:Fine A) (hes:es.length < 100000) (hA:A.next+20+3 * es.length < maxId)
  (hk:∀ A' sv F (vs:List (En ByteArray β)),OwnG A' 9 1 sv vs.length (vs.map fun e=>kS e.k) F→vs.Perm es→(∀ x∈F,A.next≤x)→Keeps A A' []→A'.next≤A.next+10+3 * es.length→Fine A'→K sv A'):
  Wc Tp theX W0 m0 101 [.func (.func 103) ⟨[]⟩ ⟨[.pointer (some ⟨q,0,none⟩)]⟩] A K:=by
 refine w101 _ _ (cuts_none (S:=fun _ _ _=>False) fun _ _ _ h=>h) ?_
 rw [e101]
 exact wc127 hq hm hf hes hA hk
end
end Go.Proofs.YtbchfeibhoobeaaGreatDoor
namespace Go.Jr
open Go.Crc
abbrev Rec:=UInt8 × List UInt8
def be4 (n:Nat):List UInt8:=[UInt8.ofNat (n / 16777216),UInt8.ofNat (n / 65536),UInt8.ofNat (n / 256),UInt8.ofNat n]
def numB:List UInt8→Nat:=fun l=>l.foldl (fun n c=>256 * n+c.toNat) 0
theorem numB_be4 {n:Nat} (h:n < 4294967296):numB (be4 n)=n:=by
 show 256 * (256 * (256 * (256 * 0+(UInt8.ofNat (n / 16777216)).toNat)+(UInt8.ofNat (n / 65536)).toNat)+(UInt8.ofNat (n / 256)).toNat)+(UInt8.ofNat n).toNat=n
 simp only [UInt8.toNat_ofNat']
 omega
def headR (r:Rec):List UInt8:=sealT (r.1::be4 r.2.length)
def putR (r:Rec):List UInt8:=headR r++sealT r.2
def putL (l:List Rec):List UInt8:=l.flatMap putR
theorem headR_length (r:Rec):(headR r).length=9:=rfl
theorem putR_length (r:Rec):(putR r).length=13+r.2.length:=by
 unfold putR
 rw [List.length_append,headR_length,seal_length]
 omega
def scanP:Nat→List UInt8→List Rec × Nat × Nat
 | 0,_=>([],0,0)
 | f+1,s=>
  if s=[] then ([],0,0) else
  if s.length < 9 then ([],0,1) else
  if sealed (s.take 9)=false then ([],0,2) else
  if 65536 < numB ((s.take 5).drop 1) then ([],0,2) else
  if s.length < 13+numB ((s.take 5).drop 1) then ([],0,1) else
  if sealed ((s.drop 9).take (numB ((s.take 5).drop 1)+4))=false then ([],0,2) else
  let q:=scanP f (s.drop (13+numB ((s.take 5).drop 1)))
  ((s.headD 0,(s.drop 9).take (numB ((s.take 5).drop 1)))::q.1,13+numB ((s.take 5).drop 1)+q.2.1,q.2.2)
def scan (s:List UInt8):List Rec × Nat × Nat:=scanP (s.length+1) s
theorem scanP_fuel:∀ (f g:Nat) (s:List UInt8),s.length < f→s.length < g→scanP f s=scanP g s
 | 0,_,s,h,_=>by omega
 | _,0,s,_,h=>by omega
 | f+1,g+1,s,hf,hg=>by
  unfold scanP
  by_cases h0:s=[]
  ·rw [if_pos h0,if_pos h0]
  ·have:0 < s.length:=List.length_pos_iff.2 h0
   rw [scanP_fuel f g (s.drop _) (by rw [List.length_drop];omega) (by rw [List.length_drop];omega)]
theorem putR_take (r:Rec) (s:List UInt8):(putR r++s).take 9=headR r:=by
 unfold putR
 rw [List.append_assoc,List.take_append_of_le_length (by rw [headR_length];omega),List.take_of_length_le (by rw [headR_length];omega)]
theorem putR_num {r:Rec} (h:r.2.length≤65536) (s:List UInt8):numB (((putR r++s).take 5).drop 1)=r.2.length:=by
 have:((putR r++s).take 5).drop 1=be4 r.2.length:=rfl
 rw [this,numB_be4 (by omega)]
theorem putR_drop9 (r:Rec) (s:List UInt8):(putR r++s).drop 9=sealT r.2++s:=by
 unfold putR
 rw [List.append_assoc,List.drop_append_of_le_length (by rw [headR_length];omega),List.drop_of_length_le (by rw [headR_length];omega),List.nil_append]
theorem scanP_succ (f:Nat) (s:List UInt8):scanP (f+1) s=(if s=[] then ([],0,0) else
  if s.length < 9 then ([],0,1) else
  if sealed (s.take 9)=false then ([],0,2) else
  if 65536 < numB ((s.take 5).drop 1) then ([],0,2) else
  if s.length < 13+numB ((s.take 5).drop 1) then ([],0,1) else
  if sealed ((s.drop 9).take (numB ((s.take 5).drop 1)+4))=false then ([],0,2) else
  ((s.headD 0,(s.drop 9).take (numB ((s.take 5).drop 1)))::(scanP f (s.drop (13+numB ((s.take 5).drop 1)))).1,13+numB ((s.take 5).drop 1)+(scanP f (s.drop (13+numB ((s.take 5).drop 1)))).2.1,(scanP f (s.drop (13+numB ((s.take 5).drop 1)))).2.2)):=rfl
theorem scanP_put {r:Rec} (h:r.2.length≤65536) (f:Nat) (s:List UInt8):scanP (f+1) (putR r++s)=(r::(scanP f s).1,13+r.2.length+(scanP f s).2.1,(scanP f s).2.2):=by
 have hl:=putR_length r
 have e1:=putR_take r s
 have e2:=putR_num h s
 have e3:=putR_drop9 r s
 have e4:(putR r++s).drop (13+r.2.length)=s:=by
  rw [← hl,List.drop_left]
 rw [scanP_succ,e1,e2,e3,e4,if_neg (by intro h0;have:=congrArg List.length h0;simp [hl] at this),if_neg (by rw [List.length_append,hl];omega),if_neg (by unfold headR;rw [sealed_seal];simp),if_neg (by omega),
  if_neg (by rw [List.length_append,hl];omega),if_neg (by rw [← seal_length,List.take_left,sealed_seal];simp)]
 have e5:(putR r++s).headD 0=r.1:=rfl
 have e6:(sealT r.2++s).take r.2.length=r.2:=by
  unfold sealT
  rw [List.append_assoc,List.take_left]
 rw [e5,e6]
theorem putL_cons (r:Rec) (l:List Rec):putL (r::l)=putR r++putL l:=rfl
theorem putL_append (a b:List Rec):putL (a++b)=putL a++putL b:=List.flatMap_append
theorem scan_put:∀ {l:List Rec},(∀ r∈l,r.2.length≤65536)→∀ f,(putL l).length < f→scanP f (putL l)=(l,(putL l).length,0)
 | [],_,f+1,_=>rfl
 | r::l,h,f+1,hf=>by
  have hl:=putR_length r
  rw [putL_cons] at hf ⊢
  rw [List.length_append] at hf
  rw [scanP_put (h r (by simp)),scan_put (fun x hx=>h x (by simp [hx])) f (by omega),List.length_append,hl]
abbrev Fil:=List UInt8 × Nat
abbrev Fls:=List (List UInt8 × Fil)
def lookF (D:Fls) (k:List UInt8):Option Fil:=(D.find? fun e=>e.1==k).map (·.2)
def putF:Fls→List UInt8→Fil→Fls
 | [],k,v=>[(k,v)]
 | e::r,k,v=>if e.1==k then (k,v)::r else e::putF r k v
def delF (D:Fls) (k:List UInt8):Fls:=D.filter fun e=>!(e.1==k)
def usedF (D:Fls):Nat:=(D.map fun e=>e.2.1.length).foldr (·+·) 0
structure DS where
 D:Fls
 room:Int
 fuse:Int
 down:Bool
def mayS (n:List UInt8):Bool:=decide (n≠[])&&(decide (n.length≤40)&&n.all fun c=>decide (33≤c)&&decide (c≤126))
def stateS (s:DS):Int:=if s.down=true then 100 else 0
def actS (s:DS) (f:Fls→Fls) (though:Bool):DS × Int:=
 if 0 < s.fuse then
  (if s.fuse - 1=0 then (⟨if though=true then f s.D else s.D,s.room,0,true⟩,100) else (⟨f s.D,s.room,s.fuse - 1,s.down⟩,0))
 else (⟨f s.D,s.room,s.fuse,s.down⟩,0)
def fileOf (D:Fls) (n:List UInt8):Fil:=(lookF D n).getD ([],0)
def appendS (s:DS) (n b:List UInt8):DS × Int:=
 if s.down=true then (s,100) else
 if mayS n=false then (s,2) else
 if 1048576 - ((fileOf s.D n).1.length:Int) < b.length then (s,3) else
 if s.room - (usedF s.D:Int) < b.length then (s,6) else
 actS s (fun D=>putF D n ((fileOf s.D n).1++b,(fileOf s.D n).2)) true
def syncS (s:DS) (n:List UInt8):DS × Int:=
 if s.down=true then (s,100) else
 match lookF s.D n with
 | none=>(s,7)
 | some f=>actS s (fun D=>putF D n (f.1,f.1.length)) false
def renameS (s:DS) (n t:List UInt8):DS × Int:=
 if s.down=true then (s,100) else
 if (mayS n&&mayS t)=false then (s,2) else
 match lookF s.D n with
 | none=>(s,7)
 | some f=>actS s (fun D=>putF (delF D n) t f) false
def dig:Nat→Nat→List UInt8
 | 0,_=>[]
 | k+1,n=>dig k (n / 10)++[UInt8.ofNat (48+n % 10)]
def nm (n:Nat):List UInt8:=[106,46]++dig 8 n
def fresh:List UInt8:=[106,46,110,101,119]
structure Seg where
 n:Nat
 l:List Rec
 size:Nat
 st:Nat
def segOf (n:Nat) (b:List UInt8):Seg:=⟨n,(scan b).1,(scan b).2.1,(scan b).2.2⟩
def begins (x:Seg):Bool:=match x.l with | r::_=>r.1==0 | []=>false
def lastB:List Seg→Option Nat
 | []=>none
 | x::r=>match lastB r with | some i=>some (i+1) | none=>if begins x=true then some 0 else none
def okSeg (n0 len i:Nat) (x:Seg):Bool:=
 decide (x.n=n0+i)&&((decide (i+1=len) || decide (x.st=0))&&(decide (x.st≠2)&&(x.l.zipIdx.all fun c=>!(c.1.1==0) || decide (i+c.2=0))))
def okRow (r:List Seg):Bool:=r.zipIdx.all fun x=>okSeg ((r.head?.map (·.n)).getD 0) r.length x.2 x.1
def rowS (l:List Seg):Option (List Seg × Nat):=
 match lastB l with
 | none=>if l=[] then some ([],0) else none
 | some f=>if okRow (l.drop f)=true then some (l.drop f,f) else none
end Go.Jr
namespace Go.Proofs.YtbchfeibhoobeaaGreatDoor
open Go.Abs Go.Jr
abbrev Fv:=ByteArray × Nat
def vF (v:Fv):Value:=.agg ⟨[.string v.1,.int .i64 (v.2:Int)]⟩
def keqB (a b:ByteArray):Bool:=a.data.toList==b.data.toList
def fF (v:Fv):Fil:=(v.1.data.toList,v.2)
def fE (e:En ByteArray Fv):List UInt8 × Fil:=(e.k.data.toList,fF e.v)
theorem mtF:MT Tp 74 9 100 kS keqB:=⟨by kernel_rfl,eqS,fun {a b}=>by unfold keqB;rw [beq_iff_eq];exact ⟨ba_eq,fun h=>by rw [h]⟩,keyS,sameBS⟩
theorem zF:zeroT Tp 100=some (vF (⟨⟨[]⟩⟩,0)):=by kernel_rfl
theorem vF_cells (v:Fv):(vF v).cells.toList=[.string v.1,.int .i64 (v.2:Int)]:=rfl
theorem look_map:∀ (es:List (En ByteArray Fv)) (k:ByteArray),(lookE keqB es k).map fF=lookF (es.map fE) k.data.toList
 | [],_=>rfl
 | e::es,k=>by
  have ih:=look_map es k
  unfold lookF at ih ⊢
  unfold lookE
  rw [List.map_cons,List.find?_cons]
  have e1:((fE e).1==k.data.toList)=keqB k e.k:=by
   show (e.k.data.toList==k.data.toList)=(k.data.toList==e.k.data.toList)
   rw [Bool.eq_iff_iff,beq_iff_eq,beq_iff_eq]
   exact eq_comm
  rw [e1]
  cases keqB k e.k with
  | true=>simp [fE]
  | false=>simpa using ih
theorem put_map (k:ByteArray) (v:Fv) (c:Nat):∀ (es:List (En ByteArray Fv)),(putE keqB es k v c).map fE=putF (es.map fE) k.data.toList (fF v)
 | []=>rfl
 | e::es=>by
  have ih:=put_map k v c es
  unfold putE
  rw [List.map_cons,putF]
  have e1:((fE e).1==k.data.toList)=keqB k e.k:=by
   show (e.k.data.toList==k.data.toList)=(k.data.toList==e.k.data.toList)
   rw [Bool.eq_iff_iff,beq_iff_eq,beq_iff_eq]
   exact eq_comm
  rw [e1]
  cases h:keqB k e.k with
  | true=>
   have hk:k=e.k:=mtF.dec.1 h
   subst hk
   simp [fE]
  | false=>simp [ih]
theorem del_map (k:ByteArray) (es:List (En ByteArray Fv)):(delE keqB es k).map fE=delF (es.map fE) k.data.toList:=by
 unfold delE delF
 rw [List.filter_map]
 congr 1
 apply List.filter_congr
 intro e _
 show (!keqB k e.k)=!(e.k.data.toList==k.data.toList)
 unfold keqB
 congr 1
 rw [Bool.eq_iff_iff,beq_iff_eq,beq_iff_eq]
 exact eq_comm
def Dk (A:AW) (d mp:Nat) (s:DS):Prop:=∃ es c,Go.Abs.Row1 A d [.map (some mp),.int .i64 s.room,.int .i64 s.fuse,.bool s.down] 76∧OwnM kS vF A mp es c∧d≠mp∧s.D=es.map fE
theorem Dk.keeps {A A':AW} {d mp:Nat} {s:DS} {S:List Nat} (h:Dk A d mp s) (k:Keeps A A' S) (hd:d∉S) (hm:mp∉S):Dk A' d mp s:=by
 obtain ⟨es,c,h1,h2,h3,h4⟩:=h
 exact ⟨es,c,h1.keeps k hd,h2.keeps k hm,h3,h4⟩
theorem Dk.lt {A:AW} {d mp:Nat} {s:DS} (h:Dk A d mp s):d < A.next∧mp < A.next:=by
 obtain ⟨es,c,h1,h2,h3,h4⟩:=h
 exact ⟨h1.lt,h2.ltA⟩
structure OkD (s:DS):Prop where
 few:s.D.length < 10000
 len:∀ f∈s.D,f.2.1.length≤1048576
 safe:∀ f∈s.D,f.2.2≤f.2.1.length
theorem pn27 (a:Addr) (xo yo:Operand):binA Tp .neq 27 xo yo (.pointer (some a)) (.pointer none)=some (.bool true):=by kernel_rfl
theorem pn74 (r:Nat) (xo yo:Operand):binA Tp .neq 74 xo yo (.map (some r)) (.map none)=some (.bool true):=by kernel_rfl
theorem pe74 (r:Nat) (xo yo:Operand):binA Tp .eql 74 xo yo (.map (some r)) (.map none)=some (.bool false):=by kernel_rfl
section
variable {W0:World} {m0:Inj Tp}
theorem wc58 {A:AW} {d mp:Nat} {s:DS} {K:Value→AW→Prop} (h:Dk A d mp s) (hk:K (.bool true) A):Wc Tp theX W0 m0 58 [.pointer (some ⟨d,0,none⟩)] A K:=by
 obtain ⟨es,c,hr,hm,hne,hD⟩:=h
 refine w58 _ _ (cuts_none (S:=fun _ _ _=>False) fun _ _ _ h=>h) ?_
 rw [e58]
 simp only [pn27,pureW_some,nilP_some]
 refine forkW_bool.2 ⟨fun _=>?_,fun h=>by cases h⟩
 simp only [fa_76_0,ld_74,cell_row hr.row,cellOf,isT_map,cond_false,pureW_some,pn74]
 exact hk
theorem wc62 {A:AW} {d mp:Nat} {s:DS} {K:Value→AW→Prop} (h:Dk A d mp s) (hk:K (.int .i64 (stateS s)) A):Wc Tp theX W0 m0 62 [.pointer (some ⟨d,0,none⟩)] A K:=by
 refine w62 _ _ (cuts_none (S:=fun _ _ _=>False) fun _ _ _ h=>h) ?_
 rw [e62]
 refine wc58 h ?_
 obtain ⟨es,c,hr,hm,hne,hD⟩:=h
 simp only [un_not,pureW_some,nilP_some,fa_76_3,ld_4,cell_row hr.row,cellOf,isT_bool,cond_false,Nat.zero_add]
 refine forkW_bool.2 ⟨fun h=>by simp at h,fun _=>?_⟩
 unfold stateS at hk
 refine forkW_bool.2 ⟨fun h=>?_,fun h=>?_⟩
 ·rw [if_pos h] at hk;exact hk
 ·rw [if_neg (by rw [h];simp)] at hk;exact hk
theorem wc23 {A:AW} {d mp:Nat} {s:DS} {K:Value→AW→Prop} (h:Dk A d mp s) (hk:K (.bool s.down) A):Wc Tp theX W0 m0 23 [.pointer (some ⟨d,0,none⟩)] A K:=by
 refine w23 _ _ (cuts_none (S:=fun _ _ _=>False) fun _ _ _ h=>h) ?_
 rw [e23]
 refine wc58 h ?_
 obtain ⟨es,c,hr,hm,hne,hD⟩:=h
 simp only [un_not,pureW_some,nilP_some,fa_76_3,ld_4,cell_row hr.row,cellOf,isT_bool,cond_false,Nat.zero_add]
 exact forkW_bool.2 ⟨fun h=>by simp at h,fun _=>hk⟩
end
end Go.Proofs.YtbchfeibhoobeaaGreatDoor
namespace Go.Proofs.YtbchfeibhoobeaaGreatDoor
open Go.Abs
def srR:Go.Shelf.Ren:=⟨fun | 125=>129 | 128=>155 | 129=>156 | 190=>102 | 258=>128 | 302=>146 | 303=>147 | 304=>148 | 305=>149 | 306=>150 | 307=>151 | 308=>152 | 309=>153 | 310=>154 | 329=>175 | 330=>176 | 333=>174 | 334=>177 | 335=>178 | 336=>179 | 344=>192 | x=>x,fun | 31=>37 | 46=>42 | 51=>24 | 53=>134 | 131=>186 | 182=>181 | 183=>182 | 218=>205 | 222=>209 | 228=>221 | 229=>222 | x=>x,fun x=>x⟩
theorem srX:Go.Proofs.Lays.n190 Tp srR where
 mixed:=by kernel_rfl
 f125:=Tryz.func129.trans (congrArg some (by kernel_rfl))
 f128:=Tryz.func155.trans (congrArg some (by kernel_rfl))
 f129:=Tryz.func156.trans (congrArg some (by kernel_rfl))
 f190:=Tryz.func102.trans (congrArg some (by kernel_rfl))
 f258:=Tryz.func128.trans (congrArg some (by kernel_rfl))
 f302:=Tryz.func146.trans (congrArg some (by kernel_rfl))
 f303:=Tryz.func147.trans (congrArg some (by kernel_rfl))
 f304:=Tryz.func148.trans (congrArg some (by kernel_rfl))
 f305:=Tryz.func149.trans (congrArg some (by kernel_rfl))
 f306:=Tryz.func150.trans (congrArg some (by kernel_rfl))
 f307:=Tryz.func151.trans (congrArg some (by kernel_rfl))
 f308:=Tryz.func152.trans (congrArg some (by kernel_rfl))
 f309:=Tryz.func153.trans (congrArg some (by kernel_rfl))
 f310:=Tryz.func154.trans (congrArg some (by kernel_rfl))
 f329:=Tryz.func175.trans (congrArg some (by kernel_rfl))
 f330:=Tryz.func176.trans (congrArg some (by kernel_rfl))
 f333:=Tryz.func174.trans (congrArg some (by kernel_rfl))
 f334:=Tryz.func177.trans (congrArg some (by kernel_rfl))
 f335:=Tryz.func178.trans (congrArg some (by kernel_rfl))
 f336:=Tryz.func179.trans (congrArg some (by kernel_rfl))
 f344:=Tryz.func192.trans (congrArg some (by kernel_rfl))
 t0:=Tryz.underlying0
 a0:=Tryz.isAgg0
 z0:=Tryz.sizeOf0
 v0:=Tryz.zeroValue0
 t3:=Tryz.underlying3
 a3:=Tryz.isAgg3
 z3:=Tryz.sizeOf3
 v3:=Tryz.zeroValue3
 t4:=Tryz.underlying4
 a4:=Tryz.isAgg4
 z4:=Tryz.sizeOf4
 v4:=Tryz.zeroValue4
 t5:=Tryz.underlying5
 a5:=Tryz.isAgg5
 z5:=Tryz.sizeOf5
 v5:=Tryz.zeroValue5
 t9:=Tryz.underlying9
 a9:=Tryz.isAgg9
 z9:=Tryz.sizeOf9
 v9:=Tryz.zeroValue9
 t31:=Tryz.underlying37
 a31:=Tryz.isAgg37
 z31:=Tryz.sizeOf37
 v31:=Tryz.zeroValue37
 t46:=Tryz.underlying42
 a46:=Tryz.isAgg42
 z46:=Tryz.sizeOf42
 v46:=Tryz.zeroValue42
 t51:=Tryz.underlying24
 a51:=Tryz.isAgg24
 z51:=Tryz.sizeOf24
 v51:=Tryz.zeroValue24
 t53:=Tryz.underlying134
 a53:=Tryz.isAgg134
 z53:=Tryz.sizeOf134
 v53:=Tryz.zeroValue134
 t131:=Tryz.underlying186
 a131:=Tryz.isAgg186
 z131:=Tryz.sizeOf186
 v131:=Tryz.zeroValue186
 t182:=Tryz.underlying181
 a182:=Tryz.isAgg181
 z182:=Tryz.sizeOf181
 v182:=Tryz.zeroValue181
 t183:=Tryz.underlying182
 a183:=Tryz.isAgg182
 z183:=Tryz.sizeOf182
 v183:=Tryz.zeroValue182
 t218:=Tryz.underlying205
 a218:=Tryz.isAgg205
 z218:=Tryz.sizeOf205
 v218:=Tryz.zeroValue205
 t222:=Tryz.underlying209
 a222:=Tryz.isAgg209
 z222:=Tryz.sizeOf209
 v222:=Tryz.zeroValue209
 t228:=Tryz.underlying221
 a228:=Tryz.isAgg221
 z228:=Tryz.sizeOf221
 v228:=Tryz.zeroValue221
 t229:=Tryz.underlying222
 a229:=Tryz.isAgg222
 z229:=Tryz.sizeOf222
 v229:=Tryz.zeroValue222
end Go.Proofs.YtbchfeibhoobeaaGreatDoor
namespace Go.Abs
open Go.Sort Go.Proofs
def txV (s:List UInt8):Value:=.string ⟨⟨s⟩⟩
section
variable {P:Program} {X:XNames} {W0:World} {m0:Inj P}
theorem low_sortedS {w w1:World} {blk off:Nat} {cs cs2:Array Value} {e:TypeId} {fr:Nat × Nat} {l':List (List UInt8)} (h0:w.heap[blk]? =some (.cells cs e fr)) (hsz:off+l'.length≤cs.size)
  (g2:w1.heap[blk]? =some (.cells cs2 e fr)) (g4:∀ j,(j < off∨off+l'.length≤j)→cs2[j]? =cs[j]?) (g5:∀ j,j < l'.length→cs2[off+j]? =(l'.map txV)[j]?) (g6:∀ b,b≠blk→w1.heap[b]? =w.heap[b]?) (g7:w1.heap.size=w.heap.size)
  (g8:w1.os=w.os) (g9:w1.tape=w.tape) (g10:w1.output=w.output) (g11:w1.drawn=w.drawn) (n:Nat) (os:Array Obj):Low w1 (grow (putRow encStr (Sort.ahead w n) blk off l'.toArray) os):=by
 have hb:blk < w.heap.size:=(Array.getElem?_eq_some_iff.1 h0).1
 refine ⟨⟨g8.symm,g9.symm,g10.symm,?_,fun c hc=>?_⟩,?_⟩
 ·show w1.heap.size≤((w.heap.modify blk _)++os).size
  rw [g7];simp
 ·show ((w.heap.modify blk (onCells (putCells encStr off l'.toArray)))++os)[c]? =w1.heap[c]?
  rw [Array.getElem?_append_left (by simp;omega),Array.getElem?_modify]
  by_cases hcb:blk=c
  ·subst hcb
   rw [if_pos rfl,h0,g2]
   simp only [Option.map_some,onCells,Option.some.injEq,Obj.cells.injEq,and_true]
   apply Array.ext_getElem?
   intro i
   unfold putCells
   rw [Array.getElem?_mapIdx]
   by_cases hi:off≤i∧i < off+l'.length
   ·have hics:i < cs.size:=by omega
    have h5:=g5 (i - off) (by omega)
    rw [show off+(i - off)=i by omega] at h5
    have hj:i - off < l'.length:=by omega
    rw [h5,Array.getElem?_eq_getElem hics,List.getElem?_map,List.getElem?_eq_getElem hj]
    simp only [Option.map_some,List.size_toArray,Option.some.injEq]
    rw [if_pos hi,getElem!_pos l'.toArray (i - off) (by simpa using hj)]
    simp [encStr,txV]
   ·rw [g4 i (by omega)]
    cases hx:cs[i]? with
    | none=>rfl
    | some x=>
     simp only [Option.map_some,List.size_toArray,Option.some.injEq]
     rw [if_neg hi]
  ·rw [if_neg hcb,g6 c (fun h=>hcb h.symm)]
 ·show w1.drawn≤w.drawn+n
  omega
theorem setL_allS:∀ (new:List Value) (pre cs:List Value),cs.length=new.length→setL (pre++cs) pre.length new=pre++new
 | [],pre,cs,h=>by
  have:cs=[]:=List.eq_nil_of_length_eq_zero h
  subst this;rfl
 | v::r,pre,[],h=>by simp at h
 | v::r,pre,c::cs,h=>by
  have hs:(pre++c::cs).set pre.length v=(pre++[v])++cs:=by simp
  have hl:pre.length+1=(pre++[v]).length:=by simp
  rw [setL,hs,hl,setL_allS r (pre++[v]) cs (by simpa using h)]
  simp
theorem txV_one (l:List (List UInt8)):(l.map txV).all oneCell=true:=by
 rw [List.all_eq_true]
 intro u hu
 obtain ⟨x,_,rfl⟩:=List.mem_map.1 hu
 rfl
theorem lib_sortS {ρ:Go.Shelf.Ren} (L:Go.Proofs.Lays.n190 P ρ) {A:AW} {e:TypeId} {v:Value} {l:List (List UInt8)} {F:List Nat} {K:Value→AW→Prop} (h:OwnG A e 1 v l.length (l.map txV) F) (hf:Fine A) (hlen:l.length < 4611686018427387904)
  (hK:∀ A',OwnG A' e 1 v l.length ((l.mergeSort fun x y=>decide (x≤y)).map txV) F→Keeps A A' F→A'.next=A.next→Fine A'→K (.tuple #[]) A'):LibW P W0 m0 (ρ.f 190) [v] A K:=by
 intro m w args' r _ _ ha
 cases ha with
 | cons hv ht=>
 cases ht
 rcases h with ⟨rfl,hn,hc,rfl⟩ | ⟨b,f,rfl,ho,rfl⟩
 ·
  have hl:l=[]:=List.eq_nil_of_length_eq_zero hn
  subst hl
  cases hv
  refine (Go.Proofs.Any.slices_Sort_string_none L none 0 w).mono ?_
  rintro e w' ⟨rfl,rfl⟩
  exact ⟨_,_,m,A,hK A (.inl ⟨rfl,rfl,by rw [List.mergeSort_nil];rfl,rfl⟩) (.refl _ _) rfl hf,rfl,.tuple .nil,.refl r _⟩
 ·
  have hpos:=ho.pos
  cases hv with
  | @slice a a' n c c' hc hn har=>
  have hc':0 < c':=by omega
  obtain ⟨_,hs',d,hm,hoff⟩:=har hc'
  obtain ⟨blk,off,sp⟩:=a'
  simp only at hs' hm hoff
  subst hs'
  have hoff:off=d:=by omega
  subst hoff
  obtain ⟨o',q1,cs',fr,rfl,hrow⟩:=r.obj b _ blk off ho.row hm
  have hlcs:(l.map txV).length=l.length:=List.length_map _
  have hcells:∀ j,j < l.length→cs'[off+j]? =(l.map txV)[j]? ∧¬ (fr.1≤off+j∧off+j < fr.2):=by
   intro j hj
   have hjl:j < (l.map txV).length:=by omega
   obtain ⟨u,k1,k2,k3⟩:=hrow j _ (List.getElem?_eq_getElem hjl)
   have e1:(l.map txV)[j]=txV l[j]:=List.getElem_map _
   rw [k1,List.getElem?_eq_getElem hjl,e1,closedV_eq 4 (txV l[j]) u rfl (by rw [← e1];exact k2 (by rw [e1];rfl))]
   exact ⟨rfl,k3 rfl⟩
  have hsize:off+l.length≤cs'.size:=by
   have h2:=(hcells (l.length - 1) (by omega)).1
   rw [List.getElem?_eq_getElem (by omega:l.length - 1 < (l.map txV).length)] at h2
   have:=(Array.getElem?_eq_some_iff.1 h2).1
   omega
  have hH:Go.Sort.Holds encStr w blk off l.toArray:=by
   intro j hj
   have hj:j < l.length:=by simpa using hj
   obtain ⟨h2,h3⟩:=hcells j hj
   refine ⟨?_,?_⟩
   ·simp only [World.cell?,q1,Option.isSome_none,Bool.false_eq_true,if_false]
    rw [h2,List.getElem?_map,List.getElem?_eq_getElem hj,getElem!_pos l.toArray j (by simpa using hj)]
    simp [encStr,txV]
   ·simp only [World.frozen?,q1]
    cases hx:(decide (fr.1≤off+j)&&decide (off+j < fr.2)) with
    | false=>rfl
    | true=>simp at hx;exact (h3 (by simpa using hx)).elim
  have hblk:blk < w.heap.size:=(Array.getElem?_eq_some_iff.1 q1).1
  have hcon:=Go.Proofs.Any.slices_Sort_string L blk off c' l w hH hblk hlen
  refine hcon.mono ?_
  rintro e2 w' ⟨rfl,nn,os,rfl⟩
  generalize hl':(l.mergeSort fun x y=>decide (x≤y))=l'
  rw [hl'] at hK
  have hl'len:l'.length=l.length:=by rw [← hl'];exact List.length_mergeSort _
  have hnl:(l'.map txV).length=l.length:=by rw [List.length_map,hl'len]
  have hbl:=hf.lt ho.row
  have hml:∀ i∈A.members f,i < maxId:=fun i hi=>by have:=(ho.mem i hi).2.1;have:=r.lim;omega
  obtain ⟨A',k1,k2,k3,k4,k5,k6⟩:=setCells_fam (new:=l'.map txV) (off:=0) ho.row hml (by rw [hnl,hlcs];omega) (txV_one l') (by have:=r.lim;omega)
  have hmem:∀ g,A'.members g=A.members g:=mem_of_fams k6
  have hset:setL (l.map txV) 0 (l'.map txV)=l'.map txV:=setL_allS (l'.map txV) [] (l.map txV) (by rw [hnl,hlcs])
  rw [hset] at k2
  obtain ⟨w1,s1,s2,s3⟩:=Ev.setCells (i:=0) (a':=⟨blk,off,none⟩) r (VRels.self (m:=m) fun u hu=>by obtain ⟨x,_,rfl⟩:=List.mem_map.1 hu;exact closedV_rel 4 _ rfl) (fun _=>⟨rfl,rfl,off,hm,rfl⟩) k1
  obtain ⟨w2,cs2,g1,g2,g3,g4,g5,g6,g7,g8,g9,g10,g11⟩:=storeCells_row (P:=P) blk e fr ⟨blk,off,none⟩ rfl rfl (l'.map txV) 0 cs' w q1 (by show off+0+_≤_;rw [hnl];omega)
   (fun j hj=>by rw [hnl] at hj;show ¬ (fr.1≤off+0+j∧off+0+j < fr.2);rw [Nat.add_zero];exact (hcells j hj).2) (fun u hu=>List.all_eq_true.1 (txV_one l') u hu)
  rw [s1] at g1
  cases g1
  have hlow:Low w1 (grow (putRow encStr (Sort.ahead w nn) blk off l'.toArray) os):=low_sortedS q1 (by rw [hl'len];exact hsize) g2 (fun j hj=>g4 j (by show j < off+0∨off+0+_≤j;rw [hnl];rw [hl'len] at hj;omega)) (fun j hj=>by
   have:=g5 j (by rw [hnl];rw [hl'len] at hj;exact hj)
   rw [show (⟨blk,off,none⟩:Addr).off+0+j=off+j by rfl] at this
   exact this) g6 g7 g8 g9 g10 g11 nn os
  refine ⟨_,_,m,A',hK A' (.inr ⟨b,f,rfl,⟨ho.pos,k2,by rw [hnl];omega,Nat.zero_le _,Nat.zero_le _,by rw [k5];exact ho.ltf,fun i hi=>?_⟩,rfl⟩) ⟨by rw [k5];exact Nat.le_refl _,fun i o hi _ hn=>?_,fun g _ _=>hmem g⟩ k5 ⟨fun i hi=>?_,fun i hi=>?_⟩,rfl,.tuple .nil,(s2.low (Nat.le_refl _)).trans (EvL.grow s2.rel hlow _)⟩
  ·rw [hmem] at hi
   obtain ⟨_,h2,cs',e',b',ro',h3⟩:=ho.mem i hi
   obtain ⟨cs2,h4⟩:=k4 i _ _ _ _ _ h3
   exact ⟨Nat.zero_le _,by rw [k5];exact h2,cs2,e',b',ro',h4⟩
  ·rw [k3 i (fun e=>?_) (fun hm=>?_)]
   ·exact hi
   ·subst e
    rw [ho.row] at hi
    cases hi
    exact hn (List.mem_singleton.2 rfl)
   ·obtain ⟨_,_,cs',e',b',ro',h3⟩:=ho.mem i hm
    rw [hi] at h3
    cases h3
    exact hn (List.mem_singleton.2 rfl)
  ·rw [k6];exact hf.fams i (by rw [k5] at hi;exact hi)
  ·rw [k5] at hi
   rw [k3 i (fun e=>by omega) (fun hm=>by have:=(ho.mem i hm).2.1;omega)]
   exact hf.get i hi
end
end Go.Abs
namespace Go.Abs
open Go.ChangeShapes Go.WideShapes Go.ChangeAt Go.RowKit
abbrev Arg:=(Nat × Nat) × Option (List Value × TypeId)
def argT (F:Nat):Nat→List Arg→Trie AO→Trie AO
 | _,[],t=>t
 | j,(_,none)::r,t=>argT F (j+1) r t
 | j,(_,some (cs,e))::r,t=>(argT F (j+1) r t).put depth j (some (.row cs e F 0 true))
def wR (n:Nat) (gl:List (Nat × List Value × TypeId)) (L:List Arg):AW:=
 ⟨argT (n+L.length) n L (rowsT gl),n+L.length+1,(Trie.nil:Trie (List Nat)).put depth (n+L.length) (some ((List.range L.length).map (n+·)))⟩
def mR (P:Program) (L:List Arg):Inj P:=mA P (L.map (·.1))
theorem argT_get (F:Nat):∀ (L:List Arg) (j:Nat) (t:Trie AO) (i:Nat),j+L.length≤maxId→(argT F j L t).get? i=if i < j then t.get? i else match L[i - j]? with
  | some (_,some (cs,e))=>some (.row cs e F 0 true)
  | _=>t.get? i
 | [],j,t,i,_=>by simp [argT]
 | (p,none)::r,j,t,i,h=>by
  simp only [List.length_cons] at h
  simp only [argT]
  rw [argT_get F r (j+1) t i (by omega)]
  by_cases h1:i < j
  ·rw [if_pos (by omega),if_pos h1]
  ·by_cases h2:i=j
   ·subst h2
    rw [if_pos (by omega),if_neg h1,Nat.sub_self]
    rfl
   ·rw [if_neg (by omega),if_neg h1,show i - j=(i - (j+1))+1 by omega,List.getElem?_cons_succ]
 | (p,some (cs,e))::r,j,t,i,h=>by
  simp only [List.length_cons] at h
  simp only [argT]
  rw [Trie.get?_put depth _ j i _ (by unfold depth maxId at *;omega),argT_get F r (j+1) t i (by omega)]
  by_cases h1:i < j
  ·rw [if_neg (by omega),if_pos (by omega),if_pos h1]
  ·by_cases h2:i=j
   ·subst h2
    rw [if_pos rfl,if_neg h1,Nat.sub_self]
    rfl
   ·rw [if_neg h2,if_neg (by omega),if_neg h1,show i - j=(i - (j+1))+1 by omega,List.getElem?_cons_succ]
section
variable {P:Program} {W:World} {gl:List (Nat × List Value × TypeId)} {L:List Arg}
theorem wR_arg {n:Nat} (hk:n+L.length≤maxId) {j:Nat} {p:Nat × Nat} {cs:List Value} {e:TypeId} (h:L[j]? =some (p,some (cs,e))):(wR n gl L).get (n+j)=some (.row cs e (n+L.length) 0 true):=by
 show (argT _ n L _).get? _=_
 rw [argT_get _ L n _ _ hk,if_neg (by omega),Nat.add_sub_cancel_left,h]
theorem wR_get {n:Nat} (hok:okG n gl=true) (hk:n+L.length≤maxId) {i:Nat} {o:AO} (h:(wR n gl L).get i=some o):
  (∃ x∈gl,x.1=i∧i < n∧o=.row x.2.1 x.2.2 i 0 true)∨∃ j p cs e,i=n+j∧L[j]? =some (p,some (cs,e))∧o=.row cs e (n+L.length) 0 true:=by
 have h:(argT (n+L.length) n L (rowsT gl)).get? i=some o:=h
 rw [argT_get _ L n _ _ hk] at h
 unfold okG at hok
 simp only [Bool.and_eq_true,List.all_eq_true] at hok
 obtain ⟨hn,hl⟩:=hok
 have hn:=ble_true.1 hn
 have glob:(rowsT gl).get? i=some o→∃ x∈gl,x.1=i∧i < n∧o=.row x.2.1 x.2.2 i 0 true:=by
  intro h
  obtain ⟨x,hx,rfl,rfl⟩:=rowsT_get gl (fun x hx=>Nat.lt_of_lt_of_le (blt_true.1 (hl x hx).1) hn) i o h
  exact ⟨x,hx,rfl,blt_true.1 (hl x hx).1,rfl⟩
 split at h
 ·exact .inl (glob h)
 ·split at h
  ·rename_i hi p cs e hq
   cases h
   exact .inr ⟨i - n,p,cs,e,by omega,hq,rfl⟩
  ·exact .inl (glob h)
theorem wR_fine {n:Nat} (hok:okG n gl=true) (hk:n+L.length+1≤maxId):Fine (wR n gl L):=by
 refine ⟨fun i hi=>?_,fun i hi=>?_⟩
 ·have hi:n+L.length+1≤i:=hi
  show ((Trie.nil:Trie (List Nat)).put depth (n+L.length) _).get? i=none
  rw [Trie.get?_put depth _ _ i _ (by unfold depth maxId at *;omega),if_neg (by omega)]
  rfl
 ·have hi:n+L.length+1≤i:=hi
  cases hq:(wR n gl L).get i with
  | none=>rfl
  | some o=>
   rcases wR_get hok (by omega) hq with ⟨x,_,_,h,_⟩ | ⟨j,p,cs,e,rfl,h,_⟩
   ·omega
   ·have:=(List.getElem?_eq_some_iff.1 h).1
    omega
def Args (P:Program) (W:World) (L:List Arg):Prop:=∀ (j:Nat) (p:Nat × Nat) (cs:List Value) (e:TypeId),L[j]? =some (p,some (cs,e))→∃ cs' fr,W.heap[p.1]? =some (.cells cs' e fr)∧p.2≤cs'.size∧
 ∀ i v,cs[i]? =some v→∃ v',cs'[p.2+i]? =some v'∧VRel (mR P L) v v'
theorem relR (hok:okG P.globals.size gl=true) (hk:P.globals.size+L.length+1≤maxId) (hW:Holds W gl) (hA:Args P W L):Rel (mR P L) (wR P.globals.size gl L) W:=by
 have hget:=fun {i:Nat} {o:AO} (h:(wR P.globals.size gl L).get i=some o)=>wR_get hok (by omega) h
 have hl:∀ x∈gl,x.2.1.all (closedV 4)=true:=by
  unfold okG at hok
  simp only [Bool.and_eq_true,List.all_eq_true] at hok
  intro x hx
  exact List.all_eq_true.2 (hok.2 x hx).2
 have hlen:(L.map (·.1)).length=L.length:=List.length_map _
 have harg:∀ {j:Nat} {p:Nat × Nat} {q:Option (List Value × TypeId)},L[j]? =some (p,q)→mR P L (P.globals.size+j)=some p:=by
  intro j p q h
  show mA P _ _=_
  rw [mA_arg,List.getElem?_map,h]
  rfl
 refine ⟨?_,?_,?_,?_,?_,hk,?_⟩
 ·intro i o c d hi hm
  rcases hget hi with ⟨x,hx,rfl,hlt,rfl⟩ | ⟨j,p,cs,e,rfl,hj,rfl⟩
  ·have hm:mA P (L.map (·.1)) x.1=some (c,d):=hm
   rw [mA_var hlt] at hm
   cases hm
   obtain ⟨fr,hc⟩:=hW x hx
   exact ⟨_,hc,_,fr,rfl,fun i v hv=>⟨v,by simpa using hv,fun _=>closedV_rel 4 v (List.all_eq_true.1 (hl x hx) v (List.mem_of_getElem? hv)),fun h=>by cases h⟩⟩
  ·rw [harg hj] at hm
   cases hm
   obtain ⟨cs',fr,h1,h2,h3⟩:=hA j _ cs e hj
   refine ⟨_,h1,cs',fr,rfl,fun i v hv=>?_⟩
   obtain ⟨v',g1,g2⟩:=h3 i v hv
   exact ⟨v',g1,fun _=>g2,fun h=>by cases h⟩
 ·intro i cs e b ro hi c d hm
  rcases hget hi with ⟨x,hx,rfl,hlt,_⟩ | ⟨j,p,cs2,e2,rfl,hj,he⟩
  ·have hm:mA P (L.map (·.1)) x.1=some (c,d):=hm
   rw [mA_var hlt] at hm
   cases hm
   rfl
  ·have:=(List.getElem?_eq_some_iff.1 hj).1
   simp only [AO.row.injEq] at he
   omega
 ·intro i j oi oj c di dj hij hi hj hmi hmj
  refine .inl ?_
  rcases hget hi with ⟨x,hx,rfl,hlt,rfl⟩ | ⟨j,p,cs2,e2,rfl,_,rfl⟩ <;> rcases hget hj with ⟨y,hy,rfl,hlt2,rfl⟩ | ⟨j2,p2,cs3,e3,rfl,_,rfl⟩ <;> exact ⟨rfl,rfl⟩
 ·intro i o f b hi hf
  have hmem:∀ f,(wR P.globals.size gl L).members f=if f=P.globals.size+L.length then (List.range L.length).map (P.globals.size+·) else [f]:=by
   intro f
   show (match ((Trie.nil:Trie (List Nat)).put depth (P.globals.size+L.length) _).get? f with | some l=>l | none=>[f])=_
   rw [Trie.get?_put depth _ _ f _ (by unfold depth maxId at *;omega)]
   by_cases h:f=P.globals.size+L.length
   ·rw [if_pos h,if_pos h]
   ·rw [if_neg h,if_neg h];rfl
  rcases hget hi with ⟨x,hx,rfl,hlt,rfl⟩ | ⟨j,p,cs2,e2,rfl,hj,rfl⟩
  ·simp only [AO.fam,Option.some.injEq,Prod.mk.injEq] at hf
   obtain ⟨rfl,rfl⟩:=hf
   rw [hmem,if_neg (by omega)]
   exact ⟨by simp,by show x.1 < P.globals.size+L.length+1;omega⟩
  ·simp only [AO.fam,Option.some.injEq,Prod.mk.injEq] at hf
   obtain ⟨rfl,rfl⟩:=hf
   have:=(List.getElem?_eq_some_iff.1 hj).1
   rw [hmem,if_pos rfl]
   exact ⟨List.mem_map.2 ⟨j,List.mem_range.2 this,rfl⟩,by show _ < P.globals.size+L.length+1;omega⟩
 ·intro i hi
  have hi:P.globals.size+L.length+1≤i:=hi
  have hf:=wR_fine (n:=P.globals.size) hok hk
  refine ⟨hf.get i hi,?_,hf.fams i hi⟩
  show (if i < P.globals.size then some (i,0) else (L.map (·.1))[i - P.globals.size]?)=none
  rw [if_neg (by omega)]
  exact List.getElem?_eq_none (by omega)
 ·intro i cs e f b ro c d hi hm
  rcases hget hi with ⟨x,hx,rfl,hlt,he⟩ | ⟨j,p,cs2,e2,rfl,hj,he⟩
  ·cases he
   have hm:mA P (L.map (·.1)) x.1=some (c,d):=hm
   rw [mA_var hlt] at hm
   cases hm
   obtain ⟨fr,hc⟩:=hW x hx
   exact ⟨fun h=>absurd rfl h,_,_,fr,hc,by show 0+0≤_;omega,fun h=>by cases h⟩
  ·cases he
   rw [harg hj] at hm
   cases hm
   obtain ⟨cs',fr,h1,h2,h3⟩:=hA j _ _ _ hj
   exact ⟨fun h=>absurd rfl h,cs',_,fr,h1,by show _+0≤_;omega,fun h=>by cases h⟩
theorem ownR (hok:okG P.globals.size gl=true) (hk:P.globals.size+L.length≤maxId) (c:Nat):¬ Own (mR P L) (wR P.globals.size gl L) c:=by
 rintro ⟨i,o,d,hi,hro,_⟩
 rcases wR_get hok hk hi with ⟨x,hx,rfl,hlt,rfl⟩ | ⟨j,p,cs2,e2,rfl,_,rfl⟩ <;> cases hro
theorem calls_trueR {X:XNames} (hP:POk P) (hok:okG P.globals.size gl=true) (hk:P.globals.size+L.length+1≤maxId) {g:FuncId} {args args':List Value}
  (hW:Holds W gl) (hA:Args P W L) (ha:VRels (mR P L) args args') (h:Wc P X W (mR P L) g args (wR P.globals.size gl L) fun v _=>v=.bool true):Calls P g ⟨args'⟩ W fun e W'=>e=.returned (.bool true)∧Below W.heap.size W W':=by
 refine (calls_of_wc hP h (relR hok hk hW hA) (fun i hi=>mA_var hi) (ownR hok (by omega)) ha).mono ?_
 rintro e w' ⟨v,v',m',A',rfl,rfl,h2,h3⟩
 cases h2
 exact ⟨rfl,below_of h3 (ownR hok (by omega))⟩
end
section
variable {H:Type} {enc:TypeId × Value→H} {P:Program}
def flat {β:Type} (f:β→List Value) (l:List β):List Value:=l.flatMap f
theorem flat_length {β:Type} {f:β→List Value} {n:Nat} (hn:∀ b,(f b).length=n):∀ l:List β,(flat f l).length=l.length * n
 | []=>by simp [flat]
 | b::r=>by
  have:=flat_length hn r
  simp only [flat,List.flatMap_cons,List.length_append,hn,List.length_cons] at *
  rw [this,Nat.succ_mul];omega
theorem flat_drop {β:Type} {f:β→List Value} {n:Nat} (hn:∀ b,(f b).length=n):∀ (l:List β) (i:Nat) (b:β),l[i]? =some b→∃ rest,(flat f l).drop (i * n)=f b++rest
 | [],i,b,h=>by simp at h
 | x::r,0,b,h=>by
  simp only [List.getElem?_cons_zero,Option.some.injEq] at h
  subst h
  exact ⟨flat f r,by simp [flat]⟩
 | x::r,i+1,b,h=>by
  simp only [List.getElem?_cons_succ] at h
  obtain ⟨rest,h2⟩:=flat_drop hn r i b h
  refine ⟨rest,?_⟩
  rw [← h2]
  simp only [flat,List.flatMap_cons]
  rw [Nat.succ_mul,Nat.add_comm,← List.drop_drop,List.drop_append,hn,Nat.sub_self]
  rw [show List.drop n (f x)=[] from List.drop_eq_nil_of_le (by rw [hn];exact Nat.le_refl _)]
  simp
theorem flat_get {β:Type} {f:β→List Value} {n:Nat} (hn:∀ b,(f b).length=n) {l:List β} {i:Nat} {b:β} (h:l[i]? =some b) {k:Nat} (hk:k < n):(flat f l)[i * n+k]? =(f b)[k]? :=by
 obtain ⟨rest,h2⟩:=flat_drop hn l i b h
 rw [← List.getElem?_drop,h2,List.getElem?_append_left (by rw [hn];exact hk)]
inductive InSlice (W:World) {β:Type} (f:β→List Value) (s:Value) (l:List β):Arg→Prop
 | nil (hl:l=[]) (hs:IsSlice s) (h0:∃ o c,s=.slice o 0 c):InSlice W f s l (placeOf s,none)
 | blk (a:Addr) (c:Nat) (cs:Array Value) (e':TypeId) (fr:Nat × Nat) (hs:s=.slice (some a) l.length c) (hc:l.length≤c) (hc2:c < capU) (hsp:a.spot=none) (hb:W.heap[a.block]? =some (.cells cs e' fr)) (ho:a.off≤cs.size)
   (hg:∀ i v,(flat f l)[i]? =some v→cs[a.off+i]? =some v):InSlice W f s l ((a.block,a.off),some (flat f l,e'))
theorem addr_add0 (a:Addr) (n:Nat) (h:a.spot=none):a.add n=⟨a.block,a.off+n,none⟩:=by
 unfold Addr.add
 split
 ·rename_i h0;subst h0;obtain ⟨b,o,s⟩:=a;simp only at h;subst h;rfl
 ·rfl
theorem read_flat {W:World} {t e:TypeId} {fuel:Nat} {cs:List Value} {x:DataW H × List MemPlace} {β:Type} {f:β→List Value} {ok:β→Prop} (b0:β) (hu:P.underlying t=some (.slice e)) (hz:0 < P.cellsOf e) (hn:∀ b,(f b).length=P.cellsOf e)
  (hel:∀ q cs y,DataW.trod enc P W 0 (fun _=>true) true q e cs=some y→∃ b,cs=f b∧ok b) (h:DataW.trod enc P W 0 (fun _=>true) true fuel t cs=some x):
  ∃ s l L,cs=[s]∧InSlice W f s l L∧(∀ b∈l,ok b):=by
 have hsl:=read_slice hu hz h
 rcases Go.Deep.open_slice hu h with ⟨rfl,_⟩ | ⟨a,n,c,m,k,D,Pl,rfl,_,hnm,hc,hm,_,hx⟩
 ·exact ⟨_,[],_,rfl,.nil rfl (.inl rfl) ⟨none,0,rfl⟩,by simp⟩
 ·obtain ⟨s',hs1,hs2⟩:=hsl
  simp only [List.cons.injEq,and_true] at hs1
  subst hs1
  have hm:m=c:=hm
  subst hm
  have hcap:m < capU:=by
   have h1:maxLen < capU:=by decide
   omega
  rcases Nat.eq_zero_or_pos n with rfl | hpos
  ·exact ⟨_,[],_,rfl,.nil rfl hs2 ⟨some a,m,rfl⟩,by simp⟩
  ·have key:∀ i,i < n→∃ b:β,ok b∧∀ j,j < P.cellsOf e→∃ v,(f b)[j]? =some v∧W.cell? ((a.add (i * P.cellsOf e)).add j)=some v:=by
    intro i hi
    obtain ⟨cs',g1,g2⟩:=hx i (by omega)
    obtain ⟨_,hl,g3⟩:=World.cells?_some g1
    obtain ⟨b,rfl,hok⟩:=hel _ _ _ g2
    refine ⟨b,hok,fun j hj=>?_⟩
    have h4:=g3 j (by omega)
    exact ⟨(f b)[j]'(by rw [hn];exact hj),List.getElem?_eq_getElem _,by rw [h4];exact List.getElem?_eq_getElem _⟩
   obtain ⟨bb,_,q⟩:=key 0 hpos
   obtain ⟨v0,_,q2⟩:=q 0 hz
   have hblk:a.spot=none∧∃ cs e' fr,W.heap[a.block]? =some (.cells cs e' fr)∧a.off≤cs.size:=by
    have:W.cell? a=some v0:=by simpa [Addr.add] using q2
    unfold World.cell? at this
    split at this
    ·rename_i cs e' fr hh
     split at this
     ·cases this
     ·rename_i hsp
      refine ⟨?_,cs,e',fr,hh,?_⟩
      ·cases hq:a.spot with
       | none=>rfl
       | some z=>exact absurd (by simp [hq]) hsp
      ·have:=(Array.getElem?_eq_some_iff.1 this).1
       omega
    ·cases this
   obtain ⟨hsp,cs,e',fr,hh,hoff⟩:=hblk
   let g:Nat→β:=fun i=>if h:i < n then Classical.choose (key i h) else b0
   have hg:∀ i (h:i < n),g i=Classical.choose (key i h):=fun i h=>dif_pos h
   have hfl:((List.range n).map g).length=n:=by simp
   refine ⟨_,(List.range n).map g,_,rfl,.blk a m cs e' fr (by rw [hfl]) (by rw [hfl];exact hnm) hcap hsp hh hoff fun i v hi=>?_,fun b hb=>?_⟩
   ·have hlt:i < n * P.cellsOf e:=by
     have:=(List.getElem?_eq_some_iff.1 hi).1
     rw [flat_length hn,hfl] at this
     exact this
    have hdiv:i / P.cellsOf e < n:=(Nat.div_lt_iff_lt_mul hz).2 hlt
    have hmod:i % P.cellsOf e < P.cellsOf e:=Nat.mod_lt _ hz
    have hie:i / P.cellsOf e * P.cellsOf e+i % P.cellsOf e=i:=by rw [Nat.mul_comm];exact Nat.div_add_mod i _
    have hget:((List.range n).map g)[i / P.cellsOf e]? =some (g (i / P.cellsOf e)):=by
     rw [List.getElem?_map,List.getElem?_range hdiv];rfl
    have:=flat_get hn hget hmod
    rw [hie,hi,hg _ hdiv] at this
    obtain ⟨_,p2⟩:=Classical.choose_spec (key _ hdiv)
    obtain ⟨v',p3,p4⟩:=p2 _ hmod
    rw [← this] at p3
    cases p3
    rw [addr_add0 a _ hsp,addr_add0 _ _ rfl] at p4
    unfold World.cell? at p4
    rw [hh] at p4
    simp only [Option.isSome_none,Bool.false_eq_true,if_false] at p4
    rw [show a.off+i / P.cellsOf e * P.cellsOf e+i % P.cellsOf e=a.off+i by omega] at p4
    simpa using p4
   ·simp only [List.mem_map,List.mem_range] at hb
    obtain ⟨i,hi,rfl⟩:=hb
    rw [hg i hi]
    exact (Classical.choose_spec (key i hi)).1
theorem InSlice.rel {W:World} {β:Type} {f:β→List Value} {s:Value} {l:List β} {La:Arg} (h:InSlice W f s l La) {L:List Arg} {j:Nat} (hL:L[j]? =some La):
  ∃ s',VRel (mR P L) s' s∧((l=[]∧∃ o c,s'=.slice o 0 c)∨∃ c p e,s'=.slice (some ⟨P.globals.size+j,0,none⟩) l.length c∧L[j]? =some (p,some (flat f l,e))):=by
 cases h with
 | nil hl hs h0=>
  have:(L.map (·.1))[j]? =some (placeOf s):=by rw [List.getElem?_map,hL];rfl
  obtain ⟨o,n2,c2,hv⟩:=hs.rel (P:=P) (l:=L.map (·.1)) j this
  obtain ⟨o',c',rfl⟩:=h0
  have hn2:n2=0:=by cases hv <;> rfl
  subst hn2
  exact ⟨_,hv,.inl ⟨hl,_,_,rfl⟩⟩
 | blk a c cs e' fr hs hc hc2 hsp hb ho hg=>
  subst hs
  refine ⟨_,?_,.inr ⟨c,_,_,rfl,hL⟩⟩
  refine .slice (.inl ⟨hc2,rfl⟩) hc fun _=>⟨rfl,hsp,a.off,?_,rfl⟩
  show mA P _ _=_
  rw [mA_arg,List.getElem?_map,hL]
  rfl
theorem InSlice.args {W:World} {β:Type} {f:β→List Value} {s:Value} {l:List β} {La:Arg} (h:InSlice W f s l La) (hf:∀ b,(f b).all (closedV 4)=true) {p:Nat × Nat} {cs:List Value} {e:TypeId} (hq:La=(p,some (cs,e))) {L:List Arg}:
  ∃ cs' fr,W.heap[p.1]? =some (.cells cs' e fr)∧p.2≤cs'.size∧∀ i v,cs[i]? =some v→∃ v',cs'[p.2+i]? =some v'∧VRel (mR P L) v v':=by
 cases h with
 | nil hl hs h0=>simp at hq
 | blk a c cs2 e' fr hs hc hc2 hsp hb ho hg=>
  simp only [Prod.mk.injEq,Option.some.injEq] at hq
  obtain ⟨rfl,rfl,rfl⟩:=hq
  refine ⟨cs2,fr,hb,ho,fun i v hv=>⟨v,hg i v hv,closedV_rel 4 v ?_⟩⟩
  have hm:=List.mem_of_getElem? hv
  unfold flat at hm
  obtain ⟨b,_,hb2⟩:=List.mem_flatMap.1 hm
  exact List.all_eq_true.1 (hf b) v hb2
end
end Go.Abs
namespace Go.Abs
structure ET (P:Program) (ts te:TypeId) (n:Nat) {β:Type} (f:β→List Value):Prop where
 us:P.underlying ts=some (.slice te)
 sz:szT P te=some (n+1)
 ag:isAggT P te=some true
 by':∃ b,bytesT P te=some b∧b≤256
 hz:hasZero P te (n+1)=true
 len:∀ x,(f x).length=n+1
 one:∀ x,(f x).all oneCell=true
 noT:∀ x,(f x).all (fun v=>!isTuple v)=true
section
variable {P:Program} {ts te:TypeId} {n:Nat} {β:Type} {f:β→List Value}
def RdE (n:Nat) (f:β→List Value) (A:AW) (v:Value) (l:List β) (F:List Nat):Prop:=
 (l=[]∧F=[]∧∃ o c,v=.slice o 0 c)∨∃ r o c cs e g b ro,v=.slice (some ⟨r,o,none⟩) l.length c∧A.get r=some (.row cs e g b ro)∧g < A.next∧F=[g]∧∀ (i:Nat) p,l[i]? =some p→∃ rest,cs.drop (o+i * (n+1))=f p++rest
theorem RdE.keeps {A A':AW} {v:Value} {l:List β} {F S:List Nat} (h:RdE n f A v l F) (k:Keeps A A' S) (hd:∀ x∈F,x∉S):RdE n f A' v l F:=by
 rcases h with h | ⟨r,o,c,cs,e,g,b,ro,h1,h2,h3,rfl,h4⟩
 ·exact .inl h
 ·exact .inr ⟨r,o,c,cs,e,g,b,ro,h1,k.get r _ h2 h3 (hd g (by simp)),Nat.lt_of_lt_of_le h3 k.next,rfl,h4⟩
theorem RdE.slice {A:AW} {v:Value} {l:List β} {F:List Nat} (h:RdE n f A v l F):∃ o c,v=.slice o l.length c:=by
 rcases h with ⟨rfl,_,o,c,rfl⟩ | ⟨r,o,c,cs,e,g,b,ro,rfl,_⟩ <;> exact ⟨_,_,rfl⟩
theorem RdE.fam {A:AW} {v:Value} {l:List β} {F:List Nat} (h:RdE n f A v l F):∀ x∈F,x < A.next:=by
 rcases h with ⟨_,rfl,_⟩ | ⟨r,o,c,cs,e,g,b,ro,_,_,h3,rfl,_⟩
 ·simp
 ·simpa using h3
theorem RdE.nil (A:AW) (o:Option Addr) (c:Nat):RdE n f A (.slice o 0 c) [] []:=.inl ⟨rfl,rfl,o,c,rfl⟩
theorem RdE.len (T:ET P ts te n f) {A B:AW} {v:Value} {l:List β} {F:List Nat} (h:RdE n f A v l F):lenA P B ts v=some (.int .i64 (l.length:Int)):=by
 obtain ⟨o,c,rfl⟩:=h.slice
 unfold lenA
 simp only [T.us]
theorem takeCells_app:∀ (a rest:List Value),a.all (fun v=>!isTuple v)=true→takeCells (a++rest) a.length=some a
 | [],rest,_=>by simp [takeCells]
 | v::a,rest,h=>by
  simp only [List.all_cons,Bool.and_eq_true,Bool.not_eq_true'] at h
  rw [List.cons_append,List.length_cons,takeCells_cons h.1,takeCells_app a rest h.2]
theorem ia_elem (T:ET P ts te n f) {b o len c i:Nat} (hi:i < len):indexAddrA P ts (.slice (some ⟨b,o,none⟩) len c) (.int .i64 (i:Int))=some (.pointer (some ⟨b,o+i * (n+1),none⟩)):=by
 show indexAddrA P ts _ (.int .i64 (.ofNat i))=_
 unfold indexAddrA
 simp only [T.us,blt_true.2 hi,cond_true,T.sz]
 unfold addA
 cases hb:Nat.beq (i * (n+1)) 0 with
 | true=>rw [cond_true,Nat.eq_of_beq_eq_true hb,Nat.add_zero]
 | false=>rfl
theorem RdE.at (T:ET P ts te n f) {A:AW} {v:Value} {l:List β} {F:List Nat} (h:RdE n f A v l F) {i:Nat} {p:β} (hi:l[i]? =some p):
  ∃ r o,indexAddrA P ts v (.int .i64 (i:Int))=some (.pointer (some ⟨r,o,none⟩))∧A.cells? ⟨r,o,none⟩ (n+1)=some (f p)∧loadP P A te (.pointer (some ⟨r,o,none⟩))=some (.agg ⟨f p⟩):=by
 rcases h with ⟨rfl,_⟩ | ⟨r,o,c,cs,e,g,b,ro,rfl,h2,h3,_,h4⟩
 ·simp at hi
 ·have hlt:i < l.length:=(List.getElem?_eq_some_iff.1 hi).1
  obtain ⟨rest,hr⟩:=h4 i p hi
  have hc:A.cells? ⟨r,o+i * (n+1),none⟩ (n+1)=some (f p):=by
   rw [cells_row h2,hr]
   have:=takeCells_app (f p) rest (T.noT p)
   rwa [T.len] at this
  refine ⟨r,o+i * (n+1),ia_elem T hlt,hc,?_⟩
  show loadVarA P A te _=_
  unfold loadVarA
  simp only [T.ag,T.sz,hc]
theorem cell_of {A:AW} {r o m:Nat} {cs:List Value} (h:A.cells? ⟨r,o,none⟩ (m+1)=some cs) {k:Nat} {v:Value} (hk:cs[k]? =some v):A.cell? ⟨r,o+k,none⟩=some v:=by
 unfold AW.cells? at h
 simp only at h
 unfold AW.cell?
 simp only
 split at h
 ·rename_i cs0 e g b ro hg
  have key:∀ (m o k:Nat) (l cs:List Value),takeCells (l.drop o) m=some cs→cs[k]? =some v→cellOf l (o+k)=some v:=by
   intro m
   induction m with
   | zero=>intro o k l cs h hk;unfold takeCells at h;simp at h;subst h;simp at hk
   | succ m ih=>
    intro o k l cs h hk
    cases hl:l.drop o with
    | nil=>rw [hl] at h;unfold takeCells at h;cases h
    | cons x r=>
     rw [hl] at h
     unfold takeCells at h
     cases hx:isTuple x with
     | true=>rw [hx] at h;cases h
     | false=>
      rw [hx,cond_false] at h
      cases hr:takeCells r m with
      | none=>rw [hr] at h;cases h
      | some q=>
       rw [hr] at h
       simp only [Option.some.injEq] at h
       subst h
       have hget:l[o]? =some x:=by
        have:(l.drop o)[0]? =some x:=by rw [hl];rfl
        rw [List.getElem?_drop,Nat.add_zero] at this
        exact this
       have hr':l.drop (o+1)=r:=by
        have:=drop_of_get hget
        rw [hl] at this
        simpa using this.symm
       cases k with
       | zero=>
        obtain rfl:x=v:=by simpa using hk
        exact cellOf_get hget hx
       | succ k=>
        have:=ih (o+1) k l q (by rw [hr'];exact hr) (by simpa using hk)
        rw [show o+(k+1)=o+1+k by omega]
        exact this
  exact key (m+1) o k cs0 cs h hk
 ·cases h
def OwnE (te:TypeId) (n:Nat) (f:β→List Value) (A:AW) (v:Value) (l:List β) (F:List Nat):Prop:=OwnG A te (n+1) v l.length (flat f l) F
theorem flat_apps (a b:List β):flat f (a++b)=flat f a++flat f b:=by simp [flat]
theorem OwnE.rd (hlen:∀ x,(f x).length=n+1) {A:AW} {v:Value} {l:List β} {F:List Nat} (h:OwnE te n f A v l F):RdE n f A v l F:=by
 rcases h with ⟨rfl,h2,_,rfl⟩ | ⟨b,g,rfl,h2,rfl⟩
 ·have:l=[]:=List.eq_nil_of_length_eq_zero h2
  subst this
  exact .nil _ _ _
 ·exact .inr ⟨b,0,_,_,_,g,0,false,rfl,h2.row,h2.ltf,rfl,fun i p hi=>by rw [Nat.zero_add];exact flat_drop hlen l i p hi⟩
theorem OwnE.keeps {A A':AW} {v:Value} {l:List β} {F S:List Nat} (h:OwnE te n f A v l F) (k:Keeps A A' S) (hd:∀ x∈F,x∉S):OwnE te n f A' v l F:=OwnG.keeps h k hd
theorem OwnE.nil (A:AW):OwnE te n f A (.slice none 0 0) [] []:=OwnG.nil _ _ _
theorem OwnE.lt {A:AW} {v:Value} {l:List β} {F:List Nat} (h:OwnE te n f A v l F):∀ x∈F,x < A.next:=OwnG.lt h
theorem OwnE.one {A:AW} {v:Value} {l:List β} {F:List Nat} (h:OwnE te n f A v l F):oneCell v=true∧isTuple v=false:=OwnG.one h
theorem src_elem (T:ET P ts te n f) {A:AW} {q:Nat} {p:β} {e:TypeId} (hq:Row1 A q (f p) e):sourceZ P A te ts (n+1) (.slice (some ⟨q,0,none⟩) 1 1)=some (0+1,f p):=by
 unfold sourceZ
 simp only [T.us]
 show sourceA A (n+1) (.slice (some ⟨q,0,none⟩) 1 1)=_
 unfold sourceA
 have:=takeCells_app (f p) [] (T.noT p)
 rw [List.append_nil,T.len] at this
 simp only [Nat.one_mul,cells_row hq.row,List.drop_zero,this]
theorem OwnE.append (T:ET P ts te n f) {A:AW} {v:Value} {l:List β} {F:List Nat} {p:β} {q:Nat} {e:TypeId} {K:Value→AW→Prop} (h:OwnE te n f A v l F) (hq:Row1 A q (f p) e) (hf:Fine A) (hA:A.next < maxId) (hl:l.length < 100000000)
  (hk:∀ v' A' F',OwnE te n f A' v' (l++[p]) F'→Keeps A A' F→(∀ x∈F',x∈F∨x=A.next)→A'.next=A.next+1→Fine A'→K v' A'):bothW (appendA P A ts ts v (.slice (some ⟨q,0,none⟩) 1 1)) K:=by
 have hroom:room=68719476736:=rfl
 obtain ⟨b,hb,hb2⟩:=T.by'
 have hse:sliceElemT P ts=some te:=by unfold sliceElemT;rw [T.us]
 have hm:(l.length+(0+1)) * b≤(l.length+(0+1)) * 256:=Nat.mul_le_mul_left _ hb2
 refine appendG (m:=0) (size:=n) hse T.sz hb T.hz (src_elem T hq) (by rw [T.len];omega) (T.one p) h hf hA (by omega) (by omega) fun v' A' F' h1 h2 h3 h4 h5=>?_
 refine hk v' A' F' ?_ h2 h3 h4 h5
 show OwnG A' te (n+1) v' (l++[p]).length (flat f (l++[p])) F'
 rw [List.length_append,flat_apps]
 have e:flat f [p]=f p:=by simp [flat]
 rw [e]
 exact h1
theorem rdE_arg (hlen:∀ x,(f x).length=n+1) {N:Nat} {gl:List (Nat × List Value × TypeId)} {L:List Arg} {j c:Nat} {l:List β} {p:Nat × Nat} {e:TypeId} (hk:N+L.length+1≤maxId) (h:L[j]? =some (p,some (flat f l,e))):
  RdE n f (wR N gl L) (.slice (some ⟨N+j,0,none⟩) l.length c) l [N+L.length]:=
 .inr ⟨N+j,0,c,flat f l,e,N+L.length,0,true,rfl,wR_arg (by omega) h,by show N+L.length < N+L.length+1;omega,rfl,fun i q hi=>by rw [Nat.zero_add];exact flat_drop hlen l i q hi⟩
end
structure ES (P:Program) (ts te:TypeId) {β:Type} (f:β→List Value):Prop where
 us:P.underlying ts=some (.slice te)
 sz:szT P te=some 1
 by':∃ b,bytesT P te=some b∧b≤256
 hz:hasZero P te 1=true
 ld:∀ A a,loadP P A te (.pointer (some a))=A.cell? a
 len:∀ x,(f x).length=1
 one:∀ x,(f x).all oneCell=true
 noT:∀ x,(f x).all (fun v=>!isTuple v)=true
section
variable {P:Program} {ts te:TypeId} {β:Type} {f:β→List Value}
theorem ES.lenR (T:ES P ts te f) {A B:AW} {v:Value} {l:List β} {F:List Nat} (h:RdE 0 f A v l F):lenA P B ts v=some (.int .i64 (l.length:Int)):=by
 obtain ⟨o,c,rfl⟩:=h.slice
 unfold lenA
 rw [T.us]
theorem ES.src (T:ES P ts te f) {A:AW} {q:Nat} {p:β} {e:TypeId} (hq:Row1 A q (f p) e):sourceZ P A te ts 1 (.slice (some ⟨q,0,none⟩) 1 1)=some (0+1,f p):=by
 unfold sourceZ
 simp only [T.us]
 show sourceA A 1 (.slice (some ⟨q,0,none⟩) 1 1)=_
 unfold sourceA
 have:=takeCells_app (f p) [] (T.noT p)
 rw [List.append_nil,T.len] at this
 simp only [Nat.one_mul,cells_row hq.row,List.drop_zero,this]
theorem ES.ia (T:ES P ts te f) {b o len c i:Nat} (hi:i < len):indexAddrA P ts (.slice (some ⟨b,o,none⟩) len c) (.int .i64 (i:Int))=some (.pointer (some ⟨b,o+i,none⟩)):=by
 show indexAddrA P ts (.slice (some ⟨b,o,none⟩) len c) (.int .i64 (.ofNat i))=_
 unfold indexAddrA
 simp only [T.us,T.sz,blt_true.2 hi,cond_true,Nat.mul_one]
 unfold addA
 cases hb:Nat.beq i 0 with
 | true=>
  have:=Nat.eq_of_beq_eq_true hb
  subst this
  simp
 | false=>simp
theorem ES.at (T:ES P ts te f) {A:AW} {v:Value} {l:List β} {F:List Nat} (h:RdE 0 f A v l F) {i:Nat} {p:β} (hi:l[i]? =some p) {w:Value} (hw:f p=[w]):∃ a,indexAddrA P ts v (.int .i64 (i:Int))=some (.pointer (some a))∧loadP P A te (.pointer (some a))=some w:=by
 have hlt:=(List.getElem?_eq_some_iff.1 hi).1
 rcases h with ⟨rfl,_⟩ | ⟨r,o,c,cs,e,g,b,ro,rfl,h2,h3,h4,h5⟩
 ·simp at hi
 ·obtain ⟨rest,hr⟩:=h5 i p hi
  refine ⟨_,T.ia hlt,?_⟩
  rw [T.ld,cell_row h2]
  have hn:=T.noT p
  rw [hw] at hr hn
  have h1:cs[o+i]? =some w:=by
   have:=congrArg (fun l:List Value=>l[0]?) hr
   simpa using this
  exact cellOf_get h1 (by simpa using hn)
end
end Go.Abs
namespace Go.Proofs.YtbchfeibhoobeaaGreatDoor
open Go.Abs Go.Jr
def leB (x y:List UInt8):Bool:=decide (x≤y)
theorem leB_trans (a b c:List UInt8) (h:leB a b=true) (k:leB b c=true):leB a c=true:=by
 unfold leB at *
 rw [decide_eq_true_iff] at *
 exact List.le_trans h k
theorem leB_total (a b:List UInt8):(leB a b || leB b a)=true:=by
 unfold leB
 rw [Bool.or_eq_true,decide_eq_true_iff,decide_eq_true_iff]
 exact List.le_total a b
theorem leB_anti {a b:List UInt8} (h:leB a b=true) (k:leB b a=true):a=b:=by
 unfold leB at *
 rw [decide_eq_true_iff] at *
 exact List.le_antisymm h k
theorem sort_perm {a b:List (List UInt8)} (h:a.Perm b):a.mergeSort leB=b.mergeSort leB:=
 List.Perm.eq_of_pairwise (le:=fun x y=>leB x y=true) (fun _ _ _ _ h k=>leB_anti h k) (List.pairwise_mergeSort leB_trans leB_total a) (List.pairwise_mergeSort leB_trans leB_total b)
  ((List.mergeSort_perm a leB).trans (h.trans (List.mergeSort_perm b leB).symm))
def namesS (D:Fls):List (List UInt8):=(D.map (·.1)).mergeSort leB
section
variable {W0:World} {m0:Inj Tp}
theorem wc60 {A:AW} {mp:Nat} {K:Value→AW→Prop} (hf:Fine A) (hA:A.next < maxId) (hk:∀ A',Go.Abs.Row1 A' A.next [.map (some mp)] 74→Keeps A A' []→A'.next=A.next+1→Fine A'→K (.func (.func 103) ⟨[]⟩ ⟨[.pointer (some ⟨A.next,0,none⟩)]⟩) A'):
  Wc Tp theX W0 m0 60 [.map (some mp)] A K:=by
 refine w60 _ _ (cuts_none (S:=fun _ _ _=>False) fun _ _ _ h=>h) ?_
 rw [e60]
 refine newP_made (cs:=[.map (some mp)]) hf hA rfl fun A1 m1=>?_
 exact hk A1 m1.row1 (m1.keeps hf) m1.next m1.fine
theorem wc59 {A:AW} {q mp c:Nat} {es:List (En ByteArray Fv)} {K:Value→AW→Prop} (hq:Go.Abs.Row1 A q [.map (some mp)] 74) (hm:OwnM kS vF A mp es c) (hf:Fine A) (hes:es.length < 100000) (hA:A.next+20+3 * es.length < maxId)
  (hk:∀ A' sv F,OwnG A' 9 1 sv (namesS (es.map fE)).length ((namesS (es.map fE)).map txV) F→(∀ x∈F,A.next≤x)→Keeps A A' []→A'.next≤A.next+10+3 * es.length→Fine A'→K sv A'):
  Wc Tp theX W0 m0 59 [.func (.func 103) ⟨[]⟩ ⟨[.pointer (some ⟨q,0,none⟩)]⟩] A K:=by
 refine w59 _ _ (cuts_none (S:=fun _ _ _=>False) fun _ _ _ h=>h) ?_
 rw [e59]
 refine wc101 hq hm hf hes hA fun A1 sv F vs ho hp hF k1 n1 f1=>?_
 have el:(vs.map fun e=>kS e.k)=(vs.map fun e=>e.k.data.toList).map txV:=by
  rw [List.map_map]
  apply List.map_congr_left
  intro e _
  rfl
 have hlen:=hp.length_eq
 have ho':OwnG A1 9 1 sv (vs.map fun e=>e.k.data.toList).length ((vs.map fun e=>e.k.data.toList).map txV) F:=by
  rw [← el,List.length_map];exact ho
 have hs:((vs.map fun e=>e.k.data.toList).mergeSort fun x y=>decide (x≤y))=namesS (es.map fE):=by
  show (vs.map fun e=>e.k.data.toList).mergeSort leB=_
  unfold namesS
  rw [List.map_map]
  exact sort_perm (hp.map _)
 refine .inr (lib_sortS srX ho' f1 (by rw [List.length_map];omega) fun A2 h2 k2 n2 f2=>?_)
 rw [hs] at h2
 have hl2:(vs.map fun e=>e.k.data.toList).length=(namesS (es.map fE)).length:=by rw [← hs,List.length_mergeSort]
 rw [hl2] at h2
 exact hk A2 sv F h2 hF (k1.trans k2 fun x hx=>.inr (hF x hx)) (by omega) f2
theorem wc11 {A:AW} {d mp:Nat} {s:DS} {K:Value→AW→Prop} (h:Dk A d mp s) (hf:Fine A) (hes:s.D.length < 100000) (hA:A.next+30+3 * s.D.length < maxId)
  (hk:∀ A' sv F,OwnG A' 9 1 sv (namesS s.D).length ((namesS s.D).map txV) F→(∀ x∈F,A.next≤x)→Keeps A A' []→A'.next≤A.next+15+3 * s.D.length→Fine A'→K sv A'):
  Wc Tp theX W0 m0 11 [.pointer (some ⟨d,0,none⟩)] A K:=by
 refine w11 _ _ (cuts_none (S:=fun _ _ _=>False) fun _ _ _ h=>h) ?_
 rw [e11]
 refine wc58 h ?_
 obtain ⟨es,c,hr,hm,hne,hD⟩:=h
 rw [hD] at hk hes hA
 rw [List.length_map] at hes hA
 simp only [un_not,pureW_some,nilP_some,fa_76_0,ld_74,cell_row hr.row,cellOf,isT_map,cond_false]
 refine forkW_bool.2 ⟨fun h=>by simp at h,fun _=>?_⟩
 have hmlt:=hm.ltA
 refine wc60 hf (by omega) fun A1 q1 k1 n1 f1=>?_
 refine wc59 q1 (hm.keeps k1 (by simp)) f1 hes (by omega) fun A2 sv F h2 hF k2 n2 f2=>?_
 rw [List.length_map] at hk
 exact hk A2 sv F h2 (fun x hx=>by have:=hF x hx;omega) (k1.trans k2 (by simp)) (by omega) f2
theorem zF_cells:(vF (⟨⟨[]⟩⟩,0)).cells.toList=[.string ⟨⟨[]⟩⟩,.int .i64 0]:=rfl
theorem ex_two1 (a b:Value):extractP (.tuple #[a,b]) 1=some b:=rfl
theorem sum_perm {a b:List Nat} (h:a.Perm b):a.foldr (·+·) 0=b.foldr (·+·) 0:=by
 induction h with
 | nil=>rfl
 | cons x _ ih=>simp [ih]
 | swap x y l=>simp;omega
 | trans _ _ ih1 ih2=>exact ih1.trans ih2
theorem sum_snoc (l:List Nat) (x:Nat):(l++[x]).foldr (·+·) 0=l.foldr (·+·) 0+x:=by
 induction l with
 | nil=>simp
 | cons y l ih=>simp only [List.cons_append,List.foldr_cons,ih];omega
theorem sum_le {l:List Nat} {M:Nat} (h:∀ x∈l,x≤M):l.foldr (·+·) 0≤M * l.length:=by
 induction l with
 | nil=>simp
 | cons y l ih=>
  have h1:=h y (by simp)
  have h2:=ih fun x hx=>h x (by simp [hx])
  simp only [List.foldr_cons,List.length_cons,Nat.mul_succ]
  omega
def lenE (e:En ByteArray Fv):Nat:=e.v.1.data.toList.length
theorem wc64 {A:AW} {d mp:Nat} {s:DS} {K:Value→AW→Prop} (h:Dk A d mp s) (hw:OkD s) (hf:Fine A) (hA:A.next+30+3 * s.D.length < maxId)
  (hk:∀ A',Keeps A A' []→A'.next≤A.next+1+s.D.length→Fine A'→K (.int .i64 (usedF s.D:Int)) A'):
  Wc Tp theX W0 m0 64 [.pointer (some ⟨d,0,none⟩)] A K:=by
 have h0:=h
 obtain ⟨es,c,hr,hm,hne,hD⟩:=h
 have hl:s.D.length=es.length:=by rw [hD,List.length_map]
 have hfew:=hw.few
 have hM:∀ e∈es,lenE e≤1048576:=fun e he=>hw.len (fE e) (by rw [hD];exact List.mem_map.2 ⟨e,he,rfl⟩)
 have hmlt:=hm.ltA
 have hu:usedF s.D=(es.map lenE).foldr (·+·) 0:=by
  unfold usedF
  rw [hD,List.map_map]
  rfl
 let I:Nat→Nat→List Value→AW→Prop:=fun g id vals A'=>id=0∧∃ (vs:List (En ByteArray Fv)),vals=[.int .i64 ((vs.map lenE).foldr (·+·) 0:Nat),.pointer (some ⟨A.next,0,none⟩)]∧Iter A' A.next mp c vs∧OwnM kS vF A' mp es c∧
  (∀ e∈vs,e∈es)∧(vs.map En.b).Nodup∧Keeps A A' []∧Fine A'∧A'.next≤A.next+1+vs.length∧g=es.length - vs.length
 refine w64 _ _ (c64 (I:=I) ?_) ?_
 ·rintro g id vals A' dd ⟨rfl,vs,rfl,hit,hm',hvs,hnd,k,f,nx,rfl⟩ hd
  rw [l64_0]
  simp only [L64,List.map_cons,List.map_nil,List.cons.injEq,and_true] at hd
  obtain ⟨d3,d12⟩:=hd
  rw [d3,d12]
  have hlen:=nodup_len (nodup_of _ hnd) hvs
  refine hm'.next hit hvs f (by omega) (fun e A2 he hnv it2 k2 n2 f2=>?_) fun hall=>?_
  ·have hm2:=hm'.keeps k2 (by simp;omega)
   have hitlt:=hit.lt
   have K2:Keeps A A2 []:=k.trans k2 (fun x hx=>by have:=List.mem_singleton.1 hx;exact .inr (by omega))
   have hvs2:∀ x∈vs++[e],x∈es:=fun x hx=>by
    rcases List.mem_append.1 hx with h | h
    ·exact hvs x h
    ·rw [List.mem_singleton.1 h];exact he
   have hnd2:((vs++[e]).map En.b).Nodup:=by
    rw [List.map_append,List.nodup_append]
    refine ⟨hnd,by simp,fun x hx y hy hxy=>hnv ?_⟩
    obtain ⟨z,hz,rfl⟩:=List.mem_map.1 hx
    obtain rfl:y=e.b:=by simpa using hy
    rw [← inj_b hm.nb (hvs z hz) he hxy]
    exact hz
   have hlen2:=nodup_len (nodup_of _ hnd2) hvs2
   have hl1:(vs++[e]).length=vs.length+1:=by simp
   simp only [ex_tri0,pureW_some]
   refine forkW_bool.2 ⟨fun _=>?_,fun h=>by cases h⟩
   refine hm2.entry it2 he ?_
   simp only [ex_two1,pureW_some]
   refine allocP_made zF f2 (by omega) rfl fun A3 m3=>?_
   have n3:=m3.next
   have k3:=m3.keeps f2
   refine m3.row1.store m3.fine (by omega) (st_100 _ _ _) rfl (by show 0+2≤2;omega) rfl fun A4 r4 k4 n4 f4=>?_
   have r4:Go.Abs.Row1 A4 A2.next [.string e.v.1,.int .i64 (e.v.2:Int)] 100:=r4
   simp only [fa_100_0,ld_9,cell_row r4.row,cellOf,isT_string,cond_false,pureW_some,ln_9,bin_add]
   have hb1:(vs.map lenE).foldr (·+·) 0≤1048576 * vs.length:=by
    have:=sum_le (l:=vs.map lenE) (M:=1048576) fun x hx=>by obtain ⟨y,hy,rfl⟩:=List.mem_map.1 hx;exact hM y (hvs y hy)
    rwa [List.length_map] at this
   have hb2:=hM e he
   have hb3:e.v.1.data.toList.length=lenE e:=rfl
   rw [hb3,wrap_i64 (by omega) (by omega)]
   have k4':Keeps A3 A4 [A2.next]:=k4
   refine cutW_self.2 ⟨es.length - (vs.length+1),by omega,rfl,vs++[e],?_,(it2.keeps k3 (by simp)).keeps k4' (by have:=it2.lt;simp;omega),(hm2.keeps k3 (by simp)).keeps k4' (by have:=hm2.ltA;simp;omega),hvs2,hnd2,?_,f4,by omega,by omega⟩
   ·rw [List.map_append,List.map_singleton,sum_snoc]
    congr 3
   ·exact (K2.trans k3 (by simp)).trans k4' (fun x hx=>by have:=List.mem_singleton.1 hx;have:=K2.next;exact .inr (by omega))
  ·simp only [ex_one0,pureW_some]
   refine forkW_bool.2 ⟨fun h=>(by cases h),fun _=>?_⟩
   have hp:=told_all hm.nb hnd hvs hall
   rw [sum_perm (hp.map lenE),← hu]
   exact hk A' k (by omega) f
 ·rw [e64]
  refine wc58 h0 ?_
  refine forkW_bool.2 ⟨fun _=>?_,fun h=>by cases h⟩
  simp only [nilP_some,fa_76_0,ld_74,cell_row hr.row,cellOf,isT_map,cond_false,pureW_some]
  refine hm.range (t:=74) (P:=Tp) (kt:=9) (et:=100) (keq:=keqB) mtF hf (by omega) fun A1 hit k1 n1 f1=>?_
  exact cutW_self.2 ⟨es.length,rfl,[],rfl,hit,hm.keeps k1 (by simp),by simp,by simp,k1.more (by simp),f1,by simp;omega,rfl⟩
end
def readS (s:DS) (n:List UInt8):List UInt8 × Int:=
 if s.down=true then ([],100) else match lookF s.D n with | none=>([],7) | some f=>(f.1,0)
theorem ba100:buildA Tp 100 []=some (vF (⟨⟨[]⟩⟩,0)):=by kernel_rfl
theorem ba100x (b:ByteArray) (n:Int):buildA Tp 100 [(0,.string b),(1,.int .i64 n)]=some (.agg ⟨[.string b,.int .i64 n]⟩):=by kernel_rfl
theorem cells2 {A:AW} {b:Nat} {x y:Value} {e:TypeId} (h:Go.Abs.Row1 A b [x,y] e) (hx:isTuple x=false) (hy:isTuple y=false):A.cells? ⟨b,0,none⟩ 2=some [x,y]:=by
 rw [cells_row h.row]
 simp only [List.drop_zero,takeCells,hx,hy,cond_false]
theorem ld_F {A:AW} {b:Nat} {v:Fv} (h:Go.Abs.Row1 A b [.string v.1,.int .i64 (v.2:Int)] 100):loadP Tp A 100 (.pointer (some ⟨b,0,none⟩))=some (vF v):=by
 rw [ld_100,cells2 h rfl rfl]
 rfl
theorem ex_two0 (a b:Value):extractP (.tuple #[a,b]) 0=some a:=rfl
theorem exL_two0 (a b:Value):extractP (.tuple ⟨[a,b]⟩) 0=some a:=rfl
theorem exL_two1 (a b:Value):extractP (.tuple ⟨[a,b]⟩) 1=some b:=rfl
theorem lookW {A:AW} {mp c:Nat} {es:List (En ByteArray Fv)} (hm:OwnM kS vF A mp es c) (k:ByteArray):lookupA Tp A 74 (.map (some mp)) (.string k) true=some (match lookE keqB es k with | some v=>.tuple #[vF v,.bool true] | none=>.tuple #[vF (⟨⟨[]⟩⟩,0),.bool false]):=by
 have:=hm.look mtF zF k true
 refine this.trans ?_
 cases lookE keqB es k <;> rfl
theorem lookV {A:AW} {mp c:Nat} {es:List (En ByteArray Fv)} (hm:OwnM kS vF A mp es c) (k:ByteArray):lookupA Tp A 74 (.map (some mp)) (.string k) false=some (vF ((lookE keqB es k).getD (⟨⟨[]⟩⟩,0))):=by
 have:=hm.look mtF zF k false
 refine this.trans ?_
 cases lookE keqB es k <;> rfl
section
variable {W0:World} {m0:Inj Tp}
theorem wc12 {A:AW} {d mp:Nat} {s:DS} {n:ByteArray} {K:Value→AW→Prop} (h:Dk A d mp s) (hf:Fine A) (hA:A.next+10 < maxId)
  (hk:∀ A',Keeps A A' []→A'.next≤A.next+3→Fine A'→K (.tuple ⟨[.string ⟨⟨(readS s n.data.toList).1⟩⟩,.int .i64 (readS s n.data.toList).2]⟩) A'):
  Wc Tp theX W0 m0 12 [.pointer (some ⟨d,0,none⟩),.string n] A K:=by
 have fin:∀ (f:Fv) (q:Nat) (e:Int) (A1:AW),Keeps A A1 []→A1.next≤A.next+2→Fine A1→readS s n.data.toList=(f.1.data.toList,e)→
   bothW (allocP Tp A1 100) fun t3 At3=>effW (storeP Tp At3 100 t3 (vF f)) fun At4=>pureW (fieldAddrA Tp 100 t3 0) fun t5=>pureW (loadP Tp At4 9 t5) fun t6=>K (.tuple ⟨[t6,.int .i64 e]⟩) At4:=by
  intro f q e A1 k1 n1 f1 he
  rw [he] at hk
  refine allocP_made zF f1 (by omega) rfl fun A3 m3=>?_
  have n3:=m3.next
  refine m3.row1.store m3.fine (by omega) (st_100 _ _ _) rfl (by show 0+2≤2;omega) rfl fun A4 r4 k4 n4 f4=>?_
  have r4:Go.Abs.Row1 A4 A1.next [.string f.1,.int .i64 (f.2:Int)] 100:=r4
  simp only [fa_100_0,ld_9,cell_row r4.row,cellOf,isT_string,cond_false,pureW_some]
  have hk0:=k1.next
  exact hk A4 ((k1.trans (m3.keeps f1) (by simp)).trans k4 (fun x hx=>by have:=List.mem_singleton.1 hx;exact .inr (by omega))) (by omega) f4
 refine w12 _ _ _ (cuts_none (S:=fun _ _ _=>False) fun _ _ _ h=>h) ?_
 rw [e12]
 refine w61 _ _ _ (cuts_none (S:=fun _ _ _=>False) fun _ _ _ h=>h) ?_
 rw [e61]
 have hlt:=h.lt
 refine allocP_made zF hf (by omega) rfl fun A1 m1=>?_
 have n1:=m1.next
 have k1:=m1.keeps hf
 have h1:=h.keeps k1 (by simp) (by simp)
 refine wc62 h1 ?_
 simp only [bin_neq,pureW_some]
 unfold stateS
 unfold readS at fin hk
 refine forkW_bne.2 ⟨fun he=>?_,fun he=>?_⟩
 ·have hd:s.down=true:=by
   cases hq:s.down with
   | true=>rfl
   | false=>rw [hq] at he;simp at he
  rw [if_pos hd] at fin
  rw [if_pos hd]
  simp only [ba100,pureW_some]
  refine m1.row1.store m1.fine (by omega) (st_100 _ _ _) rfl (by show 0+2≤2;omega) rfl fun A2 r2 k2 n2 f2=>?_
  rw [ld_F (v:=(⟨⟨[]⟩⟩,0)) r2]
  simp only [pureW_some,exL_two0,exL_two1]
  exact fin (⟨⟨[]⟩⟩,0) 0 100 A2 (k1.trans k2 (fun x hx=>by have:=List.mem_singleton.1 hx;exact .inr (by omega))) (by omega) f2 rfl
 ·have hd:s.down=false:=by
   cases hq:s.down with
   | false=>rfl
   | true=>rw [hq] at he;simp at he
  rw [hd] at fin
  simp only [Bool.false_eq_true,if_false] at fin
  obtain ⟨es,c,hr,hm,hne,hD⟩:=h1
  simp only [nilP_some,fa_76_0,ld_74,cell_row hr.row,cellOf,isT_map,cond_false,pureW_some,lookW hm]
  have hlk:=look_map es n
  rw [← hD] at hlk
  rw [← hlk] at fin
  cases hq:lookE keqB es n with
  | none=>
   rw [hq] at fin
   simp only [ex_two0,ex_two1,pureW_some]
   refine allocP_made zF m1.fine (by omega) rfl fun A2 m2=>?_
   have n2:=m2.next
   refine m2.row1.store m2.fine (by omega) (st_100 _ _ _) rfl (by show 0+2≤2;omega) rfl fun A3 r3 k3 n3 f3=>?_
   simp only [un_not,pureW_some]
   refine forkW_bool.2 ⟨fun _=>?_,fun h=>by simp at h⟩
   simp only [ba100,pureW_some]
   have r1:=(m1.row1.keeps (m2.keeps m1.fine) (by simp)).keeps k3 (by simp;omega)
   refine r1.store f3 (by omega) (st_100 _ _ _) rfl (by show 0+2≤2;omega) rfl fun A4 r4 k4 n4 f4=>?_
   rw [ld_F (v:=(⟨⟨[]⟩⟩,0)) r4]
   simp only [pureW_some,exL_two0,exL_two1]
   refine fin (⟨⟨[]⟩⟩,0) 0 7 A4 (((k1.trans (m2.keeps m1.fine) (by simp)).trans k3 (fun x hx=>by have:=List.mem_singleton.1 hx;exact .inr (by omega))).trans k4 (fun x hx=>by have:=List.mem_singleton.1 hx;exact .inr (by omega))) (by omega) f4 rfl
  | some v=>
   rw [hq] at fin
   simp only [ex_two0,ex_two1,pureW_some]
   refine allocP_made zF m1.fine (by omega) rfl fun A2 m2=>?_
   have n2:=m2.next
   refine m2.row1.store m2.fine (by omega) (st_100 _ _ _) rfl (by show 0+2≤2;omega) rfl fun A3 r3 k3 n3 f3=>?_
   simp only [un_not,pureW_some]
   refine forkW_bool.2 ⟨fun h=>by simp at h,fun _=>?_⟩
   rw [ld_F (v:=v) r3]
   simp only [pureW_some]
   have r1:=(m1.row1.keeps (m2.keeps m1.fine) (by simp)).keeps k3 (by simp;omega)
   refine r1.store f3 (by omega) (st_100 _ _ _) rfl (by show 0+2≤2;omega) rfl fun A4 r4 k4 n4 f4=>?_
   rw [ld_F (v:=v) r4]
   simp only [pureW_some,exL_two0,exL_two1]
   exact fin v 0 0 A4 (((k1.trans (m2.keeps m1.fine) (by simp)).trans k3 (fun x hx=>by have:=List.mem_singleton.1 hx;exact .inr (by omega))).trans k4 (fun x hx=>by have:=List.mem_singleton.1 hx;exact .inr (by omega))) (by omega) f4 rfl
end
theorem ix_9 (s:ByteArray) (k:IntKind) (i:Nat):indexA Tp 9 (.string s) (.int k (.ofNat i))=(match s.data.toList[i]? with | some b=>some (.int .u8 b.toNat) | none=>none):=by kernel_rfl
theorem ix9 {s:ByteArray} {k:IntKind} {i:Nat} {b:UInt8} (h:s.data.toList[i]? =some b):indexA Tp 9 (.string s) (.int k (i:Int))=some (.int .u8 (b.toNat:Int)):=by
 show indexA Tp 9 (.string s) (.int k (.ofNat i))=_
 rw [ix_9,h]
theorem add9 {a b:ByteArray} {xo yo:Operand} (h:a.data.toList.length+b.data.toList.length < 1099511627776):binA Tp .add 9 xo yo (.string a) (.string b)=some (.string ⟨⟨a.data.toList++b.data.toList⟩⟩):=by
 show (bif Nat.blt (a.data.toList++b.data.toList).length 1099511627776 then some (Value.string ⟨⟨a.data.toList++b.data.toList⟩⟩) else none)=_
 rw [List.length_append,blt_true.2 h,cond_true]
theorem streq9 (a b:ByteArray) (xo yo:Operand):binA Tp .eql 9 xo yo (.string a) (.string b)=some (.bool (a.data.toList==b.data.toList)):=bin_streq
section
variable {W0:World} {m0:Inj Tp}
def goodB (c:UInt8):Bool:=decide (33≤c)&&decide (c≤126)
theorem goodB_iff (c:UInt8):goodB c=(!decide ((c.toNat:Int) < 33)&&!decide ((126:Int) < (c.toNat:Int))):=by
 unfold goodB
 have h1:(33:UInt8)=UInt8.ofNat 33:=rfl
 have h2:(33≤c)↔(33≤c.toNat):=by rw [UInt8.le_iff_toNat_le];rfl
 have h3:(c≤126)↔(c.toNat≤126):=by rw [UInt8.le_iff_toNat_le];rfl
 rw [Bool.eq_iff_iff]
 simp only [Bool.and_eq_true,decide_eq_true_iff,Bool.not_eq_true',decide_eq_false_iff_not,h2,h3]
 omega
theorem wc63 {A:AW} {n:ByteArray} {K:Value→AW→Prop} (hk:K (.bool (mayS n.data.toList)) A):Wc Tp theX W0 m0 63 [.string n] A K:=by
 obtain ⟨l,hl⟩:∃ l,n.data.toList=l:=⟨_,rfl⟩
 let I:Nat→Nat→List Value→AW→Prop:=fun g id vals A'=>id=0∧A'=A∧∃ i:Nat,vals=[.string n,.int .i64 (l.length:Int),.int .i64 (i:Int)]∧g=l.length - i∧i≤l.length∧(l.take i).all goodB=true∧l≠[]∧l.length≤40
 refine w63 _ _ (c63 (I:=I) ?_) ?_
 ·rintro g id vals A' d ⟨rfl,rfl,i,rfl,rfl,hi,hall,hne,h40⟩ hd
  rw [l63_0]
  simp only [L63,List.map_cons,List.map_nil,List.cons.injEq,and_true] at hd
  obtain ⟨d0,d12,d13⟩:=hd
  simp only [d0,d12,d13,bin_lss,pureW_some,forkW_dec]
  refine ⟨fun hlt=>?_,fun hge=>?_⟩
  ·have hlt:i < l.length:=by omega
   have hc:n.data.toList[i]? =some l[i]:=by rw [hl];exact List.getElem?_eq_getElem hlt
   have hb:goodB l[i]=false→mayS n.data.toList=false:=by
    intro hb
    rw [hl]
    unfold mayS
    have:(l.all fun c=>decide (33≤c)&&decide (c≤126))=false:=by
     cases hq:(l.all fun c=>decide (33≤c)&&decide (c≤126)) with
     | false=>rfl
     | true=>
      have:=List.all_eq_true.1 hq l[i] (List.getElem_mem hlt)
      unfold goodB at hb
      rw [hb] at this
      cases this
    rw [this]
    simp
   rw [goodB_iff] at hb
   simp only [ix9 hc,pureW_some,bin_lss,bin_gtr,forkW_dec]
   refine ⟨fun h1=>?_,fun h1=>⟨fun h2=>?_,fun h2=>?_⟩⟩
   ·rw [hb (by simp [h1])] at hk;exact hk
   ·rw [hb (by simp [h2])] at hk;exact hk
   ·simp only [bin_add,pureW_some]
    rw [wrap_i64 (by omega) (by omega)]
    refine cutW_self.2 ⟨l.length - (i+1),by omega,rfl,rfl,i+1,rfl,rfl,by omega,?_,hne,h40⟩
    rw [List.take_add_one,List.getElem?_eq_getElem hlt,List.all_append,hall]
    show (true&&(goodB l[i]&&true))=true
    rw [goodB_iff]
    simp [h1,h2]
  ·have hi':i=l.length:=by omega
   have:mayS n.data.toList=true:=by
    rw [hl]
    unfold mayS
    rw [hi',List.take_length] at hall
    have e:(l.all fun c=>decide (33≤c)&&decide (c≤126))=true:=hall
    rw [e]
    simp [hne,h40]
   rw [this] at hk
   exact hk
 ·rw [e63]
  simp only [streq9,pureW_some]
  refine forkW_bool.2 ⟨fun h=>?_,fun h=>?_⟩
  ·have h0:l=[]:=by rw [hl] at h;exact beq_iff_eq.1 h
   have:mayS n.data.toList=false:=by rw [hl,h0];rfl
   rw [this] at hk
   exact hk
  ·have hne:l≠[]:=by
    intro h0
    rw [hl,h0] at h
    cases h
   simp only [ln_9,hl,pureW_some,bin_gtr,forkW_dec]
   refine ⟨fun h1=>?_,fun h1=>?_⟩
   ·have:mayS n.data.toList=false:=by
     rw [hl]
     unfold mayS
     have:decide (l.length≤40)=false:=decide_eq_false (by omega)
     rw [this]
     simp
    rw [this] at hk
    exact hk
   ·exact cutW_self.2 ⟨l.length,rfl,rfl,0,rfl,rfl,Nat.zero_le _,by simp,hne,by omega⟩
theorem an_fun {A:AW} {f:FuncId} {caps args all:List Value} {K:Value→AW→Prop} (hdyn:dynA Tp theX A (.func (.func f) ⟨[]⟩ ⟨caps⟩) args=.ok (.enter f all) A) (hkn:memN f theX.known=false) (h:Wc Tp theX W0 m0 f all A K):
  anW Tp theX W0 m0 (dynA Tp theX A (.func (.func f) ⟨[]⟩ ⟨caps⟩) args) K:=by
 refine .inr (.inl ⟨f,all,A,hdyn,?_⟩)
 unfold toW
 rw [hkn,cond_false]
 exact h
theorem wc65 {A:AW} {d mp f n:Nat} {caps:List Value} {s:DS} {g:Fls→Fls} {though:Bool} {K:Value→AW→Prop} (h:Dk A d mp s) (hf:Fine A) (hA:A.next+n+2 < maxId) (hfu:s.fuse < 9223372036854775808)
  (hdyn:∀ A,dynA Tp theX A (.func (.func f) ⟨[]⟩ ⟨caps⟩) []=.ok (.enter f caps) A) (hkn:memN f theX.known=false)
  (hdo:∀ A1 s1 (K1:Value→AW→Prop),Keeps A A1 [d]→A1.next=A.next→Fine A1→Dk A1 d mp s1→s1.D=s.D→(∀ A2 v,Dk A2 d mp { s1 with D:=g s1.D }→Keeps A1 A2 [mp]→A2.next≤A1.next+n→Fine A2→K1 v A2)→Wc Tp theX W0 m0 f caps A1 K1)
  (hk:∀ A2,Dk A2 d mp (actS s g though).1→Keeps A A2 [d,mp]→A2.next≤A.next+n→Fine A2→K (.int .i64 (actS s g though).2) A2):
  Wc Tp theX W0 m0 65 [.pointer (some ⟨d,0,none⟩),.func (.func f) ⟨[]⟩ ⟨caps⟩,.bool though] A K:=by
 refine w65 _ _ _ _ (cuts_none (S:=fun _ _ _=>False) fun _ _ _ h=>h) ?_
 rw [e65]
 have h0:=h
 obtain ⟨es,c,hr,hm,hne,hD⟩:=h
 have hdl:=hr.lt
 simp only [nilP_some,fa_76_2,fa_76_3,ld_3,cell_row hr.row,cellOf,isT_map,isT_int,cond_false,pureW_some,Nat.zero_add,bin_gtr,forkW_dec]
 unfold actS at hk
 refine ⟨fun hpos=>?_,fun hpos=>?_⟩
 ·rw [if_pos hpos] at hk
  simp only [bin_sub,pureW_some]
  rw [wrap_i64 (by omega) (by omega)]
  refine hr.store hf (by omega) (st_3 _ _ _) rfl (by show 2+1≤4;omega) rfl fun A1 r1 k1 n1 f1=>?_
  have r1:Go.Abs.Row1 A1 d [.map (some mp),.int .i64 s.room,.int .i64 (s.fuse - 1),.bool s.down] 76:=r1
  have k1:Keeps A A1 [d]:=k1
  have h1:Dk A1 d mp ⟨s.D,s.room,s.fuse - 1,s.down⟩:=⟨es,c,r1,hm.keeps k1 (by simp;exact fun e=>hne e.symm),hne,hD⟩
  simp only [cell_row r1.row,cellOf,isT_map,isT_int,cond_false,pureW_some,bin_eql,forkW_beq]
  refine ⟨fun hz=>?_,fun hz=>?_⟩
  ·rw [if_pos hz] at hk
   refine forkW_bool.2 ⟨fun ht=>?_,fun ht=>?_⟩
   ·rw [if_pos ht] at hk
    refine an_fun (hdyn A1) hkn (hdo A1 _ _ k1 n1 f1 h1 rfl fun A2 v h2 k2 n2 f2=>?_)
    obtain ⟨es2,c2,hr2,hm2,_,hD2⟩:=h2
    refine hr2.store f2 (by omega) (st_4 _ _ _) rfl (by show 3+1≤4;omega) rfl fun A3 r3 k3 n3 f3=>?_
    have r3:Go.Abs.Row1 A3 d [.map (some mp),.int .i64 s.room,.int .i64 (s.fuse - 1),.bool true] 76:=r3
    have k3:Keeps A2 A3 [d]:=k3
    rw [hz] at r3
    exact hk A3 ⟨es2,c2,r3,hm2.keeps k3 (by simp;exact fun e=>hne e.symm),hne,hD2⟩ (((k1.more (by simp)).trans k2 (by simp)).trans k3 (by simp)) (by omega) f3
   ·rw [if_neg (by rw [ht];simp)] at hk
    refine r1.store f1 (by omega) (st_4 _ _ _) rfl (by show 3+1≤4;omega) rfl fun A3 r3 k3 n3 f3=>?_
    have r3:Go.Abs.Row1 A3 d [.map (some mp),.int .i64 s.room,.int .i64 (s.fuse - 1),.bool true] 76:=r3
    have k3:Keeps A1 A3 [d]:=k3
    rw [hz] at r3
    exact hk A3 ⟨es,c,r3,(hm.keeps k1 (by simp;exact fun e=>hne e.symm)).keeps k3 (by simp;exact fun e=>hne e.symm),hne,hD⟩ ((k1.more (T:=[d,mp]) (by simp)).trans k3 (by simp)) (by omega) f3
  ·rw [if_neg hz] at hk
   refine an_fun (hdyn A1) hkn (hdo A1 _ _ k1 n1 f1 h1 rfl fun A2 v h2 k2 n2 f2=>?_)
   exact hk A2 h2 ((k1.more (T:=[d,mp]) (by simp)).trans k2 (by simp)) (by omega) f2
 ·rw [if_neg hpos] at hk
  refine an_fun (hdyn A) hkn (hdo A s _ (.refl _ _) rfl hf h0 rfl fun A2 v h2 k2 n2 f2=>?_)
  exact hk A2 h2 (k2.more (by simp)) (by omega) f2
end
theorem dyn66 (A:AW) (a b c e:Value):dynA Tp theX A (.func (.func 66) ⟨[]⟩ ⟨[a,b,c,e]⟩) []=.ok (.enter 66 [a,b,c,e]) A:=by kernel_rfl
theorem dyn93 (A:AW) (a b c:Value):dynA Tp theX A (.func (.func 93) ⟨[]⟩ ⟨[a,b,c]⟩) []=.ok (.enter 93 [a,b,c]) A:=by kernel_rfl
theorem dyn94 (A:AW) (a b c e:Value):dynA Tp theX A (.func (.func 94) ⟨[]⟩ ⟨[a,b,c,e]⟩) []=.ok (.enter 94 [a,b,c,e]) A:=by kernel_rfl
theorem freshA100:freshOf Tp (fun _=>undef) (.alloc 100)=some (.row [.string ⟨⟨[]⟩⟩,.int .i64 0] 100):=by kernel_rfl
theorem freshW_F {A:AW} {b:Nat} {p:Prop} (h:A.get b=some (.row [.string ⟨⟨[]⟩⟩,.int .i64 0] 100 b 0 false)) (hp:p):freshW (freshOf Tp (fun _=>undef) (.alloc 100)) A (.pointer (some ⟨b,0,none⟩)) p:=by
 refine ⟨⟨_,freshA100,?_⟩,hp⟩
 simp only [stillFresh,rowHas,h,sameL,same_int,same_string,Bool.and_self,Option.isNone_none,Bool.true_and,Nat.beq_refl]
structure OkN (s:DS):Prop where
 r0:0≤s.room
 r1:s.room < 9223372036854775808
 f1:s.fuse < 9223372036854775808
section
variable {W0:World} {m0:Inj Tp}
theorem wc66 {A:AW} {d mp t9 t2 t0 t1:Nat} {s:DS} {fv:Fv} {b n:ByteArray} {K:Value→AW→Prop} (h:Dk A d mp s) (hf:Fine A) (hA:A.next≤maxId) (h9:Go.Abs.Row1 A t9 [.string fv.1,.int .i64 (fv.2:Int)] 100) (h2:Go.Abs.Row1 A t2 [.string b] 9)
  (h0:Go.Abs.Row1 A t0 [.pointer (some ⟨d,0,none⟩)] 27) (h1:Go.Abs.Row1 A t1 [.string n] 9) (hl:fv.1.data.toList.length+b.data.toList.length < 1099511627776)
  (hk:∀ A2 v,Dk A2 d mp { s with D:=putF s.D n.data.toList (fv.1.data.toList++b.data.toList,fv.2) }→Keeps A A2 [mp]→A2.next≤A.next→Fine A2→K v A2):
  Wc Tp theX W0 m0 66 [.pointer (some ⟨t9,0,none⟩),.pointer (some ⟨t2,0,none⟩),.pointer (some ⟨t0,0,none⟩),.pointer (some ⟨t1,0,none⟩)] A K:=by
 refine w66 _ _ _ _ _ (cuts_none (S:=fun _ _ _=>False) fun _ _ _ h=>h) ?_
 rw [e66]
 obtain ⟨es,c,hr,hm,hne,hD⟩:=h
 simp only [ld_27,ld_9,ld_3,ld_74,nilP_some,fa_76_0,fa_100_0,fa_100_1,cell_row h0.row,cell_row h1.row,cell_row h2.row,cell_row h9.row,cell_row hr.row,cellOf,isT_ptr,isT_string,isT_int,isT_map,cond_false,pureW_some,Nat.zero_add]
 rw [add9 hl]
 simp only [pureW_some,ba100x]
 refine hm.put mtF hf hA (k:=n) (v:=(⟨⟨fv.1.data.toList++b.data.toList⟩⟩,fv.2)) fun A2 c2 hm2 k2 n2 f2=>?_
 refine hk A2 _ ⟨_,c2,hr.keeps k2 (by simp;exact hne),hm2,hne,?_⟩ k2 (by omega) f2
 show putF s.D _ _=_
 rw [hD,put_map]
 rfl
theorem wc93 {A:AW} {d mp t5 t0 t1:Nat} {s:DS} {fv:Fv} {n:ByteArray} {K:Value→AW→Prop} (h:Dk A d mp s) (hf:Fine A) (hA:A.next≤maxId) (h5:Go.Abs.Row1 A t5 [.string fv.1,.int .i64 (fv.2:Int)] 100)
  (h0:Go.Abs.Row1 A t0 [.pointer (some ⟨d,0,none⟩)] 27) (h1:Go.Abs.Row1 A t1 [.string n] 9)
  (hk:∀ A2 v,Dk A2 d mp { s with D:=putF s.D n.data.toList (fv.1.data.toList,fv.1.data.toList.length) }→Keeps A A2 [mp]→A2.next≤A.next→Fine A2→K v A2):
  Wc Tp theX W0 m0 93 [.pointer (some ⟨t5,0,none⟩),.pointer (some ⟨t0,0,none⟩),.pointer (some ⟨t1,0,none⟩)] A K:=by
 refine w93 _ _ _ _ (cuts_none (S:=fun _ _ _=>False) fun _ _ _ h=>h) ?_
 rw [e93]
 obtain ⟨es,c,hr,hm,hne,hD⟩:=h
 simp only [ld_27,ld_9,ld_74,nilP_some,fa_76_0,fa_100_0,cell_row h0.row,cell_row h1.row,cell_row h5.row,cell_row hr.row,cellOf,isT_ptr,isT_string,isT_map,cond_false,pureW_some,ln_9,ba100x]
 refine hm.put mtF hf hA (k:=n) (v:=(fv.1,fv.1.data.toList.length)) fun A2 c2 hm2 k2 n2 f2=>?_
 refine hk A2 _ ⟨_,c2,hr.keeps k2 (by simp;exact hne),hm2,hne,?_⟩ k2 (by omega) f2
 show putF s.D _ _=_
 rw [hD,put_map]
 rfl
theorem wc94 {A:AW} {d mp t0 t1 t12 t2:Nat} {s:DS} {fv:Fv} {n t:ByteArray} {K:Value→AW→Prop} (h:Dk A d mp s) (hf:Fine A) (hA:A.next≤maxId) (h12:Go.Abs.Row1 A t12 [.string fv.1,.int .i64 (fv.2:Int)] 100)
  (h0:Go.Abs.Row1 A t0 [.pointer (some ⟨d,0,none⟩)] 27) (h1:Go.Abs.Row1 A t1 [.string n] 9) (h2:Go.Abs.Row1 A t2 [.string t] 9) (hd0:mp≠t0) (hd2:mp≠t2) (hd12:mp≠t12)
  (hk:∀ A2 v,Dk A2 d mp { s with D:=putF (delF s.D n.data.toList) t.data.toList (fF fv) }→Keeps A A2 [mp]→A2.next≤A.next→Fine A2→K v A2):
  Wc Tp theX W0 m0 94 [.pointer (some ⟨t0,0,none⟩),.pointer (some ⟨t1,0,none⟩),.pointer (some ⟨t12,0,none⟩),.pointer (some ⟨t2,0,none⟩)] A K:=by
 refine w94 _ _ _ _ _ (cuts_none (S:=fun _ _ _=>False) fun _ _ _ h=>h) ?_
 rw [e94]
 obtain ⟨es,c,hr,hm,hne,hD⟩:=h
 simp only [ld_27,ld_9,ld_74,nilP_some,fa_76_0,cell_row h0.row,cell_row h1.row,cell_row hr.row,cellOf,isT_ptr,isT_string,isT_map,cond_false,pureW_some]
 refine hm.del mtF hf hA (k:=n) fun A1 hm1 k1 n1 f1=>?_
 have hr1:=hr.keeps k1 (by simp;exact hne)
 have h01:=h0.keeps k1 (by simp;exact fun e=>hd0 e.symm)
 have h21:=h2.keeps k1 (by simp;exact fun e=>hd2 e.symm)
 have h121:=h12.keeps k1 (by simp;exact fun e=>hd12 e.symm)
 simp only [ld_27,ld_9,ld_74,nilP_some,fa_76_0,cell_row h01.row,cell_row h21.row,cell_row hr1.row,cellOf,isT_ptr,isT_string,isT_map,cond_false,pureW_some,ld_F (v:=fv) h121]
 refine hm1.put mtF f1 (by omega) (k:=t) (v:=fv) fun A2 c2 hm2 k2 n2 f2=>?_
 refine hk A2 _ ⟨_,c2,hr1.keeps k2 (by simp;exact hne),hm2,hne,?_⟩ (k1.trans k2 (by simp)) (by omega) f2
 show putF (delF s.D _) _ _=_
 rw [hD,put_map,del_map]
theorem fileOf_map (es:List (En ByteArray Fv)) (k:ByteArray):fileOf (es.map fE) k.data.toList=fF ((lookE keqB es k).getD (⟨⟨[]⟩⟩,0)):=by
 unfold fileOf
 rw [← look_map]
 cases lookE keqB es k <;> rfl
theorem fileOf_len {s:DS} (hw:OkD s) (n:List UInt8):(fileOf s.D n).1.length≤1048576:=by
 unfold fileOf lookF
 cases h:s.D.find? fun e=>e.1==n with
 | none=>exact Nat.zero_le _
 | some e=>exact hw.len e (List.mem_of_find?_eq_some h)
theorem wc13 {A:AW} {d mp:Nat} {s:DS} {n b:ByteArray} {K:Value→AW→Prop} (h:Dk A d mp s) (hw:OkD s) (hN:OkN s) (hb:b.data.toList.length < 1000000000) (hf:Fine A) (hA:A.next+60+3 * s.D.length < maxId)
  (hk:∀ A',Dk A' d mp (appendS s n.data.toList b.data.toList).1→Keeps A A' [d,mp]→A'.next≤A.next+10+s.D.length→Fine A'→K (.int .i64 (appendS s n.data.toList b.data.toList).2) A'):
  Wc Tp theX W0 m0 13 [.pointer (some ⟨d,0,none⟩),.string n,.string b] A K:=by
 refine w13 _ _ _ _ (cuts_none (S:=fun _ _ _=>False) fun _ _ _ h=>h) ?_
 rw [e13]
 have hlt:=h.lt
 have hfew:=hw.few
 refine newP_made (cs:=[.pointer (some ⟨d,0,none⟩)]) hf (by omega) rfl fun A1 m1=>?_
 have n1:=m1.next
 have k1:=m1.keeps hf
 refine newP_made (cs:=[.string n]) m1.fine (by omega) rfl fun A2 m2=>?_
 have n2:=m2.next
 have k2:=m2.keeps m1.fine
 refine newP_made (cs:=[.string b]) m2.fine (by omega) rfl fun A3 m3=>?_
 have n3:=m3.next
 have k3:=m3.keeps m2.fine
 have K3:Keeps A A3 []:=(k1.trans k2 (by simp)).trans k3 (by simp)
 have h0:=(m1.row1.keeps k2 (by simp)).keeps k3 (by simp)
 have h1:=m2.row1.keeps k3 (by simp)
 have h2:=m3.row1
 have hd3:=h.keeps K3 (by simp) (by simp)
 simp only [ld_27,cell_row h0.row,cellOf,isT_ptr,cond_false,pureW_some]
 refine wc62 hd3 ?_
 simp only [bin_neq,pureW_some]
 unfold stateS
 unfold appendS at hk
 refine forkW_bne.2 ⟨fun he=>?_,fun he=>?_⟩
 ·have hd:s.down=true:=by
   cases hq:s.down with
   | true=>rfl
   | false=>rw [hq] at he;simp at he
  rw [if_pos hd] at hk
  rw [if_pos hd]
  exact hk A3 hd3 (K3.more (by simp)) (by omega) m3.fine
 have hd:s.down=false:=by
  cases hq:s.down with
  | false=>rfl
  | true=>rw [hq] at he;simp at he
 rw [if_neg (by rw [hd];simp)] at hk
 simp only [ld_9,cell_row h1.row,cellOf,isT_string,cond_false,pureW_some]
 refine wc63 ?_
 simp only [un_not,pureW_some]
 refine forkW_bool.2 ⟨fun hq=>?_,fun hq=>?_⟩
 ·have hq:mayS n.data.toList=false:=by simpa using hq
  rw [if_pos hq] at hk
  exact hk A3 hd3 (K3.more (by simp)) (by omega) m3.fine
 have hq:mayS n.data.toList=true:=by simpa using hq
 rw [if_neg (by rw [hq];simp)] at hk
 refine allocP_made zF m3.fine (by omega) rfl fun A4 m4=>?_
 have n4:=m4.next
 have k4:=m4.keeps m3.fine
 refine freshW_F m4.row ?_
 have h04:=h0.keeps k4 (by simp)
 have h14:=h1.keeps k4 (by simp)
 have h24:=h2.keeps k4 (by simp)
 have hd4:=hd3.keeps k4 (by simp) (by simp)
 obtain ⟨es,c,hr,hm,hne,hD⟩:=hd4
 simp only [ld_27,ld_9,cell_row h04.row,cell_row h14.row,cell_row hr.row,cellOf,isT_ptr,isT_string,isT_map,cond_false,pureW_some,nilP_some,fa_76_0,ld_74,lookV hm]
 obtain ⟨fv,hfv⟩:∃ fv,(lookE keqB es n).getD (⟨⟨[]⟩⟩,0)=fv:=⟨_,rfl⟩
 have hfo:fileOf s.D n.data.toList=fF fv:=by rw [hD,fileOf_map,hfv]
 rw [hfv]
 rw [hfo] at hk
 have hfl:fv.1.data.toList.length≤1048576:=by have:=fileOf_len hw n.data.toList;rw [hfo] at this;exact this
 refine m4.row1.store m4.fine (by omega) (st_100 _ _ _) rfl (by show 0+2≤2;omega) rfl fun A5 r5 k5 n5 f5=>?_
 have r5:Go.Abs.Row1 A5 A3.next [.string fv.1,.int .i64 (fv.2:Int)] 100:=r5
 have k5:Keeps A4 A5 [A3.next]:=k5
 have h05:=h04.keeps k5 (by simp;omega)
 have h15:=h14.keeps k5 (by simp;omega)
 have h25:=h24.keeps k5 (by simp;omega)
 have hd5:=(hd3.keeps k4 (by simp) (by simp)).keeps k5 (by simp;omega) (by simp;omega)
 have K5:Keeps A A5 []:=(K3.trans k4 (by simp)).trans k5 (fun x hx=>by have:=List.mem_singleton.1 hx;have:=K3.next;exact .inr (by omega))
 have hr5:=hr.keeps k5 (by simp;omega)
 simp only [ld_9,cell_row h25.row,cell_row r5.row,cellOf,isT_string,cond_false,pureW_some,ln_9,fa_100_0,bin_sub,bin_gtr]
 rw [wrap_i64 (by omega) (by omega)]
 simp only [forkW_dec]
 have hfl1:(fF fv).1.length=fv.1.data.toList.length:=rfl
 rw [hfl1] at hk
 refine ⟨fun hq=>?_,fun hq=>?_⟩
 ·rw [if_pos hq] at hk
  exact hk A5 hd5 (K5.more (by simp)) (by omega) f5
 rw [if_neg hq] at hk
 simp only [ld_27,cell_row h05.row,cell_row hr5.row,cellOf,isT_ptr,isT_map,isT_int,cond_false,pureW_some,nilP_some,fa_76_1,ld_3,Nat.zero_add]
 refine wc64 hd5 hw f5 (by omega) fun A6 k6 n6 f6=>?_
 have h06:=h05.keeps k6 (by simp)
 have h16:=h15.keeps k6 (by simp)
 have h26:=h25.keeps k6 (by simp)
 have h96:=r5.keeps k6 (by simp)
 have hd6:=hd5.keeps k6 (by simp) (by simp)
 have hr6:=hr5.keeps k6 (by simp)
 have K6:Keeps A A6 []:=K5.trans k6 (by simp)
 have hu:usedF s.D≤1048576 * 10000:=by
  have:=sum_le (l:=s.D.map fun e=>e.2.1.length) (M:=1048576) fun x hx=>by obtain ⟨y,hy,rfl⟩:=List.mem_map.1 hx;exact hw.len y hy
  rw [List.length_map] at this
  unfold usedF
  omega
 have hr0:=hN.r0
 have hr1:=hN.r1
 simp only [ld_27,ld_9,cell_row h06.row,cell_row h26.row,cell_row hr6.row,cellOf,isT_ptr,isT_string,isT_map,isT_int,cond_false,pureW_some,nilP_some,fa_76_1,ld_3,Nat.zero_add,eqW_self,ln_9,bin_sub,bin_gtr]
 rw [wrap_i64 (by omega) (by omega)]
 simp only [forkW_dec]
 refine ⟨fun hq=>?_,fun hq=>?_⟩
 ·rw [if_pos hq] at hk
  exact hk A6 hd6 (K6.more (by simp)) (by omega) f6
 rw [if_neg hq] at hk
 refine wc65 (n:=0) (g:=fun D=>putF D n.data.toList (fv.1.data.toList++b.data.toList,fv.2)) hd6 f6 (by omega) hN.f1 (fun A=>dyn66 A _ _ _ _) rfl (fun B s1 K1 kb nb fb hb hDb hk1=>?_) fun B hb kb nb fb=>?_
 ·refine wc66 (fv:=fv) (b:=b) (n:=n) hb fb (by omega) (h96.keeps kb (by simp;omega)) (h26.keeps kb (by simp;omega)) (h06.keeps kb (by simp;omega)) (h16.keeps kb (by simp;omega)) (by omega) fun B2 v h2 k2 n2 f2=>?_
  exact hk1 B2 v h2 k2 (by omega) f2
 ·exact hk B hb ((K6.more (T:=[d,mp]) (by simp)).trans kb (by simp)) (by omega) fb
end
section
variable {W0:World} {m0:Inj Tp}
theorem wc44 {A:AW} {d mp:Nat} {s:DS} {n:ByteArray} {K:Value→AW→Prop} (h:Dk A d mp s) (hN:OkN s) (hf:Fine A) (hA:A.next+60 < maxId)
  (hk:∀ A',Dk A' d mp (syncS s n.data.toList).1→Keeps A A' [d,mp]→A'.next≤A.next+10→Fine A'→K (.int .i64 (syncS s n.data.toList).2) A'):
  Wc Tp theX W0 m0 44 [.pointer (some ⟨d,0,none⟩),.string n] A K:=by
 refine w44 _ _ _ (cuts_none (S:=fun _ _ _=>False) fun _ _ _ h=>h) ?_
 rw [e44]
 have hlt:=h.lt
 refine newP_made (cs:=[.pointer (some ⟨d,0,none⟩)]) hf (by omega) rfl fun A1 m1=>?_
 have n1:=m1.next
 have k1:=m1.keeps hf
 refine newP_made (cs:=[.string n]) m1.fine (by omega) rfl fun A2 m2=>?_
 have n2:=m2.next
 have k2:=m2.keeps m1.fine
 have K2:Keeps A A2 []:=k1.trans k2 (by simp)
 have h0:=m1.row1.keeps k2 (by simp)
 have h1:=m2.row1
 have hd2:=h.keeps K2 (by simp) (by simp)
 simp only [ld_27,cell_row h0.row,cellOf,isT_ptr,cond_false,pureW_some]
 refine wc62 hd2 ?_
 simp only [bin_neq,pureW_some]
 unfold stateS
 unfold syncS at hk
 refine forkW_bne.2 ⟨fun he=>?_,fun he=>?_⟩
 ·have hd:s.down=true:=by
   cases hq:s.down with
   | true=>rfl
   | false=>rw [hq] at he;simp at he
  rw [if_pos hd] at hk
  rw [if_pos hd]
  exact hk A2 hd2 (K2.more (by simp)) (by omega) m2.fine
 have hd:s.down=false:=by
  cases hq:s.down with
  | false=>rfl
  | true=>rw [hq] at he;simp at he
 rw [if_neg (by rw [hd];simp)] at hk
 refine allocP_made zF m2.fine (by omega) rfl fun A4 m4=>?_
 have n4:=m4.next
 have k4:=m4.keeps m2.fine
 refine freshW_F m4.row ?_
 have h04:=h0.keeps k4 (by simp)
 have h14:=h1.keeps k4 (by simp)
 have hd4:=hd2.keeps k4 (by simp) (by simp)
 obtain ⟨es,c,hr,hm,hne,hD⟩:=hd4
 simp only [ld_27,ld_9,cell_row h04.row,cell_row h14.row,cell_row hr.row,cellOf,isT_ptr,isT_string,isT_map,cond_false,pureW_some,nilP_some,fa_76_0,ld_74,lookW hm]
 have hlk:=look_map es n
 rw [← hD] at hlk
 rw [← hlk] at hk
 cases hq:lookE keqB es n with
 | none=>
  rw [hq] at hk
  simp only [ex_two0,ex_two1,pureW_some]
  refine m4.row1.store m4.fine (by omega) (st_100 _ _ _) rfl (by show 0+2≤2;omega) rfl fun A5 r5 k5 n5 f5=>?_
  have k5:Keeps A4 A5 [A2.next]:=k5
  simp only [eqW_self,un_not,pureW_some]
  refine forkW_bool.2 ⟨fun _=>?_,fun h=>by simp at h⟩
  refine hk A5 ((hd2.keeps k4 (by simp) (by simp)).keeps k5 (by simp;omega) (by simp;omega)) (((K2.trans k4 (by simp)).trans k5 (fun x hx=>by have:=List.mem_singleton.1 hx;have:=K2.next;exact .inr (by omega))).more (by simp)) (by omega) f5
 | some v=>
  rw [hq] at hk
  simp only [ex_two0,ex_two1,pureW_some]
  refine m4.row1.store m4.fine (by omega) (st_100 _ _ _) rfl (by show 0+2≤2;omega) rfl fun A5 r5 k5 n5 f5=>?_
  have r5:Go.Abs.Row1 A5 A2.next [.string v.1,.int .i64 (v.2:Int)] 100:=r5
  have k5:Keeps A4 A5 [A2.next]:=k5
  have K5:Keeps A A5 []:=(K2.trans k4 (by simp)).trans k5 (fun x hx=>by have:=List.mem_singleton.1 hx;have:=K2.next;exact .inr (by omega))
  simp only [eqW_self,un_not,pureW_some]
  refine forkW_bool.2 ⟨fun h=>by simp at h,fun _=>?_⟩
  have h05:=h04.keeps k5 (by simp;omega)
  have h15:=h14.keeps k5 (by simp;omega)
  have hd5:=(hd2.keeps k4 (by simp) (by simp)).keeps k5 (by simp;omega) (by simp;omega)
  simp only [ld_27,cell_row h05.row,cellOf,isT_ptr,cond_false,pureW_some]
  refine wc65 (n:=0) (g:=fun D=>putF D n.data.toList (v.1.data.toList,v.1.data.toList.length)) hd5 f5 (by omega) hN.f1 (fun A=>dyn93 A _ _ _) rfl (fun B s1 K1 kb nb fb hb hDb hk1=>?_) fun B hb kb nb fb=>?_
  ·refine wc93 (fv:=v) (n:=n) hb fb (by omega) (r5.keeps kb (by simp;omega)) (h05.keeps kb (by simp;omega)) (h15.keeps kb (by simp;omega)) fun B2 v h2 k2 n2 f2=>?_
   exact hk1 B2 v h2 k2 (by omega) f2
  ·exact hk B hb ((K5.more (T:=[d,mp]) (by simp)).trans kb (by simp)) (by omega) fb
theorem wc46 {A:AW} {d mp:Nat} {s:DS} {n t:ByteArray} {K:Value→AW→Prop} (h:Dk A d mp s) (hN:OkN s) (hf:Fine A) (hA:A.next+60 < maxId)
  (hk:∀ A',Dk A' d mp (renameS s n.data.toList t.data.toList).1→Keeps A A' [d,mp]→A'.next≤A.next+10→Fine A'→K (.int .i64 (renameS s n.data.toList t.data.toList).2) A'):
  Wc Tp theX W0 m0 46 [.pointer (some ⟨d,0,none⟩),.string n,.string t] A K:=by
 refine w46 _ _ _ _ (cuts_none (S:=fun _ _ _=>False) fun _ _ _ h=>h) ?_
 rw [e46]
 have hlt:=h.lt
 refine newP_made (cs:=[.pointer (some ⟨d,0,none⟩)]) hf (by omega) rfl fun A1 m1=>?_
 have n1:=m1.next
 have k1:=m1.keeps hf
 refine newP_made (cs:=[.string n]) m1.fine (by omega) rfl fun A2 m2=>?_
 have n2:=m2.next
 have k2:=m2.keeps m1.fine
 refine newP_made (cs:=[.string t]) m2.fine (by omega) rfl fun A3 m3=>?_
 have n3:=m3.next
 have k3:=m3.keeps m2.fine
 have K3:Keeps A A3 []:=(k1.trans k2 (by simp)).trans k3 (by simp)
 have h0:=(m1.row1.keeps k2 (by simp)).keeps k3 (by simp)
 have h1:=m2.row1.keeps k3 (by simp)
 have h2:=m3.row1
 have hd3:=h.keeps K3 (by simp) (by simp)
 simp only [ld_27,cell_row h0.row,cellOf,isT_ptr,cond_false,pureW_some]
 refine wc62 hd3 ?_
 simp only [bin_neq,pureW_some]
 unfold stateS
 unfold renameS at hk
 refine forkW_bne.2 ⟨fun he=>?_,fun he=>?_⟩
 ·have hd:s.down=true:=by
   cases hq:s.down with
   | true=>rfl
   | false=>rw [hq] at he;simp at he
  rw [if_pos hd] at hk
  rw [if_pos hd]
  exact hk A3 hd3 (K3.more (by simp)) (by omega) m3.fine
 have hd:s.down=false:=by
  cases hq:s.down with
  | false=>rfl
  | true=>rw [hq] at he;simp at he
 rw [if_neg (by rw [hd];simp)] at hk
 simp only [ld_9,cell_row h1.row,cellOf,isT_string,cond_false,pureW_some]
 refine wc63 ?_
 simp only [un_not,pureW_some]
 refine forkW_bool.2 ⟨fun hq=>?_,fun hq=>?_⟩
 ·have hq:mayS n.data.toList=false:=by simpa using hq
  rw [if_pos (by rw [hq];rfl)] at hk
  exact hk A3 hd3 (K3.more (by simp)) (by omega) m3.fine
 have hq:mayS n.data.toList=true:=by simpa using hq
 simp only [ld_9,cell_row h2.row,cellOf,isT_string,cond_false,pureW_some]
 refine wc63 ?_
 simp only [un_not,pureW_some]
 refine forkW_bool.2 ⟨fun hq2=>?_,fun hq2=>?_⟩
 ·have hq2:mayS t.data.toList=false:=by simpa using hq2
  rw [if_pos (by rw [hq2,Bool.and_false])] at hk
  exact hk A3 hd3 (K3.more (by simp)) (by omega) m3.fine
 have hq2:mayS t.data.toList=true:=by simpa using hq2
 rw [if_neg (by rw [hq,hq2];simp)] at hk
 refine allocP_made zF m3.fine (by omega) rfl fun A4 m4=>?_
 have n4:=m4.next
 have k4:=m4.keeps m3.fine
 refine freshW_F m4.row ?_
 have h04:=h0.keeps k4 (by simp)
 have h14:=h1.keeps k4 (by simp)
 have h24:=h2.keeps k4 (by simp)
 have hd4:=hd3.keeps k4 (by simp) (by simp)
 obtain ⟨es,c,hr,hm,hne,hD⟩:=hd4
 simp only [ld_27,ld_9,cell_row h04.row,cell_row h14.row,cell_row hr.row,cellOf,isT_ptr,isT_string,isT_map,cond_false,pureW_some,nilP_some,fa_76_0,ld_74,lookW hm]
 have hlk:=look_map es n
 rw [← hD] at hlk
 rw [← hlk] at hk
 cases hq:lookE keqB es n with
 | none=>
  rw [hq] at hk
  simp only [ex_two0,ex_two1,pureW_some]
  refine m4.row1.store m4.fine (by omega) (st_100 _ _ _) rfl (by show 0+2≤2;omega) rfl fun A5 r5 k5 n5 f5=>?_
  have k5:Keeps A4 A5 [A3.next]:=k5
  simp only [eqW_self,un_not,pureW_some]
  refine forkW_bool.2 ⟨fun _=>?_,fun h=>by simp at h⟩
  refine hk A5 ((hd3.keeps k4 (by simp) (by simp)).keeps k5 (by simp;omega) (by simp;omega)) (((K3.trans k4 (by simp)).trans k5 (fun x hx=>by have:=List.mem_singleton.1 hx;have:=K3.next;exact .inr (by omega))).more (by simp)) (by omega) f5
 | some v=>
  rw [hq] at hk
  simp only [ex_two0,ex_two1,pureW_some]
  refine m4.row1.store m4.fine (by omega) (st_100 _ _ _) rfl (by show 0+2≤2;omega) rfl fun A5 r5 k5 n5 f5=>?_
  have r5:Go.Abs.Row1 A5 A3.next [.string v.1,.int .i64 (v.2:Int)] 100:=r5
  have k5:Keeps A4 A5 [A3.next]:=k5
  have K5:Keeps A A5 []:=(K3.trans k4 (by simp)).trans k5 (fun x hx=>by have:=List.mem_singleton.1 hx;have:=K3.next;exact .inr (by omega))
  simp only [eqW_self,un_not,pureW_some]
  refine forkW_bool.2 ⟨fun h=>by simp at h,fun _=>?_⟩
  have h05:=h04.keeps k5 (by simp;omega)
  have h15:=h14.keeps k5 (by simp;omega)
  have h25:=h24.keeps k5 (by simp;omega)
  have hd5:=(hd3.keeps k4 (by simp) (by simp)).keeps k5 (by simp;omega) (by simp;omega)
  simp only [ld_27,cell_row h05.row,cellOf,isT_ptr,cond_false,pureW_some]
  refine wc65 (n:=0) (g:=fun D=>putF (delF D n.data.toList) t.data.toList (fF v)) hd5 f5 (by omega) hN.f1 (fun A=>dyn94 A _ _ _ _) rfl (fun B s1 K1 kb nb fb hb hDb hk1=>?_) fun B hb kb nb fb=>?_
  ·refine wc94 (fv:=v) (n:=n) (t:=t) hb fb (by omega) (r5.keeps kb (by simp;omega)) (h05.keeps kb (by simp;omega)) (h15.keeps kb (by simp;omega)) (h25.keeps kb (by simp;omega)) (by omega) (by omega) (by omega) fun B2 v h2 k2 n2 f2=>?_
   exact hk1 B2 v h2 k2 (by omega) f2
  ·exact hk B hb ((K5.more (T:=[d,mp]) (by simp)).trans kb (by simp)) (by omega) fb
end
end Go.Proofs.YtbchfeibhoobeaaGreatDoor
namespace Go.Jr
open Go.Crc
def removeS (s:DS) (n:List UInt8):DS × Int:=
 if s.down=true then (s,100) else
 match lookF s.D n with
 | none=>(s,7)
 | some _=>actS s (fun D=>delF D n) false
def cutS (s:DS) (n:List UInt8) (k:Int):DS × Int:=
 if s.down=true then (s,100) else
 if k < 0 then (s,2) else
 match lookF s.D n with
 | none=>(s,7)
 | some f=>if (f.1.length:Int) < k then (s,2) else actS s (fun D=>putF D n (f.1.take k.toNat,min f.2 k.toNat)) false
structure JS where
 limit:Int
 state:List UInt8
 l:List Rec
 row:List Nat
 size:Nat
 some:Bool
 broken:Bool
def doneJ (q:JS) (e:Int):JS:={ q with broken:=q.broken || e==100 }
inductive Ac
 | rmF | ap0 | syF | rn1
 | rm (n:Nat) | ct (n k:Nat) | sy (n:Nat)
def begin0:List UInt8:=putR (0,[])
def Ac.run (s:DS):Ac→DS × Int
 | .rmF=>removeS s fresh
 | .ap0=>appendS s fresh begin0
 | .syF=>syncS s fresh
 | .rn1=>renameS s fresh (nm 1)
 | .rm n=>removeS s (nm n)
 | .ct n k=>cutS s (nm n) k
 | .sy n=>syncS s (nm n)
def runAcs (s:DS):List Ac→DS × Int
 | []=>(s,0)
 | a::r=>if (a.run s).2=0 then runAcs (a.run s).1 r else a.run s
def numOf (f:List UInt8):Nat:=if f.take 2=[106,46]∧f.length=10∧(f.drop 2).all (fun c=>decide (48≤c)&&decide (c≤57))=true then (f.drop 2).foldl (fun n c=>10 * n+(c.toNat - 48)) 0 else 0
def segsOf (D:Fls) (names:List (List UInt8)):List Seg:=names.filterMap fun f=>if numOf f=0 then none else some (segOf (numOf f) (fileOf D f).1)
def actsOf (names:List (List UInt8)) (all r:List Seg) (below:Nat):List Ac:=
 (if fresh∈names then [.rmF] else [])++((if r=[] then [.ap0,.syF,.rn1] else [])++((all.take below).map (fun x=>.rm x.n)++
  (match r.getLast? with | none=>[] | some x=>(if x.st=1 then [.ct x.n x.size] else [])++[.sy x.n])))
def allR (r:List Seg):List Rec:=r.flatMap (·.l)
def madeJ (limit:Int) (r:List Seg):JS:=
 ⟨limit,(((allR r).head?).map (·.2)).getD [],(allR r).tail,if r=[] then [1] else r.map (·.n),match r.getLast? with | none=>13 | some x=>x.size,match r.getLast? with | none=>true | some x=>!x.l.isEmpty,false⟩
def openS (s:DS) (names:List (List UInt8)) (limit:Int):DS × Option JS × Int:=
 if limit < 1 then (s,none,2) else
 if s.down=true then (s,none,100) else
 match rowS (segsOf s.D names) with
 | none=>(s,none,120)
 | some (r,f)=>
  let q:=runAcs s (actsOf names (segsOf s.D names) r f)
  if q.2=0 then (q.1,some (madeJ limit r),0) else (q.1,none,q.2)
def appendJ (s:DS) (q:JS) (r:Rec):DS × JS × Int:=
 if r.1=0 then (s,q,2) else
 if q.broken=true then (s,q,100) else
 let n:=q.row.getLast?.getD 0
 if q.some=true∧q.limit - q.size < (putR r).length then
  if n=99999999 then (s,q,6) else
  let x:=syncS s (nm n)
  if x.2≠0 then (x.1,doneJ q x.2,x.2) else
  let y:=appendS x.1 (nm (n+1)) (putR r)
  if y.2≠0 then (y.1,doneJ q y.2,y.2) else
  (y.1,{ q with row:=q.row++[n+1],size:=(putR r).length,some:=true,l:=q.l++[r] },0)
 else
  let y:=appendS s (nm n) (putR r)
  if y.2≠0 then (y.1,doneJ q y.2,y.2) else
  (y.1,{ q with size:=q.size+(putR r).length,some:=true,l:=q.l++[r] },0)
def syncJ (s:DS) (q:JS):DS × JS × Int:=
 if q.broken=true then (s,q,100) else
 let x:=syncS s (nm (q.row.getLast?.getD 0))
 (x.1,doneJ q x.2,x.2)
end Go.Jr
namespace Go.Proofs.YtbchfeibhoobeaaGreatDoor
open Go.Abs Go.Jr
theorem if74 (r:Nat):ifaceP Tp 74 (.map (some r))=some (.iface 74 (.map (some r))):=by kernel_rfl
theorem ta74 (r:Nat):typeAssertA Tp (.iface 74 (.map (some r))) 20 74 false=some (.map (some r)):=by kernel_rfl
theorem hb104:hasBody Tp 104=false:=by kernel_rfl
theorem mn104:memN 104 theX.clone=true:=by kernel_rfl
theorem ba76 (o:Option Nat) (a b:Int) (c:Bool):buildA Tp 76 [(0,.map o),(1,.int .i64 a),(2,.int .i64 b),(3,.bool c)]=some (.agg ⟨[.map o,.int .i64 a,.int .i64 b,.bool c]⟩):=by kernel_rfl
theorem ba76n (o:Option Nat) (a:Int):buildA Tp 76 [(0,.map o),(1,.int .i64 a)]=some (.agg ⟨[.map o,.int .i64 a,.int .i64 0,.bool false]⟩):=by kernel_rfl
theorem pe27 (a:Addr) (xo yo:Operand):binA Tp .eql 27 xo yo (.pointer (some a)) (.pointer none)=some (.bool false):=by kernel_rfl
theorem fresh76 (r:Nat) (a b:Int) (c:Bool):freshOf Tp (fun _=>.agg ⟨[.map (some r),.int .i64 a,.int .i64 b,.bool c]⟩) (.box 76 (.tmp 0))=some (.row [.map (some r),.int .i64 a,.int .i64 b,.bool c] 76):=by kernel_rfl
theorem same_map {n:Nat} (r:Nat):sameV (n+1) (.map (some r)) (.map (some r))=true:=by simp [sameV]
theorem max0 (a:Int):maxP (.int .i64 a) [.int .i64 0]=some (.int .i64 (max a 0)):=by
 unfold maxP
 simp only [maxL]
 congr 2
 split <;> omega
section
variable {W0:World} {m0:Inj Tp}
theorem wc7 {A:AW} {room:Int} {K:Value→AW→Prop} (hf:Fine A) (hA:A.next+5 < maxId)
  (hk:∀ A',Dk A' (A.next+1) A.next ⟨[],max room 0,0,false⟩→Keeps A A' []→A'.next=A.next+2→Fine A'→K (.pointer (some ⟨A.next+1,0,none⟩)) A'):
  Wc Tp theX W0 m0 7 [.int .i64 room] A K:=by
 refine w7 _ _ (cuts_none (S:=fun _ _ _=>False) fun _ _ _ h=>h) ?_
 rw [e7]
 refine newM (ke:=kS) (ve:=vF) hf (by omega) fun A1 h1 k1 n1 f1=>?_
 simp only [max0,ba76n,pureW_some]
 refine newP_made (cs:=[.map (some A.next),.int .i64 (max room 0),.int .i64 0,.bool false]) f1 (by omega) rfl fun A2 m2=>?_
 have n2:=m2.next
 have k2:=m2.keeps f1
 have r2:=m2.row1
 rw [n1] at r2
 have:=hk A2 ⟨[],0,r2,h1.keeps k2 (by simp),by omega,rfl⟩ (k1.trans k2 (by simp)) (by omega) m2.fine
 rw [n1]
 exact this
theorem wc19 {A:AW} {d mp:Nat} {s:DS} {K:Value→AW→Prop} (h:Dk A d mp s) (hf:Fine A) (hA:A.next+5 < maxId)
  (hk:∀ A',Dk A' (A.next+1) A.next s→Keeps A A' []→A'.next=A.next+2→Fine A'→K (.pointer (some ⟨A.next+1,0,none⟩)) A'):
  Wc Tp theX W0 m0 19 [.pointer (some ⟨d,0,none⟩)] A K:=by
 refine w19 _ _ (cuts_none (S:=fun _ _ _=>False) fun _ _ _ h=>h) ?_
 rw [e19]
 refine wc58 h ?_
 have hlt:=h.lt
 obtain ⟨es,c,hr,hm,hne,hD⟩:=h
 simp only [un_not,pureW_some,nilP_some,fa_76_0,fa_76_1,fa_76_2,fa_76_3,ld_74,ld_3,ld_4,cell_row hr.row,cellOf,isT_map,isT_int,isT_bool,cond_false,Nat.zero_add]
 refine forkW_bool.2 ⟨fun h=>by simp at h,fun _=>?_⟩
 refine w67 _ _ (cuts_none (S:=fun _ _ _=>False) fun _ _ _ h=>h) ?_
 rw [e67]
 simp only [pe74,if74,pureW_some]
 refine forkW_bool.2 ⟨fun h=>by simp at h,fun _=>?_⟩
 obtain ⟨A1,hnew,hm1,k1,n1,f1⟩:=hm.clone hf (by omega)
 have hc:callFuncA Tp theX A 104 [.iface 74 (.map (some mp))]=.ok (.value (.iface 74 (.map (some A.next)))) A1:=by
  unfold callFuncA
  rw [hb104,cond_false,mn104,cond_true]
  simp only [hm.row.row,hnew]
 refine .inl ⟨_,A1,hc,?_⟩
 have hr1:=hr.keeps k1 (by simp)
 simp only [ta74,pureW_some,cell_row hr1.row,cellOf,isT_map,isT_int,isT_bool,cond_false,eqW_self,ba76]
 refine newP_made (cs:=[.map (some A.next),.int .i64 s.room,.int .i64 s.fuse,.bool s.down]) f1 (by omega) rfl fun A2 m2=>?_
 have n2:=m2.next
 have k2:=m2.keeps f1
 have hr2:=hr1.keeps k2 (by simp)
 refine ⟨⟨_,fresh76 _ _ _ _,?_⟩,?_⟩
 ·simp only [stillFresh,rowHas,m2.row,sameL,same_int,same_map,same_bool,Bool.and_self,Option.isNone_none,Nat.beq_refl]
 simp only [cell_row hr2.row,cellOf,isT_map,isT_int,isT_bool,cond_false,eqW_self,pureW_some]
 have r2:=m2.row1
 rw [n1] at r2
 have:=hk A2 ⟨es,c,r2,hm1.keeps k2 (by simp),by omega,hD⟩ (k1.trans k2 (by simp)) (by omega) m2.fine
 rw [n1]
 exact this
end
abbrev RV:=UInt8 × ByteArray
def fR (r:RV):List Value:=[.int .u8 r.1.toNat,.string r.2]
def toR (r:RV):Rec:=(r.1,r.2.data.toList)
theorem zR:zeroT Tp 35=some (.agg ⟨[.int .u8 0,.string ⟨⟨[]⟩⟩]⟩):=by kernel_rfl
theorem etR:ET Tp 22 35 1 fR where
 us:=by kernel_rfl
 sz:=by kernel_rfl
 ag:=by kernel_rfl
 by':=⟨24,by kernel_rfl,by decide⟩
 hz:=by kernel_rfl
 len:=fun _=>rfl
 one:=fun _=>rfl
 noT:=fun _=>rfl
theorem cv_9_41 (A:AW) (s:ByteArray):convertA Tp A 9 41 (.string s)=(match A.new (.row (bytesV s.data.toList) 5 A.next 0 false) with
  | some (b,w')=>.ok (.slice (some ⟨b,0,none⟩) s.data.toList.length (capU+s.data.toList.length)) w'
  | none=>.fail "convert new"):=by kernel_rfl
theorem bytesRow {A:AW} {s:ByteArray} {K:Value→AW→Prop} (hf:Fine A) (h:A.next < maxId) (hk:∀ A',Grow A A' 1→RdS 5 A' (.slice (some ⟨A.next,0,none⟩) s.data.toList.length (capU+s.data.toList.length)) s.data.toList [A.next]→A'.next=A.next+1→K (.slice (some ⟨A.next,0,none⟩) s.data.toList.length (capU+s.data.toList.length)) A'):bothW (convertA Tp A 9 41 (.string s)) K:=by
 rw [cv_9_41]
 unfold AW.new
 simp only [blt_true.2 h,cond_true]
 have m:Made A (A.push (.row (bytesV s.data.toList) 5 A.next 0 false)) (bytesV s.data.toList) 5:=⟨AW.push_ext _ h,rfl,by rw [AW.push_get _ h,if_pos rfl],hf.alone (Nat.le_refl _),hf.push _ h⟩
 exact bothW_ok.2 (hk _ (.made m hf) (.inr ⟨A.next,0,s.data.toList.length,_,_,A.next,0,false,[],rfl,.inl rfl,Nat.le_refl _,m.row,Nat.lt_succ_self _,rfl,by simp⟩) m.next)
theorem be_be4 (n:Nat):be n 4=be4 n:=by
 show [UInt8.ofNat (n / 256 ^ 3),UInt8.ofNat (n / 256 ^ 2),UInt8.ofNat (n / 256 ^ 1),UInt8.ofNat (n / 256 ^ 0)]=_
 simp [be4]
theorem beval_numB (l:List UInt8):beval l=numB l:=by
 unfold beval numB
 congr 1
 funext a c
 rw [Nat.mul_comm]
theorem putL_snoc (l:List Rec) (r:Rec):putL (l++[r])=putL l++putR r:=by rw [putL_append];simp [putL]
theorem take_snoc' {α:Type} {l:List α} {i:Nat} {p:α} (h:l[i]? =some p):l.take (i+1)=l.take i++[p]:=by rw [List.take_add_one,h];rfl
theorem bs41' {A:AW} {c:UInt8} {K:Value→AW→Prop} (hf:Fine A) (h:A.next < maxId) (hk:∀ A',Made A A' (bytesV [c]) 5→K (.slice (some ⟨A.next,0,none⟩) 1 1) A'):bothW (buildSliceA Tp A 41 1 [(0,.int .u8 (c.toNat:Int))]) K:=by
 rw [bs41]
 unfold AW.newRow AW.new
 simp only [show ([Value.int .u8 (c.toNat:Int)].all oneCell)=true from rfl,cond_true,blt_true.2 h]
 exact bothW_ok.2 (hk (A.push (.row [.int .u8 c.toNat] 5 A.next 0 false)) ⟨AW.push_ext _ h,rfl,by rw [AW.push_get _ h,if_pos rfl];rfl,hf.alone (Nat.le_refl _),hf.push _ h⟩)
theorem putL_take_le (l:List Rec) (i:Nat):(putL (l.take i)).length≤(putL l).length:=by
 conv=>rhs;rw [← List.take_append_drop i l]
 rw [putL_append,List.length_append];omega
section
variable {W0:World} {m0:Inj Tp}
theorem wc55 {A:AW} {x:Value} {l:List RV} {F:List Nat} {K:Value→AW→Prop} (h:RdE 1 fR A x l F) (hg:Glb A) (hf:Fine A) (hl:l.length < 10000) (hd:∀ r∈l,r.2.data.toList.length≤65536) (hA:A.next+20 * l.length+20 < maxId) (hsz:(putL (l.map toR)).length < 900000)
  (hk:∀ A',Grow A A' (20 * l.length)→K (.tuple ⟨[.string ⟨⟨putL (l.map toR)⟩⟩,.int .i64 0]⟩) A'):Wc Tp theX W0 m0 55 [x] A K:=by
 have hroom:room=68719476736:=rfl
 let I:Nat→Nat→List Value→AW→Prop:=fun g id vals A'=>id=0∧∃ (i:Nat) (v:Value) (F':List Nat),vals=[v,x,.int .i64 (l.length:Int),.int .i64 (i:Int)]∧i≤l.length∧g=l.length - i∧
  Buf 5 A' v (putL ((l.map toR).take i)) F'∧(∀ y∈F',A.next≤y)∧Grow A A' (20 * i)
 refine w55 _ _ (c55 (I:=I) ?_) ?_
 ·rintro g id vals A' d ⟨rfl,i,v,F',rfl,hi,rfl,hb,hF,hgr⟩ hd'
  rw [l55_0]
  simp only [L55,List.map_cons,List.map_nil,List.cons.injEq,and_true] at hd'
  obtain ⟨h4,h7,h8,h9⟩:=hd'
  have hn:=hgr.next
  have hle:=hgr.le
  simp only [h4,h7,h8,h9,bin_lss,pureW_some,forkW_dec]
  refine ⟨fun hlt=>?_,fun hge=>?_⟩
  ·have hlt:i < l.length:=by omega
   obtain ⟨p,hp⟩:∃ p,l[i]? =some p:=⟨_,List.getElem?_eq_getElem hlt⟩
   have hpl:p.2.data.toList.length≤65536:=hd p (List.mem_of_getElem? hp)
   have hr:=h.keeps hgr.keeps (by simp)
   obtain ⟨r,o,a1,a2,a3⟩:=hr.at etR hp
   rw [a1]
   simp only [pureW_some,a3]
   refine allocP_made zR hgr.fine (by omega) rfl fun A1 m1=>?_
   have n1:=m1.next
   refine m1.row1.store m1.fine (by omega) (st_35 _ _ _) rfl (by show 0+2≤2;omega) rfl fun A2 r2 k2 n2 f2=>?_
   have r2:Go.Abs.Row1 A2 A'.next [.int .u8 p.1.toNat,.string p.2] 35:=r2
   have g2:Grow A' A2 1:=(Grow.made m1 hgr.fine).own k2 (by simp) (m:=0) (by omega) f2
   simp only [fa_35_0,fa_35_1,ld_5,ld_9,cell_row r2.row,cellOf,isT_int,isT_string,cond_false,pureW_some,ln_9,bin_gtr,forkW_dec,Nat.zero_add]
   refine ⟨fun hgt=>by omega,fun _=>?_⟩
   refine bs41' f2 (by omega) fun A3 m3=>?_
   have n3:=m3.next
   have g3:=g2.trans (Grow.made m3 f2)
   have r3:=r2.keeps (m3.keeps f2) (by simp)
   simp only [cell_row r3.row,cellOf,isT_int,isT_string,cond_false,pureW_some,ln_9,cv_3_134,bothW_ok]
   rw [wrap_u64 (by omega) (by omega)]
   have hb3:Buf 5 A3 (.slice (some ⟨A2.next,0,none⟩) 1 1) [p.1] [A2.next]:=bufN (l:=[p.1]) m3.row1 (by simp)
   refine wc100 (n:=p.2.data.toList.length) (w:=4) m3.fine (by omega) hb3.rd (by simp) (by omega) fun A4 v4 F4 g4 b4 hF4=>?_
   have n4:=g4.next
   have le4:=g4.le
   refine wc99 b4.rd ((hg.keeps hgr.keeps (by simp)).keeps (g3.trans g4).keeps (by simp)) g4.fine (by omega) (by rw [List.length_append,be_length];simp) fun A5 v5 F5 g5 b5 hF5=>?_
   have n5:=g5.next
   have le5:=g5.le
   have g5':=(g3.trans g4).trans g5
   have hbl:=putL_take_le (l.map toR) i
   have hhead:Go.Crc.sealT ([p.1]++be p.2.data.toList.length 4)=headR (toR p):=by rw [be_be4];rfl
   rw [hhead] at b5
   refine appendBuf tb (hb.keeps g5'.keeps (by simp)) (src_slice tb b5.rd) g5.fine (by omega) (by rw [headR_length];omega) fun v6 A6 F6 b6 k6 hF6 n6 f6=>?_
   have r6:Go.Abs.Row1 A6 A'.next [.int .u8 p.1.toNat,.string p.2] 35:=(r3.keeps (g4.trans g5).keeps (by simp)).keeps k6 (fun hm=>by have:=hb.lt _ hm;omega)
   simp only [fa_35_0,fa_35_1,ld_5,ld_9,cell_row r6.row,cellOf,isT_int,isT_string,cond_false,pureW_some,Nat.zero_add]
   have hle6:=k6.next
   have g6:Grow A A6 (20 * i+8):=((hgr.trans g5').own k6 hF (m:=1) n6 f6).more (by omega)
   refine bytesRow f6 (by omega) fun A7 g7 b7 n7=>?_
   refine wc99 b7.rd ((hg.keeps g6.keeps (by simp)).keeps g7.keeps (by simp)) g7.fine (by omega) (by omega) fun A8 v8 F8 g8 b8 hF8=>?_
   have n8:=g8.next
   have le8:=g8.le
   have g8':=g7.trans g8
   refine appendBuf tb (b6.keeps g8'.keeps (by simp)) (src_slice tb b8.rd) g8.fine (by omega) (by rw [List.length_append,headR_length,Go.Crc.seal_length];omega) fun v9 A9 F9 b9 k9 hF9 n9 f9=>?_
   have hF6':∀ y∈F6,A.next≤y:=fun y hy=>(hF6 y hy).elim (hF y) fun h=>by omega
   rw [bin_add,wrap_i64 (by omega) (by omega)]
   simp only [pureW_some]
   refine cutW_self.2 ⟨l.length - (i+1),by omega,rfl,i+1,v9,F9,by simp,by omega,rfl,?_,fun y hy=>(hF9 y hy).elim (hF6' y) fun h=>by omega,?_⟩
   ·have hp':(l.map toR)[i]? =some (toR p):=by rw [List.getElem?_map,hp];rfl
    rw [take_snoc' hp',putL_snoc]
    unfold putR
    rw [← List.append_assoc]
    exact b9
   ·exact ((g6.trans g8').own k9 hF6' (m:=1) n9 f9).more (by omega)
  ·have hi:i=l.length:=by omega
   subst hi
   rw [List.take_of_length_le (by simp)] at hb
   rw [hb.rd.str tb]
   exact bothW_ok.2 (hk A' hgr)
 ·rw [e55]
  rw [h.len etR]
  simp only [pureW_some]
  exact cutW_self.2 ⟨l.length,rfl,0,_,[],rfl,by omega,rfl,Buf.nil _ _,by simp,Grow.refl hf⟩
end
theorem ust9:Tp.underlying 9=some .string:=by kernel_rfl
theorem sl9 {A:AW} {s:ByteArray} {l h:Nat} {k1 k2:IntKind} (h1:l≤h) (h2:h≤s.data.toList.length):sliceA Tp A 9 (.string s) (some (.int k1 (l:Int))) (some (.int k2 (h:Int))) none=some (.string ⟨⟨(s.data.toList.take h).drop l⟩⟩):=by
 show sliceA Tp A 9 (.string s) (some (.int k1 (.ofNat l))) (some (.int k2 (.ofNat h))) none=_
 unfold sliceA
 simp only [ust9,bounds,okMax,boundA,Option.isSome_some,Bool.true_or,cond_true,ble_true.2 h2,ble_true.2 h1]
theorem sl9t {A:AW} {s:ByteArray} {h:Nat} {k:IntKind} (h2:h≤s.data.toList.length):sliceA Tp A 9 (.string s) none (some (.int k (h:Int))) none=some (.string ⟨⟨s.data.toList.take h⟩⟩):=by
 show sliceA Tp A 9 (.string s) none (some (.int k (.ofNat h))) none=_
 unfold sliceA
 simp only [ust9,bounds,okMax,boundA,Option.isSome_some,Option.isSome_none,Bool.true_or,cond_true,ble_true.2 h2]
 rfl
theorem sl9f {A:AW} {s:ByteArray} {l:Nat} {k:IntKind} (h2:l≤s.data.toList.length):sliceA Tp A 9 (.string s) (some (.int k (l:Int))) none none=some (.string ⟨⟨s.data.toList.drop l⟩⟩):=by
 show sliceA Tp A 9 (.string s) (some (.int k (.ofNat l))) none none=_
 unfold sliceA
 simp only [ust9,bounds,okMax,boundA,Option.isSome_none,Bool.not_false,Bool.or_true,cond_true,ble_true.2 h2]
 rw [List.take_length]
theorem bs22 (A:AW) (n:Int) (s:ByteArray):buildSliceA Tp A 22 1 [(0,.agg ⟨[.int .u8 n,.string s]⟩)]=(match A.newRow [.int .u8 n,.string s] 35 with | some (a,w')=>.ok (.slice (some a) 1 1) w' | none=>.fail "buildSlice new"):=by kernel_rfl
theorem bs22' {A:AW} {c:UInt8} {s:ByteArray} {K:Value→AW→Prop} (hf:Fine A) (h:A.next < maxId) (hk:∀ A',Made A A' (fR (c,s)) 35→K (.slice (some ⟨A.next,0,none⟩) 1 1) A'):bothW (buildSliceA Tp A 22 1 [(0,.agg ⟨[.int .u8 (c.toNat:Int),.string s]⟩)]) K:=by
 rw [bs22]
 unfold AW.newRow AW.new
 simp only [show ([Value.int .u8 (c.toNat:Int),.string s].all oneCell)=true from rfl,cond_true,blt_true.2 h]
 exact bothW_ok.2 (hk (A.push (.row [.int .u8 c.toNat,.string s] 35 A.next 0 false)) ⟨AW.push_ext _ h,rfl,by rw [AW.push_get _ h,if_pos rfl];rfl,hf.alone (Nat.le_refl _),hf.push _ h⟩)
theorem fresh22 (n:Int) (s:ByteArray):freshOf Tp (evalT (Tm.fill ⟨1,.nil⟩ 0 [.agg ⟨[.int .u8 n,.string s]⟩])) (.buildSlice 22 1 #[(0,.tmp 0)])=some (.slice [.int .u8 n,.string s] 35 1):=by kernel_rfl
theorem ba35 (n:Int) (s:ByteArray):buildA Tp 35 [(0,.int .u8 n),(1,.string s)]=some (.agg ⟨[.int .u8 n,.string s]⟩):=by kernel_rfl
theorem scan_fuel {f:Nat} {s:List UInt8} (h:s.length < f):scanP f s=scan s:=scanP_fuel _ _ _ h (by omega)
theorem scan_step (s:List UInt8):scan s=(if s=[] then ([],0,0) else
  if s.length < 9 then ([],0,1) else
  if Go.Crc.sealed (s.take 9)=false then ([],0,2) else
  if 65536 < numB ((s.take 5).drop 1) then ([],0,2) else
  if s.length < 13+numB ((s.take 5).drop 1) then ([],0,1) else
  if Go.Crc.sealed ((s.drop 9).take (numB ((s.take 5).drop 1)+4))=false then ([],0,2) else
  ((s.headD 0,(s.drop 9).take (numB ((s.take 5).drop 1)))::(scan (s.drop (13+numB ((s.take 5).drop 1)))).1,13+numB ((s.take 5).drop 1)+(scan (s.drop (13+numB ((s.take 5).drop 1)))).2.1,(scan (s.drop (13+numB ((s.take 5).drop 1)))).2.2)):=by
 by_cases h0:s=[]
 ·subst h0;rfl
 ·have:0 < s.length:=List.length_pos_iff.2 h0
  have e:=scan_fuel (f:=s.length) (s:=s.drop (13+numB ((s.take 5).drop 1))) (by rw [List.length_drop];omega)
  conv=>lhs;unfold scan
  rw [scanP_succ,e]
def addS (R:List Rec) (u:Nat) (q:List Rec × Nat × Nat):List Rec × Nat × Nat:=(R++q.1,u+q.2.1,q.2.2)
section
variable {W0:World} {m0:Inj Tp}
theorem wc89 {A:AW} {s:ByteArray} {K:Value→AW→Prop} (hg:Glb A) (hf:Fine A) (hl:s.data.toList.length < 900000) (hA:A.next+20 * s.data.toList.length+20 < maxId)
  (hk:∀ A' v (R:List RV) F,(scan s.data.toList).1=R.map toR→13 * R.length≤s.data.toList.length→OwnE 35 1 fR A' v R F→(∀ y∈F,A.next≤y)→Grow A A' (s.data.toList.length+20)→
   K (.tuple ⟨[v,.int .i64 ((scan s.data.toList).2.1:Nat),.int .u8 ((scan s.data.toList).2.2:Nat)]⟩) A'):Wc Tp theX W0 m0 89 [.string s] A K:=by
 have hroom:room=68719476736:=rfl
 let I:Nat→Nat→List Value→AW→Prop:=fun g id vals A'=>id=0∧∃ (u:Nat) (R:List RV) (v:Value) (F':List Nat),vals=[.string s,v,.int .i64 (u:Int),.int .u8 0]∧u≤s.data.toList.length∧g=s.data.toList.length - u∧
  OwnE 35 1 fR A' v R F'∧(∀ y∈F',A.next≤y)∧Grow A A' u∧13 * R.length≤u∧scan s.data.toList=addS (R.map toR) u (scan (s.data.toList.drop u))
 refine w89 _ _ (c89 (I:=I) ?_) ?_
 ·rintro g id vals A' d ⟨rfl,u,R,v,F',rfl,hu,rfl,ho,hF,hgr,hR,hsc⟩ hd'
  rw [l89_0]
  simp only [L89,List.map_cons,List.map_nil,List.cons.injEq,and_true] at hd'
  obtain ⟨h0,h5,h6,h7⟩:=hd'
  have hn:=hgr.next
  have hle:=hgr.le
  have fin:∀ (st:Nat) (A1:AW),OwnE 35 1 fR A1 v R F'→Grow A A1 (s.data.toList.length+20)→scan (s.data.toList.drop u)=([],0,st)→K (.tuple ⟨[v,.int .i64 (u:Int),.int .u8 (st:Int)]⟩) A1:=by
   intro st A1 h1 g1 he
   have e:scan s.data.toList=(R.map toR,u,st):=by rw [hsc,he];simp [addS]
   have:=hk A1 v R F' (by rw [e]) (by omega) h1 hF g1
   rw [e] at this
   exact this
  rw [scan_step] at fin
  rw [scan_step (s.data.toList.drop u)] at hsc
  simp only [h0,h5,h6,h7,sl9f hu,pureW_some,bin_streq,ln_9]
  generalize hrest:s.data.toList.drop u=rest at *
  have hrl:rest.length=s.data.toList.length - u:=by rw [← hrest,List.length_drop]
  refine forkW_bool.2 ⟨fun he=>?_,fun he=>?_⟩
  ·have he:rest=[]:=by simpa using he
   rw [if_pos he] at fin
   exact fin 0 A' ho (hgr.more (by omega)) rfl
  have he:rest≠[]:=by simpa using he
  rw [if_neg he] at fin hsc
  simp only [bin_lss,pureW_some,forkW_dec]
  refine ⟨fun hs=>?_,fun hs=>?_⟩
  ·rw [if_pos (by omega)] at fin
   exact fin 1 A' ho (hgr.more (by omega)) rfl
  have hs:9≤rest.length:=by omega
  rw [if_neg (by omega)] at fin hsc
  have e9:sliceA Tp A' 9 (.string ⟨⟨rest⟩⟩) none (some (.int .i64 9)) none=some (.string ⟨⟨rest.take 9⟩⟩):=sl9t (A:=A') (s:=⟨⟨rest⟩⟩) (h:=9) (k:=.i64) hs
  rw [e9]
  simp only [pureW_some]
  refine bytesRow hgr.fine (by omega) fun A5 g5 b5 n5=>?_
  have e9':(⟨⟨rest.take 9⟩⟩:ByteArray).data.toList=rest.take 9:=rfl
  have hl9:(rest.take 9).length=9:=by rw [List.length_take];omega
  have g5':=hgr.trans g5
  rw [e9'] at b5 ⊢
  refine wc112 b5 (hg.keeps g5'.keeps (by simp)) g5.fine (by omega) (by omega) (fun hsd A6 v6 F6 g6 b6 hF6=>?_) (fun hsd=>?_)
  rotate_left
  ·rw [if_pos hsd] at fin
   simp only [exL_two0,exL_two1,pureW_some,un_not]
   exact forkW_bool.2 ⟨fun _=>fin 2 A5 (ho.keeps g5.keeps (by simp)) (g5'.more (by omega)) rfl,fun h=>by simp at h⟩
  rw [if_neg (by rw [hsd];simp)] at fin hsc
  simp only [exL_two0,exL_two1,pureW_some,un_not]
  refine forkW_bool.2 ⟨fun h=>by simp at h,fun _=>?_⟩
  have e5:(rest.take 9).take ((rest.take 9).length - 4)=rest.take 5:=by rw [hl9,List.take_take];rfl
  rw [e5] at b6
  have hl5:(rest.take 5).length=5:=by rw [List.length_take];omega
  obtain ⟨v7,hv7,b7⟩:=b6.from tb (n:=1) (by omega)
  have hv7':sliceA Tp A6 41 v6 (some (.int .i64 1)) none none=some v7:=hv7
  rw [hv7']
  simp only [pureW_some]
  have n6:=g6.next
  have le6:=g6.le
  refine wc113 b7 g6.fine (by omega) (by rw [List.length_drop];omega) fun A8 r8 w8 F8 g8 o8 hr8 hw8 hF8=>?_
  have n8:=g8.next
  have le8:=g8.le
  have hl4:((rest.take 5).drop 1).length=4:=by rw [List.length_drop];omega
  refine wc114 (s:=((rest.take 5).drop 1,false)) (w:=4) o8 g8.fine (by omega) (show ((rest.take 5).drop 1).length < 1000000 by omega) (by omega) fun A9 F9 o9 k9 n9 f9 hF9=>?_
  have etk:tk 4 ((rest.take 5).drop 1,false)=((rest.take 5).drop 1,(((rest.take 5).drop 1).drop 4,false)):=by
   unfold tk
   rw [if_neg (by rw [hl4];simp),List.take_of_length_le (by rw [hl4];omega)]
  have enm:(nm 4 ((rest.take 5).drop 1,false)).1=numB ((rest.take 5).drop 1):=by
   unfold nm
   rw [etk,beval_numB]
  rw [enm]
  have hN:numB ((rest.take 5).drop 1) < 4294967296:=by
   rw [← beval_numB]
   have:=beval_lt ((rest.take 5).drop 1)
   rw [hl4] at this
   exact this
  generalize hNe:numB ((rest.take 5).drop 1)=N at *
  have le9:=k9.next
  have g9:Grow A A9 (u+8):=by
   have:=((g5'.trans g6).trans g8).own k9 (by simp;omega) (m:=2) (by omega) f9
   exact this.more (by omega)
  have ho9:OwnE 35 1 fR A9 v R F':=(ho.keeps ((g5.trans g6).trans g8).keeps (by simp)).keeps k9 fun x hx=>by have:=ho.lt x hx;simp;omega
  simp only [bin_gtr,pureW_some,forkW_dec]
  refine ⟨fun hgt=>?_,fun hgt=>?_⟩
  ·rw [if_pos (by omega)] at fin
   exact fin 2 A9 ho9 (g9.more (by omega)) rfl
  rw [if_neg (by omega)] at fin hsc
  simp only [ln_9,bin_sub,pureW_some,cv_3_134,bothW_ok,bin_add]
  have er:((⟨⟨rest⟩⟩:ByteArray).data.toList.length:Int)=(rest.length:Int):=rfl
  rw [er,wrap_i64 (n:=(rest.length:Int) - 9) (by omega) (by omega),wrap_u64 (n:=(rest.length:Int) - 9) (by omega) (by omega),wrap_u64 (n:=(N:Int)+4) (by omega) (by omega)]
  simp only [bin_lss,pureW_some,forkW_dec]
  refine ⟨fun hlt=>?_,fun hge=>?_⟩
  ·rw [if_pos (by omega)] at fin
   exact fin 1 A9 ho9 (g9.more (by omega)) rfl
  have hge:13+N≤rest.length:=by omega
  rw [if_neg (by omega)] at fin hsc
  simp only [cv_134_3,bothW_ok]
  rw [wrap_i64 (n:=(N:Int)) (by omega) (by omega),bin_add,wrap_i64 (n:=9+(N:Int)) (by omega) (by omega)]
  simp only [pureW_some]
  rw [bin_add,wrap_i64 (n:=9+(N:Int)+4) (by omega) (by omega)]
  simp only [pureW_some]
  have eend:9+(N:Int)+4=((13+N:Nat):Int):=by omega
  rw [eend]
  have es:=sl9 (A:=A9) (s:=⟨⟨rest⟩⟩) (l:=9) (h:=13+N) (k1:=.i64) (k2:=.i64) (by omega) hge
  have es':sliceA Tp A9 9 (.string ⟨⟨rest⟩⟩) (some (.int .i64 9)) (some (.int .i64 ((13+N:Nat):Int))) none=_:=es
  rw [es']
  simp only [pureW_some]
  have edt:((⟨⟨rest⟩⟩:ByteArray).data.toList.take (13+N)).drop 9=(rest.drop 9).take (N+4):=by
   show (rest.take (13+N)).drop 9=_
   rw [List.drop_take];congr 1;omega
  rw [edt]
  have hld:((rest.drop 9).take (N+4)).length=N+4:=by rw [List.length_take,List.length_drop];omega
  refine bytesRow f9 (by omega) fun A10 g10 b10 n10=>?_
  have en':(⟨⟨(rest.drop 9).take (N+4)⟩⟩:ByteArray).data.toList=(rest.drop 9).take (N+4):=rfl
  rw [en'] at b10 ⊢
  have g10':=g9.trans g10
  refine wc112 b10 (hg.keeps g10'.keeps (by simp)) g10.fine (by omega) (by omega) (fun hsd2 A11 v11 F11 g11 b11 hF11=>?_) (fun hsd2=>?_)
  rotate_left
  ·rw [if_pos hsd2] at fin
   simp only [exL_two0,exL_two1,pureW_some,un_not]
   exact forkW_bool.2 ⟨fun _=>fin 2 A10 (ho9.keeps g10.keeps (by simp)) (g10'.more (by omega)) rfl,fun h=>by simp at h⟩
  rw [if_neg (by rw [hsd2];simp)] at hsc
  simp only [exL_two0,exL_two1,pureW_some,un_not]
  refine forkW_bool.2 ⟨fun h=>by simp at h,fun _=>?_⟩
  have n11:=g11.next
  have le11:=g11.le
  have ed:((rest.drop 9).take (N+4)).take (((rest.drop 9).take (N+4)).length - 4)=(rest.drop 9).take N:=by rw [hld,List.take_take];congr 1;omega
  rw [ed] at b11
  obtain ⟨c,hc⟩:∃ c,(rest.take 5)[0]? =some c:=⟨_,List.getElem?_eq_getElem (by omega)⟩
  have hch:rest.headD 0=c:=by
   rw [List.getElem?_take_of_lt (by omega)] at hc
   rw [List.headD_eq_head?_getD,List.head?_eq_getElem?,hc];rfl
  have b6':RdS 5 A11 v6 (rest.take 5) F6:=((b6.keeps g8.keeps (by simp)).keeps k9 fun x hx=>by have:=b6.rd.lt x hx;simp;omega).keeps (g10.trans g11).keeps (by simp)
  obtain ⟨a,a1,a2⟩:=b6'.rd.at tb hc
  have a1':indexAddrA Tp 41 v6 (.int .i64 0)=some (.pointer (some a)):=a1
  rw [a1']
  simp only [pureW_some,a2,b11.rd.str tb,bothW_ok,ba35]
  refine bs22' g11.fine (by omega) fun A12 m12=>?_
  have n12:=m12.next
  have k12:=m12.keeps g11.fine
  obtain ⟨a0,b1,b2⟩:=(b6'.keeps k12 (by simp)).rd.at tb hc
  have b1':indexAddrA Tp 41 v6 (.int .i64 0)=some (.pointer (some a0)):=b1
  rw [a1'] at b1'
  obtain rfl:a=a0:=by simpa using b1'
  refine ⟨⟨_,fresh22 _ _,?_⟩,?_⟩
  ·have:=m12.row
   simp only [stillFresh,rowHas,this,fR,sameL,same_int,same_string,Bool.and_self,Option.isNone_none,Nat.beq_refl]
  simp only [pureW_some,(b11.keeps k12 (by simp)).rd.str tb,bothW_ok,b2,eqW_self]
  have g12:Grow A A12 (u+11):=((g10'.trans g11).trans (.made m12 g11.fine)).more (by omega)
  have ho12:=(ho9.keeps (g10.trans g11).keeps (by simp)).keeps k12 (by simp)
  refine OwnE.append etR ho12 m12.row1 m12.fine (by omega) (by omega) fun v13 A13 F13 o13 k13 hF13 n13 f13=>?_
  rw [bin_add,wrap_i64 (by omega) (by omega)]
  simp only [pureW_some]
  have eu:(u:Int)+((13+N:Nat):Int)=((u+(13+N):Nat):Int):=by omega
  rw [eu]
  refine cutW_self.2 ⟨s.data.toList.length - (u+(13+N)),by omega,rfl,u+(13+N),_,v13,F13,rfl,by omega,rfl,o13,fun y hy=>(hF13 y hy).elim (hF y) fun h=>by have:=g12.le;omega,?_,by rw [List.length_append];simp;omega,?_⟩
  ·exact (g12.own k13 hF (m:=1) (by omega) f13).more (by omega)
  ·have edd:s.data.toList.drop (u+(13+N))=rest.drop (13+N):=by rw [← List.drop_drop,hrest]
   rw [hsc,edd,hch]
   simp [addS,toR,Nat.add_assoc]
 ·rw [e89]
  exact cutW_self.2 ⟨s.data.toList.length,rfl,0,[],_,[],rfl,by omega,rfl,OwnE.nil _,by simp,Grow.refl hf,by simp,by simp [addS]⟩
end
theorem dyn92 (A:AW) (a b:Value):dynA Tp theX A (.func (.func 92) ⟨[]⟩ ⟨[a,b]⟩) []=.ok (.enter 92 [a,b]) A:=by kernel_rfl
theorem dyn98 (A:AW) (a b c e:Value):dynA Tp theX A (.func (.func 98) ⟨[]⟩ ⟨[a,b,c,e]⟩) []=.ok (.enter 98 [a,b,c,e]) A:=by kernel_rfl
theorem min1 (a b:Int):minP (.int .i64 a) [.int .i64 b]=some (.int .i64 (min a b)):=by
 unfold minP
 simp only [minL]
 congr 2
 split <;> omega
section
variable {W0:World} {m0:Inj Tp}
theorem wc92 {A:AW} {d mp t0 t1:Nat} {s:DS} {n:ByteArray} {K:Value→AW→Prop} (h:Dk A d mp s) (hf:Fine A) (hA:A.next≤maxId)
  (h0:Go.Abs.Row1 A t0 [.pointer (some ⟨d,0,none⟩)] 27) (h1:Go.Abs.Row1 A t1 [.string n] 9)
  (hk:∀ A2 v,Dk A2 d mp { s with D:=delF s.D n.data.toList }→Keeps A A2 [mp]→A2.next≤A.next→Fine A2→K v A2):
  Wc Tp theX W0 m0 92 [.pointer (some ⟨t0,0,none⟩),.pointer (some ⟨t1,0,none⟩)] A K:=by
 refine w92 _ _ _ (cuts_none (S:=fun _ _ _=>False) fun _ _ _ h=>h) ?_
 rw [e92]
 obtain ⟨es,c,hr,hm,hne,hD⟩:=h
 simp only [ld_27,ld_9,ld_74,nilP_some,fa_76_0,cell_row h0.row,cell_row h1.row,cell_row hr.row,cellOf,isT_ptr,isT_string,isT_map,cond_false,pureW_some]
 refine hm.del mtF hf hA (k:=n) fun A1 hm1 k1 n1 f1=>?_
 refine hk A1 _ ⟨_,c,hr.keeps k1 (by simp;exact hne),hm1,hne,?_⟩ k1 (by omega) f1
 show delF s.D _=_
 rw [hD,del_map]
theorem wc98 {A:AW} {d mp t6 t2 t0 t1:Nat} {s:DS} {fv:Fv} {n:ByteArray} {k:Nat} {K:Value→AW→Prop} (h:Dk A d mp s) (hf:Fine A) (hA:A.next≤maxId) (h6:Go.Abs.Row1 A t6 [.string fv.1,.int .i64 (fv.2:Int)] 100) (h2:Go.Abs.Row1 A t2 [.int .i64 (k:Int)] 3)
  (h0:Go.Abs.Row1 A t0 [.pointer (some ⟨d,0,none⟩)] 27) (h1:Go.Abs.Row1 A t1 [.string n] 9) (hkl:k≤fv.1.data.toList.length)
  (hk:∀ A2 v,Dk A2 d mp { s with D:=putF s.D n.data.toList (fv.1.data.toList.take k,min fv.2 k) }→Keeps A A2 [mp]→A2.next≤A.next→Fine A2→K v A2):
  Wc Tp theX W0 m0 98 [.pointer (some ⟨t6,0,none⟩),.pointer (some ⟨t2,0,none⟩),.pointer (some ⟨t0,0,none⟩),.pointer (some ⟨t1,0,none⟩)] A K:=by
 refine w98 _ _ _ _ _ (cuts_none (S:=fun _ _ _=>False) fun _ _ _ h=>h) ?_
 rw [e98]
 obtain ⟨es,c,hr,hm,hne,hD⟩:=h
 have e:min (fv.2:Int) (k:Int)=((min fv.2 k:Nat):Int):=by omega
 simp only [ld_27,ld_9,ld_3,ld_74,nilP_some,fa_76_0,fa_100_0,fa_100_1,cell_row h0.row,cell_row h1.row,cell_row h2.row,cell_row h6.row,cell_row hr.row,cellOf,isT_ptr,isT_string,isT_int,isT_map,cond_false,pureW_some,Nat.zero_add,sl9t hkl,min1,e,ba100x]
 refine hm.put mtF hf hA (k:=n) (v:=(⟨⟨fv.1.data.toList.take k⟩⟩,min fv.2 k)) fun A2 c2 hm2 k2 n2 f2=>?_
 refine hk A2 _ ⟨_,c2,hr.keeps k2 (by simp;exact hne),hm2,hne,?_⟩ k2 (by omega) f2
 show putF s.D _ _=_
 rw [hD,put_map]
 rfl
theorem wc40 {A:AW} {d mp:Nat} {s:DS} {n:ByteArray} {K:Value→AW→Prop} (h:Dk A d mp s) (hN:OkN s) (hf:Fine A) (hA:A.next+60 < maxId)
  (hk:∀ A',Dk A' d mp (removeS s n.data.toList).1→Keeps A A' [d,mp]→A'.next≤A.next+10→Fine A'→K (.int .i64 (removeS s n.data.toList).2) A'):
  Wc Tp theX W0 m0 40 [.pointer (some ⟨d,0,none⟩),.string n] A K:=by
 refine w40 _ _ _ (cuts_none (S:=fun _ _ _=>False) fun _ _ _ h=>h) ?_
 rw [e40]
 have hlt:=h.lt
 refine newP_made (cs:=[.pointer (some ⟨d,0,none⟩)]) hf (by omega) rfl fun A1 m1=>?_
 have n1:=m1.next
 have k1:=m1.keeps hf
 refine newP_made (cs:=[.string n]) m1.fine (by omega) rfl fun A2 m2=>?_
 have n2:=m2.next
 have k2:=m2.keeps m1.fine
 have K2:Keeps A A2 []:=k1.trans k2 (by simp)
 have h0:=m1.row1.keeps k2 (by simp)
 have h1:=m2.row1
 have hd2:=h.keeps K2 (by simp) (by simp)
 simp only [ld_27,cell_row h0.row,cellOf,isT_ptr,cond_false,pureW_some]
 refine wc62 hd2 ?_
 simp only [bin_neq,pureW_some]
 unfold stateS
 unfold removeS at hk
 refine forkW_bne.2 ⟨fun he=>?_,fun he=>?_⟩
 ·have hd:s.down=true:=by
   cases hq:s.down with
   | true=>rfl
   | false=>rw [hq] at he;simp at he
  rw [if_pos hd] at hk
  rw [if_pos hd]
  exact hk A2 hd2 (K2.more (by simp)) (by omega) m2.fine
 have hd:s.down=false:=by
  cases hq:s.down with
  | false=>rfl
  | true=>rw [hq] at he;simp at he
 rw [if_neg (by rw [hd];simp)] at hk
 refine allocP_made zF m2.fine (by omega) rfl fun A4 m4=>?_
 have n4:=m4.next
 have k4:=m4.keeps m2.fine
 refine freshW_F m4.row ?_
 have h04:=h0.keeps k4 (by simp)
 have h14:=h1.keeps k4 (by simp)
 have hd4:=hd2.keeps k4 (by simp) (by simp)
 obtain ⟨es,c,hr,hm,hne,hD⟩:=hd4
 simp only [ld_27,ld_9,cell_row h04.row,cell_row h14.row,cell_row hr.row,cellOf,isT_ptr,isT_string,isT_map,cond_false,pureW_some,nilP_some,fa_76_0,ld_74,lookW hm]
 have hlk:=look_map es n
 rw [← hD] at hlk
 rw [← hlk] at hk
 cases hq:lookE keqB es n with
 | none=>
  rw [hq] at hk
  simp only [ex_two0,ex_two1,pureW_some]
  refine m4.row1.store m4.fine (by omega) (st_100 _ _ _) rfl (by show 0+2≤2;omega) rfl fun A5 r5 k5 n5 f5=>?_
  have k5:Keeps A4 A5 [A2.next]:=k5
  simp only [eqW_self,un_not,pureW_some]
  refine forkW_bool.2 ⟨fun _=>?_,fun h=>by simp at h⟩
  refine hk A5 ((hd2.keeps k4 (by simp) (by simp)).keeps k5 (by simp;omega) (by simp;omega)) (((K2.trans k4 (by simp)).trans k5 (fun x hx=>by have:=List.mem_singleton.1 hx;have:=K2.next;exact .inr (by omega))).more (by simp)) (by omega) f5
 | some v=>
  rw [hq] at hk
  simp only [ex_two0,ex_two1,pureW_some]
  refine m4.row1.store m4.fine (by omega) (st_100 _ _ _) rfl (by show 0+2≤2;omega) rfl fun A5 r5 k5 n5 f5=>?_
  have r5:Go.Abs.Row1 A5 A2.next [.string v.1,.int .i64 (v.2:Int)] 100:=r5
  have k5:Keeps A4 A5 [A2.next]:=k5
  have K5:Keeps A A5 []:=(K2.trans k4 (by simp)).trans k5 (fun x hx=>by have:=List.mem_singleton.1 hx;have:=K2.next;exact .inr (by omega))
  simp only [eqW_self,un_not,pureW_some]
  refine forkW_bool.2 ⟨fun h=>by simp at h,fun _=>?_⟩
  have h05:=h04.keeps k5 (by simp;omega)
  have h15:=h14.keeps k5 (by simp;omega)
  have hd5:=(hd2.keeps k4 (by simp) (by simp)).keeps k5 (by simp;omega) (by simp;omega)
  simp only [ld_27,cell_row h05.row,cellOf,isT_ptr,cond_false,pureW_some]
  refine wc65 (n:=0) (g:=fun D=>delF D n.data.toList) hd5 f5 (by omega) hN.f1 (fun A=>dyn92 A _ _) rfl (fun B s1 K1 kb nb fb hb hDb hk1=>?_) fun B hb kb nb fb=>?_
  ·refine wc92 (n:=n) hb fb (by omega) (h05.keeps kb (by simp;omega)) (h15.keeps kb (by simp;omega)) fun B2 v h2 k2 n2 f2=>?_
   exact hk1 B2 v h2 k2 (by omega) f2
  ·exact hk B hb ((K5.more (T:=[d,mp]) (by simp)).trans kb (by simp)) (by omega) fb
theorem wc50 {A:AW} {d mp:Nat} {s:DS} {n:ByteArray} {k:Nat} {K:Value→AW→Prop} (h:Dk A d mp s) (hN:OkN s) (hf:Fine A) (hA:A.next+60 < maxId)
  (hk:∀ A',Dk A' d mp (cutS s n.data.toList k).1→Keeps A A' [d,mp]→A'.next≤A.next+10→Fine A'→K (.int .i64 (cutS s n.data.toList k).2) A'):
  Wc Tp theX W0 m0 50 [.pointer (some ⟨d,0,none⟩),.string n,.int .i64 (k:Int)] A K:=by
 refine w50 _ _ _ _ (cuts_none (S:=fun _ _ _=>False) fun _ _ _ h=>h) ?_
 rw [e50]
 have hlt:=h.lt
 refine newP_made (cs:=[.pointer (some ⟨d,0,none⟩)]) hf (by omega) rfl fun A1 m1=>?_
 have n1:=m1.next
 have k1:=m1.keeps hf
 refine newP_made (cs:=[.string n]) m1.fine (by omega) rfl fun A2 m2=>?_
 have n2:=m2.next
 have k2:=m2.keeps m1.fine
 refine newP_made (cs:=[.int .i64 (k:Int)]) m2.fine (by omega) rfl fun A3 m3=>?_
 have n3:=m3.next
 have k3:=m3.keeps m2.fine
 have K3:Keeps A A3 []:=(k1.trans k2 (by simp)).trans k3 (by simp)
 have h0:=(m1.row1.keeps k2 (by simp)).keeps k3 (by simp)
 have h1:=m2.row1.keeps k3 (by simp)
 have h2:=m3.row1
 have hd3:=h.keeps K3 (by simp) (by simp)
 simp only [ld_27,cell_row h0.row,cellOf,isT_ptr,cond_false,pureW_some]
 refine wc62 hd3 ?_
 simp only [bin_neq,pureW_some]
 unfold stateS
 unfold cutS at hk
 refine forkW_bne.2 ⟨fun he=>?_,fun he=>?_⟩
 ·have hd:s.down=true:=by
   cases hq:s.down with
   | true=>rfl
   | false=>rw [hq] at he;simp at he
  rw [if_pos hd] at hk
  rw [if_pos hd]
  exact hk A3 hd3 (K3.more (by simp)) (by omega) m3.fine
 have hd:s.down=false:=by
  cases hq:s.down with
  | false=>rfl
  | true=>rw [hq] at he;simp at he
 rw [if_neg (by rw [hd];simp),if_neg (by omega)] at hk
 refine allocP_made zF m3.fine (by omega) rfl fun A4 m4=>?_
 have n4:=m4.next
 have k4:=m4.keeps m3.fine
 refine freshW_F m4.row ?_
 have h04:=h0.keeps k4 (by simp)
 have h14:=h1.keeps k4 (by simp)
 have h24:=h2.keeps k4 (by simp)
 have hd4:=hd3.keeps k4 (by simp) (by simp)
 obtain ⟨es,c,hr,hm,hne,hD⟩:=hd4
 simp only [ld_27,ld_9,cell_row h04.row,cell_row h14.row,cell_row hr.row,cellOf,isT_ptr,isT_string,isT_map,cond_false,pureW_some,nilP_some,fa_76_0,ld_74,lookW hm]
 have hlk:=look_map es n
 rw [← hD] at hlk
 rw [← hlk] at hk
 cases hq:lookE keqB es n with
 | none=>
  rw [hq] at hk
  simp only [ex_two0,ex_two1,pureW_some]
  refine m4.row1.store m4.fine (by omega) (st_100 _ _ _) rfl (by show 0+2≤2;omega) rfl fun A5 r5 k5 n5 f5=>?_
  have k5:Keeps A4 A5 [A3.next]:=k5
  have h25:=h24.keeps k5 (by simp;omega)
  simp only [eqW_self,un_not,pureW_some,ld_3,cell_row h25.row,cellOf,isT_int,cond_false,bin_lss,forkW_dec]
  refine ⟨fun h=>by omega,fun _=>forkW_bool.2 ⟨fun _=>?_,fun h=>by simp at h⟩⟩
  refine hk A5 ((hd3.keeps k4 (by simp) (by simp)).keeps k5 (by simp;omega) (by simp;omega)) (((K3.trans k4 (by simp)).trans k5 (fun x hx=>by have:=List.mem_singleton.1 hx;have:=K3.next;exact .inr (by omega))).more (by simp)) (by omega) f5
 | some v=>
  rw [hq] at hk
  simp only [ex_two0,ex_two1,pureW_some]
  refine m4.row1.store m4.fine (by omega) (st_100 _ _ _) rfl (by show 0+2≤2;omega) rfl fun A5 r5 k5 n5 f5=>?_
  have r5:Go.Abs.Row1 A5 A3.next [.string v.1,.int .i64 (v.2:Int)] 100:=r5
  have k5:Keeps A4 A5 [A3.next]:=k5
  have K5:Keeps A A5 []:=(K3.trans k4 (by simp)).trans k5 (fun x hx=>by have:=List.mem_singleton.1 hx;have:=K3.next;exact .inr (by omega))
  have h25:=h24.keeps k5 (by simp;omega)
  simp only [eqW_self,un_not,pureW_some,ld_3,cell_row h25.row,cellOf,isT_int,cond_false,bin_lss,forkW_dec]
  refine ⟨fun h=>by omega,fun _=>forkW_bool.2 ⟨fun h=>by simp at h,fun _=>?_⟩⟩
  have hk:∀ A',Dk A' d mp (if (v.1.data.toList.length:Int) < k then (s,(2:Int)) else actS s (fun D=>putF D n.data.toList (v.1.data.toList.take k,min v.2 k)) false).1→Keeps A A' [d,mp]→A'.next≤A.next+10→Fine A'→K (.int .i64 (if (v.1.data.toList.length:Int) < k then (s,(2:Int)) else actS s (fun D=>putF D n.data.toList (v.1.data.toList.take k,min v.2 k)) false).2) A':=hk
  simp only [fa_100_0,ld_9,cell_row r5.row,cell_row h25.row,cellOf,isT_string,isT_int,cond_false,pureW_some,ln_9,bin_gtr,forkW_dec]
  refine ⟨fun hgt=>?_,fun hle=>?_⟩
  ·rw [if_pos hgt] at hk
   exact hk A5 ((hd3.keeps k4 (by simp) (by simp)).keeps k5 (by simp;omega) (by simp;omega)) (K5.more (by simp)) (by omega) f5
  rw [if_neg hle] at hk
  have h05:=h04.keeps k5 (by simp;omega)
  have h15:=h14.keeps k5 (by simp;omega)
  have hd5:=(hd3.keeps k4 (by simp) (by simp)).keeps k5 (by simp;omega) (by simp;omega)
  simp only [ld_27,cell_row h05.row,cellOf,isT_ptr,cond_false,pureW_some]
  refine wc65 (n:=0) (g:=fun D=>putF D n.data.toList (v.1.data.toList.take k,min v.2 k)) hd5 f5 (by omega) hN.f1 (fun A=>dyn98 A _ _ _ _) rfl (fun B s1 K1 kb nb fb hb hDb hk1=>?_) fun B hb kb nb fb=>?_
  ·refine wc98 (fv:=v) (n:=n) (k:=k) hb fb (by omega) (r5.keeps kb (by simp;omega)) (h25.keeps kb (by simp;omega)) (h05.keeps kb (by simp;omega)) (h15.keeps kb (by simp;omega)) (by omega) fun B2 v h2 k2 n2 f2=>?_
   exact hk1 B2 v h2 k2 (by omega) f2
  ·exact hk B hb ((K5.more (T:=[d,mp]) (by simp)).trans kb (by simp)) (by omega) fb
end
end Go.Proofs.YtbchfeibhoobeaaGreatDoor
namespace Go.Abs
section
variable {P:Program} {ts te:TypeId} {n:Nat} {β:Type} {f:β→List Value}
theorem flat_of (hlen:∀ x,(f x).length=n+1) {cs:List Value}:∀ (l:List β) (o:Nat),(∀ (i:Nat) p,l[i]? =some p→∃ rest,cs.drop (o+i * (n+1))=f p++rest)→∃ rest,cs.drop o=flat f l++rest
 | [],o,_=>⟨cs.drop o,by simp [flat]⟩
 | p::r,o,h=>by
  obtain ⟨rest0,h0⟩:=h 0 p rfl
  obtain ⟨rest,h1⟩:=flat_of hlen r (o+(n+1)) fun i q hq=>by
   have:=h (i+1) q (by simpa using hq)
   rwa [Nat.succ_mul,show o+(i * (n+1)+(n+1))=o+(n+1)+i * (n+1) by omega] at this
  refine ⟨rest,?_⟩
  rw [Nat.zero_mul,Nat.add_zero] at h0
  have h2:cs.drop (o+(n+1))=rest0:=by
   rw [← List.drop_drop,h0,← hlen p,List.drop_left]
  rw [h2] at h1
  rw [h0,h1]
  simp [flat]
theorem flat_noT (h:∀ x,(f x).all (fun v=>!isTuple v)=true) (l:List β):(flat f l).all (fun v=>!isTuple v)=true:=by
 rw [List.all_eq_true]
 intro v hv
 obtain ⟨b,_,hb⟩:=List.mem_flatMap.1 hv
 exact List.all_eq_true.1 (h b) v hb
theorem flat_one (h:∀ x,(f x).all oneCell=true) (l:List β):(flat f l).all oneCell=true:=by
 rw [List.all_eq_true]
 intro v hv
 obtain ⟨b,_,hb⟩:=List.mem_flatMap.1 hv
 exact List.all_eq_true.1 (h b) v hb
theorem RdE.src (T:ET P ts te n f) {A:AW} {x:Value} {l:List β} {F:List Nat} (h:RdE n f A x l F):sourceZ P A te ts (n+1) x=some (l.length,flat f l):=by
 unfold sourceZ
 simp only [T.us]
 rcases h with ⟨rfl,_,o,c,rfl⟩ | ⟨r,o,c,cs,e,g,b,ro,rfl,h2,h3,_,h4⟩
 ·cases o with
  | none=>rfl
  | some a=>
   unfold sourceA
   simp only [Nat.zero_mul]
   rfl
 ·show sourceA A (n+1) _=_
  unfold sourceA
  obtain ⟨rest,hr⟩:=flat_of T.len l o h4
  have:=takeCells_app (flat f l) rest (flat_noT T.noT l)
  rw [flat_length T.len] at this
  simp only [cells_row h2,hr,this]
theorem OwnE.appendL (T:ET P ts te n f) {A:AW} {v x:Value} {l l2:List β} {F F2:List Nat} {K:Value→AW→Prop} (h:OwnE te n f A v l F) (hx:RdE n f A x l2 F2) (hf:Fine A) (hA:A.next < maxId) (hl:l.length < 1000000) (hl2:l2.length < 1000000)
  (hk:∀ v' A' F',OwnE te n f A' v' (l++l2) F'→Keeps A A' F→(∀ x∈F',x∈F∨x=A.next)→A'.next≤A.next+1→Fine A'→K v' A'):bothW (appendA P A ts ts v x) K:=by
 have hroom:room=68719476736:=rfl
 obtain ⟨b,hb,hb2⟩:=T.by'
 have hse:sliceElemT P ts=some te:=by unfold sliceElemT;rw [T.us]
 have hsrc:=hx.src T
 cases l2 with
 | nil=>
  have hv:∃ o m c,v=.slice o m c∧m=l.length:=by
   rcases h with ⟨rfl,h2,_⟩ | ⟨b',g,rfl,_⟩
   ·exact ⟨_,_,_,rfl,h2.symm⟩
   ·exact ⟨_,_,_,rfl,rfl⟩
  obtain ⟨o,m,c,rfl,rfl⟩:=hv
  have hm:(l.length+0) * b≤(l.length+0) * 256:=Nat.mul_le_mul_left _ hb2
  have e:appendA P A ts ts (.slice o l.length c) x=.ok (.slice o l.length c) A:=by
   have hsrc:sourceZ P A te ts (n+1) x=some (0,[]):=hsrc
   unfold appendA
   simp only [hse,T.sz,hb,hsrc]
   rw [blt_true.2 (show l.length+0 < room by omega),blt_true.2 (show (l.length+0) * b < room by omega),T.hz]
   rfl
  rw [e]
  refine bothW_ok.2 (hk _ A F ?_ (.refl _ _) (fun x hx=>.inl hx) (by omega) hf)
  rw [List.append_nil]
  exact h
 | cons p r=>
  rw [List.length_cons] at hl2
  have hm:(l.length+(r.length+1)) * b≤(l.length+(r.length+1)) * 256:=Nat.mul_le_mul_left _ hb2
  refine appendG (m:=r.length) (size:=n) hse T.sz hb T.hz hsrc (flat_length T.len _) (flat_one T.one _) h hf hA (by omega) (by omega) fun v' A' F' h1 h2 h3 h4 h5=>?_
  refine hk v' A' F' ?_ h2 h3 (by omega) h5
  show OwnG A' te (n+1) v' (l++p::r).length (flat f (l++p::r)) F'
  rw [List.length_append,flat_apps]
  exact h1
end
section
variable {P:Program} {ts te:TypeId} {n:Nat} {β:Type} {f:β→List Value}
theorem slice_fromE (T:ET P ts te n f) {A:AW} {b m i:Nat} {cs:List Value} {g b0:Nat} {ro:Bool} (hr:A.get b=some (.row cs te g b0 ro)) (hi:i≤m):sliceA P A ts (.slice (some ⟨b,0,none⟩) m (capU+m)) (some (.int .i64 (i:Int))) none none=some (.slice (some ⟨b,i * (n+1),none⟩) (m - i) (capU+(m - i))):=by
 show sliceA P A ts _ (some (.int .i64 (.ofNat i))) none none=_
 have hrow:rowIs A (some ⟨b,0,none⟩) te=true:=by unfold rowIs;simp only [hr];exact beq_true.2 rfl
 have hm:moved (some ⟨b,0,none⟩) (i * (n+1))=some ⟨b,i * (n+1),none⟩:=by
  show some (bif Nat.beq (i * (n+1)) 0 then (⟨b,0,none⟩:Addr) else ⟨b,0+i * (n+1),none⟩)=_
  cases hb:Nat.beq (i * (n+1)) 0 with
  | true=>rw [cond_true,Nat.eq_of_beq_eq_true hb]
  | false=>rw [cond_false,Nat.zero_add]
 unfold sliceA
 simp only [T.us,T.sz,ble_true.2 (show capU≤capU+m by omega),cond_true,bounds,okMax,boundA,Nat.add_sub_cancel_left,ble_true.2 hi,ble_true.2 (Nat.le_refl m),Option.isSome_none,Bool.not_false,Bool.or_true,hrow,Bool.and_self,hm]
theorem slice_toE (T:ET P ts te n f) {A:AW} {b m i:Nat} {cs:List Value} {g b0:Nat} {ro:Bool} (hr:A.get b=some (.row cs te g b0 ro)) (hi:i≤m):sliceA P A ts (.slice (some ⟨b,0,none⟩) m (capU+m)) none (some (.int .i64 (i:Int))) none=some (.slice (some ⟨b,0,none⟩) i (capU+m)):=by
 show sliceA P A ts _ none (some (.int .i64 (.ofNat i))) none=_
 have hrow:rowIs A (some ⟨b,0,none⟩) te=true:=by unfold rowIs;simp only [hr];exact beq_true.2 rfl
 have hm:moved (some ⟨b,0,none⟩) (0 * (n+1))=some ⟨b,0,none⟩:=by rw [Nat.zero_mul];rfl
 unfold sliceA
 simp only [T.us,T.sz,ble_true.2 (show capU≤capU+m by omega),cond_true,bounds,okMax,boundA,Nat.add_sub_cancel_left,ble_true.2 hi,Nat.sub_zero,Option.isSome_some,Option.isSome_none,Bool.not_false,Bool.or_true,hrow,Bool.and_self,hm]
theorem RdE.some (hlen:∀ x,(f x).length=n+1) {A:AW} {b g o c:Nat} {l:List β} {cs:List Value} {e:TypeId} {ro:Bool} {b0:Nat} (hr:A.get b=.some (.row cs e g b0 ro)) (hg:g < A.next) (hc:∀ (i:Nat) p,l[i]? =.some p→∃ rest,cs.drop (o+i * (n+1))=f p++rest):∃ F,RdE n f A (.slice (.some ⟨b,o,none⟩) l.length c) l F∧∀ x∈F,x=g:=
 ⟨[g],.inr ⟨b,o,c,cs,e,g,b0,ro,rfl,hr,hg,rfl,hc⟩,by simp⟩
theorem OwnE.to (T:ET P ts te n f) {A:AW} {v:Value} {l:List β} {F:List Nat} (h:OwnE te n f A v l F) {i:Nat} (hi:i≤l.length) (hnil:sliceA P A ts (.slice none 0 0) none (.some (.int .i64 0)) none=.some (.slice none 0 0)):
  ∃ v' F',sliceA P A ts v none (.some (.int .i64 (i:Int))) none=.some v'∧RdE n f A v' (l.take i) F'∧∀ x∈F',x∈F:=by
 rcases h with ⟨rfl,h2,_,rfl⟩ | ⟨b,g,rfl,h2,rfl⟩
 ·have:l=[]:=List.eq_nil_of_length_eq_zero h2
  subst this
  obtain rfl:i=0:=by simpa using hi
  exact ⟨_,[],hnil,.nil _ _ _,by simp⟩
 ·obtain ⟨F',h3,h4⟩:=RdE.some (l:=l.take i) (o:=0) (c:=capU+l.length) T.len h2.row h2.ltf (fun j p hj=>by
   rw [Nat.zero_add]
   rw [List.getElem?_take] at hj
   split at hj
   ·exact flat_drop T.len l j p hj
   ·cases hj)
  rw [List.length_take,Nat.min_eq_left hi] at h3
  exact ⟨_,F',slice_toE T h2.row hi,h3,fun x hx=>by simp [h4 x hx]⟩
theorem OwnE.from (T:ET P ts te n f) {A:AW} {v:Value} {l:List β} {F:List Nat} (h:OwnE te n f A v l F) {i:Nat} (hi:i≤l.length) (hnil:sliceA P A ts (.slice none 0 0) (.some (.int .i64 0)) none none=.some (.slice none 0 0)):
  ∃ v' F',sliceA P A ts v (.some (.int .i64 (i:Int))) none none=.some v'∧RdE n f A v' (l.drop i) F'∧∀ x∈F',x∈F:=by
 rcases h with ⟨rfl,h2,_,rfl⟩ | ⟨b,g,rfl,h2,rfl⟩
 ·have:l=[]:=List.eq_nil_of_length_eq_zero h2
  subst this
  obtain rfl:i=0:=by simpa using hi
  exact ⟨_,[],hnil,.nil _ _ _,by simp⟩
 ·obtain ⟨F',h3,h4⟩:=RdE.some (l:=l.drop i) (o:=i * (n+1)) (c:=capU+(l.length - i)) T.len h2.row h2.ltf (fun j p hj=>by
   rw [← Nat.add_mul]
   exact flat_drop T.len l (i+j) p (by rw [List.getElem?_drop] at hj;exact hj))
  rw [List.length_drop] at h3
  exact ⟨_,F',slice_fromE T h2.row hi,h3,fun x hx=>by simp [h4 x hx]⟩
end
section
variable {P:Program} {ts te:TypeId} {n:Nat} {β:Type} {f:β→List Value}
def OwnF (te:TypeId) (n:Nat) (f:β→List Value) (A:AW) (v:Value) (l:List β) (F:List Nat):Prop:=
 OwnE te n f A v l F∨∃ b,v=.slice (some ⟨b,0,none⟩) l.length l.length∧l.length < 1000000∧Row1 A b (flat f l) te∧F=[b]
theorem OwnF.nil (A:AW):OwnF te n f A (.slice none 0 0) [] []:=.inl (OwnE.nil A)
theorem OwnF.keeps {A A':AW} {v:Value} {l:List β} {F S:List Nat} (h:OwnF te n f A v l F) (k:Keeps A A' S) (hd:∀ x∈F,x∉S):OwnF te n f A' v l F:=by
 rcases h with h | ⟨b,h1,h0,h2,rfl⟩
 ·exact .inl (h.keeps k hd)
 ·exact .inr ⟨b,h1,h0,h2.keeps k (hd b (by simp)),rfl⟩
theorem OwnF.rd (hlen:∀ x,(f x).length=n+1) {A:AW} {v:Value} {l:List β} {F:List Nat} (h:OwnF te n f A v l F):RdE n f A v l F:=by
 rcases h with h | ⟨b,rfl,h0,h2,rfl⟩
 ·exact h.rd hlen
 ·exact .inr ⟨b,0,_,_,_,b,0,false,rfl,h2.row,h2.lt,rfl,fun i p hi=>by rw [Nat.zero_add];exact flat_drop hlen l i p hi⟩
theorem OwnF.lt {A:AW} {v:Value} {l:List β} {F:List Nat} (h:OwnF te n f A v l F):∀ x∈F,x < A.next:=by
 rcases h with h | ⟨b,h1,h0,h2,rfl⟩
 ·exact OwnE.lt h
 ·intro x hx;have:=List.mem_singleton.1 hx;rw [this];exact h2.lt
theorem OwnF.one {A:AW} {v:Value} {l:List β} {F:List Nat} (h:OwnF te n f A v l F):oneCell v=true∧isTuple v=false:=by
 rcases h with h | ⟨b,rfl,h0,h2,rfl⟩
 ·exact OwnE.one h
 ·exact ⟨rfl,rfl⟩
theorem OwnF.slice {A:AW} {v:Value} {l:List β} {F:List Nat} (h:OwnF te n f A v l F):∃ o c,v=.slice o l.length c:=by
 rcases h with h | ⟨b,rfl,h0,h2,rfl⟩
 ·rcases h with ⟨rfl,h2,_⟩ | ⟨b',g,rfl,_⟩
  ·exact ⟨none,0,by rw [h2]⟩
  ·exact ⟨_,_,rfl⟩
 ·exact ⟨_,_,rfl⟩
theorem OwnF.appendS {t2:TypeId} (hus:P.underlying ts=some (.slice te)) (hsz:szT P te=some (n+1)) (hby:∃ b,bytesT P te=some b∧b≤256) (hhz:hasZero P te (n+1)=true) (hlen:∀ x,(f x).length=n+1) (hone:∀ x,(f x).all oneCell=true)
  {A:AW} {v x:Value} {l l2:List β} {F:List Nat} {K:Value→AW→Prop} (h:OwnF te n f A v l F) (hx:sourceZ P A te t2 (n+1) x=some (l2.length,flat f l2)) (hf:Fine A) (hA:A.next < maxId) (hl:l.length < 1000000) (hl2:l2.length < 1000000)
  (hk:∀ v' A' F',OwnF te n f A' v' (l++l2) F'→Keeps A A' F→(∀ x∈F',x∈F∨x=A.next)→A'.next≤A.next+1→Fine A'→K v' A'):bothW (appendA P A ts t2 v x) K:=by
 have hroom:room=68719476736:=rfl
 obtain ⟨b,hb,hb2⟩:=hby
 have hse:sliceElemT P ts=some te:=by unfold sliceElemT;rw [hus]
 cases l2 with
 | nil=>
  obtain ⟨o,c,rfl⟩:=h.slice
  have hm:(l.length+0) * b≤(l.length+0) * 256:=Nat.mul_le_mul_left _ hb2
  have e:appendA P A ts t2 (.slice o l.length c) x=.ok (.slice o l.length c) A:=by
   have hsrc:sourceZ P A te t2 (n+1) x=some (0,[]):=hx
   unfold appendA
   simp only [hse,hsz,hb,hsrc]
   rw [blt_true.2 (show l.length+0 < room by omega),blt_true.2 (show (l.length+0) * b < room by omega),hhz]
   rfl
  rw [e]
  refine bothW_ok.2 (hk _ A F ?_ (.refl _ _) (fun x hx=>.inl hx) (by omega) hf)
  rw [List.append_nil]
  exact h
 | cons p r=>
  rw [List.length_cons] at hl2
  have hx:sourceZ P A te t2 (n+1) x=some (r.length+1,flat f (p::r)):=hx
  have hm:(l.length+(r.length+1)) * b≤(l.length+(r.length+1)) * 256:=Nat.mul_le_mul_left _ hb2
  rcases h with h | ⟨bb,rfl,h0,h2,rfl⟩
  ·refine appendG (m:=r.length) (size:=n) hse hsz hb hhz hx (flat_length hlen _) (flat_one hone _) h hf hA (by omega) (by omega) fun v' A' F' h1 h2 h3 h4 h5=>?_
   refine hk v' A' F' (.inl ?_) h2 h3 (by omega) h5
   show OwnG A' te (n+1) v' (l++p::r).length (flat f (l++p::r)) F'
   rw [List.length_append,flat_apps]
   exact h1
  ·have hcu:Nat.ble capU l.length=false:=ble_false.2 (by unfold capU;omega)
   have hold:A.cellsAny ⟨bb,0,none⟩ (l.length * (n+1))=some (flat f l):=by
    rw [← flat_length hlen]
    unfold AW.cellsAny
    cases hl:(flat f l).length with
    | zero=>
     have:flat f l=[]:=List.eq_nil_of_length_eq_zero hl
     rw [this]
    | succ k=>
     simp only [h2.row,List.drop_zero]
     have:=takeAny_all (flat f l)
     rw [hl] at this
     exact this
   have hnew:A.new (.row (flat f l++flat f (p::r)) te A.next 0 false)=some (A.next,A.push (.row (flat f l++flat f (p::r)) te A.next 0 false)):=by
    unfold AW.new
    simp only [blt_true.2 hA,cond_true]
    rfl
   have e:appendA P A ts t2 (.slice (some ⟨bb,0,none⟩) l.length l.length) x=.ok (.slice (some ⟨A.next,0,none⟩) (l.length+(r.length+1)) (capU+(l.length+(r.length+1)))) (A.push (.row (flat f l++flat f (p::r)) te A.next 0 false)):=by
    unfold appendA
    simp only [hse,hsz,hb,hx]
    rw [blt_true.2 (show l.length+(r.length+1) < room by omega),blt_true.2 (show (l.length+(r.length+1)) * b < room by omega),hhz]
    have hfit':Nat.ble (l.length+(r.length+1)) l.length=false:=ble_false.2 (by omega)
    simp only [hcu,cond_false,hfit',Bool.not_true,Bool.and_self]
    simp only [hold,hnew]
   rw [e,← flat_apps]
   have hfp:=hf.push (.row (flat f (l++p::r)) te A.next 0 false) hA
   have hrow:(A.push (.row (flat f (l++p::r)) te A.next 0 false)).get A.next=some (.row (flat f (l++p::r)) te A.next 0 false):=by rw [AW.push_get _ hA,if_pos rfl]
   refine bothW_ok.2 (hk _ _ [A.next] (.inl (.inr ⟨A.next,A.next,by simp,?_,rfl⟩)) (((AW.push_ext _ hA).keeps hf).more (by simp)) (fun x hx=>.inr (by simpa using hx)) (by rw [AW.push_next];omega) hfp)
   refine ⟨by rw [List.length_append,List.length_cons];omega,hrow,by rw [flat_length hlen],Nat.zero_le _,Nat.zero_le _,by rw [AW.push_next];omega,fun i hi=>?_⟩
   have:(A.push (.row (flat f (l++p::r)) te A.next 0 false)).members A.next=[A.next]:=hf.alone (Nat.le_refl _)
   rw [this] at hi
   obtain rfl:i=A.next:=by simpa using hi
   exact ⟨Nat.zero_le _,by rw [AW.push_next];omega,_,_,_,_,hrow⟩
theorem OwnF.appendL (T:ET P ts te n f) {A:AW} {v x:Value} {l l2:List β} {F F2:List Nat} {K:Value→AW→Prop} (h:OwnF te n f A v l F) (hx:RdE n f A x l2 F2) (hf:Fine A) (hA:A.next < maxId) (hl:l.length < 1000000) (hl2:l2.length < 1000000)
  (hk:∀ v' A' F',OwnF te n f A' v' (l++l2) F'→Keeps A A' F→(∀ x∈F',x∈F∨x=A.next)→A'.next≤A.next+1→Fine A'→K v' A'):bothW (appendA P A ts ts v x) K:=
 h.appendS T.us T.sz T.by' T.hz T.len T.one (hx.src T) hf hA hl hl2 hk
theorem OwnF.append (T:ET P ts te n f) {A:AW} {v:Value} {l:List β} {F:List Nat} {p:β} {q:Nat} {e:TypeId} {K:Value→AW→Prop} (h:OwnF te n f A v l F) (hq:Row1 A q (f p) e) (hf:Fine A) (hA:A.next < maxId) (hl:l.length < 1000000)
  (hk:∀ v' A' F',OwnF te n f A' v' (l++[p]) F'→Keeps A A' F→(∀ x∈F',x∈F∨x=A.next)→A'.next≤A.next+1→Fine A'→K v' A'):bothW (appendA P A ts ts v (.slice (some ⟨q,0,none⟩) 1 1)) K:=by
 refine h.appendS (l2:=[p]) T.us T.sz T.by' T.hz T.len T.one ?_ hf hA hl (by simp) hk
 have:=src_elem T hq
 rw [this]
 simp [flat]
theorem OwnF.append1 (T:ES P ts te f) {A:AW} {v:Value} {l:List β} {F:List Nat} {p:β} {q:Nat} {e:TypeId} {K:Value→AW→Prop} (h:OwnF te 0 f A v l F) (hq:Row1 A q (f p) e) (hf:Fine A) (hA:A.next < maxId) (hl:l.length < 1000000)
  (hk:∀ v' A' F',OwnF te 0 f A' v' (l++[p]) F'→Keeps A A' F→(∀ x∈F',x∈F∨x=A.next)→A'.next≤A.next+1→Fine A'→K v' A'):bothW (appendA P A ts ts v (.slice (some ⟨q,0,none⟩) 1 1)) K:=by
 refine h.appendS (l2:=[p]) T.us T.sz T.by' T.hz T.len T.one ?_ hf hA hl (by simp) hk
 have:=T.src hq
 rw [this]
 simp [flat]
end
end Go.Abs
namespace Go.Proofs.YtbchfeibhoobeaaGreatDoor
open Go.Abs Go.Jr
def fI (n:Nat):List Value:=[.int .i64 (n:Int)]
theorem esI:ES Tp 46 3 fI where
 us:=by kernel_rfl
 sz:=by kernel_rfl
 by':=⟨8,by kernel_rfl,by decide⟩
 hz:=by kernel_rfl
 ld:=ld_3
 len:=fun _=>rfl
 one:=fun _=>rfl
 noT:=fun _=>rfl
def fS (s:List UInt8):List Value:=[txV s]
theorem esS:ES Tp 37 9 fS where
 us:=by kernel_rfl
 sz:=by kernel_rfl
 by':=⟨16,by kernel_rfl,by decide⟩
 hz:=by kernel_rfl
 ld:=ld_9
 len:=fun _=>rfl
 one:=fun _=>rfl
 noT:=fun _=>rfl
theorem pn29 (a:Addr) (xo yo:Operand):binA Tp .neq 29 xo yo (.pointer (some a)) (.pointer none)=some (.bool true):=by kernel_rfl
theorem pe22n (xo yo:Operand):binA Tp .eql 22 xo yo (.slice none 0 0) (.slice none 0 0)=some (.bool true):=by kernel_rfl
theorem pe22s (a:Addr) (n c:Nat) (xo yo:Operand):binA Tp .eql 22 xo yo (.slice (some a) n c) (.slice none 0 0)=some (.bool false):=by kernel_rfl
theorem bs22_0 (A:AW):buildSliceA Tp A 22 0 []=(match A.newRow [] 35 with | some (a,w')=>.ok (.slice (some a) 0 0) w' | none=>.fail "buildSlice new"):=by kernel_rfl
theorem bs22e {A:AW} {K:Value→AW→Prop} (hf:Fine A) (h:A.next < maxId) (hk:∀ A',Made A A' [] 35→K (.slice (some ⟨A.next,0,none⟩) 0 0) A'):bothW (buildSliceA Tp A 22 0 []) K:=by
 rw [bs22_0]
 unfold AW.newRow AW.new
 simp only [show (([]:List Value).all oneCell)=true from rfl,cond_true,blt_true.2 h]
 exact bothW_ok.2 (hk (A.push (.row [] 35 A.next 0 false)) ⟨AW.push_ext _ h,rfl,by rw [AW.push_get _ h,if_pos rfl],hf.alone (Nat.le_refl _),hf.push _ h⟩)
theorem ba35s (s:ByteArray):buildA Tp 35 [(1,.string s)]=some (.agg ⟨[.int .u8 0,.string s]⟩):=by kernel_rfl
def Jn (A:AW) (j d:Nat) (q:JS) (Fl Fr:List Nat):Prop:=
 ∃ vl vr rl,Go.Abs.Row1 A j [.pointer (some ⟨d,0,none⟩),.int .i64 q.limit,.string ⟨⟨q.state⟩⟩,vl,vr,.int .i64 (q.size:Int),.bool q.some,.bool q.broken] 83∧OwnF 35 1 fR A vl rl Fl∧q.l=rl.map toR∧OwnF 3 0 fI A vr q.row Fr
structure JD (A:AW) (j d mp:Nat) (q:JS) (s:DS) (Fl Fr:List Nat):Prop where
 jn:Jn A j d q Fl Fr
 dk:Dk A d mp s
 nd:j≠d∧j≠mp
 fl:∀ x∈Fl,x≠d∧x≠mp∧x≠j∧x∉Fr
 fr:∀ x∈Fr,x≠d∧x≠mp∧x≠j
theorem Jn.keeps {A A':AW} {j d:Nat} {q:JS} {Fl Fr S:List Nat} (h:Jn A j d q Fl Fr) (k:Keeps A A' S) (h1:j∉S) (h2:∀ x∈Fl,x∉S) (h3:∀ x∈Fr,x∉S):Jn A' j d q Fl Fr:=by
 obtain ⟨vl,vr,rl,a,b,c,e⟩:=h
 exact ⟨vl,vr,rl,a.keeps k h1,b.keeps k h2,c,e.keeps k h3⟩
theorem Jn.lt {A:AW} {j d:Nat} {q:JS} {Fl Fr:List Nat} (h:Jn A j d q Fl Fr):j < A.next:=by
 obtain ⟨vl,vr,rl,a,b,c,e⟩:=h
 exact a.lt
theorem JD.keeps {A A':AW} {j d mp:Nat} {q:JS} {s:DS} {Fl Fr S:List Nat} (h:JD A j d mp q s Fl Fr) (k:Keeps A A' S) (h1:j∉S) (hd:d∉S) (hm:mp∉S) (h2:∀ x∈Fl,x∉S) (h3:∀ x∈Fr,x∉S):JD A' j d mp q s Fl Fr:=
 ⟨h.jn.keeps k h1 h2 h3,h.dk.keeps k hd hm,h.nd,h.fl,h.fr⟩
theorem JD.disk {A A':AW} {j d mp:Nat} {q:JS} {s s':DS} {Fl Fr:List Nat} (h:JD A j d mp q s Fl Fr) (k:Keeps A A' [d,mp]) (hd:Dk A' d mp s'):JD A' j d mp q s' Fl Fr:=
 ⟨h.jn.keeps k (by simp;exact h.nd) (fun x hx=>by have:=h.fl x hx;simp;exact ⟨this.1,this.2.1⟩) (fun x hx=>by have:=h.fr x hx;simp;exact ⟨this.1,this.2.1⟩),hd,h.nd,h.fl,h.fr⟩
section
variable {W0:World} {m0:Inj Tp}
theorem wc53 {A:AW} {j d:Nat} {q:JS} {Fl Fr:List Nat} {K:Value→AW→Prop} (h:Jn A j d q Fl Fr) (hk:K (.bool true) A):Wc Tp theX W0 m0 53 [.pointer (some ⟨j,0,none⟩)] A K:=by
 obtain ⟨vl,vr,rl,a,b,c,e⟩:=h
 refine w53 _ _ (cuts_none (S:=fun _ _ _=>False) fun _ _ _ h=>h) ?_
 rw [e53]
 simp only [pn29,pureW_some,nilP_some]
 refine forkW_bool.2 ⟨fun _=>?_,fun h=>by cases h⟩
 simp only [fa_83_0,ld_27,cell_row a.row,cellOf,isT_ptr,cond_false,pureW_some,pn27]
 exact hk
theorem wc54 {A:AW} {j d:Nat} {q:JS} {Fl Fr:List Nat} {K:Value→AW→Prop} (h:Jn A j d q Fl Fr) (hk:K (.int .i64 (if q.broken=true then 100 else 0)) A):Wc Tp theX W0 m0 54 [.pointer (some ⟨j,0,none⟩)] A K:=by
 obtain ⟨vl,vr,rl,a,b,c,e⟩:=h
 refine w54 _ _ (cuts_none (S:=fun _ _ _=>False) fun _ _ _ h=>h) ?_
 rw [e54]
 simp only [nilP_some,fa_83_7,ld_4,cell_row a.row,cellOf,isT_bool,isT_ptr,isT_int,isT_string,b.one.2,e.one.2,cond_false,pureW_some,Nat.zero_add]
 refine forkW_bool.2 ⟨fun hb=>?_,fun hb=>?_⟩
 ·rw [hb] at hk;exact hk
 ·rw [hb] at hk;exact hk
theorem wc56 {A:AW} {j d:Nat} {q:JS} {Fl Fr:List Nat} {K:Value→AW→Prop} (h:Jn A j d q Fl Fr) {n:Nat} (hn:q.row.getLast? =some n) (hl:q.row.length < 1000000) (hk:K (.int .i64 (n:Int)) A):Wc Tp theX W0 m0 56 [.pointer (some ⟨j,0,none⟩)] A K:=by
 obtain ⟨vl,vr,rl,a,b,c,e⟩:=h
 refine w56 _ _ (cuts_none (S:=fun _ _ _=>False) fun _ _ _ h=>h) ?_
 rw [e56]
 have hpos:0 < q.row.length:=by
  cases hq:q.row with
  | nil=>rw [hq] at hn;cases hn
  | cons=>simp
 have hg:q.row[q.row.length - 1]? =some n:=by rw [← List.getLast?_eq_getElem?];exact hn
 simp only [nilP_some,fa_83_4,ld_46,cell_row a.row,cellOf,isT_bool,isT_ptr,isT_int,isT_string,b.one.2,e.one.2,cond_false,pureW_some,Nat.zero_add,esI.lenR (e.rd esI.len),bin_sub]
 rw [wrap_i64 (by omega) (by omega)]
 have hi:(q.row.length:Int) - 1=((q.row.length - 1:Nat):Int):=by omega
 rw [hi]
 obtain ⟨a0,a1,a2⟩:=esI.at (e.rd esI.len) hg rfl
 simp only [a1,a2,pureW_some]
 exact hk
theorem wc57 {A:AW} {j d:Nat} {q:JS} {Fl Fr:List Nat} {er:Int} {K:Value→AW→Prop} (h:Jn A j d q Fl Fr) (hf:Fine A) (hA:A.next < maxId) (hl:j∉Fl) (hr:j∉Fr) (hk:∀ A',Jn A' j d (doneJ q er) Fl Fr→Keeps A A' [j]→A'.next=A.next→Fine A'→K (.int .i64 er) A'):Wc Tp theX W0 m0 57 [.pointer (some ⟨j,0,none⟩),.int .i64 er] A K:=by
 obtain ⟨vl,vr,rl,a,b,c,e⟩:=h
 refine w57 _ _ _ (cuts_none (S:=fun _ _ _=>False) fun _ _ _ h=>h) ?_
 rw [e57]
 have fin:∀ x:Bool,(doneJ q er).broken=x→effW (storeP Tp A 4 (.pointer (some ⟨j,7,none⟩)) (.bool x)) fun A'=>K (.int .i64 er) A':=by
  intro x hx
  refine a.store hf (by omega) (st_4 _ _ _) rfl (by show 7+1≤8;omega) rfl fun A' r k n f=>?_
  have k:Keeps A A' [j]:=k
  refine hk A' ⟨vl,vr,rl,?_,b.keeps k (fun y hy=>by simp;intro h0;subst h0;exact hl hy),c,e.keeps k (fun y hy=>by simp;intro h0;subst h0;exact hr hy)⟩ k n f
  rw [hx]
  exact r
 have a3:=b.one.2
 have a4:=e.one.2
 simp only [nilP_some,fa_83_7,ld_4,cell_row a.row,cellOf,isT_bool,isT_ptr,isT_int,isT_string,a3,a4,cond_false,pureW_some,Nat.zero_add,bin_eql]
 refine forkW_bool.2 ⟨fun hb=>fin true (by simp [doneJ,hb]),fun hb=>fin _ (by simp [doneJ,hb])⟩
theorem wc41 {A : AW} {s : ByteArray} {K : Value → AW → Prop} (hg : Glb A) (hf : Fine A) (hs : s.data.toList.length ≤ 65536) (hA : A.next + 50 < maxId)
    (hk : ∀ A', Grow A A' 22 → K (.string ⟨⟨putR (0, s.data.toList)⟩⟩) A') : Wc Tp theX W0 m0 41 [.string s] A K := by
  refine w41 _ _ (cuts_none (S := fun _ _ _ => False) fun _ _ _ h => h) ?_
  rw [e41]
  simp only [ba35s, pureW_some]
  refine bs22' (c := 0) hf (by omega) fun A1 m1 => ?_
  have n1 := m1.next
  have hrd : RdE 1 fR A1 (.slice (some ⟨A.next, 0, none⟩) 1 1) [((0 : UInt8), s)] [A.next] := .inr ⟨A.next, 0, 1, _, _, A.next, 0, false, rfl, m1.row, by omega, rfl, fun i p hi => by
    cases i with
    | zero => obtain rfl : ((0 : UInt8), s) = p := by simpa using hi
              exact ⟨[], rfl⟩
    | succ i => simp at hi⟩
  have hp : putL ([((0 : UInt8), s)].map toR) = putR (0, s.data.toList) := by simp [putL, toR]
  refine wc55 hrd (hg.keeps (m1.keeps hf) (by simp)) m1.fine (by simp) (by simpa using hs) (by simp; omega) (by rw [hp, putR_length]; show 13 + s.data.toList.length < 900000; omega) fun A2 g2 => ?_
  rw [hp]
  simp only [exL_two0, exL_two1, pureW_some]
  exact hk A2 (((Grow.made m1 hf).trans g2).more (by simp))
theorem wc52 {A:AW} {x:Value} {l:List RV} {F:List Nat} {K:Value→AW→Prop} (h:RdE 1 fR A x l F) (hc:∀ c,x=.slice none 0 c→c=0) (hf:Fine A) (hA:A.next+5 < maxId) (hl:l.length < 1000000)
  (hk:∀ A' v F',OwnF 35 1 fR A' v l F'→(∀ y∈F',A.next≤y)→Grow A A' 2→K v A'):Wc Tp theX W0 m0 52 [x] A K:=by
 refine w52 _ _ (cuts_none (S:=fun _ _ _=>False) fun _ _ _ h=>h) ?_
 rw [e52]
 obtain ⟨o,c,rfl⟩:=h.slice
 cases o with
 | none=>
  have hl0:l=[]:=by
   rcases h with ⟨h1,_⟩ | ⟨r,o,c,cs,e,f,b,ro,h1,_⟩
   ·exact h1
   ·simp at h1
  subst hl0
  obtain rfl:=hc c rfl
  simp only [List.length_nil,pe22n,pureW_some]
  exact forkW_bool.2 ⟨fun _=>hk A _ [] (OwnF.nil _) (by simp) ((Grow.refl hf).more (by omega)),fun h=>by simp at h⟩
 | some a=>
  simp only [pe22s,pureW_some]
  refine forkW_bool.2 ⟨fun h=>by simp at h,fun _=>?_⟩
  refine bs22e hf (by omega) fun A1 m1=>?_
  have n1:=m1.next
  have ho:OwnF 35 1 fR A1 (.slice (some ⟨A.next,0,none⟩) 0 0) ([]:List RV) [A.next]:=.inr ⟨A.next,rfl,by simp,m1.row1,rfl⟩
  refine ho.appendL etR (h.keeps (m1.keeps hf) (by simp)) m1.fine (by omega) (by simp) (by omega) fun v2 A2 F2 o2 k2 hF2 n2 f2=>?_
  rw [List.nil_append] at o2
  exact hk A2 v2 F2 o2 (fun y hy=>(hF2 y hy).elim (fun h=>by have:=List.mem_singleton.1 h;omega) fun h=>by omega) (((Grow.made m1 hf).own k2 (by simp) (m:=1) n2 f2).more (by omega))
theorem drop_get {α:Type} {l:List α} {i:Nat} {p:α} (h:l[i]? =.some p):l.drop i=p::l.drop (i+1):=by
 obtain ⟨h1,h2⟩:=List.getElem?_eq_some_iff.1 h
 rw [List.drop_eq_getElem_cons h1,h2]
def ixOf (k:List UInt8):List (List UInt8)→Nat→Int
 | [],_=> -1
 | x::r,i=>if k=x then (i:Int) else ixOf k r (i+1)
theorem ixOf_pos (k:List UInt8):∀ (l:List (List UInt8)) (i:Nat),(0≤ixOf k l i)↔k∈l
 | [],i=>by simp [ixOf]
 | x::r,i=>by
  unfold ixOf
  by_cases h:k=x
  ·rw [if_pos h];simp [h]
  ·rw [if_neg h,ixOf_pos k r (i+1)];simp [h]
theorem wc91 {A:AW} {x:Value} {l:List (List UInt8)} {F:List Nat} {k:ByteArray} {K:Value→AW→Prop} (h:RdE 0 fS A x l F) (hl:l.length < 1000000) (hk:K (.int .i64 (ixOf k.data.toList l 0)) A):Wc Tp theX W0 m0 91 [x,.string k] A K:=by
 let I:Nat→Nat→List Value→AW→Prop:=fun g id vals A'=>id=0∧A'=A∧∃ i:Nat,vals=[x,.string k,.int .i64 (l.length:Int),.int .i64 (i:Int)]∧g=l.length - i∧i≤l.length∧ixOf k.data.toList l 0=ixOf k.data.toList (l.drop i) i
 refine w91 _ _ _ (c91 (I:=I) ?_) ?_
 ·rintro g id vals A' d ⟨rfl,rfl,i,rfl,rfl,hi,he⟩ hd
  rw [l91_0]
  simp only [L91,List.map_cons,List.map_nil,List.cons.injEq,and_true] at hd
  obtain ⟨h0,h1,h7,h8⟩:=hd
  simp only [h0,h1,h7,h8,bin_lss,pureW_some,forkW_dec]
  refine ⟨fun hlt=>?_,fun hge=>?_⟩
  ·have hlt:i < l.length:=by omega
   obtain ⟨p,hp⟩:∃ p,l[i]? =some p:=⟨_,List.getElem?_eq_getElem hlt⟩
   obtain ⟨a,a1,a2⟩:=esS.at h hp rfl
   have hd:=drop_get hp
   rw [hd,show ∀ q r i,ixOf q (p::r) i=if q=p then (i:Int) else ixOf q r (i+1) from fun _ _ _=>rfl] at he
   simp only [a1,a2,pureW_some,txV,bin_streq]
   refine forkW_bool.2 ⟨fun hq=>?_,fun hq=>?_⟩
   ·rw [if_pos (by simpa using hq)] at he
    rw [he] at hk;exact hk
   ·rw [if_neg (by simpa using hq)] at he
    rw [bin_add,wrap_i64 (by omega) (by omega)]
    simp only [pureW_some]
    exact cutW_self.2 ⟨l.length - (i+1),by omega,rfl,rfl,i+1,rfl,rfl,by omega,he⟩
  ·have:i=l.length:=by omega
   subst this
   rw [List.drop_length] at he
   rw [he] at hk
   exact hk
 ·rw [e91,esS.lenR h]
  simp only [pureW_some]
  exact cutW_self.2 ⟨l.length,rfl,rfl,0,rfl,rfl,by omega,by simp⟩
theorem wc38 {A:AW} {x:Value} {l:List (List UInt8)} {F:List Nat} {k:ByteArray} {K:Value→AW→Prop} (h:RdE 0 fS A x l F) (hl:l.length < 1000000) (hk:K (.bool (decide (k.data.toList∈l))) A):Wc Tp theX W0 m0 38 [x,.string k] A K:=by
 refine w38 _ _ _ (cuts_none (S:=fun _ _ _=>False) fun _ _ _ h=>h) ?_
 rw [e38]
 refine wc91 h hl ?_
 simp only [bin_geq,pureW_some]
 have:decide (0≤ixOf k.data.toList l 0)=decide (k.data.toList∈l):=by
  rw [decide_eq_decide];exact ixOf_pos _ _ _
 rw [this]
 exact hk
end
structure SV where
 n:Nat
 o:Option Addr
 len:Nat
 cap:Nat
 size:Nat
 st:Nat
def fG (x:SV):List Value:=[.int .i64 (x.n:Int),.slice x.o x.len x.cap,.int .i64 (x.size:Int),.int .u8 (x.st:Int)]
theorem etG:ET Tp 77 90 3 fG where
 us:=by kernel_rfl
 sz:=by kernel_rfl
 ag:=by kernel_rfl
 by':=⟨48,by kernel_rfl,by decide⟩
 hz:=by kernel_rfl
 len:=fun _=>rfl
 one:=fun _=>rfl
 noT:=fun _=>rfl
theorem zG:zeroT Tp 90=some (.agg ⟨[.int .i64 0,.slice none 0 0,.int .i64 0,.int .u8 0]⟩):=by kernel_rfl
theorem ba90 (n:Int):buildA Tp 90 [(0,.int .i64 n)]=some (.agg ⟨[.int .i64 n,.slice none 0 0,.int .i64 0,.int .u8 0]⟩):=by kernel_rfl
theorem bs77 (A:AW) (n z t:Int) (o:Option Addr) (a b:Nat):buildSliceA Tp A 77 1 [(0,.agg ⟨[.int .i64 n,.slice o a b,.int .i64 z,.int .u8 t]⟩)]=(match A.newRow [.int .i64 n,.slice o a b,.int .i64 z,.int .u8 t] 90 with | some (a,w')=>.ok (.slice (some a) 1 1) w' | none=>.fail "buildSlice new"):=by kernel_rfl
theorem bs77' {A:AW} {x:SV} {K:Value→AW→Prop} (hf:Fine A) (h:A.next < maxId) (hk:∀ A',Made A A' (fG x) 90→K (.slice (some ⟨A.next,0,none⟩) 1 1) A'):bothW (buildSliceA Tp A 77 1 [(0,.agg ⟨fG x⟩)]) K:=by
 unfold fG
 rw [bs77]
 unfold AW.newRow AW.new
 simp only [show ((fG x).all oneCell)=true from rfl,show ([Value.int .i64 (x.n:Int),.slice x.o x.len x.cap,.int .i64 (x.size:Int),.int .u8 (x.st:Int)].all oneCell)=true from rfl,cond_true,blt_true.2 h]
 exact bothW_ok.2 (hk (A.push (.row (fG x) 90 A.next 0 false)) ⟨AW.push_ext _ h,rfl,by rw [AW.push_get _ h,if_pos rfl],hf.alone (Nat.le_refl _),hf.push _ h⟩)
abbrev SR:=SV × List RV
def toSeg (x:SR):Seg:=⟨x.1.n,x.2.map toR,x.1.size,x.1.st⟩
def SegV (A:AW) (lo:Nat) (x:SR):Prop:=∃ F,RdE 1 fR A (.slice x.1.o x.1.len x.1.cap) x.2 F∧∀ y∈F,lo≤y
theorem SegV.keeps {A A':AW} {lo:Nat} {x:SR} {S:List Nat} (h:SegV A lo x) (k:Keeps A A' S) (hS:∀ y∈S,y < lo∨A.next≤y):SegV A' lo x:=by
 obtain ⟨F,h1,h2⟩:=h
 exact ⟨F,h1.keeps k fun y hy hm=>by have:=h1.fam y hy;have:=h2 y hy;rcases hS y hm with h | h <;> omega,h2⟩
theorem flatS (l:List (List UInt8)):flat fS l=l.map txV:=by
 induction l with
 | nil=>rfl
 | cons x r ih=>show [txV x]++flat fS r=_;rw [ih];rfl
theorem names_rd {A:AW} {sv:Value} {l:List (List UInt8)} {F:List Nat} (h:OwnG A 9 1 sv l.length (l.map txV) F):RdE 0 fS A sv l F:=by
 have h1:OwnE 9 0 fS A sv l F:=by
  show OwnG A 9 (0+1) sv l.length (flat fS l) F
  rw [flatS];exact h
 exact h1.rd esS.len
theorem names_mem {D:Fls} {p:List UInt8}:p∈namesS D↔∃ f,(p,f)∈D:=by
 unfold namesS
 rw [List.mem_mergeSort,List.mem_map]
 constructor
 ·rintro ⟨⟨a,f⟩,h,rfl⟩;exact ⟨f,h⟩
 ·rintro ⟨f,h⟩;exact ⟨(p,f),h,rfl⟩
theorem look_mem {D:Fls} {p:List UInt8} (h:∃ f,(p,f)∈D):∃ f,lookF D p=some f∧(p,f)∈D:=by
 obtain ⟨f,hf⟩:=h
 unfold lookF
 cases h:D.find? fun e=>e.1==p with
 | none=>have:=List.find?_eq_none.1 h _ hf;simp at this
 | some e=>
  have h1:=List.find?_some h
  have h2:=List.mem_of_find?_eq_some h
  obtain ⟨a,b⟩:=e
  obtain rfl:a=p:=by simpa using h1
  exact ⟨b,rfl,h2⟩
def NumK (W0:World) (m0:Inj Tp) (f:List UInt8):Prop:=KC.Holds Tp W0 m0 ⟨88,[txV f],[.int .i64 (numOf f:Int)]⟩
def NameK (W0:World) (m0:Inj Tp) (n:Nat):Prop:=KC.Holds Tp W0 m0 ⟨47,[.int .i64 (n:Int)],[txV (Jr.nm n)]⟩
theorem knOne {W0:World} {m0:Inj Tp} {g:FuncId} {args:List Value} {v:Value} {A:AW} {K:Value→AW→Prop} (hg:g≠sameFn) (h:KC.Holds Tp W0 m0 ⟨g,args,[v]⟩) (hc:closedV 4 v=true) (hk:K v A):knW Tp W0 m0 g args A K:=
 .inl ⟨[v],hg,h,by simp [hc],by simpa using hk⟩
section
variable {W0:World} {m0:Inj Tp}
theorem wc36 {A:AW} {d mp L:Nat} {s:DS} {K:Value→AW→Prop} (h:Dk A d mp s) (hg:Glb A) (hd:s.down=false) (hes:s.D.length < 10000) (hL:∀ f∈s.D,f.2.1.length≤L) (hL2:L < 900000) (hf:Fine A) (hA:A.next+10000 * (20 * L+100) < maxId)
  (hnum:∀ f∈namesS s.D,NumK W0 m0 f) (h0:0 < d∧0 < mp)
  (hk:∀ A' v F (X:List SR),X.map toSeg=segsOf s.D (namesS s.D)→OwnE 90 3 fG A' v (X.map (·.1)) F→(∀ y∈F,A.next≤y)→(∀ x∈X,SegV A' A.next x)→Grow A A' (20+3 * s.D.length+s.D.length * (L+30))→K (.tuple ⟨[v,.int .i64 0]⟩) A'):
  Wc Tp theX W0 m0 36 [.pointer (some ⟨d,0,none⟩)] A K:=by
 have hroom:room=68719476736:=rfl
 have hnl:(namesS s.D).length=s.D.length:=by unfold namesS;rw [List.length_mergeSort,List.length_map]
 let I:Nat→Nat→List Value→AW→Prop:=fun g id vals A'=>id=0∧∃ (i:Nat) (sv v:Value) (Fn F:List Nat) (X:List SR),vals=[.pointer (some ⟨d,0,none⟩),v,sv,.int .i64 (s.D.length:Int),.int .i64 (i:Int)]∧i≤s.D.length∧g=s.D.length - i∧
  RdE 0 fS A' sv (namesS s.D) Fn∧X.map toSeg=segsOf s.D ((namesS s.D).take i)∧OwnE 90 3 fG A' v (X.map (·.1)) F∧(∀ y∈F,A.next≤y∧y∉Fn)∧(∀ x∈X,∃ G,RdE 1 fR A' (.slice x.1.o x.1.len x.1.cap) x.2 G∧∀ y∈G,A.next≤y∧y∉F)∧Grow A A' (15+3 * s.D.length+i * (L+30))∧X.length≤i
 refine w36 _ _ (c36 (I:=I) ?_) ?_
 ·rintro g id vals A' dd ⟨rfl,i,sv,v,Fn,F,X,rfl,hi,rfl,hn,hX,ho,hF,hR,hgr,hXl⟩ hd'
  rw [l36_0]
  simp only [L36,List.map_cons,List.map_nil,List.cons.injEq,and_true] at hd'
  obtain ⟨h0',h4,h12,h13,h14⟩:=hd'
  have hnx:=hgr.next
  have hle:=hgr.le
  simp only [h0',h4,h12,h13,h14,bin_lss,pureW_some,forkW_dec]
  refine ⟨fun hlt=>?_,fun hge=>?_⟩
  ·have hlt:i < s.D.length:=by omega
   have hbud:i * (L+30)≤10000 * (L+30):=Nat.mul_le_mul_right _ (by omega)
   obtain ⟨p,hp⟩:∃ p,(namesS s.D)[i]? =some p:=⟨_,List.getElem?_eq_getElem (by rw [hnl];exact hlt)⟩
   obtain ⟨a,a1,a2⟩:=esS.at hn hp rfl
   have hpm:=List.mem_of_getElem? hp
   obtain ⟨fl,hlook,hmem⟩:=look_mem (names_mem.1 hpm)
   have hfl:=hL _ hmem
   have hfile:fileOf s.D p=fl:=by unfold fileOf;rw [hlook];rfl
   simp only [a1,a2,pureW_some]
   refine knOne (by decide) (hnum p hpm) rfl ?_
   simp only [bin_eql,pureW_some,bin_add]
   have eseg:segsOf s.D ((namesS s.D).take (i+1))=segsOf s.D ((namesS s.D).take i)++(if numOf p=0 then [] else [segOf (numOf p) fl.1]):=by
    rw [take_snoc' hp]
    unfold segsOf
    rw [List.filterMap_append]
    congr 1
    by_cases h0:numOf p=0
    ·simp [h0]
    ·simp [h0,hfile]
   have esucc:(i+1) * (L+30)=i * (L+30)+(L+30):=Nat.succ_mul _ _
   rw [wrap_i64 (by omega) (by omega)]
   refine forkW_beq.2 ⟨fun hz=>?_,fun hz=>?_⟩
   ·have hz:numOf p=0:=by omega
    refine cutW_self.2 ⟨s.D.length - (i+1),by omega,rfl,i+1,sv,v,Fn,F,X,rfl,by omega,rfl,hn,?_,ho,hF,hR,hgr.more (by omega),by omega⟩
    rw [eseg,if_pos hz,List.append_nil];exact hX
   have hz:numOf p≠0:=by omega
   have hdk:Dk A' d mp s:=h.keeps hgr.keeps (by simp) (by simp)
   refine wc12 (n:=⟨⟨p⟩⟩) hdk hgr.fine (by omega) fun A2 k2 n2 f2=>?_
   have ers:readS s p=(fl.1,0):=by unfold readS;rw [hd,hlook];rfl
   have ers':readS s (⟨⟨p⟩⟩:ByteArray).data.toList=(fl.1,0):=ers
   rw [ers']
   simp only [exL_two0,exL_two1,pureW_some,bin_neq]
   refine forkW_bne.2 ⟨fun he=>by simp at he,fun _=>?_⟩
   simp only [ba90,pureW_some]
   refine allocP_made zG f2 (by omega) rfl fun A3 m3=>?_
   have n3:=m3.next
   refine m3.row1.store m3.fine (by omega) (st_90 _ _ _) rfl (by show 0+4≤4;omega) rfl fun A4 r4 k4 n4 f4=>?_
   have r4:Go.Abs.Row1 A4 A2.next [.int .i64 (numOf p:Int),.slice none 0 0,.int .i64 0,.int .u8 0] 90:=r4
   have le2:=k2.next
   have g4:Grow A' A4 4:=⟨(k2.trans (m3.keeps f2) (by simp)).trans k4 (fun x hx=>.inr (by have:=List.mem_singleton.1 hx;omega)),f4,by omega⟩
   have hfl':(⟨⟨fl.1⟩⟩:ByteArray).data.toList.length≤L:=hfl
   refine wc89 (s:=⟨⟨fl.1⟩⟩) ((hg.keeps hgr.keeps (by simp)).keeps g4.keeps (by simp)) f4 (by omega) (by omega) fun A5 v5 R F5 hR5 hR5l o5 hF5 g5=>?_
   have n5:=g5.next
   have le4:=g4.le
   have le5:=g5.le
   have r5:=r4.keeps g5.keeps (by simp)
   have rd5:=o5.rd etR.len
   obtain ⟨oo,cc,hv5⟩:=rd5.slice
   simp only [show ∀ a b c,extractP (.tuple ⟨[a,b,c]⟩) 0=some a from fun _ _ _=>rfl,show ∀ a b c,extractP (.tuple ⟨[a,b,c]⟩) 1=some b from fun _ _ _=>rfl,show ∀ a b c,extractP (.tuple ⟨[a,b,c]⟩) 2=some c from fun _ _ _=>rfl,pureW_some,fa_90_1,fa_90_2,fa_90_3,Nat.zero_add]
   refine r5.store g5.fine (by omega) (st_22 _ _ _) (by rw [hv5];rfl) (by show 1+1≤4;omega) (by rw [hv5];rfl) fun A6 r6 k6 n6 f6=>?_
   have r6:Go.Abs.Row1 A6 A2.next [.int .i64 (numOf p:Int),v5,.int .i64 0,.int .u8 0] 90:=by rw [hv5] at r6 ⊢;exact r6
   have k6:Keeps A5 A6 [A2.next]:=k6
   refine r6.store f6 (by omega) (st_3 _ _ _) rfl (by show 2+1≤4;omega) rfl fun A7 r7 k7 n7 f7=>?_
   have r7:Go.Abs.Row1 A7 A2.next [.int .i64 (numOf p:Int),v5,.int .i64 ((scan (⟨⟨fl.1⟩⟩:ByteArray).data.toList).2.1:Nat),.int .u8 0] 90:=r7
   have k7:Keeps A6 A7 [A2.next]:=k7
   refine r7.store f7 (by omega) (st_88 _ _ _) rfl (by show 3+1≤4;omega) rfl fun A8 r8 k8 n8 f8=>?_
   have r8:Go.Abs.Row1 A8 A2.next [.int .i64 (numOf p:Int),v5,.int .i64 ((scan (⟨⟨fl.1⟩⟩:ByteArray).data.toList).2.1:Nat),.int .u8 ((scan (⟨⟨fl.1⟩⟩:ByteArray).data.toList).2.2:Nat)] 90:=r8
   have k8:Keeps A7 A8 [A2.next]:=k8
   have k58:Keeps A5 A8 [A2.next]:=(k6.trans k7 (by simp)).trans k8 (by simp)
   let x:SV:=⟨numOf p,oo,R.length,cc,(scan fl.1).2.1,(scan fl.1).2.2⟩
   have efx:[.int .i64 (numOf p:Int),v5,.int .i64 ((scan (⟨⟨fl.1⟩⟩:ByteArray).data.toList).2.1:Nat),.int .u8 ((scan (⟨⟨fl.1⟩⟩:ByteArray).data.toList).2.2:Nat)]=fG x:=by rw [hv5];rfl
   rw [efx] at r8
   have hcells:A8.cells? ⟨A2.next,0,none⟩ 4=some (fG x):=by
    rw [cells_row r8.row];rfl
   rw [ld_90,hcells]
   simp only [pureW_some]
   refine bs77' f8 (by omega) fun A9 m9=>?_
   have n9:=m9.next
   have k9:=m9.keeps f8
   have K49:Keeps A' A9 []:=((g4.keeps.trans g5.keeps (by simp)).trans k58 (fun y hy=>.inr (by have:=List.mem_singleton.1 hy;omega))).trans k9 (by simp)
   have ho9:=ho.keeps K49 (by simp)
   refine OwnE.append etG ho9 m9.row1 m9.fine (by omega) (by rw [List.length_map];omega) fun v10 A10 F10 o10 k10 hF10 n10 f10=>?_
   have hFlt:=ho.lt
   refine cutW_self.2 ⟨s.D.length - (i+1),by omega,rfl,i+1,sv,v10,Fn,F10,X++[(x,R)],rfl,by omega,rfl,?_,?_,?_,?_,?_,?_,?_⟩
   ·exact (hn.keeps K49 (by simp)).keeps k10 fun y hy hm=>(hF y hm).2 hy
   ·rw [eseg,if_neg hz,List.map_append,hX]
    congr 1
    show [toSeg (x,R)]=[segOf (numOf p) fl.1]
    unfold toSeg segOf
    have:(scan fl.1).1=R.map toR:=hR5
    rw [this]
   ·rw [List.map_append];exact o10
   ·intro y hy
    rcases hF10 y hy with h | h
    ·exact hF y h
    ·have:=K49.next
     exact ⟨by omega,fun hm=>by have:=hn.fam y hm;omega⟩
   ·intro z hz'
    rcases List.mem_append.1 hz' with hz' | hz'
    ·obtain ⟨G,g1,g2⟩:=hR z hz'
     refine ⟨G,(g1.keeps K49 (by simp)).keeps k10 fun y hy hm=>(g2 y hy).2 hm,fun y hy=>⟨(g2 y hy).1,fun hm=>?_⟩⟩
     rcases hF10 y hm with h | h
     ·exact (g2 y hy).2 h
     ·have:=g1.fam y hy;have:=K49.next;omega
    ·obtain rfl:=List.mem_singleton.1 hz'
     have e1:Value.slice x.o x.len x.cap=v5:=hv5.symm
     have hlt5:=rd5.fam
     refine ⟨F5,?_,fun y hy=>⟨by have:=hF5 y hy;omega,fun hm=>?_⟩⟩
     ·show RdE 1 fR A10 (.slice x.o x.len x.cap) R F5
      rw [e1]
      exact ((rd5.keeps k58 fun y hy=>by have:=hF5 y hy;simp;omega).keeps k9 (by simp)).keeps k10 fun y hy hm=>by have:=hF5 y hy;have:=hFlt y hm;omega
     ·have h5:=hF5 y hy
      have h6:=hlt5 y hy
      rcases hF10 y hm with h | h
      ·have:=hFlt y h;omega
      ·have:=k58.next;omega
   ·have g9:Grow A' A9 (L+29):=⟨K49,m9.fine,by omega⟩
    have:=(hgr.trans g9).own k10 (fun y hy=>(hF y hy).1) (m:=1) (by omega) f10
    exact this.more (by omega)
   ·rw [List.length_append];simp;omega
  ·have hi':i=s.D.length:=by omega
   subst hi'
   rw [List.take_of_length_le (by omega)] at hX
   exact hk A' v F X hX ho (fun y hy=>(hF y hy).1) (fun x hx=>by obtain ⟨G,g1,g2⟩:=hR x hx;exact ⟨G,g1,fun y hy=>(g2 y hy).1⟩) (hgr.more (by omega))
 ·rw [e36]
  refine wc11 h hf (by omega) (by omega) fun A1 sv Fn h1 hFn k1 n1 f1=>?_
  have hrd:=names_rd h1
  rw [esS.lenR hrd,hnl]
  simp only [pureW_some]
  exact cutW_self.2 ⟨s.D.length,rfl,0,sv,_,Fn,[],[],rfl,by omega,rfl,hrd,rfl,OwnE.nil _,by simp,by simp,⟨k1,f1,by omega⟩,by simp⟩
end
theorem lastB_snoc (x:Seg):∀ l:List Seg,lastB (l++[x])=if begins x=true then some l.length else lastB l
 | []=>by
  show (match lastB [] with | some i=>some (i+1) | none=>if begins x=true then some 0 else none)=_
  rfl
 | y::l=>by
  rw [List.cons_append]
  unfold lastB
  rw [lastB_snoc x l]
  by_cases h:begins x=true
  ·simp [h]
  ·simp [h]
def okC (i:Nat) (c:Rec × Nat):Bool:=!(c.1.1==0) || decide (i+c.2=0)
theorem okSeg_eq (n0 len i:Nat) (x:Seg):okSeg n0 len i x=(decide (x.n=n0+i)&&((decide (i+1=len) || decide (x.st=0))&&(decide (x.st≠2)&&x.l.zipIdx.all (okC i)))):=rfl
theorem all_zip {α:Type} (l:List α) (p:α × Nat→Bool):l.zipIdx.all p=true↔∀ (i:Nat) (x:α),l[i]? =some x→p (x,i)=true:=by
 rw [List.all_eq_true]
 constructor
 ·intro h i x hx
  exact h (x,i) (List.mem_zipIdx_iff_getElem?.2 hx)
 ·rintro h ⟨x,i⟩ hm
  exact h i x (List.mem_zipIdx_iff_getElem?.1 hm)
theorem all_zip_not {α:Type} {l:List α} {p:α × Nat→Bool} {i:Nat} {x:α} (hx:l[i]? =some x) (h:p (x,i)=false):l.zipIdx.all p=false:=by
 cases hc:l.zipIdx.all p with
 | false=>rfl
 | true=>rw [(all_zip l p).1 hc i x hx] at h;cases h
section
variable {W0:World} {m0:Inj Tp}
theorem wc90 {A:AW} {x:SR} {lo:Nat} {K:Value→AW→Prop} (h:SegV A lo x) (hf:Fine A) (hA:A.next < maxId) (hk:∀ A',Grow A A' 1→K (.bool (begins (toSeg x))) A'):Wc Tp theX W0 m0 90 [.agg ⟨fG x.1⟩] A K:=by
 obtain ⟨F,h1,h2⟩:=h
 refine w90 _ _ (cuts_none (S:=fun _ _ _=>False) fun _ _ _ h=>h) ?_
 rw [e90]
 refine newP_made (cs:=fG x.1) hf hA rfl fun A1 m1=>?_
 have r1:Go.Abs.Row1 A1 A.next [.int .i64 (x.1.n:Int),.slice x.1.o x.1.len x.1.cap,.int .i64 (x.1.size:Int),.int .u8 (x.1.st:Int)] 90:=m1.row1
 have h1':=h1.keeps (m1.keeps hf) (by simp)
 have hlen:=h1'.len etR (B:=A1)
 simp only [fa_90_1,ld_22,Nat.zero_add,cell_row r1.row,cellOf,isT_slice,isT_int,cond_false,pureW_some,hlen,bin_gtr,forkW_dec]
 have hlx:(toSeg x).l=x.2.map toR:=rfl
 refine ⟨fun hp=>?_,fun hp=>?_⟩
 ·obtain ⟨p,hp0⟩:∃ p,x.2[0]? =some p:=⟨_,List.getElem?_eq_getElem (by omega)⟩
  obtain ⟨r,o,a1,a2,a3⟩:=h1'.at etR hp0
  have a1':indexAddrA Tp 22 (.slice x.1.o x.1.len x.1.cap) (.int .i64 0)=some (.pointer (some ⟨r,o,none⟩)):=a1
  have hc:A1.cell? ⟨r,o,none⟩=some (.int .u8 (p.1.toNat:Int)):=cell_of a2 (k:=0) rfl
  simp only [a1',pureW_some,fa_35_0,ld_5,hc,bin_eql]
  have hb:((p.1.toNat:Int)==0)=begins (toSeg x):=by
   unfold begins
   rw [hlx]
   cases hx2:x.2 with
   | nil=>rw [hx2] at hp0;cases hp0
   | cons q r=>
    rw [hx2] at hp0
    obtain rfl:q=p:=by simpa using hp0
    show ((q.1.toNat:Int)==0)=(q.1==0)
    rw [Bool.eq_iff_iff,beq_iff_eq,beq_iff_eq]
    constructor
    ·intro h;exact UInt8.toNat_inj.1 (by show q.1.toNat=0;omega)
    ·intro h;rw [h];rfl
  rw [hb]
  exact hk A1 (.made m1 hf)
 ·have hx2:x.2=[]:=by
   cases hx2:x.2 with
   | nil=>rfl
   | cons q r=>rw [hx2] at hp;simp at hp
  have hb:begins (toSeg x)=false:=by unfold begins;rw [hlx,hx2];rfl
  rw [hb] at hk
  exact hk A1 (.made m1 hf)
theorem sl77_0 (A:AW):sliceA Tp A 77 (.slice none 0 0) (some (.int .i64 0)) none none=some (.slice none 0 0):=by kernel_rfl
theorem sl77_t (A:AW):sliceA Tp A 77 (.slice none 0 0) none (some (.int .i64 0)) none=some (.slice none 0 0):=by kernel_rfl
theorem wc37 {A:AW} {v:Value} {X:List SR} {F:List Nat} {lo M:Nat} {K:Value→AW→Prop} (h:OwnE 90 3 fG A v (X.map (·.1)) F) (hX:∀ x∈X,SegV A lo x) (hf:Fine A) (hXl:X.length < 10000) (hM:∀ x∈X,x.2.length≤M) (hM2:M < 900000) (hn:∀ x∈X,x.1.n < 100000000) (hst:∀ x∈X,x.1.st < 256)
  (hA:A.next+10000 * (M+10) < maxId)
  (hk0:rowS (X.map toSeg)=none→∀ A',Grow A A' (X.length * (M+2))→K (.tuple ⟨[.slice none 0 0,.int .i64 0,.bool false]⟩) A')
  (hk1:∀ f,rowS (X.map toSeg)=some ((X.drop f).map toSeg,f)→f≤X.length→∀ A' v' F',Grow A A' (X.length * (M+2))→RdE 3 fG A' v' ((X.drop f).map (·.1)) F'→(∀ y∈F',y∈F)→K (.tuple ⟨[v',.int .i64 (f:Int),.bool true]⟩) A'):
  Wc Tp theX W0 m0 37 [v] A K:=by
 have hroom:room=68719476736:=rfl
 have hXm:(X.map toSeg).length=X.length:=List.length_map _
 have hbud:X.length * (M+2)≤10000 * (M+2):=Nat.mul_le_mul_right _ (by omega)
 let n0:Nat→Nat:=fun f=>((((X.drop f).map toSeg).head?).map (·.n)).getD 0
 let I:Nat→Nat→List Value→AW→Prop:=fun g id vals A'=>
  (id=0∧∃ f1:Nat,vals=[v,.int .i64 ((f1:Int) - 1)]∧f1≤X.length∧g=f1+X.length * (M+2)+1∧lastB (X.map toSeg)=lastB ((X.map toSeg).take f1)∧Grow A A' (X.length - f1))∨
  (id=2∧∃ (f i:Nat) (v':Value) (F':List Nat),vals=[.int .i64 (f:Int),v',v',.int .i64 ((X.length - f:Nat):Int),.int .i64 (i:Int)]∧i≤X.length - f∧g=(X.length - f - i) * (M+2)∧lastB (X.map toSeg)=some f∧f < X.length∧RdE 3 fG A' v' ((X.drop f).map (·.1)) F'∧(∀ y∈F',y∈F)∧
   (∀ j x,j < i→(X.drop f)[j]? =some x→okSeg (n0 f) (X.length - f) j (toSeg x)=true)∧Grow A A' (X.length+i * (M+1)))∨
  (id=4∧∃ (f i k:Nat) (v':Value) (F':List Nat) (x:SR),vals=[.int .i64 (f:Int),v',.int .i64 (i:Int),v',.int .i64 ((X.length - f:Nat):Int),.int .i64 (i:Int),.slice x.1.o x.1.len x.1.cap,.int .i64 (x.2.length:Int),.int .i64 (k:Int)]∧i < X.length - f∧k≤x.2.length∧
   g=(X.length - f - (i+1)) * (M+2)+(x.2.length - k)+1∧lastB (X.map toSeg)=some f∧f < X.length∧RdE 3 fG A' v' ((X.drop f).map (·.1)) F'∧(∀ y∈F',y∈F)∧(X.drop f)[i]? =some x∧
   (∀ j x,j < i→(X.drop f)[j]? =some x→okSeg (n0 f) (X.length - f) j (toSeg x)=true)∧((decide (x.1.n=n0 f+i)&&((decide (i+1=X.length - f) || decide (x.1.st=0))&&decide (x.1.st≠2)))=true)∧
   (∀ m c,m < k→x.2[m]? =some c→okC i (toR c,m)=true)∧Grow A A' (X.length+i * (M+1)+1+k))
 have hdrop:∀ f,(X.map toSeg).drop f=(X.drop f).map toSeg:=fun f=>by rw [List.map_drop]
 have hlen':∀ f,((X.drop f).map toSeg).length=X.length - f:=fun f=>by rw [List.length_map,List.length_drop]
 have hbad:∀ (f i:Nat) (x:SR) (A':AW) (n:Nat),lastB (X.map toSeg)=some f→(X.drop f)[i]? =some x→okSeg (n0 f) (X.length - f) i (toSeg x)=false→Grow A A' n→n≤X.length * (M+2)→K (.tuple ⟨[.slice none 0 0,.int .i64 0,.bool false]⟩) A':=by
  intro f i x A' n hlb hx ho hg hnn
  refine hk0 ?_ A' (hg.more hnn)
  unfold rowS
  rw [hlb]
  simp only [hdrop]
  have:okRow ((X.drop f).map toSeg)=false:=all_zip_not (i:=i) (x:=toSeg x) (by rw [List.getElem?_map,hx];rfl) (by rw [hlen'];exact ho)
  rw [if_neg (by rw [this];simp)]
 have hgood:∀ (f:Nat) (A':AW) (v':Value) (F':List Nat) (n:Nat),lastB (X.map toSeg)=some f→f < X.length→(∀ j x,j < X.length - f→(X.drop f)[j]? =some x→okSeg (n0 f) (X.length - f) j (toSeg x)=true)→RdE 3 fG A' v' ((X.drop f).map (·.1)) F'→(∀ y∈F',y∈F)→Grow A A' n→n≤X.length * (M+2)→
   K (.tuple ⟨[v',.int .i64 (f:Int),.bool true]⟩) A':=by
  intro f A' v' F' n hlb hfl ho hrd hF' hg hnn
  refine hk1 f ?_ (by omega) A' v' F' (hg.more hnn) hrd hF'
  unfold rowS
  rw [hlb]
  simp only [hdrop]
  have:okRow ((X.drop f).map toSeg)=true:=by
   refine (all_zip _ _).2 fun i x hx=>?_
   rw [List.getElem?_map] at hx
   cases hq:(X.drop f)[i]? with
   | none=>rw [hq] at hx;cases hx
   | some y=>
    rw [hq] at hx
    obtain rfl:toSeg y=x:=by simpa using hx
    rw [hlen']
    refine ho i y ?_ hq
    have:=(List.getElem?_eq_some_iff.1 hq).1
    rw [List.length_drop] at this
    exact this
  rw [if_pos this]
 have hrow:∀ (f:Nat) (A':AW) (n:Nat) (Q:Value→AW→Prop),lastB (X.map toSeg)=some f→f < X.length→Grow A A' n→n≤X.length→
   pureW (sliceA Tp A' 77 v (some (.int .i64 (f:Int))) none none) fun t9=>pureW (lenA Tp A' 77 t9) fun t10=>∃ g',g' < f+1+X.length * (M+2)+1∧I g' 2 [.int .i64 (f:Int),t9,t9,t10,.int .i64 0] A':=by
  intro f A' n Q hlb hfl hg hnn
  obtain ⟨v',F',h1,h2,h3⟩:=(h.keeps hg.keeps (by simp)).from etG (i:=f) (by rw [List.length_map];omega) (sl77_0 A')
  rw [h1]
  rw [← List.map_drop] at h2
  have hl2:=h2.len etG (B:=A')
  rw [List.length_map,List.length_drop] at hl2
  simp only [pureW_some,hl2]
  have hb2:(X.length - f) * (M+2)≤X.length * (M+2):=Nat.mul_le_mul_right _ (by omega)
  exact ⟨(X.length - f) * (M+2),by omega,.inr (.inl ⟨rfl,f,0,v',F',rfl,by omega,rfl,hlb,hfl,h2,h3,by omega,hg.more (by omega)⟩)⟩
 refine w37 _ _ (c37 (I:=I) ?_) ?_
 ·rintro g id vals A' d (⟨rfl,f1,rfl,hf1,rfl,hlb,hgr⟩ | ⟨rfl,f,i,v',F',rfl,hi,rfl,hlb,hfl,hrd,hF',hok,hgr⟩ | ⟨rfl,f,i,k,v',F',x,rfl,hi,hkk,rfl,hlb,hfl,hrd,hF',hx,hok,hcond,hck,hgr⟩) hd'
  ·rw [l37_0]
   simp only [L37,List.map_cons,List.map_nil,List.cons.injEq,and_true] at hd'
   obtain ⟨h0,h5⟩:=hd'
   have hnx:=hgr.next
   have hle:=hgr.le
   simp only [h0,h5,bin_geq,bin_lss,pureW_some,forkW_dec]
   refine ⟨fun hge=>?_,fun hlt=>?_⟩
   ·obtain ⟨f0,rfl⟩:∃ f0,f1=f0+1:=⟨f1 - 1,by omega⟩
    have ef:((f0+1:Nat):Int) - 1=(f0:Int):=by omega
    rw [ef]
    obtain ⟨x,hx⟩:∃ x,X[f0]? =some x:=⟨_,List.getElem?_eq_getElem (by omega)⟩
    have hx1:(X.map (·.1))[f0]? =some x.1:=by rw [List.getElem?_map,hx];rfl
    obtain ⟨r,o,a1,a2,a3⟩:=((h.keeps hgr.keeps (by simp)).rd etG.len).at etG hx1
    rw [a1]
    simp only [pureW_some,a3]
    refine wc90 (lo:=lo) ((hX x (List.mem_of_getElem? hx)).keeps hgr.keeps (by simp)) hgr.fine (by omega) fun A2 g2=>?_
    have hsn:(X.map toSeg).take (f0+1)=(X.map toSeg).take f0++[toSeg x]:=take_snoc' (by rw [List.getElem?_map,hx];rfl)
    rw [hsn,lastB_snoc,List.length_take,hXm,Nat.min_eq_left (by omega)] at hlb
    simp only [un_not,pureW_some]
    refine forkW_bool.2 ⟨fun hb=>?_,fun hb=>?_⟩
    ·have hb:begins (toSeg x)=false:=by simpa using hb
     rw [if_neg (by rw [hb];simp)] at hlb
     rw [bin_sub,wrap_i64 (by omega) (by omega)]
     simp only [pureW_some]
     exact cutW_self.2 ⟨f0+X.length * (M+2)+1,by omega,.inl ⟨rfl,f0,rfl,by omega,rfl,hlb,(hgr.trans g2).more (by omega)⟩⟩
    ·have hb:begins (toSeg x)=true:=by simpa using hb
     rw [if_pos hb] at hlb
     refine ⟨fun h=>by omega,fun _=>?_⟩
     simp only [cutW_self]
     exact hrow f0 A2 _ K hlb (by omega) (hgr.trans g2) (by omega)
   ·have hf0:f1=0:=by omega
    subst hf0
    refine ⟨fun _=>?_,fun h=>by omega⟩
    have hlb:lastB (X.map toSeg)=none:=hlb
    rw [((h.keeps hgr.keeps (by simp)).rd etG.len).len etG (B:=A'),List.length_map]
    simp only [pureW_some,bin_eql]
    by_cases h0:X=[]
    ·subst h0
     exact hk1 0 rfl (Nat.le_refl _) A' _ [] (hgr.more (by simp)) (.nil _ _ _) (by simp)
    ·have hne:((X.length:Int)==0)=false:=by
      have:0 < X.length:=List.length_pos_iff.2 h0
      simp;exact h0
     rw [hne]
     refine hk0 ?_ A' (hgr.more (Nat.le_trans (by omega) (Nat.le_mul_of_pos_right _ (by omega))))
     unfold rowS
     rw [hlb]
     simp [h0]
  ·rw [l37_2]
   simp only [L37,List.map_cons,List.map_nil,List.cons.injEq,and_true] at hd'
   obtain ⟨h5,h6,h35,h36,h37⟩:=hd'
   have hnx:=hgr.next
   have hle:=hgr.le
   simp only [h5,h6,h35,h36,h37,bin_lss,pureW_some,forkW_dec]
   have hb1:X.length * (M+2)=X.length * (M+1)+X.length:=by rw [show M+2=(M+1)+1 from rfl,Nat.mul_succ]
   have hb2:i * (M+1)≤X.length * (M+1):=Nat.mul_le_mul_right _ (by omega)
   refine ⟨fun hlt=>?_,fun hge=>?_⟩
   ·have hlt:i < X.length - f:=by omega
    have hb3:(i+1) * (M+1)≤X.length * (M+1):=Nat.mul_le_mul_right _ (by omega)
    have hb4:(i+1) * (M+1)=i * (M+1)+(M+1):=Nat.succ_mul _ _
    obtain ⟨x,hx⟩:∃ x,(X.drop f)[i]? =some x:=⟨_,List.getElem?_eq_getElem (by rw [List.length_drop];omega)⟩
    have hxm:x∈X:=List.mem_of_mem_drop (List.mem_of_getElem? hx)
    have hx1:((X.drop f).map (·.1))[i]? =some x.1:=by rw [List.getElem?_map,hx];rfl
    obtain ⟨r,o,a1,a2,a3⟩:=hrd.at etG hx1
    obtain ⟨x0,hx0⟩:∃ x,(X.drop f)[0]? =some x:=⟨_,List.getElem?_eq_getElem (by rw [List.length_drop];omega)⟩
    have hx0m:x0∈X:=List.mem_of_mem_drop (List.mem_of_getElem? hx0)
    have hx01:((X.drop f).map (·.1))[0]? =some x0.1:=by rw [List.getElem?_map,hx0];rfl
    have hn0:n0 f=x0.1.n:=by
     show ((((X.drop f).map toSeg).head?).map (·.n)).getD 0=_
     rw [List.head?_map,List.head?_eq_getElem?,hx0];rfl
    rw [a1]
    simp only [pureW_some,a3]
    refine allocP_made zG hgr.fine (by omega) rfl fun A3 m3=>?_
    have n3:=m3.next
    refine m3.row1.store m3.fine (by omega) (st_90 _ _ _) rfl (by show 0+4≤4;omega) rfl fun A4 r4 k4 n4 f4=>?_
    have r4:Go.Abs.Row1 A4 A'.next [.int .i64 (x.1.n:Int),.slice x.1.o x.1.len x.1.cap,.int .i64 (x.1.size:Int),.int .u8 (x.1.st:Int)] 90:=r4
    have k4:Keeps A3 A4 [A'.next]:=k4
    have g4:Grow A' A4 1:=(Grow.made m3 hgr.fine).own k4 (by simp) (m:=0) (by omega) f4
    have hrd4:=hrd.keeps g4.keeps (by simp)
    have hl4:=hrd4.len etG (B:=A4)
    rw [List.length_map,List.length_drop] at hl4
    obtain ⟨r0,o0,b1,b2,b3⟩:=hrd4.at etG hx01
    have b1':indexAddrA Tp 77 v' (.int .i64 0)=some (.pointer (some ⟨r0,o0,none⟩)):=b1
    have hc0:A4.cell? ⟨r0,o0,none⟩=some (.int .i64 (x0.1.n:Int)):=cell_of b2 (k:=0) rfl
    have hnx0:=hn x0 hx0m
    have hnx1:=hn x hxm
    simp only [hl4,pureW_some,bin_sub,bin_eql,fa_90_0,fa_90_1,fa_90_3,Nat.zero_add,ld_3,ld_22,ld_88,cell_row r4.row,cellOf,isT_int,isT_slice,cond_false,b1',hc0,bin_add,bin_neq,un_not]
    rw [wrap_i64 (by omega) (by omega),wrap_i64 (by omega) (by omega)]
    have bad:okSeg (n0 f) (X.length - f) i (toSeg x)=false→K (.tuple ⟨[.slice none 0 0,.int .i64 0,.bool false]⟩) A4:=fun ho=>hbad f i x A4 _ hlb hx ho (hgr.trans g4) (by omega)
    have eseg:okSeg (n0 f) (X.length - f) i (toSeg x)=(decide (x.1.n=n0 f+i)&&((decide (i+1=X.length - f) || decide (x.1.st=0))&&(decide (x.1.st≠2)&&(x.2.map toR).zipIdx.all (okC i)))):=rfl
    refine forkW_bne.2 ⟨fun hne=>bad ?_,fun heq=>?_⟩
    ·rw [eseg,decide_eq_false (by omega),Bool.false_and]
    have heq:x.1.n=n0 f+i:=by omega
    have go:(decide (i+1=X.length - f) || decide (x.1.st=0))=true→x.1.st≠2→∃ g',g' < (X.length - f - i) * (M+2)∧I g' 4 [.int .i64 (f:Int),v',.int .i64 (i:Int),v',.int .i64 ((X.length - f:Nat):Int),.int .i64 (i:Int),.slice x.1.o x.1.len x.1.cap,.int .i64 (x.1.len:Int),.int .i64 0] A4:=by
     intro h1 h2
     obtain ⟨G,hG1,hG2⟩:=hX x hxm
     have hlx:x.1.len=x.2.length:=by
      obtain ⟨o',c',hs⟩:=hG1.slice
      simp only [Value.slice.injEq] at hs
      exact hs.2.1
     rw [hlx]
     have hMx:=hM x hxm
     have e1:(X.length - f - i) * (M+2)=(X.length - f - (i+1)) * (M+2)+(M+2):=by rw [← Nat.succ_mul];congr 1;omega
     refine ⟨(X.length - f - (i+1)) * (M+2)+(x.2.length - 0)+1,by omega,.inr (.inr ⟨rfl,f,i,0,v',F',x,(by rw [hlx];rfl),hlt,by omega,rfl,hlb,hfl,hrd4,hF',hx,hok,?_,by omega,(hgr.trans g4).more (by omega)⟩)⟩
     rw [decide_eq_true heq,h1,decide_eq_true h2];rfl
    have hs2:∀ (hor:(decide (i+1=X.length - f) || decide (x.1.st=0))=true),forkW (.bool ((x.1.st:Int)==2)) (K (.tuple ⟨[.slice none 0 0,.int .i64 0,.bool false]⟩) A4) (pureW (lenA Tp A4 22 (.slice x.1.o x.1.len x.1.cap)) fun t24=>cutW (T37 4) (T37 4) (∃ g',g' < (X.length - f - i) * (M+2)∧I g' 4 [.int .i64 (f:Int),v',.int .i64 (i:Int),v',.int .i64 ((X.length - f:Nat):Int),.int .i64 (i:Int),.slice x.1.o x.1.len x.1.cap,t24,.int .i64 0] A4)):=by
     intro hor
     refine forkW_beq.2 ⟨fun h2=>bad ?_,fun h2=>?_⟩
     ·rw [eseg,decide_eq_false (show ¬ x.1.st≠2 by omega),Bool.false_and,Bool.and_false,Bool.and_false]
     ·rw [ln_22]
      simp only [pureW_some]
      exact cutW_self.2 (go hor (by omega))
    refine forkW_bool.2 ⟨fun hl=>?_,fun hl=>?_⟩
    ·have hl:i+1≠X.length - f:=by
      intro h0
      have:((i:Int)==((X.length - f:Nat):Int) - 1)=true:=by rw [beq_iff_eq];omega
      rw [this] at hl;simp at hl
     refine forkW_bne.2 ⟨fun h0=>bad ?_,fun h0=>?_⟩
     ·rw [eseg,decide_eq_false hl,decide_eq_false (show ¬ x.1.st=0 by omega),Bool.or_self,Bool.false_and,Bool.and_false]
     ·exact hs2 (by rw [decide_eq_true (show x.1.st=0 by omega),Bool.or_true])
    ·have hl:i+1=X.length - f:=by
      have:((i:Int)==((X.length - f:Nat):Int) - 1)=true:=by simpa using hl
      rw [beq_iff_eq] at this
      omega
     exact hs2 (by rw [decide_eq_true hl,Bool.true_or])
   ·have hi':i=X.length - f:=by omega
    subst hi'
    exact hgood f A' v' F' _ hlb hfl hok hrd hF' hgr (by omega)
  ·rw [l37_4]
   simp only [L37,List.map_cons,List.map_nil,List.cons.injEq,and_true] at hd'
   obtain ⟨h5,h6,h7,h35,h36,h37,h71,h72,h73⟩:=hd'
   have hnx:=hgr.next
   have hle:=hgr.le
   have hxm:x∈X:=List.mem_of_mem_drop (List.mem_of_getElem? hx)
   have hMx:=hM x hxm
   have hb1:X.length * (M+2)=X.length * (M+1)+X.length:=by rw [show M+2=(M+1)+1 from rfl,Nat.mul_succ]
   have hb3:(i+1) * (M+1)≤X.length * (M+1):=Nat.mul_le_mul_right _ (by omega)
   have hb4:(i+1) * (M+1)=i * (M+1)+(M+1):=Nat.succ_mul _ _
   have eseg:okSeg (n0 f) (X.length - f) i (toSeg x)=(decide (x.1.n=n0 f+i)&&((decide (i+1=X.length - f) || decide (x.1.st=0))&&(decide (x.1.st≠2)&&(x.2.map toR).zipIdx.all (okC i)))):=rfl
   simp only [h5,h6,h7,h35,h36,h37,h71,h72,h73,bin_lss,pureW_some,forkW_dec]
   refine ⟨fun hlt=>?_,fun hge=>?_⟩
   ·have hlt:k < x.2.length:=by omega
    obtain ⟨c,hc⟩:∃ c,x.2[k]? =some c:=⟨_,List.getElem?_eq_getElem hlt⟩
    obtain ⟨G,hG1,hG2⟩:=(hX x hxm).keeps hgr.keeps (by simp)
    obtain ⟨r,o,a1,a2,a3⟩:=hG1.at etR hc
    rw [a1]
    simp only [pureW_some,a3]
    refine allocP_made zR hgr.fine (by omega) rfl fun A3 m3=>?_
    have n3:=m3.next
    refine m3.row1.store m3.fine (by omega) (st_35 _ _ _) rfl (by show 0+2≤2;omega) rfl fun A4 r4 k4 n4 f4=>?_
    have r4:Go.Abs.Row1 A4 A'.next [.int .u8 c.1.toNat,.string c.2] 35:=r4
    have k4:Keeps A3 A4 [A'.next]:=k4
    have g4:Grow A' A4 1:=(Grow.made m3 hgr.fine).own k4 (by simp) (m:=0) (by omega) f4
    have hcl:(x.2.map toR)[k]? =some (toR c):=by rw [List.getElem?_map,hc];rfl
    have next:okC i (toR c,k)=true→∃ g',g' < (X.length - f - (i+1)) * (M+2)+(x.2.length - k)+1∧I g' 4 [.int .i64 (f:Int),v',.int .i64 (i:Int),v',.int .i64 ((X.length - f:Nat):Int),.int .i64 (i:Int),.slice x.1.o x.1.len x.1.cap,.int .i64 (x.2.length:Int),.int .i64 ((k:Int)+1)] A4:=by
     intro ho
     refine ⟨(X.length - f - (i+1)) * (M+2)+(x.2.length - (k+1))+1,by omega,.inr (.inr ⟨rfl,f,i,k+1,v',F',x,rfl,hi,by omega,rfl,hlb,hfl,hrd.keeps g4.keeps (by simp),hF',hx,hok,hcond,fun m c' hm hc'=>?_,(hgr.trans g4).more (by omega)⟩)⟩
     by_cases hmk:m < k
     ·exact hck m c' hmk hc'
     ·obtain rfl:m=k:=by omega
      rw [hc] at hc'
      obtain rfl:c=c':=by simpa using hc'
      exact ho
    simp only [fa_35_0,ld_5,cell_row r4.row,cellOf,isT_int,cond_false,pureW_some,bin_eql,bin_add,bin_gtr]
    rw [wrap_i64 (n:=(i:Int)+(k:Int)) (by omega) (by omega),wrap_i64 (n:=(k:Int)+1) (by omega) (by omega)]
    refine forkW_beq.2 ⟨fun hz=>?_,fun hz=>?_⟩
    ·have hz0:((toR c).1==0)=true:=by
      rw [beq_iff_eq]
      exact UInt8.toNat_inj.1 (by show c.1.toNat=0;omega)
     simp only [forkW_dec]
     refine ⟨fun hp=>?_,fun hp=>?_⟩
     ·refine hbad f i x A4 _ hlb hx ?_ (hgr.trans g4) (by omega)
      have hno:okC i (toR c,k)=false:=by
       unfold okC
       simp only [hz0,Bool.not_true,Bool.false_or]
       exact decide_eq_false (by omega)
      rw [eseg,all_zip_not hcl hno,Bool.and_false,Bool.and_false,Bool.and_false]
     ·refine cutW_self.2 (next ?_)
      unfold okC
      simp only [hz0,Bool.not_true,Bool.false_or]
      exact decide_eq_true (by omega)
    ·refine cutW_self.2 (next ?_)
     have hz0:((toR c).1==0)=false:=by
      rw [beq_eq_false_iff_ne]
      intro h0
      have:c.1=0:=h0
      rw [this] at hz;exact hz rfl
     unfold okC
     simp only [hz0,Bool.not_false,Bool.true_or]
   ·have hk':k=x.2.length:=by omega
    subst hk'
    rw [bin_add,wrap_i64 (by omega) (by omega)]
    simp only [pureW_some]
    have e1:(X.length - f - (i+1)) * (M+2) < (X.length - f - (i+1)) * (M+2)+(x.2.length - x.2.length)+1:=by omega
    refine cutW_self.2 ⟨(X.length - f - (i+1)) * (M+2),e1,.inr (.inl ⟨rfl,f,i+1,v',F',rfl,by omega,rfl,hlb,hfl,hrd,hF',fun j y hj hy=>?_,hgr.more (by omega)⟩)⟩
    by_cases hji:j < i
    ·exact hok j y hji hy
    ·obtain rfl:j=i:=by omega
     rw [hx] at hy
     obtain rfl:x=y:=by simpa using hy
     have hall:(x.2.map toR).zipIdx.all (okC j)=true:=(all_zip _ _).2 fun m c hm=>by
      rw [List.getElem?_map] at hm
      cases hq:x.2[m]? with
      | none=>rw [hq] at hm;cases hm
      | some c'=>
       rw [hq] at hm
       obtain rfl:toR c'=c:=by simpa using hm
       exact hck m c' (List.getElem?_eq_some_iff.1 hq).1 hq
     rw [eseg,hall,Bool.and_true]
     exact hcond
 ·rw [e37]
  rw [(h.rd etG.len).len etG (B:=A),List.length_map]
  simp only [pureW_some,bin_sub]
  rw [wrap_i64 (by omega) (by omega)]
  refine cutW_self.2 ⟨X.length+X.length * (M+2)+1,.inl ⟨rfl,X.length,rfl,Nat.le_refl _,rfl,?_,(Grow.refl hf).more (by omega)⟩⟩
  rw [List.take_of_length_le (by omega)]
end
end Go.Proofs.YtbchfeibhoobeaaGreatDoor
namespace Go.Jr
theorem putF_len (D:Fls) (k:List UInt8) (v:Fil):(putF D k v).length≤D.length+1:=by
 induction D with
 | nil=>simp [putF]
 | cons e r ih=>
  unfold putF
  split
  ·simp
  ·simp;omega
theorem putF_mem {D:Fls} {k:List UInt8} {v:Fil} {e:List UInt8 × Fil} (h:e∈putF D k v):e=(k,v)∨e∈D:=by
 induction D with
 | nil=>left;simpa [putF] using h
 | cons x r ih=>
  unfold putF at h
  split at h
  ·rcases List.mem_cons.1 h with h | h
   ·exact .inl h
   ·exact .inr (List.mem_cons_of_mem _ h)
  ·rcases List.mem_cons.1 h with h | h
   ·exact .inr (by rw [h];exact List.mem_cons_self)
   ·rcases ih h with h | h
    ·exact .inl h
    ·exact .inr (List.mem_cons_of_mem _ h)
theorem delF_len (D:Fls) (k:List UInt8):(delF D k).length≤D.length:=List.length_filter_le _ _
theorem delF_mem {D:Fls} {k:List UInt8} {e:List UInt8 × Fil} (h:e∈delF D k):e∈D:=(List.mem_filter.1 h).1
theorem lookF_mem {D:Fls} {k:List UInt8} {f:Fil} (h:lookF D k=some f):(k,f)∈D:=by
 unfold lookF at h
 cases hq:D.find? fun e=>e.1==k with
 | none=>rw [hq] at h;cases h
 | some e=>
  rw [hq] at h
  have h1:=List.find?_some hq
  have h2:=List.mem_of_find?_eq_some hq
  obtain ⟨a,b⟩:=e
  obtain rfl:a=k:=by simpa using h1
  obtain rfl:b=f:=by simpa using h
  exact h2
structure OkS (k:Nat) (s:DS):Prop where
 few:s.D.length≤k
 len:∀ f∈s.D,f.2.1.length≤1048576
 safe:∀ f∈s.D,f.2.2≤f.2.1.length
 r0:0≤s.room
 r1:s.room < 9223372036854775808
 f1:s.fuse < 9223372036854775808
theorem OkS.more {k n:Nat} {s:DS} (h:OkS k s) (hn:k≤n):OkS n s:=⟨Nat.le_trans h.few hn,h.len,h.safe,h.r0,h.r1,h.f1⟩
theorem actS_ok {k:Nat} {s:DS} {g:Fls→Fls} {though:Bool} (h:OkS k s) (hl:(g s.D).length≤k+1) (hg:∀ e∈g s.D,e.2.1.length≤1048576∧e.2.2≤e.2.1.length):OkS (k+1) (actS s g though).1:=by
 have h1:∀ f d,f < 9223372036854775808→OkS (k+1) ⟨s.D,s.room,f,d⟩:=fun f d hf=>⟨Nat.le_succ_of_le h.few,h.len,h.safe,h.r0,h.r1,hf⟩
 have h2:∀ f d,f < 9223372036854775808→OkS (k+1) ⟨g s.D,s.room,f,d⟩:=fun f d hf=>⟨hl,fun e he=>(hg e he).1,fun e he=>(hg e he).2,h.r0,h.r1,hf⟩
 have:=h.f1
 unfold actS
 split
 ·split
  ·cases though
   ·exact h1 _ _ (by omega)
   ·exact h2 _ _ (by omega)
  ·exact h2 _ _ (by omega)
 ·exact h2 _ _ (by omega)
theorem fileOf_ok {k:Nat} {s:DS} (h:OkS k s) (n:List UInt8):(fileOf s.D n).1.length≤1048576∧(fileOf s.D n).2≤(fileOf s.D n).1.length:=by
 unfold fileOf
 cases hq:lookF s.D n with
 | none=>exact ⟨Nat.zero_le _,Nat.le_refl _⟩
 | some f=>have:=lookF_mem hq;exact ⟨h.len _ this,h.safe _ this⟩
theorem appendS_ok {k:Nat} {s:DS} (h:OkS k s) (n b:List UInt8):OkS (k+1) (appendS s n b).1:=by
 unfold appendS
 split
 ·exact h.more (by omega)
 ·split
  ·exact h.more (by omega)
  ·split
   ·exact h.more (by omega)
   ·split
    ·exact h.more (by omega)
    ·refine actS_ok h (Nat.le_trans (putF_len _ _ _) (by have:=h.few;omega)) fun e he=>?_
     rcases putF_mem he with rfl | he
     ·have:=fileOf_ok h n
      refine ⟨?_,?_⟩
      ·show ((fileOf s.D n).1++b).length≤_
       rw [List.length_append];omega
      ·show (fileOf s.D n).2≤((fileOf s.D n).1++b).length
       rw [List.length_append];omega
     ·exact ⟨h.len _ he,h.safe _ he⟩
theorem syncS_ok {k:Nat} {s:DS} (h:OkS k s) (n:List UInt8):OkS (k+1) (syncS s n).1:=by
 unfold syncS
 split
 ·exact h.more (by omega)
 ·split
  ·exact h.more (by omega)
  ·rename_i f hq
   have hm:=lookF_mem hq
   refine actS_ok h (Nat.le_trans (putF_len _ _ _) (by have:=h.few;omega)) fun e he=>?_
   rcases putF_mem he with rfl | he
   ·exact ⟨show f.1.length≤_ from h.len (n,f) hm,Nat.le_refl _⟩
   ·exact ⟨h.len _ he,h.safe _ he⟩
theorem renameS_ok {k:Nat} {s:DS} (h:OkS k s) (n t:List UInt8):OkS (k+1) (renameS s n t).1:=by
 unfold renameS
 split
 ·exact h.more (by omega)
 ·split
  ·exact h.more (by omega)
  ·split
   ·exact h.more (by omega)
   ·rename_i f hq
    have hm:=lookF_mem hq
    refine actS_ok h (Nat.le_trans (putF_len _ _ _) (by have:=h.few;have:=delF_len s.D n;omega)) fun e he=>?_
    rcases putF_mem he with rfl | he
    ·exact ⟨show f.1.length≤_ from h.len (n,f) hm,show f.2≤f.1.length from h.safe (n,f) hm⟩
    ·have he:=delF_mem he
     exact ⟨h.len _ he,h.safe _ he⟩
theorem removeS_ok {k:Nat} {s:DS} (h:OkS k s) (n:List UInt8):OkS (k+1) (removeS s n).1:=by
 unfold removeS
 split
 ·exact h.more (by omega)
 ·split
  ·exact h.more (by omega)
  ·refine actS_ok h (Nat.le_trans (delF_len _ _) (by have:=h.few;omega)) fun e he=>?_
   have he:=delF_mem he
   exact ⟨h.len _ he,h.safe _ he⟩
theorem cutS_ok {k:Nat} {s:DS} (h:OkS k s) (n:List UInt8) (c:Int):OkS (k+1) (cutS s n c).1:=by
 unfold cutS
 split
 ·exact h.more (by omega)
 ·split
  ·exact h.more (by omega)
  ·split
   ·exact h.more (by omega)
   ·rename_i f hq
    have hm:=lookF_mem hq
    split
    ·exact h.more (by omega)
    ·refine actS_ok h (Nat.le_trans (putF_len _ _ _) (by have:=h.few;omega)) fun e he=>?_
     rcases putF_mem he with rfl | he
     ·have h1:=h.len _ hm
      have h2:=h.safe _ hm
      refine ⟨?_,?_⟩
      ·show (f.1.take c.toNat).length≤_
       rw [List.length_take];simp only at h1;omega
      ·show min f.2 c.toNat≤(f.1.take c.toNat).length
       rw [List.length_take];simp only at h2;omega
     ·exact ⟨h.len _ he,h.safe _ he⟩
theorem Ac.run_ok {k:Nat} {s:DS} (h:OkS k s) (a:Ac):OkS (k+1) (a.run s).1:=by
 cases a with
 | rmF=>exact removeS_ok h _
 | ap0=>exact appendS_ok h _ _
 | syF=>exact syncS_ok h _
 | rn1=>exact renameS_ok h _ _
 | rm n=>exact removeS_ok h _
 | ct n c=>exact cutS_ok h _ _
 | sy n=>exact syncS_ok h _
def Ac.num:Ac→Option Nat
 | .rn1=>some 1
 | .rm n=>some n
 | .ct n _=>some n
 | .sy n=>some n
 | _=>none
end Go.Jr
namespace Go.Proofs.YtbchfeibhoobeaaGreatDoor
open Go.Abs Go.Jr
abbrev ptr (q:Nat):Value:=.pointer (some ⟨q,0,none⟩)
def AcV (A:AW) (lo:Nat) (Fb:List Nat) (q:Nat):Ac→Value→Prop
 | .rmF,v=>v=.func (.func 39) ⟨[]⟩ ⟨[ptr q]⟩
 | .ap0,v=>v=.func (.func 42) ⟨[]⟩ ⟨[ptr q]⟩
 | .syF,v=>v=.func (.func 43) ⟨[]⟩ ⟨[ptr q]⟩
 | .rn1,v=>v=.func (.func 45) ⟨[]⟩ ⟨[ptr q]⟩
 | .rm n,v=>∃ p x,v=.func (.func 48) ⟨[]⟩ ⟨[ptr q,ptr p]⟩∧Go.Abs.Row1 A p (fG x) 90∧x.n=n∧lo < p∧p∉Fb
 | .ct n k,v=>∃ p x,v=.func (.func 49) ⟨[]⟩ ⟨[ptr q,ptr p]⟩∧Go.Abs.Row1 A p (fG x) 90∧x.n=n∧x.size=k∧lo < p∧p∉Fb
 | .sy n,v=>∃ p x,v=.func (.func 51) ⟨[]⟩ ⟨[ptr q,ptr p]⟩∧Go.Abs.Row1 A p (fG x) 90∧x.n=n∧lo < p∧p∉Fb
theorem AcV.keeps {A A':AW} {lo q:Nat} {a:Ac} {v:Value} {S Fb Fb':List Nat} (h:AcV A lo Fb q a v) (k:Keeps A A' S) (hS:∀ y∈S,y≤lo∨y∈Fb∨A.next≤y) (hF:∀ y∈Fb',y∈Fb∨A.next≤y):AcV A' lo Fb' q a v:=by
 have key:∀ p x,Go.Abs.Row1 A p (fG x) 90→lo < p→p∉Fb→Go.Abs.Row1 A' p (fG x) 90∧p∉Fb':=fun p x h1 h2 h3=>⟨h1.keeps k fun hm=>(hS p hm).elim (fun h=>by omega) fun h=>h.elim h3 fun h=>by have:=h1.lt;omega,fun hm=>(hF p hm).elim h3 fun h=>by have:=h1.lt;omega⟩
 cases a with
 | rmF=>exact h
 | ap0=>exact h
 | syF=>exact h
 | rn1=>exact h
 | rm n=>obtain ⟨p,x,h1,h2,h3,h4,h5⟩:=h;exact ⟨p,x,h1,(key p x h2 h4 h5).1,h3,h4,(key p x h2 h4 h5).2⟩
 | ct n k=>obtain ⟨p,x,h1,h2,h3,h4,h5,h6⟩:=h;exact ⟨p,x,h1,(key p x h2 h5 h6).1,h3,h4,h5,(key p x h2 h5 h6).2⟩
 | sy n=>obtain ⟨p,x,h1,h2,h3,h4,h5⟩:=h;exact ⟨p,x,h1,(key p x h2 h4 h5).1,h3,h4,(key p x h2 h4 h5).2⟩
theorem dyn39 (A:AW) (a:Value):dynA Tp theX A (.func (.func 39) ⟨[]⟩ ⟨[a]⟩) []=.ok (.enter 39 [a]) A:=by kernel_rfl
theorem dyn42 (A:AW) (a:Value):dynA Tp theX A (.func (.func 42) ⟨[]⟩ ⟨[a]⟩) []=.ok (.enter 42 [a]) A:=by kernel_rfl
theorem dyn43 (A:AW) (a:Value):dynA Tp theX A (.func (.func 43) ⟨[]⟩ ⟨[a]⟩) []=.ok (.enter 43 [a]) A:=by kernel_rfl
theorem dyn45 (A:AW) (a:Value):dynA Tp theX A (.func (.func 45) ⟨[]⟩ ⟨[a]⟩) []=.ok (.enter 45 [a]) A:=by kernel_rfl
theorem dyn48 (A:AW) (a b:Value):dynA Tp theX A (.func (.func 48) ⟨[]⟩ ⟨[a,b]⟩) []=.ok (.enter 48 [a,b]) A:=by kernel_rfl
theorem dyn49 (A:AW) (a b:Value):dynA Tp theX A (.func (.func 49) ⟨[]⟩ ⟨[a,b]⟩) []=.ok (.enter 49 [a,b]) A:=by kernel_rfl
theorem dyn51 (A:AW) (a b:Value):dynA Tp theX A (.func (.func 51) ⟨[]⟩ ⟨[a,b]⟩) []=.ok (.enter 51 [a,b]) A:=by kernel_rfl
theorem _root_.Go.Jr.OkS.d {k:Nat} {s:DS} (h:OkS k s) (hk:k < 10000):OkD s:=⟨Nat.lt_of_le_of_lt h.few hk,h.len,h.safe⟩
theorem _root_.Go.Jr.OkS.n {k:Nat} {s:DS} (h:OkS k s):OkN s:=⟨h.r0,h.r1,h.f1⟩
section
variable {W0:World} {m0:Inj Tp}
theorem run_ac {A:AW} {d mp lo q k:Nat} {Fb:List Nat} {s:DS} {a:Ac} {v:Value} {K:Value→AW→Prop} (h:Dk A d mp s) (hg:Glb A) (hq:Go.Abs.Row1 A q [ptr d] 27) (ha:AcV A lo Fb q a v) (hok:OkS k s) (hk9:k < 9000) (hf:Fine A) (hA:A.next+40000 < maxId)
  (hnm:∀ n,a.num=some n→NameK W0 m0 n) (h0:0≠d∧0≠mp)
  (hk:∀ A',Dk A' d mp (a.run s).1→Keeps A A' [d,mp]→A'.next≤A.next+40+k→Fine A'→K (.int .i64 (a.run s).2) A'):anW Tp theX W0 m0 (dynA Tp theX A v []) K:=by
 have hfew:=hok.few
 cases a with
 | rmF=>
  obtain rfl:=ha
  refine an_fun (dyn39 A _) rfl (w39 _ _ (cuts_none (S:=fun _ _ _=>False) fun _ _ _ h=>h) ?_)
  rw [e39]
  simp only [ptr,ld_27,cell_row hq.row,cellOf,isT_ptr,cond_false,pureW_some]
  refine wc40 (n:=⟨⟨[106,46,110,101,119]⟩⟩) h hok.n hf (by omega) fun A' hd kk nn ff=>?_
  exact hk A' hd kk (by omega) ff
 | ap0=>
  obtain rfl:=ha
  refine an_fun (dyn42 A _) rfl (w42 _ _ (cuts_none (S:=fun _ _ _=>False) fun _ _ _ h=>h) ?_)
  rw [e42]
  simp only [ptr,ld_27,cell_row hq.row,cellOf,isT_ptr,cond_false,pureW_some]
  refine wc41 (s:=⟨⟨[]⟩⟩) hg hf (by simp) (by omega) fun A1 g1=>?_
  have n1:=g1.next
  simp only [cell_row (hq.keeps g1.keeps (by simp)).row,cellOf,isT_ptr,cond_false,pureW_some,eqW_self]
  refine wc13 (n:=⟨⟨[106,46,110,101,119]⟩⟩) (b:=⟨⟨begin0⟩⟩) (h.keeps g1.keeps (by simp) (by simp)) (hok.d (by omega)) hok.n (by decide) g1.fine (by omega) fun A' hd kk nn ff=>?_
  exact hk A' hd ((g1.keeps.more (by simp)).trans kk (by simp)) (by omega) ff
 | syF=>
  obtain rfl:=ha
  refine an_fun (dyn43 A _) rfl (w43 _ _ (cuts_none (S:=fun _ _ _=>False) fun _ _ _ h=>h) ?_)
  rw [e43]
  simp only [ptr,ld_27,cell_row hq.row,cellOf,isT_ptr,cond_false,pureW_some]
  refine wc44 (n:=⟨⟨[106,46,110,101,119]⟩⟩) h hok.n hf (by omega) fun A' hd kk nn ff=>?_
  exact hk A' hd kk (by omega) ff
 | rn1=>
  obtain rfl:=ha
  refine an_fun (dyn45 A _) rfl (w45 _ _ (cuts_none (S:=fun _ _ _=>False) fun _ _ _ h=>h) ?_)
  rw [e45]
  simp only [ptr,ld_27,cell_row hq.row,cellOf,isT_ptr,cond_false,pureW_some]
  refine knOne (by decide) (hnm 1 rfl) rfl ?_
  simp only [cell_row hq.row,cellOf,isT_ptr,cond_false,pureW_some,eqW_self]
  refine wc46 (n:=⟨⟨[106,46,110,101,119]⟩⟩) (t:=⟨⟨Jr.nm 1⟩⟩) h hok.n hf (by omega) fun A' hd kk nn ff=>?_
  exact hk A' hd kk (by omega) ff
 | rm n=>
  obtain ⟨p,x,rfl,hp,rfl,-⟩:=ha
  have hp':Go.Abs.Row1 A p [.int .i64 (x.n:Int),.slice x.o x.len x.cap,.int .i64 (x.size:Int),.int .u8 (x.st:Int)] 90:=hp
  refine an_fun (dyn48 A _ _) rfl (w48 _ _ _ (cuts_none (S:=fun _ _ _=>False) fun _ _ _ h=>h) ?_)
  rw [e48]
  simp only [ptr,ld_27,ld_3,fa_90_0,cell_row hq.row,cell_row hp'.row,cellOf,isT_ptr,isT_int,cond_false,pureW_some]
  refine knOne (by decide) (hnm _ rfl) rfl ?_
  simp only [cell_row hq.row,cellOf,isT_ptr,cond_false,pureW_some,eqW_self]
  refine wc40 (n:=⟨⟨Jr.nm x.n⟩⟩) h hok.n hf (by omega) fun A' hd kk nn ff=>?_
  exact hk A' hd kk (by omega) ff
 | ct n c=>
  obtain ⟨p,x,rfl,hp,rfl,rfl,-⟩:=ha
  have hp':Go.Abs.Row1 A p [.int .i64 (x.n:Int),.slice x.o x.len x.cap,.int .i64 (x.size:Int),.int .u8 (x.st:Int)] 90:=hp
  refine an_fun (dyn49 A _ _) rfl (w49 _ _ _ (cuts_none (S:=fun _ _ _=>False) fun _ _ _ h=>h) ?_)
  rw [e49]
  simp only [ptr,ld_27,ld_3,fa_90_0,fa_90_2,Nat.zero_add,cell_row hq.row,cell_row hp'.row,cellOf,isT_ptr,isT_int,isT_slice,cond_false,pureW_some]
  refine knOne (by decide) (hnm _ rfl) rfl ?_
  simp only [cell_row hq.row,cell_row hp'.row,cellOf,isT_ptr,isT_int,isT_slice,cond_false,pureW_some,eqW_self]
  refine wc50 (n:=⟨⟨Jr.nm x.n⟩⟩) (k:=x.size) h hok.n hf (by omega) fun A' hd kk nn ff=>?_
  exact hk A' hd kk (by omega) ff
 | sy n=>
  obtain ⟨p,x,rfl,hp,rfl,-⟩:=ha
  have hp':Go.Abs.Row1 A p [.int .i64 (x.n:Int),.slice x.o x.len x.cap,.int .i64 (x.size:Int),.int .u8 (x.st:Int)] 90:=hp
  refine an_fun (dyn51 A _ _) rfl (w51 _ _ _ (cuts_none (S:=fun _ _ _=>False) fun _ _ _ h=>h) ?_)
  rw [e51]
  simp only [ptr,ld_27,ld_3,fa_90_0,cell_row hq.row,cell_row hp'.row,cellOf,isT_ptr,isT_int,cond_false,pureW_some]
  refine knOne (by decide) (hnm _ rfl) rfl ?_
  simp only [cell_row hq.row,cellOf,isT_ptr,cond_false,pureW_some,eqW_self]
  refine wc44 (n:=⟨⟨Jr.nm x.n⟩⟩) h hok.n hf (by omega) fun A' hd kk nn ff=>?_
  exact hk A' hd kk (by omega) ff
end
end Go.Proofs.YtbchfeibhoobeaaGreatDoor
namespace Go.Proofs.YtbchfeibhoobeaaGreatDoor
open Go.Abs Go.Jr
structure FV where
 v:Value
 one:oneCell v=true
 noT:isTuple v=false
def fV (x:FV):List Value:=[x.v]
theorem esF:ES Tp 84 50 fV where
 us:=by kernel_rfl
 sz:=by kernel_rfl
 by':=⟨8,by kernel_rfl,by decide⟩
 hz:=by kernel_rfl
 ld:=ld_50
 len:=fun _=>rfl
 one:=fun x=>by show (oneCell x.v&&true)=true;rw [x.one];rfl
 noT:=fun x=>by show (!isTuple x.v&&true)=true;rw [x.noT];rfl
def f1V (g p:Nat):FV:=⟨.func (.func g) ⟨[]⟩ ⟨[ptr p]⟩,rfl,rfl⟩
def f2V (g p q:Nat):FV:=⟨.func (.func g) ⟨[]⟩ ⟨[ptr p,ptr q]⟩,rfl,rfl⟩
theorem bs84_1 (A:AW) (g p:Nat):buildSliceA Tp A 84 1 [(0,(f1V g p).v)]=(match A.newRow [(f1V g p).v] 50 with | some (a,w')=>.ok (.slice (some a) 1 1) w' | none=>.fail "buildSlice new"):=by kernel_rfl
theorem bs84_2 (A:AW) (g p q:Nat):buildSliceA Tp A 84 1 [(0,(f2V g p q).v)]=(match A.newRow [(f2V g p q).v] 50 with | some (a,w')=>.ok (.slice (some a) 1 1) w' | none=>.fail "buildSlice new"):=by kernel_rfl
theorem bs84_3 (A:AW) (g h i p:Nat):buildSliceA Tp A 84 3 [(0,(f1V g p).v),(1,(f1V h p).v),(2,(f1V i p).v)]=(match A.newRow [(f1V g p).v,(f1V h p).v,(f1V i p).v] 50 with | some (a,w')=>.ok (.slice (some a) 3 3) w' | none=>.fail "buildSlice new"):=by kernel_rfl
theorem bs46 (A:AW) (n:Int):buildSliceA Tp A 46 1 [(0,.int .i64 n)]=(match A.newRow [.int .i64 n] 3 with | some (a,w')=>.ok (.slice (some a) 1 1) w' | none=>.fail "buildSlice new"):=by kernel_rfl
theorem bsMade {A:AW} {cs:List Value} {e:TypeId} {t n:Nat} {parts:List (Nat × Value)} {K:Value→AW→Prop} (hb:buildSliceA Tp A t n parts=(match A.newRow cs e with | some (a,w')=>.ok (.slice (some a) n n) w' | none=>.fail "buildSlice new")) (hone:cs.all oneCell=true) (hf:Fine A) (h:A.next < maxId)
  (hk:∀ A',Made A A' cs e→K (.slice (some ⟨A.next,0,none⟩) n n) A'):bothW (buildSliceA Tp A t n parts) K:=by
 rw [hb]
 unfold AW.newRow AW.new
 simp only [hone,cond_true,blt_true.2 h]
 exact bothW_ok.2 (hk (A.push (.row cs e A.next 0 false)) ⟨AW.push_ext _ h,rfl,by rw [AW.push_get _ h,if_pos rfl],hf.alone (Nat.le_refl _),hf.push _ h⟩)
theorem fresh46 (n:Int):freshOf Tp (evalT (Tm.fill ⟨1,.nil⟩ 0 [.int .i64 n])) (.buildSlice 46 1 #[(0,.tmp 0)])=some (.slice [.int .i64 n] 3 1):=by kernel_rfl
theorem ba83 (d:Nat) (n:Int):buildA Tp 83 [(0,ptr d),(1,.int .i64 n)]=some (.agg ⟨[ptr d,.int .i64 n,.string ⟨⟨[]⟩⟩,.slice none 0 0,.slice none 0 0,.int .i64 0,.bool false,.bool false]⟩):=by kernel_rfl
theorem ES_srcL {ts te:TypeId} {β:Type} {f:β→List Value} (T:ES Tp ts te f) {A:AW} {q c:Nat} {l:List β} {e:TypeId} (hq:Go.Abs.Row1 A q (flat f l) e):sourceZ Tp A te ts 1 (.slice (some ⟨q,0,none⟩) l.length c)=some (l.length,flat f l):=by
 unfold sourceZ
 simp only [T.us]
 show sourceA A 1 (.slice (some ⟨q,0,none⟩) l.length c)=_
 unfold sourceA
 have:=takeCells_app (flat f l) [] (flat_noT T.noT l)
 rw [List.append_nil,flat_length T.len,Nat.mul_one] at this
 simp only [Nat.mul_one,cells_row hq.row,List.drop_zero,this]
theorem OwnE_tail {A:AW} {v:Value} {p:RV} {l:List RV} {F:List Nat} (h:OwnE 35 1 fR A v (p::l) F):∃ a n c,sliceA Tp A 22 v (some (.int .i64 1)) none none=some (.slice (some a) n c)∧RdE 1 fR A (.slice (some a) n c) l F:=by
 rcases h with ⟨rfl,h2,_,rfl⟩ | ⟨b,g,rfl,h2,rfl⟩
 ·simp at h2
 ·have hs:=slice_fromE (P:=Tp) etR (m:=(p::l).length) (i:=1) h2.row (by simp)
  refine ⟨_,_,_,hs,.inr ⟨b,1 * (1+1),capU+((p::l).length - 1),flat fR (p::l),35,g,0,false,by simp,h2.row,h2.ltf,rfl,fun i r hi=>?_⟩⟩
  ·rw [← Nat.add_mul]
   exact flat_drop etR.len (p::l) (1+i) r (by rw [Nat.add_comm,List.getElem?_cons_succ];exact hi)
structure LowO (n0:Nat) (A:AW) (hi t0 d:Nat) (X:List SR) (vr:Value) (f:Nat):Prop where
 t0r:Go.Abs.Row1 A t0 [ptr d] 27
 t0l:n0≤t0∧t0 < hi
 rr:∃ F,RdE 3 fG A vr ((X.drop f).map (·.1)) F∧∀ y∈F,n0≤y∧y < hi
 sv:∀ x∈X,∃ F,RdE 1 fR A (.slice x.1.o x.1.len x.1.cap) x.2 F∧∀ y∈F,n0≤y∧y < hi
theorem LowO.keeps {n0:Nat} {A A':AW} {hi t0 d:Nat} {X:List SR} {vr:Value} {f:Nat} {S:List Nat} (h:LowO n0 A hi t0 d X vr f) (k:Keeps A A' S) (hS:∀ y∈S,y < n0∨hi≤y):LowO n0 A' hi t0 d X vr f:=by
 have key:∀ F:List Nat,(∀ y∈F,n0≤y∧y < hi)→∀ y∈F,y∉S:=fun F hF y hy hm=>by have:=hF y hy;rcases hS y hm with h | h <;> omega
 refine ⟨h.t0r.keeps k fun hm=>by have:=h.t0l;rcases hS _ hm with h | h <;> omega,h.t0l,?_,fun x hx=>?_⟩
 ·obtain ⟨F,h1,h2⟩:=h.rr
  exact ⟨F,h1.keeps k (key F h2),h2⟩
 ·obtain ⟨F,h1,h2⟩:=h.sv x hx
  exact ⟨F,h1.keeps k (key F h2),h2⟩
structure ActO (A:AW) (hi:Nat) (Fb:List Nat) (t0:Nat) (va:Value) (l:List Ac) (vs:List FV) (Fa:List Nat):Prop where
 own:OwnF 50 0 fV A va vs Fa
 len:l.length=vs.length
 act:∀ (i:Nat) a v,l[i]? =some a→vs[i]? =some v→AcV A hi Fb t0 a v.v
theorem ActO.keeps {A A':AW} {hi t0:Nat} {va:Value} {l:List Ac} {vs:List FV} {Fa S Fb Fb':List Nat} (h:ActO A hi Fb t0 va l vs Fa) (k:Keeps A A' S) (h1:∀ y∈Fa,y∉S) (h2:∀ y∈S,y≤hi∨y∈Fb∨A.next≤y) (h3:∀ y∈Fb',y∈Fb∨A.next≤y):ActO A' hi Fb' t0 va l vs Fa:=
 ⟨h.own.keeps k h1,h.len,fun i a v ha hv=>(h.act i a v ha hv).keeps k h2 h3⟩
theorem ActO.nil (A:AW) (hi t0:Nat) (Fb:List Nat):ActO A hi Fb t0 (.slice none 0 0) [] [] []:=⟨OwnF.nil A,rfl,fun i a v h=>by simp at h⟩
theorem ActO.app {A A':AW} {hi t0:Nat} {va v':Value} {l:List Ac} {vs:List FV} {Fa F' S Fb Fb':List Nat} (h:ActO A hi Fb t0 va l vs Fa) (k:Keeps A A' S) (hS:∀ y∈S,y≤hi∨y∈Fb∨A.next≤y) (hF:∀ y∈Fb',y∈Fb∨A.next≤y) {l2:List Ac} {vs2:List FV} (hl:l2.length=vs2.length)
  (h2:∀ (i:Nat) a v,l2[i]? =some a→vs2[i]? =some v→AcV A' hi Fb' t0 a v.v) (ho:OwnF 50 0 fV A' v' (vs++vs2) F'):ActO A' hi Fb' t0 v' (l++l2) (vs++vs2) F':=by
 refine ⟨ho,by rw [List.length_append,List.length_append,h.len,hl],fun i a v ha hv=>?_⟩
 by_cases hi':i < l.length
 ·rw [List.getElem?_append_left hi'] at ha
  rw [List.getElem?_append_left (by rw [← h.len];exact hi')] at hv
  exact (h.act i a v ha hv).keeps k hS hF
 ·rw [List.getElem?_append_right (by omega)] at ha
  rw [List.getElem?_append_right (by rw [← h.len];omega),← h.len] at hv
  exact h2 _ a v ha hv
structure JrO (A:AW) (j d:Nat) (limit:Int) (rl:List RV) (row:List Nat) (size:Nat) (sm:Bool) (vl vr:Value) (Fl Fr Fa:List Nat):Prop where
 row1:Go.Abs.Row1 A j [ptr d,.int .i64 limit,.string ⟨⟨[]⟩⟩,vl,vr,.int .i64 (size:Int),.bool sm,.bool false] 83
 l:OwnE 35 1 fR A vl rl Fl
 r:OwnF 3 0 fI A vr row Fr
 fl:∀ y∈Fl,j < y∧y∉Fr∧y∉Fa
 fr:∀ y∈Fr,j < y∧y∉Fa
 fa:∀ y∈Fa,j < y
theorem JrO.keeps {A A':AW} {j d:Nat} {limit:Int} {rl:List RV} {row:List Nat} {size:Nat} {sm:Bool} {vl vr:Value} {Fl Fr Fa S Fa':List Nat} (h:JrO A j d limit rl row size sm vl vr Fl Fr Fa) (k:Keeps A A' S)
  (hS:∀ y∈S,y < j∨y∈Fa∨A.next≤y) (hF:∀ y∈Fa',y∈Fa∨A.next≤y):JrO A' j d limit rl row size sm vl vr Fl Fr Fa':=by
 have hjl:=h.row1.lt
 have h1:=OwnE.lt h.l
 have h2:=h.r.lt
 refine ⟨h.row1.keeps k fun hm=>?_,h.l.keeps k fun y hy hm=>?_,h.r.keeps k fun y hy hm=>?_,fun y hy=>⟨(h.fl y hy).1,(h.fl y hy).2.1,fun hm=>?_⟩,fun y hy=>⟨(h.fr y hy).1,fun hm=>?_⟩,fun y hy=>?_⟩
 ·rcases hS _ hm with h0 | h0 | h0
  ·omega
  ·have:=h.fa _ h0;omega
  ·omega
 ·have a1:=h.fl y hy;have a2:=h1 y hy
  rcases hS _ hm with h0 | h0 | h0
  ·omega
  ·exact a1.2.2 h0
  ·omega
 ·have a1:=h.fr y hy;have a2:=h2 y hy
  rcases hS _ hm with h0 | h0 | h0
  ·omega
  ·exact a1.2 h0
  ·omega
 ·have a1:=h.fl y hy;have a2:=h1 y hy
  rcases hF _ hm with h0 | h0
  ·exact a1.2.2 h0
  ·omega
 ·have a1:=h.fr y hy;have a2:=h2 y hy
  rcases hF _ hm with h0 | h0
  ·exact a1.2 h0
  ·omega
 ·rcases hF _ hy with h0 | h0
  ·exact h.fa _ h0
  ·omega
def baseA (names:List (List UInt8)) (r:List SR):List Ac:=(if fresh∈names then [.rmF] else [])++(if r=[] then [.ap0,.syF,.rn1] else [])
def tailA (r:List SR):List Ac:=match r.getLast? with | none=>[] | some x=>(if x.1.st=1 then [.ct x.1.n x.1.size] else [])++[.sy x.1.n]
def rowAt (r:List SR) (i:Nat):List Nat:=if r=[] then [1] else (r.take i).map (·.1.n)
def sizeAt (r:List SR) (i:Nat):Nat:=match (r.take i).getLast? with | none=>(if r=[] then 13 else 0) | some x=>x.1.size
def smAt (r:List SR) (i:Nat):Bool:=match (r.take i).getLast? with | none=>decide (r=[]) | some x=>decide (0 < x.2.length)
structure OX (s:DS) (k L:Nat) (X:List SR) (f:Nat):Prop where
 seg:segsOf s.D (namesS s.D)=X.map toSeg
 row:rowS (X.map toSeg)=some ((X.drop f).map toSeg,f)
 le:f≤X.length
 few:X.length≤k
 recs:∀ x∈X,x.2.length≤L
def C0 (L:Nat):Nat:=1000 * (2 * L+100)
def OI (A:AW) (d mp k L:Nat) (s:DS) (limit:Int):Nat→Nat→List Value→AW→Prop:=fun g id vals A'=>
 (id=0∧∃ X f i t0 j va vall vr vl vw vs Fa Fl Fr Fall,vals=[ptr t0,vr,ptr j,va,vall,.int .i64 ((f:Nat):Int),.int .i64 ((i:Nat):Int)]∧OX s k L X f∧i≤f∧g=100000+(f - i)∧LowO A.next A' j t0 d X vr f∧A.next≤j∧
  RdE 3 fG A' vall ((X.take f).map (·.1)) Fall∧(∀ y∈Fall,y < j)∧ActO A' j (Fl++(Fr++Fa)) t0 va (baseA (namesS s.D) (X.drop f)++((X.take f).take i).map (fun x=>Ac.rm x.1.n)) vs Fa∧
  JrO A' j d limit [] (rowAt (X.drop f) 0) (sizeAt (X.drop f) 0) (smAt (X.drop f) 0) vl vw Fl Fr Fa∧Grow A A' (C0 L+3 * i))∨
 (id=2∧∃ X f i t0 j va vr vl vw vs Fa Fl Fr,vals=[ptr t0,vr,ptr j,va,vr,.int .i64 ((X.length - f:Nat):Int),.int .i64 ((i:Nat):Int)]∧OX s k L X f∧i≤X.length - f∧g=50000+(X.length - f - i)∧LowO A.next A' j t0 d X vr f∧A.next≤j∧
  ActO A' j (Fl++(Fr++Fa)) t0 va (baseA (namesS s.D) (X.drop f)++((X.take f).map (fun x=>Ac.rm x.1.n)++if i=X.length - f then tailA (X.drop f) else [])) vs Fa∧
  JrO A' j d limit (((X.drop f).take i).flatMap (·.2)) (rowAt (X.drop f) i) (sizeAt (X.drop f) i) (smAt (X.drop f) i) vl vw Fl Fr Fa∧Grow A A' (C0 L+3000+10 * i))∨
 (id=4∧∃ X f i t0 j va vl vw vs Fa Fl Fr acts s1,vals=[ptr j,va,.int .i64 ((acts.length:Nat):Int),.int .i64 ((i:Nat):Int)]∧OX s k L X f∧acts=baseA (namesS s.D) (X.drop f)++((X.take f).map (fun x=>Ac.rm x.1.n)++tailA (X.drop f))∧acts.length≤1010∧i≤acts.length∧g=acts.length - i∧
  Go.Abs.Row1 A' t0 [ptr d] 27∧A.next≤t0∧A.next≤j∧ActO A' j (Fl++(Fr++Fa)) t0 va acts vs Fa∧Dk A' d mp s1∧OkS (k+i) s1∧runAcs s acts=runAcs s1 (acts.drop i)∧
  JrO A' j d limit ((X.drop f).flatMap (·.2)) (rowAt (X.drop f) (X.length - f)) (sizeAt (X.drop f) (X.length - f)) (smAt (X.drop f) (X.length - f)) vl vw Fl Fr Fa∧Keeps A A' [d,mp]∧Fine A'∧A'.next≤A.next+C0 L+13000+2100 * i)
section
variable {W0:World} {m0:Inj Tp}
theorem open0 {A:AW} {d mp k L:Nat} {s:DS} {limit:Int} {g:Nat} {vals:List Value} {A':AW} {dd:Nat→Value} {Q:Value→AW→Prop} (hk9:k≤1000) (hL:L < 900000) (hA:A.next < 500000000000)
  (h:OI A d mp k L s limit g 0 vals A') (hd':(L8 0).map dd=vals):gL W0 m0 (fun id v A''=>∃ g2,g2 < g∧OI A d mp k L s limit g2 id v A'') Q 8 183 T8 L8 dd 0 A':=by
 have hmax:maxId=1099511627776:=rfl
 rcases h with ⟨_,X,f,i,t0,j,va,vall,vr,vl,vw,vs,Fa,Fl,Fr,Fall,rfl,hx,hi,rfl,hlow,hj,hall,hFall,hact,hjr,hgr⟩ | ⟨h,_⟩ | ⟨h,_⟩
 rotate_left
 ·cases h
 ·cases h
 have hC:C0 L=1000 * (2 * L+100):=rfl
 have hnx:=hgr.next
 have hle:=hgr.le
 have hf1:=hx.le
 have hf2:=hx.few
 rw [l8_0]
 simp only [L8,List.map_cons,List.map_nil,List.cons.injEq,and_true] at hd'
 obtain ⟨h2,h8,h11,h12,h77,h78,h79⟩:=hd'
 simp only [h2,h8,h11,h12,h77,h78,h79,bin_lss,pureW_some,forkW_dec]
 have hjlt:=hjr.row1.lt
 refine ⟨fun hlt=>?_,fun hge=>?_⟩
 ·have hlt:i < f:=by omega
  obtain ⟨x,hxi⟩:∃ x,(X.take f)[i]? =some x:=⟨_,List.getElem?_eq_getElem (by rw [List.length_take];omega)⟩
  have hx1:((X.take f).map (·.1))[i]? =some x.1:=by rw [List.getElem?_map,hxi];rfl
  obtain ⟨r,o,a1,a2,a3⟩:=hall.at etG hx1
  rw [a1]
  simp only [pureW_some,a3]
  refine allocP_made zG hgr.fine (by omega) rfl fun A3 m3=>?_
  have n3:=m3.next
  refine m3.row1.store m3.fine (by omega) (st_90 _ _ _) rfl (by show 0+4≤4;omega) rfl fun A4 r4 k4 n4 f4=>?_
  have r4:Go.Abs.Row1 A4 A'.next (fG x.1) 90:=r4
  have k4:Keeps A3 A4 [A'.next]:=k4
  have g4:Grow A' A4 1:=(Grow.made m3 hgr.fine).own k4 (by simp) (m:=0) (by omega) f4
  refine bsMade (bs84_2 A4 48 t0 A'.next) rfl f4 (by omega) fun A5 m5=>?_
  have n5:=m5.next
  have g5:=g4.trans (Grow.made m5 f4)
  have hvl:=hact.own.lt
  have hal:vs.length < 1000000:=by
   rw [← hact.len,List.length_append,List.length_map,List.length_take,List.length_take]
   have:(baseA (namesS s.D) (X.drop f)).length≤4:=by unfold baseA;split <;> split <;> simp
   omega
  refine OwnF.append1 esF (p:=f2V 48 t0 A'.next) (hact.own.keeps g5.keeps (by simp)) m5.row1 m5.fine (by omega) hal fun v6 A6 F6 o6 k6 hF6 n6 f6=>?_
  rw [bin_add,wrap_i64 (by omega) (by omega)]
  simp only [pureW_some]
  have K6:Keeps A' A6 Fa:=(g5.keeps.more (by simp)).trans k6 (fun y hy=>.inl hy)
  have r6:Go.Abs.Row1 A6 A'.next (fG x.1) 90:=(r4.keeps (m5.keeps f4) (by simp)).keeps k6 fun hm=>by have:=hvl _ hm;omega
  have hFaj:∀ y∈Fa,y < A.next∨j≤y:=fun y hy=>.inr (by have:=hjr.fa y hy;omega)
  refine cutW_self.2 ⟨100000+(f - (i+1)),by omega,.inl ⟨rfl,X,f,i+1,t0,j,v6,vall,vr,vl,vw,vs++[f2V 48 t0 A'.next],F6,Fl,Fr,Fall,rfl,hx,by omega,rfl,hlow.keeps K6 hFaj,hj,hall.keeps K6 fun y hy hm=>by have:=hFall y hy;have:=hjr.fa y hm;omega,hFall,?_,?_,?_⟩⟩
  ·have el:baseA (namesS s.D) (X.drop f)++((X.take f).take (i+1)).map (fun x=>Ac.rm x.1.n)=(baseA (namesS s.D) (X.drop f)++((X.take f).take i).map (fun x=>Ac.rm x.1.n))++[Ac.rm x.1.n]:=by rw [take_snoc' hxi,List.map_append,List.append_assoc];rfl
   rw [el]
   refine hact.app K6 (fun y hy=>.inr (.inl (by simp [hy]))) (Fb':=Fl++(Fr++F6)) (fun y hy=>?_) (l2:=[Ac.rm x.1.n]) rfl (fun m a v ha hv=>?_) o6
   ·rcases List.mem_append.1 hy with h | h
    ·exact .inl (by simp [h])
    ·rcases List.mem_append.1 h with h | h
     ·exact .inl (by simp [h])
     ·rcases hF6 y h with h | h
      ·exact .inl (by simp [h])
      ·exact .inr (by omega)
   ·cases m with
    | zero=>
     obtain rfl:Ac.rm x.1.n=a:=by simpa using ha
     obtain rfl:f2V 48 t0 A'.next=v:=by simpa using hv
     refine ⟨A'.next,x.1,rfl,r6,rfl,by omega,fun hm=>?_⟩
     have hll:=OwnE.lt hjr.l
     have hrl:=hjr.r.lt
     rcases List.mem_append.1 hm with h | h
     ·have:=hll _ h;omega
     ·rcases List.mem_append.1 h with h | h
      ·have:=hrl _ h;omega
      ·rcases hF6 _ h with h | h
       ·have:=hvl _ h;omega
       ·omega
    | succ m=>simp at ha
  ·exact hjr.keeps K6 (fun y hy=>.inr (.inl hy)) fun y hy=>(hF6 y hy).imp (fun h=>h) fun h=>by omega
  ·exact (hgr.trans g5).own k6 (fun y hy=>by have:=hjr.fa y hy;omega) (m:=1) n6 f6 |>.more (by omega)
 ·have hi':i=f:=by omega
  subst hi'
  obtain ⟨F1,hr1,hr2⟩:=hlow.rr
  have hl:=hr1.len etG (B:=A')
  rw [List.length_map,List.length_drop] at hl
  rw [hl]
  simp only [pureW_some]
  rw [List.take_of_length_le (l:=X.take i) (by rw [List.length_take];omega)] at hact
  refine cutW_self.2 ⟨50000+(X.length - i - 0),by omega,.inr (.inl ⟨rfl,X,i,0,t0,j,va,vr,vl,vw,vs,Fa,Fl,Fr,rfl,hx,by omega,rfl,hlow,hj,?_,hjr,hgr.more (by omega)⟩)⟩
  have:(if 0=X.length - i then tailA (X.drop i) else [])=[]:=by
   split
   ·have:X.drop i=[]:=List.drop_of_length_le (by omega)
    rw [this];rfl
   ·rfl
  rw [this,List.append_nil]
  exact hact
end
end Go.Proofs.YtbchfeibhoobeaaGreatDoor
