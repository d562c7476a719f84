/-
  This text prints what the functions reached ask of their memory, and shows what they answer. Conditions: none for the last theorem, those that each theorem states for the others.
-/
import Derived.Test.YtbchfeibhoobeaaGreatDoorPd
set_option maxRecDepth 100000
set_option maxHeartbeats 1000000
namespace Go.Proofs.YtbchfeibhoobeaaGreatDoor
open Go.Abs Go.Jr
theorem baseA_len (names:List (List UInt8)) (r:List SR):(baseA names r).length≤4:=by unfold baseA;split <;> split <;> simp
theorem tailA_len (r:List SR):(tailA r).length≤2:=by
 unfold tailA
 split
 ·simp
 ·split <;> simp
theorem ActO.one {A:AW} {hi t0:Nat} {va:Value} {l:List Ac} {vs:List FV} {Fa Fb:List Nat} {a:Ac} {g p:Nat} {x:SV} {K:Value→AW→Prop} (h:ActO A hi (Fb++Fa) t0 va l vs Fa) (hf:Fine A) (hA:A.next+2 < maxId) (hl:vs.length < 100000) (hp:Go.Abs.Row1 A p (fG x) 90) (hpj:hi < p) (hpb:p∉Fb++Fa) (hFa:∀ y∈Fa,hi < y) (hFb:∀ y∈Fb,y < A.next)
  (ha:∀ A' Fb',Go.Abs.Row1 A' p (fG x) 90→p∉Fb'→AcV A' hi Fb' t0 a (f2V g t0 p).v)
  (hk:∀ A' v' vs' F',ActO A' hi (Fb++F') t0 v' (l++[a]) vs' F'→Keeps A A' Fa→A'.next≤A.next+2→Fine A'→(∀ y∈F',y∈Fa∨A.next≤y)→Go.Abs.Row1 A' p (fG x) 90→p∉Fb++F'→vs'.length=vs.length+1→K v' A'):
  bothW (buildSliceA Tp A 84 1 [(0,(f2V g t0 p).v)]) fun t56 At56=>bothW (appendA Tp At56 84 84 va t56) K:=by
 have hpl:=hp.lt
 refine bsMade (bs84_2 A g t0 p) rfl hf (by omega) fun A1 m1=>?_
 have n1:=m1.next
 have k1:=m1.keeps hf
 refine OwnF.append1 esF (p:=f2V g t0 p) (h.own.keeps k1 (by simp)) m1.row1 m1.fine (by omega) (by omega) fun v2 A2 F2 o2 k2 hF2 n2 f2=>?_
 have K2:Keeps A A2 Fa:=(k1.more (by simp)).trans k2 (fun y hy=>.inl hy)
 have hF2':∀ y∈F2,y∈Fa∨A.next≤y:=fun y hy=>(hF2 y hy).imp (fun h=>h) fun h=>by omega
 have hp2:=hp.keeps K2 fun hm=>hpb (by simp [hm])
 have hpb2:p∉Fb++F2:=fun hm=>by
  rcases List.mem_append.1 hm with h | h
  ·exact hpb (by simp [h])
  ·rcases hF2' _ h with h | h
   ·exact hpb (by simp [h])
   ·omega
 refine hk A2 v2 (vs++[f2V g t0 p]) F2 ?_ K2 (by omega) f2 hF2' hp2 hpb2 (by rw [List.length_append];rfl)
 refine h.app K2 (fun y hy=>.inr (.inl (by simp [hy]))) (fun y hy=>?_) (l2:=[a]) rfl (fun m b v hb hv=>?_) o2
 ·rcases List.mem_append.1 hy with h | h
  ·exact .inl (by simp [h])
  ·rcases hF2' y h with h | h
   ·exact .inl (by simp [h])
   ·exact .inr h
 ·cases m with
  | zero=>
   obtain rfl:a=b:=by simpa using hb
   obtain rfl:f2V g t0 p=v:=by simpa using hv
   exact ha A2 _ hp2 hpb2
  | succ m=>simp at hb
section
variable {W0:World} {m0:Inj Tp}
theorem open2 {A:AW} {d mp k L:Nat} {s:DS} {limit:Int} {g:Nat} {vals:List Value} {A':AW} {dd:Nat→Value} {Q:Value→AW→Prop} (hdk:Dk A d mp s) (hok:OkS k s) (hk9:k≤1000) (hL:L < 900000) (hkL:k * L < 900000) (hA:A.next < 500000000000)
  (h:OI A d mp k L s limit g 2 vals A') (hd':(L8 2).map dd=vals):gL W0 m0 (fun id v A''=>∃ g2,g2 < g∧OI A d mp k L s limit g2 id v A'') Q 8 183 T8 L8 dd 2 A':=by
 have hmax:maxId=1099511627776:=rfl
 rcases h with ⟨h,_⟩ | ⟨_,X,f,i,t0,j,va,vr,vl,vw,vs,Fa,Fl,Fr,rfl,hx,hi,rfl,hlow,hj,hact,hjr,hgr⟩ | ⟨h,_⟩
 ·cases h
 rotate_left
 ·cases h
 have hC:C0 L=1000 * (2 * L+100):=rfl
 have hnx:=hgr.next
 have hle:=hgr.le
 have hf1:=hx.le
 have hf2:=hx.few
 rw [l8_2]
 simp only [L8,List.map_cons,List.map_nil,List.cons.injEq,and_true] at hd'
 obtain ⟨h2,h8,h11,h12,h88,h89,h90⟩:=hd'
 simp only [h2,h8,h11,h12,h88,h89,h90,bin_lss,pureW_some,forkW_dec]
 have hjlt:=hjr.row1.lt
 have hact0:=hact
 have hb4:=baseA_len (namesS s.D) (X.drop f)
 have ht2:=tailA_len (X.drop f)
 refine ⟨fun hlt=>?_,fun hge=>?_⟩
 ·have hlt:i < X.length - f:=by omega
  rw [if_neg (show ¬ i=X.length - f by omega),List.append_nil] at hact
  have hvs:vs.length≤1004:=by
   rw [← hact.len,List.length_append,List.length_map,List.length_take];omega
  have hne:X.drop f≠[]:=by intro h0;have:=congrArg List.length h0;rw [List.length_drop,List.length_nil] at this;omega
  obtain ⟨x,hxi⟩:∃ x,(X.drop f)[i]? =some x:=⟨_,List.getElem?_eq_getElem (by rw [List.length_drop];omega)⟩
  have hxm:x∈X:=List.mem_of_mem_drop (List.mem_of_getElem? hxi)
  have hx1:((X.drop f).map (·.1))[i]? =some x.1:=by rw [List.getElem?_map,hxi];rfl
  obtain ⟨F1,hr1,hr2⟩:=hlow.rr
  obtain ⟨r,o,a1,a2,a3⟩:=hr1.at etG hx1
  rw [a1]
  simp only [pureW_some,a3]
  refine allocP_made zG hgr.fine (by omega) rfl fun A3 m3=>?_
  have n3:=m3.next
  refine m3.row1.store m3.fine (by omega) (st_90 _ _ _) rfl (by show 0+4≤4;omega) rfl fun A4 r4 k4 n4 f4=>?_
  have r4:Go.Abs.Row1 A4 A'.next [.int .i64 (x.1.n:Int),.slice x.1.o x.1.len x.1.cap,.int .i64 (x.1.size:Int),.int .u8 (x.1.st:Int)] 90:=r4
  have k4:Keeps A3 A4 [A'.next]:=k4
  have g4:Grow A' A4 1:=(Grow.made m3 hgr.fine).own k4 (by simp) (m:=0) (by omega) f4
  have j4:=hjr.row1.keeps g4.keeps (by simp)
  have hvl1:=OwnE.one hjr.l
  have hvw1:=hjr.r.one
  simp only [ptr] at j4
  simp only [ptr,nilP_some,fa_83_4,fa_90_0,Nat.zero_add,ld_46,ld_3,cell_row j4.row,cell_row r4.row,cellOf,isT_ptr,isT_int,isT_string,hvl1.2,hvw1.2,cond_false,pureW_some]
  refine bsMade (bs46 A4 (x.1.n:Int)) rfl f4 (by omega) fun A5 m5=>?_
  have n5:=m5.next
  have k5:=m5.keeps f4
  have g5:=g4.trans (Grow.made m5 f4)
  refine ⟨⟨_,fresh46 _,?_⟩,?_⟩
  ·have:=m5.row
   simp only [stillFresh,rowHas,this,sameL,same_int,Bool.and_self,Option.isNone_none,Nat.beq_refl]
  have j5:=j4.keeps k5 (by simp)
  have r5:=r4.keeps k5 (by simp)
  simp only [cell_row j5.row,cell_row r5.row,cellOf,isT_ptr,isT_int,isT_string,hvl1.2,hvw1.2,cond_false,pureW_some,eqW_self]
  have hwl:(rowAt (X.drop f) i).length < 1000000:=by
   unfold rowAt
   rw [if_neg hne,List.length_map,List.length_take];omega
  have hlls:=OwnE.lt hjr.l
  have hrls:=hjr.r.lt
  have hals:=hact.own.lt
  refine OwnF.append1 esI (p:=x.1.n) (hjr.r.keeps g5.keeps (by simp)) m5.row1 m5.fine (by omega) hwl fun w6 A6 Fr6 o6 k6 hF6 n6 f6=>?_
  have hw61:=o6.one
  obtain ⟨wo,wc,hw6⟩:=o6.slice
  have j6:=j5.keeps k6 fun hm=>by have:=hjr.fr _ hm;omega
  have r6:=r5.keeps k6 fun hm=>by have:=hrls _ hm;omega
  refine j6.store f6 (by omega) (st_46 _ _ _) (by rw [hw6];rfl) (by show 4+1≤8;omega) (by rw [hw6];rfl) fun A7 j7 k7 n7 f7=>?_
  have j7:Go.Abs.Row1 A7 j [ptr d,.int .i64 limit,.string ⟨⟨[]⟩⟩,vl,w6,.int .i64 (sizeAt (X.drop f) i:Int),.bool (smAt (X.drop f) i),.bool false] 83:=by rw [hw6] at j7 ⊢;exact j7
  have k7:Keeps A6 A7 [j]:=k7
  have r7:=r6.keeps k7 (by simp;omega)
  simp only [ptr] at j7
  simp only [ptr,nilP_some,fa_83_3,fa_90_1,Nat.zero_add,ld_22,cell_row j7.row,cell_row r7.row,cellOf,isT_ptr,isT_int,isT_string,isT_slice,hvl1.2,hw61.2,cond_false,pureW_some]
  obtain ⟨G,hG1,hG2⟩:=hlow.sv x hxm
  have hFrG:∀ y∈G,y∉Fr:=fun y hy hm=>by have:=hG2 y hy;have:=hjr.fr y hm;omega
  have hG7:RdE 1 fR A7 (.slice x.1.o x.1.len x.1.cap) x.2 G:=((hG1.keeps g5.keeps (by simp)).keeps k6 hFrG).keeps k7 fun y hy=>by have:=hG2 y hy;simp;omega
  have hl7:OwnE 35 1 fR A7 vl (((X.drop f).take i).flatMap (·.2)) Fl:=((hjr.l.keeps g5.keeps (by simp)).keeps k6 fun y hy hm=>(hjr.fl y hy).2.1 hm).keeps k7 fun y hy=>by have:=hjr.fl y hy;simp;omega
  have hrecs:(((X.drop f).take i).flatMap (·.2)).length≤k * L:=by
   have key:∀ l:List SR,(∀ x∈l,x.2.length≤L)→(l.flatMap (·.2)).length≤l.length * L:=by
    intro l
    induction l with
    | nil=>intro _;simp
    | cons y r ih=>
     intro hh
     rw [List.flatMap_cons,List.length_append,List.length_cons,Nat.succ_mul]
     have:=ih fun z hz=>hh z (by simp [hz])
     have:=hh y (by simp)
     omega
   have h1:=key ((X.drop f).take i) fun y hy=>hx.recs y (List.mem_of_mem_drop (List.mem_of_mem_take hy))
   have h2:((X.drop f).take i).length * L≤k * L:=Nat.mul_le_mul_right _ (by rw [List.length_take];omega)
   omega
  have hxr:=hx.recs x hxm
  have hlx:x.1.len=x.2.length:=by
   obtain ⟨o',c',hs⟩:=hG1.slice
   simp only [Value.slice.injEq] at hs
   exact hs.2.1
  refine hl7.appendL etR hG7 f7 (by omega) (by omega) (by omega) fun l8 A8 Fl8 o8 k8 hF8 n8 f8=>?_
  have hl81:=OwnE.one o8
  obtain ⟨lo,lc,hl8⟩:=(o8.rd etR.len).slice
  have j8:=j7.keeps k8 fun hm=>by have:=hjr.fl _ hm;omega
  have r8:=r7.keeps k8 fun hm=>by have:=hlls _ hm;omega
  simp only [eqW_self]
  refine j8.store f8 (by omega) (st_22 _ _ _) (by rw [hl8];rfl) (by show 3+1≤8;omega) (by rw [hl8];rfl) fun A9 j9 k9 n9 f9=>?_
  have j9:Go.Abs.Row1 A9 j [.pointer (some ⟨d,0,none⟩),.int .i64 limit,.string ⟨⟨[]⟩⟩,l8,w6,.int .i64 (sizeAt (X.drop f) i:Int),.bool (smAt (X.drop f) i),.bool false] 83:=by rw [hl8] at j9 ⊢;exact j9
  have k9:Keeps A8 A9 [j]:=k9
  have r9:=r8.keeps k9 (by simp;omega)
  simp only [fa_83_5,fa_83_6,fa_90_1,fa_90_2,Nat.zero_add,ld_22,ld_3,ln_22,hlx,nilP_some,cell_row j9.row,cell_row r9.row,cellOf,isT_ptr,isT_int,isT_string,isT_slice,hl81.2,hw61.2,cond_false,pureW_some,bin_gtr]
  refine j9.store f9 (by omega) (st_3 _ _ _) rfl (by show 5+1≤8;omega) rfl fun A10 j10 k10 n10 f10=>?_
  have j10:Go.Abs.Row1 A10 j [.pointer (some ⟨d,0,none⟩),.int .i64 limit,.string ⟨⟨[]⟩⟩,l8,w6,.int .i64 (x.1.size:Int),.bool (smAt (X.drop f) i),.bool false] 83:=j10
  have k10:Keeps A9 A10 [j]:=k10
  have r10:=r9.keeps k10 (by simp;omega)
  simp only [ln_22,hlx,cell_row r10.row,cellOf,isT_int,isT_slice,cond_false,pureW_some,eqW_self]
  refine j10.store f10 (by omega) (st_4 _ _ _) rfl (by show 6+1≤8;omega) rfl fun A11 j11 k11 n11 f11=>?_
  have esm:decide ((0:Int) < (x.2.length:Int))=decide (0 < x.2.length):=by rw [decide_eq_decide];omega
  have j11:Go.Abs.Row1 A11 j [ptr d,.int .i64 limit,.string ⟨⟨[]⟩⟩,l8,w6,.int .i64 (x.1.size:Int),.bool (decide (0 < x.2.length)),.bool false] 83:=by rw [← esm];exact j11
  have k11:Keeps A10 A11 [j]:=k11
  have r11:=r10.keeps k11 (by simp;omega)
  have k811:Keeps A8 A11 [j]:=(k9.trans k10 (by simp)).trans k11 (by simp)
  have le6:=k6.next
  have le8:=k8.next
  have hF6':∀ y∈Fr6,y∈Fr∨A'.next≤y:=fun y hy=>(hF6 y hy).imp (fun h=>h) fun h=>by omega
  have hF8':∀ y∈Fl8,y∈Fl∨A'.next≤y:=fun y hy=>(hF8 y hy).imp (fun h=>h) fun h=>by omega
  have K11:Keeps A' A11 (j::(Fl++Fr)):=by
   refine (((g5.keeps.more (T:=j::(Fl++Fr)) (by simp)).trans k6 (fun y hy=>.inl (by simp [hy]))).trans k7 (fun y hy=>.inl (by simp [List.mem_singleton.1 hy]))).trans k8 (fun y hy=>.inl (by simp [hy])) |>.trans k811 (fun y hy=>.inl (by simp [List.mem_singleton.1 hy]))
  have hFlr:∀ y∈j::(Fl++Fr),j≤y:=fun y hy=>by
   rcases List.mem_cons.1 hy with h | h
   ·omega
   ·rcases List.mem_append.1 h with h | h
    ·have:=hjr.fl y h;omega
    ·have:=hjr.fr y h;omega
  have o6l:=o6.lt
  have hle11:A'.next≤A11.next:=K11.next
  have hn11:A11.next≤A'.next+4:=by omega
  have erl:((X.drop f).take (i+1)).flatMap (·.2)=((X.drop f).take i).flatMap (·.2)++x.2:=by rw [take_snoc' hxi,List.flatMap_append];simp
  have erow:rowAt (X.drop f) (i+1)=rowAt (X.drop f) i++[x.1.n]:=by
   unfold rowAt
   rw [if_neg hne,if_neg hne,take_snoc' hxi,List.map_append];rfl
  have elast:((X.drop f).take (i+1)).getLast? =some x:=by rw [take_snoc' hxi,List.getLast?_concat]
  have esz:sizeAt (X.drop f) (i+1)=x.1.size:=by unfold sizeAt;rw [elast]
  have esm2:smAt (X.drop f) (i+1)=decide (0 < x.2.length):=by unfold smAt;rw [elast]
  have hjr11:JrO A11 j d limit (((X.drop f).take (i+1)).flatMap (·.2)) (rowAt (X.drop f) (i+1)) (sizeAt (X.drop f) (i+1)) (smAt (X.drop f) (i+1)) l8 w6 Fl8 Fr6 Fa:=by
   rw [erl,erow,esz,esm2]
   refine ⟨j11,o8.keeps k811 fun y hy=>?_,((o6.keeps k7 fun y hy=>?_).keeps k8 fun y hy hm=>?_).keeps k811 fun y hy=>?_,fun y hy=>⟨?_,fun hm=>?_,fun hm=>?_⟩,fun y hy=>⟨?_,fun hm=>?_⟩,hjr.fa⟩
   ·simp;rcases hF8' y hy with h | h
    ·have:=hjr.fl y h;omega
    ·omega
   ·simp;rcases hF6' y hy with h | h
    ·have:=hjr.fr y h;omega
    ·omega
   ·rcases hF6' y hy with h | h
    ·exact (hjr.fl y hm).2.1 h
    ·have:=hlls y hm;omega
   ·simp;rcases hF6' y hy with h | h
    ·have:=hjr.fr y h;omega
    ·omega
   ·rcases hF8' y hy with h | h
    ·exact (hjr.fl y h).1
    ·omega
   ·rcases hF8 y hy with h | h
    ·rcases hF6' y hm with h2 | h2
     ·exact (hjr.fl y h).2.1 h2
     ·have:=hlls y h;omega
    ·have:=o6l y hm;omega
   ·rcases hF8' y hy with h | h
    ·exact (hjr.fl y h).2.2 hm
    ·have:=hals y hm;omega
   ·rcases hF6' y hy with h | h
    ·exact (hjr.fr y h).1
    ·omega
   ·rcases hF6' y hy with h | h
    ·exact (hjr.fr y h).2 hm
    ·have:=hals y hm;omega
  have hpb:A'.next∉(Fl8++Fr6)++Fa:=by
   intro hm
   rcases List.mem_append.1 hm with hm | hm
   ·rcases List.mem_append.1 hm with hm | hm
    ·rcases hF8 _ hm with h | h
     ·have:=hlls _ h;omega
     ·omega
    ·rcases hF6 _ hm with h | h
     ·have:=hrls _ h;omega
     ·omega
   ·have:=hals _ hm;omega
  have hact11:ActO A11 j ((Fl8++Fr6)++Fa) t0 va (baseA (namesS s.D) (X.drop f)++(X.take f).map (fun x=>Ac.rm x.1.n)) vs Fa:=by
   refine hact.keeps K11 (fun y hy hm=>?_) (fun y hy=>?_) fun y hy=>?_
   ·rcases List.mem_cons.1 hm with h | h
    ·have:=hjr.fa y hy;omega
    ·rcases List.mem_append.1 h with h | h
     ·exact (hjr.fl y h).2.2 hy
     ·exact (hjr.fr y h).2 hy
   ·rcases List.mem_cons.1 hy with h | h
    ·exact .inl (by omega)
    ·rcases List.mem_append.1 h with h | h
     ·exact .inr (.inl (by simp [h]))
     ·exact .inr (.inl (by simp [h]))
   ·rcases List.mem_append.1 hy with hy | hy
    ·rcases List.mem_append.1 hy with hy | hy
     ·exact (hF8' y hy).imp (fun h=>by simp [h]) fun h=>h
     ·exact (hF6' y hy).imp (fun h=>by simp [h]) fun h=>h
    ·exact .inl (by simp [hy])
  have hlow11:LowO A.next A11 j t0 d X vr f:=hlow.keeps K11 fun y hy=>.inr (hFlr y hy)
  have hg11:Grow A A11 (C0 L+3000+10 * i+4):=⟨hgr.keeps.trans K11 (fun y hy=>.inr (by have:=hFlr y hy;omega)),f11,by omega⟩
  have hfb:∀ y∈Fl8++Fr6,y < A11.next:=fun y hy=>by
   rcases List.mem_append.1 hy with h | h
   ·exact hjr11.l.lt y h
   ·exact hjr11.r.lt y h
  have hr111:=(hr1.keeps K11 fun y hy hm=>by have:=hr2 y hy;have:=hFlr y hm;omega)
  have hlen11:=hr111.len etG (B:=A11)
  rw [List.length_map,List.length_drop] at hlen11
  rw [hlen11]
  simp only [pureW_some,bin_sub,bin_eql,bin_add]
  rw [wrap_i64 (n:=((X.length - f:Nat):Int) - 1) (by omega) (by omega),wrap_i64 (n:=(i:Int)+1) (by omega) (by omega)]
  have fin:∀ (A12:AW) (va':Value) (vs':List FV) (Fa':List Nat),ActO A12 j ((Fl8++Fr6)++Fa') t0 va' (baseA (namesS s.D) (X.drop f)++((X.take f).map (fun x=>Ac.rm x.1.n)++if i+1=X.length - f then tailA (X.drop f) else [])) vs' Fa'→Keeps A11 A12 Fa→(∀ y∈Fa',y∈Fa∨A11.next≤y)→A12.next≤A11.next+4→Fine A12→
    ∃ g2,g2 < 50000+(X.length - f - i)∧OI A d mp k L s limit g2 2 [ptr t0,vr,ptr j,va',vr,.int .i64 ((X.length - f:Nat):Int),.int .i64 ((i:Int)+1)] A12:=by
   intro A12 va' vs' Fa' ha hk hF hn hf
   refine ⟨50000+(X.length - f - (i+1)),by omega,.inr (.inl ⟨rfl,X,f,i+1,t0,j,va',vr,l8,w6,vs',Fa',Fl8,Fr6,rfl,hx,by omega,rfl,hlow11.keeps hk fun y hy=>.inr (by have:=hjr.fa y hy;omega),hj,?_,hjr11.keeps hk (fun y hy=>.inr (.inl hy)) hF,?_⟩)⟩
   ·rw [← List.append_assoc];exact ha
   ·exact (hg11.own hk (fun y hy=>by have:=hjr.fa y hy;omega) (m:=4) hn hf).more (by omega)
  refine forkW_beq.2 ⟨fun hlast=>?_,fun hlast=>?_⟩
  ·have hlast:i+1=X.length - f:=by omega
   have elx:(X.drop f).getLast? =some x:=by
    rw [List.getLast?_eq_getElem?,List.length_drop,← hlast];exact hxi
   have etail:tailA (X.drop f)=(if x.1.st=1 then [.ct x.1.n x.1.size] else [])++[.sy x.1.n]:=by unfold tailA;rw [elx]
   rw [if_pos hlast,etail] at fin
   simp only [fa_90_3,Nat.zero_add,ld_88,cell_row r11.row,cellOf,isT_int,isT_slice,cond_false,pureW_some,bin_eql]
   refine forkW_beq.2 ⟨fun hst=>?_,fun hst=>?_⟩
   ·rw [if_pos (by omega)] at fin
    refine ActO.one (g:=49) (a:=.ct x.1.n x.1.size) (x:=x.1) hact11 f11 (by omega) (by omega) r11 (by omega) hpb hjr.fa hfb (fun A' Fb' h1 h2=>⟨_,x.1,rfl,h1,rfl,rfl,by omega,h2⟩) fun A12 v12 vs12 F12 h12 k12 n12 f12 hF12 hp12 hpb12 hl12=>?_
    have hle12:=k12.next
    refine ActO.one (g:=51) (a:=.sy x.1.n) (x:=x.1) h12 f12 (by omega) (by omega) hp12 (by omega) hpb12 (fun y hy=>(hF12 y hy).elim (hjr.fa y) fun h=>by omega) (fun y hy=>by have:=hfb y hy;omega) (fun A' Fb' h1 h2=>⟨_,x.1,rfl,h1,rfl,by omega,h2⟩) fun A13 v13 vs13 F13 h13 k13 n13 f13 hF13 hp13 hpb13 hl13=>?_
    refine cutW_self.2 (fin A13 v13 vs13 F13 ?_ (k12.trans k13 hF12) (fun y hy=>(hF13 y hy).elim (hF12 y) fun h=>.inr (by omega)) (by omega) f13)
    simpa [List.append_assoc] using h13
   ·rw [if_neg (by omega)] at fin
    refine ActO.one (g:=51) (a:=.sy x.1.n) (x:=x.1) hact11 f11 (by omega) (by omega) r11 (by omega) hpb hjr.fa hfb (fun A' Fb' h1 h2=>⟨_,x.1,rfl,h1,rfl,by omega,h2⟩) fun A12 v12 vs12 F12 h12 k12 n12 f12 hF12 hp12 hpb12 hl12=>?_
    refine cutW_self.2 (fin A12 v12 vs12 F12 ?_ k12 hF12 (by omega) f12)
    simpa [List.append_assoc] using h12
  ·have hlast:i+1≠X.length - f:=by omega
   rw [if_neg hlast,List.append_nil] at fin
   exact cutW_self.2 (fin A11 va vs Fa hact11 (.refl _ _) (fun y hy=>.inl hy) (by omega) f11)
 ·have hi':i=X.length - f:=by omega
  subst hi'
  rw [if_pos rfl] at hact
  have htk:(X.drop f).take (X.length - f)=X.drop f:=List.take_of_length_le (by rw [List.length_drop];omega)
  rw [htk] at hjr
  rw [esF.lenR (hact.own.rd esF.len),← hact.len]
  simp only [pureW_some]
  have hal:(baseA (namesS s.D) (X.drop f)++((X.take f).map (fun x=>Ac.rm x.1.n)++tailA (X.drop f))).length≤1010:=by
   rw [List.length_append,List.length_append,List.length_map,List.length_take];omega
  have hdl:=hdk.lt
  refine cutW_self.2 ⟨(baseA (namesS s.D) (X.drop f)++((X.take f).map (fun x=>Ac.rm x.1.n)++tailA (X.drop f))).length,by omega,.inr (.inr ⟨rfl,X,f,0,t0,j,va,vl,vw,vs,Fa,Fl,Fr,_,s,rfl,hx,rfl,hal,by omega,rfl,hlow.t0r,hlow.t0l.1,hj,hact,hdk.keeps hgr.keeps (by simp) (by simp),hok,rfl,hjr,hgr.keeps.more (by simp),hgr.fine,by omega⟩)⟩
end
noncomputable def midT (W0:World) (m0:Inj Tp) (S:Nat→List Value→AW→Prop) (t0 t9 t13 t14 t19 va:Value) (A:AW):Prop:=
 pureW (lenA Tp A 77 t13) fun t45=>pureW (binA Tp .eql 3 (.tmp 55) (.const (.int .i64 0)) t45 (.int .i64 0)) fun t46=>forkW t46 (bothW (buildSliceA Tp A 46 1 [(0,(.int .i64 1))]) fun t47 At47=>Wc Tp theX W0 m0 41 [(.string ⟨⟨[]⟩⟩)] At47 fun t48 At48=>pureW (lenA Tp At48 9 t48) fun t49=>pureW (nilP t19) fun t50=>pureW (fieldAddrA Tp 83 t50 4) fun t51=>effW (storeP Tp At48 46 t51 t47) fun At52=>pureW (nilP t19) fun t53=>pureW (fieldAddrA Tp 83 t53 5) fun t54=>effW (storeP Tp At52 3 t54 t49) fun At55=>pureW (nilP t19) fun t56=>pureW (fieldAddrA Tp 83 t56 6) fun t57=>effW (storeP Tp At55 4 t57 (.bool true)) fun At58=>bothW (buildSliceA Tp At58 84 3 [(0,(.func (.func 42) ⟨[]⟩ ⟨[t0]⟩)),(1,(.func (.func 43) ⟨[]⟩ ⟨[t0]⟩)),(2,(.func (.func 45) ⟨[]⟩ ⟨[t0]⟩))]) fun t59 At59=>bothW (appendA Tp At59 84 84 va t59) fun t60 At60=>pureW (sliceA Tp At60 77 t9 none (some t14) none) fun t61=>pureW (lenA Tp At60 77 t61) fun t62=>cutW (T8 0) (T8 0) (S 0 [t0,t13,t19,t60,t61,t62,(.int .i64 0)] At60)) (pureW (sliceA Tp A 77 t9 none (some t14) none) fun t63=>pureW (lenA Tp A 77 t63) fun t64=>cutW (T8 0) (T8 0) (S 0 [t0,t13,t19,va,t63,t64,(.int .i64 0)] A))
theorem acts_eq (names:List (List UInt8)) (X:List SR) (f:Nat):actsOf names (X.map toSeg) ((X.drop f).map toSeg) f=baseA names (X.drop f)++((X.take f).map (fun x=>Ac.rm x.1.n)++tailA (X.drop f)):=by
 have e1:((X.drop f).map toSeg=[])=(X.drop f=[]):=by rw [List.map_eq_nil_iff]
 have e2:((X.map toSeg).take f).map (fun x=>Ac.rm x.n)=(X.take f).map (fun x=>Ac.rm x.1.n):=by
  rw [← List.map_take,List.map_map];rfl
 unfold actsOf baseA tailA
 rw [List.getLast?_map]
 simp only [e1,e2,List.append_assoc]
 cases (X.drop f).getLast? <;> rfl
theorem acts_num {names:List (List UInt8)} {X:List SR} {f i:Nat} {a:Ac} (h:(baseA names (X.drop f)++((X.take f).map (fun x=>Ac.rm x.1.n)++tailA (X.drop f)))[i]? =some a) {n:Nat} (hn:a.num=some n):n=1∨∃ x∈X,x.1.n=n:=by
 have hm:=List.mem_of_getElem? h
 rcases List.mem_append.1 hm with hm | hm
 ·unfold baseA at hm
  rcases List.mem_append.1 hm with hm | hm
  ·split at hm
   ·obtain rfl:=List.mem_singleton.1 hm;cases hn
   ·simp at hm
  ·split at hm
   ·simp only [List.mem_cons,List.not_mem_nil,or_false] at hm
    rcases hm with rfl | rfl | rfl
    ·cases hn
    ·cases hn
    ·cases hn;exact .inl rfl
   ·simp at hm
 ·rcases List.mem_append.1 hm with hm | hm
  ·obtain ⟨x,hx,rfl⟩:=List.mem_map.1 hm
   cases hn
   exact .inr ⟨x,List.mem_of_mem_take hx,rfl⟩
  ·unfold tailA at hm
   split at hm
   ·simp at hm
   ·rename_i x hx
    have hxm:x∈X:=List.mem_of_mem_drop (List.mem_of_getLast? hx)
    rcases List.mem_append.1 hm with hm | hm
    ·split at hm
     ·obtain rfl:=List.mem_singleton.1 hm;cases hn;exact .inr ⟨x,hxm,rfl⟩
     ·simp at hm
    ·obtain rfl:=List.mem_singleton.1 hm;cases hn;exact .inr ⟨x,hxm,rfl⟩
theorem runAcs_cons (s:DS) (a:Ac) (r:List Ac):runAcs s (a::r)=if (a.run s).2=0 then runAcs (a.run s).1 r else a.run s:=rfl
theorem made_eq (limit:Int) (X:List SR) (f:Nat) (hf:f≤X.length):madeJ limit ((X.drop f).map toSeg)=⟨limit,(((((X.drop f).flatMap (·.2)).map toR).head?).map (·.2)).getD [],(((X.drop f).flatMap (·.2)).map toR).tail,rowAt (X.drop f) (X.length - f),sizeAt (X.drop f) (X.length - f),smAt (X.drop f) (X.length - f),false⟩:=by
 have e0:allR ((X.drop f).map toSeg)=((X.drop f).flatMap (·.2)).map toR:=by
  unfold allR
  rw [List.flatMap_map,List.map_flatMap];rfl
 have et:(X.drop f).take (X.length - f)=X.drop f:=List.take_of_length_le (by rw [List.length_drop];omega)
 unfold madeJ rowAt sizeAt smAt
 rw [e0,et,List.getLast?_map]
 have e1:((X.drop f).map toSeg=[])=(X.drop f=[]):=by rw [List.map_eq_nil_iff]
 simp only [e1,List.map_map]
 congr 1
 ·cases hq:(X.drop f).getLast? with
  | none=>
   have:X.drop f=[]:=by simpa using hq
   simp [this]
  | some x=>rfl
 ·cases hq:(X.drop f).getLast? with
  | none=>
   have:X.drop f=[]:=by simpa using hq
   simp [this]
  | some x=>
   show (!(x.2.map toR).isEmpty)=decide (0 < x.2.length)
   cases x.2 <;> simp
section
variable {W0:World} {m0:Inj Tp}
theorem open4 {A:AW} {d mp k L:Nat} {s:DS} {limit:Int} {g:Nat} {vals:List Value} {A':AW} {dd:Nat→Value} {K:Value→AW→Prop} (hg0:Glb A) (hk9:k≤1000) (hL:L < 900000) (hkL:k * L < 900000) (hA:A.next < 500000000000) (hlim:¬ limit < 1) (hdn:s.down=false) (hdl:d < A.next∧mp < A.next) (h0:0≠d∧0≠mp)
  (hnm:∀ n,n=1∨(∃ x∈segsOf s.D (namesS s.D),x.n=n)→NameK W0 m0 n)
  (hkN:∀ e A' s',openS s (namesS s.D) limit=(s',none,e)→Dk A' d mp s'→Keeps A A' [d,mp]→A'.next≤A.next+1000 * (2 * L+100)+3000000→Fine A'→K (.tuple ⟨[.pointer none,.int .i64 e]⟩) A')
  (hkS:∀ A' s' q j Fl Fr,openS s (namesS s.D) limit=(s',some q,0)→JD A' j d mp q s' Fl Fr→A.next≤j→(∀ y∈Fl,A.next≤y)→(∀ y∈Fr,A.next≤y)→Keeps A A' [d,mp]→A'.next≤A.next+1000 * (2 * L+100)+3000000→Fine A'→K (.tuple ⟨[ptr j,.int .i64 0]⟩) A')
  (h:OI A d mp k L s limit g 4 vals A') (hd':(L8 4).map dd=vals):gL W0 m0 (fun id v A''=>∃ g2,g2 < g∧OI A d mp k L s limit g2 id v A'') K 8 183 T8 L8 dd 4 A':=by
 have hmax:maxId=1099511627776:=rfl
 have hC:C0 L=1000 * (2 * L+100):=rfl
 rcases h with ⟨h,_⟩ | ⟨h,_⟩ | ⟨_,X,f,i,t0,j,va,vl,vw,vs,Fa,Fl,Fr,acts,s1,rfl,hx,hacts,hal,hi,rfl,ht0,ht0l,hj,hact,hdk,hok,hrun,hjr,hkp,hf,hn⟩
 ·cases h
 ·cases h
 have hos:openS s (namesS s.D) limit=(if (runAcs s acts).2=0 then ((runAcs s acts).1,some (madeJ limit ((X.drop f).map toSeg)),0) else ((runAcs s acts).1,none,(runAcs s acts).2)):=by
  unfold openS
  rw [if_neg hlim,if_neg (by rw [hdn];simp),hx.seg,hx.row]
  simp only [acts_eq,← hacts]
 rw [l8_4]
 simp only [L8,List.map_cons,List.map_nil,List.cons.injEq,and_true] at hd'
 obtain ⟨h11,h145,h146,h147⟩:=hd'
 simp only [h11,h145,h146,h147,bin_lss,pureW_some,forkW_dec]
 have hle:=hkp.next
 refine ⟨fun hlt=>?_,fun hge=>?_⟩
 ·have hlt:i < acts.length:=by omega
  obtain ⟨a,ha⟩:∃ a,acts[i]? =some a:=⟨_,List.getElem?_eq_getElem hlt⟩
  obtain ⟨v,hv⟩:∃ v,vs[i]? =some v:=⟨_,List.getElem?_eq_getElem (by rw [← hact.len];exact hlt)⟩
  obtain ⟨a0,b1,b2⟩:=esF.at (hact.own.rd esF.len) hv rfl
  simp only [b1,b2,pureW_some]
  rw [drop_get ha,runAcs_cons] at hrun
  refine run_ac (a:=a) (k:=k+i) hdk (hg0.keeps hkp (by simp;exact h0)) ht0 (hact.act i a v ha hv) hok (by omega) hf (by omega) (fun n hnn=>hnm n ?_) h0 fun A2 d2 k2 n2 f2=>?_
  ·rw [hacts] at ha
   rcases acts_num ha hnn with h | ⟨x,hxm,hxn⟩
   ·exact .inl h
   ·exact .inr ⟨toSeg x,by rw [hx.seg];exact List.mem_map.2 ⟨x,hxm,rfl⟩,hxn⟩
  have K2:Keeps A A2 [d,mp]:=hkp.trans k2 (fun y hy=>.inl hy)
  have hdm:∀ y∈[d,mp],y < A.next:=fun y hy=>by
   simp only [List.mem_cons,List.not_mem_nil,or_false] at hy
   rcases hy with rfl | rfl
   ·exact hdl.1
   ·exact hdl.2
  simp only [bin_neq,bin_add,pureW_some]
  rw [wrap_i64 (by omega) (by omega)]
  refine forkW_bne.2 ⟨fun hne=>?_,fun heq=>?_⟩
  ·rw [if_neg hne] at hrun
   refine hkN _ A2 (a.run s1).1 ?_ d2 K2 (by omega) f2
   rw [hos,hrun,if_neg hne]
  ·rw [if_pos heq] at hrun
   refine cutW_self.2 ⟨acts.length - (i+1),by omega,.inr (.inr ⟨rfl,X,f,i+1,t0,j,va,vl,vw,vs,Fa,Fl,Fr,acts,(a.run s1).1,rfl,hx,hacts,hal,by omega,rfl,ht0.keeps k2 fun hm=>by have:=hdm _ hm;omega,ht0l,hj,hact.keeps k2 (fun y hy hm=>by have:=hdm _ hm;have:=hjr.fa y hy;omega) (fun y hy=>.inl (by have:=hdm _ hy;omega)) (fun y hy=>.inl hy),d2,?_,hrun,hjr.keeps k2 (fun y hy=>.inl (by have:=hdm _ hy;omega)) (fun y hy=>.inl hy),K2,f2,by omega⟩)⟩
   have:=Ac.run_ok hok a
   exact this
 ·have hi':i=acts.length:=by omega
  subst hi'
  rw [List.drop_length] at hrun
  have hos:openS s (namesS s.D) limit=(s1,some (madeJ limit ((X.drop f).map toSeg)),0):=by rw [hos,hrun];rfl
  rw [made_eq limit X f hx.le] at hos
  have hvl1:=OwnE.one hjr.l
  have hvw1:=hjr.r.one
  have hj1:=hjr.row1
  have hlls:=OwnE.lt hjr.l
  have hrls:=hjr.r.lt
  simp only [ptr] at hj1
  have hlen:=(hjr.l.rd etR.len).len etR (B:=A')
  simp only [ptr,nilP_some,fa_83_3,ld_22,cell_row hj1.row,cellOf,isT_ptr,isT_int,isT_string,hvl1.2,cond_false,pureW_some,hlen,bin_gtr,forkW_dec]
  have hnd:j≠d∧j≠mp:=⟨by omega,by omega⟩
  have hFr:∀ x∈Fr,x≠d∧x≠mp∧x≠j:=fun x hx=>by have:=hjr.fr x hx;exact ⟨by omega,by omega,by omega⟩
  cases hrl:(X.drop f).flatMap (·.2) with
  | nil=>
   rw [hrl] at hos hjr
   refine ⟨fun h=>by simp at h,fun _=>?_⟩
   refine hkS A' s1 _ j Fl Fr hos ⟨⟨vl,vw,[],hj1,.inl hjr.l,rfl,hjr.r⟩,hdk,hnd,fun x hx=>?_,hFr⟩ hj (fun y hy=>by have:=hjr.fl y hy;omega) (fun y hy=>by have:=hjr.fr y hy;omega) hkp (by omega) hf
   have:=hjr.fl x hx
   exact ⟨by omega,by omega,by omega,this.2.1⟩
  | cons p rl=>
   rw [hrl] at hos hjr
   refine ⟨fun _=>?_,fun h=>by simp at h⟩
   have hg:((p::rl):List RV)[0]? =some p:=rfl
   obtain ⟨r,o,c1,c2,c3⟩:=(hjr.l.rd etR.len).at etR hg
   have c1':indexAddrA Tp 22 vl (.int .i64 0)=some (.pointer (some ⟨r,o,none⟩)):=c1
   have hc:A'.cell? ⟨r,o+1,none⟩=some (.string p.2):=cell_of c2 (k:=1) rfl
   obtain ⟨ta,tn,tc,hsl,htl⟩:=OwnE_tail hjr.l
   simp only [c1',pureW_some,fa_35_1,ld_9,hc,hsl]
   have hrlen:rl.length < 1000000:=by
    have key:∀ l:List SR,(∀ x∈l,x.2.length≤L)→(l.flatMap (·.2)).length≤l.length * L:=by
     intro l
     induction l with
     | nil=>intro _;simp
     | cons y r ih=>
      intro hh
      rw [List.flatMap_cons,List.length_append,List.length_cons,Nat.succ_mul]
      have:=ih fun z hz=>hh z (by simp [hz])
      have:=hh y (by simp)
      omega
    have h1:=key (X.drop f) fun y hy=>hx.recs y (List.mem_of_mem_drop hy)
    have hfew:=hx.few
    have h2:(X.drop f).length * L≤k * L:=Nat.mul_le_mul_right _ (by rw [List.length_drop];omega)
    rw [hrl,List.length_cons] at h1
    omega
   refine wc52 htl (fun c hc=>by simp at hc) hf (by omega) hrlen fun A2 v2 F2 o2 hF2 g2=>?_
   have n2:=g2.next
   have le2:=g2.le
   have j2:=hj1.keeps g2.keeps (by simp)
   obtain ⟨r',o',d1,d2,d3⟩:=((hjr.l.keeps g2.keeps (by simp)).rd etR.len).at etR hg
   have d1':indexAddrA Tp 22 vl (.int .i64 0)=some (.pointer (some ⟨r',o',none⟩)):=d1
   rw [c1'] at d1'
   obtain ⟨rfl,rfl⟩:r=r'∧o=o':=by simpa using d1'
   have hc2:A2.cell? ⟨r,o+1,none⟩=some (.string p.2):=cell_of d2 (k:=1) rfl
   have hvl2:=hvl1.2
   simp only [hc2,cell_row j2.row,cellOf,isT_ptr,isT_int,isT_string,hvl2,cond_false,pureW_some,eqW_self,fa_83_2]
   refine j2.store g2.fine (by omega) (st_9 _ _ _) rfl (by show 0+2+1≤8;omega) rfl fun A3 j3 k3 n3 f3=>?_
   have j3:Go.Abs.Row1 A3 j [.pointer (some ⟨d,0,none⟩),.int .i64 limit,.string p.2,vl,vw,.int .i64 (sizeAt (X.drop f) (X.length - f):Int),.bool (smAt (X.drop f) (X.length - f)),.bool false] 83:=j3
   have k3:Keeps A2 A3 [j]:=k3
   obtain ⟨so,sc,hv2⟩:=o2.slice
   refine j3.store f3 (by omega) (st_22 _ _ _) (by rw [hv2];rfl) (by show 0+3+1≤8;omega) (by rw [hv2];rfl) fun A4 j4 k4 n4 f4=>?_
   have j4:Go.Abs.Row1 A4 j [.pointer (some ⟨d,0,none⟩),.int .i64 limit,.string p.2,v2,vw,.int .i64 (sizeAt (X.drop f) (X.length - f):Int),.bool (smAt (X.drop f) (X.length - f)),.bool false] 83:=by rw [hv2] at j4 ⊢;exact j4
   have k4:Keeps A3 A4 [j]:=k4
   have k24:Keeps A2 A4 [j]:=k3.trans k4 (by simp)
   have K4:Keeps A' A4 [j]:=(g2.keeps.more (by simp)).trans k24 (by simp)
   have hjl:=hj1.lt
   refine hkS A4 s1 _ j F2 Fr hos ⟨⟨v2,vw,rl,j4,o2.keeps k24 fun y hy=>by have:=hF2 y hy;simp;omega,rfl,hjr.r.keeps K4 fun y hy=>by have:=hjr.fr y hy;simp;omega⟩,hdk.keeps K4 (by simp;omega) (by simp;omega),hnd,fun x hx=>?_,hFr⟩ hj (fun y hy=>by have:=hF2 y hy;omega) (fun y hy=>by have:=hjr.fr y hy;omega) (hkp.trans K4 (fun y hy=>.inr (by have:=List.mem_singleton.1 hy;omega))) (by omega) f4
   have:=hF2 x hx
   exact ⟨by omega,by omega,by omega,fun hm=>by have:=hrls x hm;omega⟩
end
theorem numOf_lt (f:List UInt8):numOf f < 100000000:=by
 unfold numOf
 split
 ·rename_i h
  obtain ⟨_,h2,h3⟩:=h
  have key:∀ (l:List UInt8) (a:Nat),l.all (fun c=>decide (48≤c)&&decide (c≤57))=true→l.foldl (fun n c=>10 * n+(c.toNat - 48)) a < (a+1) * 10 ^ l.length:=by
   intro l
   induction l with
   | nil=>intro a _;simp
   | cons c r ih=>
    intro a hh
    simp only [List.all_cons,Bool.and_eq_true,decide_eq_true_eq] at hh
    have h1:c.toNat≤57:=by have:=hh.1.2;exact this
    have:=ih (10 * a+(c.toNat - 48)) hh.2
    rw [List.foldl_cons,List.length_cons,Nat.pow_succ]
    refine Nat.lt_of_lt_of_le this ?_
    have h3:10 * a+(c.toNat - 48)+1≤(a+1) * 10:=by omega
    calc (10 * a+(c.toNat - 48)+1) * 10 ^ r.length≤((a+1) * 10) * 10 ^ r.length:=Nat.mul_le_mul_right _ h3
     _=(a+1) * (10 ^ r.length * 10):=by rw [Nat.mul_assoc,Nat.mul_comm 10]
  have:=key (f.drop 2) 0 h3
  rw [List.length_drop,h2] at this
  exact this
 ·omega
theorem scan_len:∀ (n:Nat) (s:List UInt8),s.length=n→13 * (scan s).1.length≤s.length∧(scan s).2.1≤s.length∧(scan s).2.2≤2:=by
 intro n
 induction n using Nat.strongRecOn with
 | ind n ih=>
  intro s hs
  rw [scan_step]
  split
  ·simp
  ·split
   ·simp
   ·split
    ·simp
    ·split
     ·simp
     ·split
      ·simp
      ·split
       ·simp
       ·rename_i h1 h2 h3 h4 h5 h6
        have:=ih (s.drop (13+numB ((s.take 5).drop 1))).length (by rw [List.length_drop];omega) _ rfl
        rw [List.length_drop] at this
        simp only [List.length_cons]
        omega
theorem seg_mem {D:Fls} {names:List (List UInt8)} {x:Seg} (h:x∈segsOf D names):∃ p∈names,x=segOf (numOf p) (fileOf D p).1:=by
 unfold segsOf at h
 obtain ⟨p,hp,he⟩:=List.mem_filterMap.1 h
 split at he
 ·cases he
 ·cases he;exact ⟨p,hp,rfl⟩
theorem fileOf_le {D:Fls} {L:Nat} (hL:∀ f∈D,f.2.1.length≤L) (p:List UInt8):(fileOf D p).1.length≤L:=by
 unfold fileOf
 cases hq:lookF D p with
 | none=>exact Nat.zero_le _
 | some f=>exact hL _ (lookF_mem hq)
theorem segsOf_len (D:Fls):(segsOf D (namesS D)).length≤D.length:=by
 have h1:(segsOf D (namesS D)).length≤(namesS D).length:=List.length_filterMap_le _ _
 have h2:(namesS D).length=D.length:=by unfold namesS;rw [List.length_mergeSort,List.length_map]
 omega
section
variable {W0:World} {m0:Inj Tp}
theorem mid {A:AW} {d mp k L f:Nat} {s:DS} {limit:Int} {A':AW} {X:List SR} {t0 j:Nat} {v v' va:Value} {F F' Fa:List Nat} {vs:List FV} (hg0:Glb A') (hk9:k≤1000) (hL:L < 900000) (hA:A.next < 500000000000)
  (hx:OX s k L X f) (hlow:LowO A.next A' j t0 d X v' f) (hj:A.next≤j) (hv:OwnE 90 3 fG A' v (X.map (·.1)) F) (hF:∀ y∈F,A.next≤y∧y < j)
  (hact:ActO A' j Fa t0 va (if fresh∈namesS s.D then [.rmF] else []) vs Fa) (hFa:∀ y∈Fa,j < y) (hjr:Go.Abs.Row1 A' j [ptr d,.int .i64 limit,.string ⟨⟨[]⟩⟩,.slice none 0 0,.slice none 0 0,.int .i64 0,.bool false,.bool false] 83)
  (hgr:Grow A A' (1000 * (2 * L+100) - 100)):midT W0 m0 (fun id v A''=>∃ g2,OI A d mp k L s limit g2 id v A'') (ptr t0) v v' (.int .i64 ((f:Nat):Int)) (ptr j) va A':=by
 have hmax:maxId=1099511627776:=rfl
 have hC:C0 L=1000 * (2 * L+100):=rfl
 have hnx:=hgr.next
 have hle:=hgr.le
 have hf1:=hx.le
 have hf2:=hx.few
 unfold midT
 obtain ⟨F1,hr1,hr2⟩:=hlow.rr
 have hl:=hr1.len etG (B:=A')
 rw [List.length_map,List.length_drop] at hl
 rw [hl]
 have hjl:=hjr.lt
 have hal:=hact.own.lt
 simp only [pureW_some,bin_eql]
 have start:∀ (A2:AW) (va2 vl vw:Value) (vs2:List FV) (Fr2 Fa2:List Nat),Keeps A' A2 (j::Fa)→Fine A2→A2.next≤A'.next+50→ActO A2 j (Fr2++Fa2) t0 va2 (baseA (namesS s.D) (X.drop f)) vs2 Fa2→
   JrO A2 j d limit [] (rowAt (X.drop f) 0) (sizeAt (X.drop f) 0) (smAt (X.drop f) 0) vl vw [] Fr2 Fa2→
   pureW (sliceA Tp A2 77 v none (some (.int .i64 ((f:Nat):Int))) none) fun t61=>pureW (lenA Tp A2 77 t61) fun t62=>cutW (T8 0) (T8 0) (∃ g2,OI A d mp k L s limit g2 0 [ptr t0,v',ptr j,va2,t61,t62,.int .i64 0] A2):=by
  intro A2 va2 vl vw vs2 Fr2 Fa2 hk2 hf2' hn2 ha2 hj2
  have hS0:∀ y∈j::Fa,j≤y:=fun y hy=>by
   rcases List.mem_cons.1 hy with h | h
   ·omega
   ·have:=hFa y h;omega
  have hS:∀ y∈j::Fa,y < A.next∨j≤y:=fun y hy=>.inr (hS0 y hy)
  have hv2:OwnE 90 3 fG A2 v (X.map (·.1)) F:=hv.keeps hk2 fun y hy hm=>by
   have:=hF y hy
   rcases hS y hm with h | h <;> omega
  obtain ⟨w,Fw,w1,w2,w3⟩:=hv2.to etG (i:=f) (by rw [List.length_map];omega) (sl77_t A2)
  rw [w1]
  rw [← List.map_take] at w2
  have hl2:=w2.len etG (B:=A2)
  rw [List.length_map,List.length_take,Nat.min_eq_left (by omega)] at hl2
  simp only [pureW_some,hl2]
  refine cutW_self.2 ⟨100000+(f - 0),.inl ⟨rfl,X,f,0,t0,j,va2,w,v',vl,vw,vs2,Fa2,[],Fr2,Fw,rfl,hx,by omega,rfl,hlow.keeps hk2 hS,hj,w2,fun y hy=>(hF y (w3 y hy)).2,?_,hj2,?_⟩⟩
  ·simpa using ha2
  ·exact ⟨hgr.keeps.trans hk2 fun y hy=>.inr (by have:=hS0 y hy;omega),hf2',by omega⟩
 refine forkW_beq.2 ⟨fun hz=>?_,fun hz=>?_⟩
 ·have hz:X.drop f=[]:=List.drop_of_length_le (by omega)
  refine bsMade (bs46 A' 1) rfl hgr.fine (by omega) fun A1 m1=>?_
  have n1:=m1.next
  have k1:=m1.keeps hgr.fine
  refine wc41 (s:=⟨⟨[]⟩⟩) (hg0.keeps k1 (by simp)) m1.fine (by simp) (by omega) fun A2 g2=>?_
  have n2:=g2.next
  have le2:=g2.le
  have g2':=(Grow.made m1 hgr.fine).trans g2
  have j2:=hjr.keeps g2'.keeps (by simp)
  simp only [ptr] at j2
  simp only [ln_9,ptr,nilP_some,fa_83_4,fa_83_5,fa_83_6,Nat.zero_add,pureW_some]
  refine j2.store g2.fine (by omega) (st_46 _ _ _) rfl (by show 4+1≤8;omega) rfl fun A3 j3 k3 n3 f3=>?_
  have j3:Go.Abs.Row1 A3 j [.pointer (some ⟨d,0,none⟩),.int .i64 limit,.string ⟨⟨[]⟩⟩,.slice none 0 0,.slice (some ⟨A'.next,0,none⟩) 1 1,.int .i64 0,.bool false,.bool false] 83:=j3
  have k3:Keeps A2 A3 [j]:=k3
  refine j3.store f3 (by omega) (st_3 _ _ _) rfl (by show 5+1≤8;omega) rfl fun A4 j4 k4 n4 f4=>?_
  have j4:Go.Abs.Row1 A4 j [.pointer (some ⟨d,0,none⟩),.int .i64 limit,.string ⟨⟨[]⟩⟩,.slice none 0 0,.slice (some ⟨A'.next,0,none⟩) 1 1,.int .i64 ((13:Nat):Int),.bool false,.bool false] 83:=j4
  have k4:Keeps A3 A4 [j]:=k4
  refine j4.store f4 (by omega) (st_4 _ _ _) rfl (by show 6+1≤8;omega) rfl fun A5 j5 k5 n5 f5=>?_
  have j5:Go.Abs.Row1 A5 j [ptr d,.int .i64 limit,.string ⟨⟨[]⟩⟩,.slice none 0 0,.slice (some ⟨A'.next,0,none⟩) 1 1,.int .i64 ((13:Nat):Int),.bool true,.bool false] 83:=j5
  have k5:Keeps A4 A5 [j]:=k5
  have k25:Keeps A2 A5 [j]:=(k3.trans k4 (by simp)).trans k5 (by simp)
  have K5:Keeps A' A5 [j]:=(g2'.keeps.more (by simp)).trans k25 (by simp)
  have le25:=k25.next
  refine bsMade (bs84_3 A5 42 43 45 t0) rfl f5 (by omega) fun A6 m6=>?_
  have n6:=m6.next
  have k6:=m6.keeps f5
  have K6:Keeps A' A6 [j]:=K5.trans k6 (by simp)
  have hjFa:j∉Fa:=fun hm=>by have:=hFa j hm;omega
  have m6r:Go.Abs.Row1 A6 A5.next (flat fV [f1V 42 t0,f1V 43 t0,f1V 45 t0]) 50:=m6.row1
  have hvs:vs.length≤1:=by rw [← hact.len];split <;> simp
  refine OwnF.appendS (l2:=[f1V 42 t0,f1V 43 t0,f1V 45 t0]) esF.us esF.sz esF.by' esF.hz esF.len esF.one (hact.own.keeps K6 (fun y hy=>by have:=hFa y hy;simp;omega)) (ES_srcL esF (c:=3) m6r) m6.fine (by omega) (by omega) (by simp) fun v7 A7 F7 o7 k7 hF7 n7 f7=>?_
  have K7:Keeps A' A7 (j::Fa):=(K6.more (by simp)).trans k7 (fun y hy=>.inl (by simp [hy]))
  have hjF7:∀ y∈F7,j < y:=fun y hy=>(hF7 y hy).elim (hFa y) fun h=>by omega
  refine start A7 v7 (.slice none 0 0) (.slice (some ⟨A'.next,0,none⟩) 1 1) (vs++[f1V 42 t0,f1V 43 t0,f1V 45 t0]) [A'.next] F7 K7 f7 (by omega) ?_ ?_
  ·unfold baseA
   rw [if_pos hz]
   refine hact.app K7 (fun y hy=>?_) (fun y hy=>?_) (l2:=[.ap0,.syF,.rn1]) rfl (fun m a w ha hw=>?_) o7
   ·rcases List.mem_cons.1 hy with h | h
    ·exact .inl (by omega)
    ·exact .inr (.inl h)
   ·rcases List.mem_append.1 hy with h | h
    ·exact .inr (by have:=List.mem_singleton.1 h;omega)
    ·exact (hF7 y h).imp (fun h=>h) fun h=>by omega
   ·match m,ha,hw with
    | 0,ha,hw=>cases ha;cases hw;rfl
    | 1,ha,hw=>cases ha;cases hw;rfl
    | 2,ha,hw=>cases ha;cases hw;rfl
    | m+3,ha,hw=>simp at ha
  ·have e1:rowAt (X.drop f) 0=[1]:=by unfold rowAt;rw [if_pos hz]
   have e2:sizeAt (X.drop f) 0=13:=by unfold sizeAt;rw [hz];rfl
   have e3:smAt (X.drop f) 0=true:=by unfold smAt;rw [hz];rfl
   rw [e1,e2,e3]
   have r1:Go.Abs.Row1 A1 A'.next (flat fI [1]) 3:=m1.row1
   have r7:=((r1.keeps g2.keeps (by simp)).keeps (k25.trans k6 (by simp)) (by simp;omega)).keeps k7 fun hm=>by have:=hal _ hm;omega
   refine ⟨j5.keeps ((k6.more (T:=Fa) (by simp)).trans k7 (fun y hy=>.inl hy)) hjFa,OwnE.nil _,.inr ⟨A'.next,rfl,by simp,r7,rfl⟩,by simp,fun y hy=>?_,hjF7⟩
   have:=List.mem_singleton.1 hy
   refine ⟨by omega,fun hm=>?_⟩
   rcases hF7 y hm with h | h
   ·have:=hal y h;omega
   ·omega
 ·have hz:X.drop f≠[]:=by
   intro h0
   have:=congrArg List.length h0
   rw [List.length_drop,List.length_nil] at this
   omega
  refine start A' va (.slice none 0 0) (.slice none 0 0) vs [] Fa (.refl _ _) hgr.fine (by omega) ?_ ?_
  ·unfold baseA
   rw [if_neg hz,List.append_nil]
   exact hact
  ·have e1:rowAt (X.drop f) 0=[]:=by unfold rowAt;rw [if_neg hz];rfl
   have e2:sizeAt (X.drop f) 0=0:=by unfold sizeAt;rw [if_neg hz];rfl
   have e3:smAt (X.drop f) 0=false:=by unfold smAt;simp [hz]
   rw [e1,e2,e3]
   exact ⟨hjr,OwnE.nil _,OwnF.nil _,by simp,by simp,hFa⟩
theorem wc8 {A:AW} {d mp k L:Nat} {s:DS} {limit:Int} {K:Value→AW→Prop} (h:Dk A d mp s) (hg0:Glb A) (hok:OkS k s) (hk9:k≤1000) (hLf:∀ f∈s.D,f.2.1.length≤L) (hL:L < 900000) (hkL:k * L < 900000) (hf:Fine A) (hA:A.next < 500000000000) (h0:0≠d∧0≠mp)
  (hnum:∀ f∈namesS s.D,NumK W0 m0 f) (hnm:∀ n,n=1∨(∃ x∈segsOf s.D (namesS s.D),x.n=n)→NameK W0 m0 n)
  (hkN:∀ e A' s',openS s (namesS s.D) limit=(s',none,e)→Dk A' d mp s'→Keeps A A' [d,mp]→A'.next≤A.next+1000 * (2 * L+100)+3000000→Fine A'→K (.tuple ⟨[.pointer none,.int .i64 e]⟩) A')
  (hkS:∀ A' s' q j Fl Fr,openS s (namesS s.D) limit=(s',some q,0)→JD A' j d mp q s' Fl Fr→A.next≤j→(∀ y∈Fl,A.next≤y)→(∀ y∈Fr,A.next≤y)→Keeps A A' [d,mp]→A'.next≤A.next+1000 * (2 * L+100)+3000000→Fine A'→K (.tuple ⟨[ptr j,.int .i64 0]⟩) A'):
  Wc Tp theX W0 m0 8 [ptr d,.int .i64 limit] A K:=by
 have hmax:maxId=1099511627776:=rfl
 have hdl:=h.lt
 have hfew:=hok.few
 have hDL:s.D.length * (L+30)≤1000 * (L+30):=Nat.mul_le_mul_right _ (by omega)
 by_cases hlim:limit < 1
 ·have hos:openS s (namesS s.D) limit=(s,none,2):=by unfold openS;rw [if_pos hlim]
  refine w8 _ _ _ (cuts_none (S:=fun _ _ _=>False) fun _ _ _ h=>h) ?_
  rw [e8]
  refine newP_made (cs:=[ptr d]) hf (by omega) rfl fun A1 m1=>?_
  have n1:=m1.next
  have k1:=m1.keeps hf
  have r1:=m1.row1
  simp only [ptr] at r1
  simp only [ld_27,cell_row r1.row,cellOf,isT_ptr,cond_false,pureW_some]
  refine wc19 (h.keeps k1 (by simp) (by simp)) m1.fine (by omega) fun A2 d2 k2 n2 f2=>?_
  simp only [pe27,pureW_some,bin_lss]
  refine forkW_bool.2 ⟨fun h=>by simp at h,fun _=>?_⟩
  simp only [forkW_dec]
  refine ⟨fun _=>?_,fun h=>absurd hlim h⟩
  have K2:=k1.trans k2 (by simp)
  exact hkN 2 A2 s hos (h.keeps K2 (by simp) (by simp)) (K2.more (by simp)) (by omega) f2
 by_cases hdn:s.down=true
 ·have hos:openS s (namesS s.D) limit=(s,none,100):=by unfold openS;rw [if_neg hlim,if_pos hdn]
  refine w8 _ _ _ (cuts_none (S:=fun _ _ _=>False) fun _ _ _ h=>h) ?_
  rw [e8]
  refine newP_made (cs:=[ptr d]) hf (by omega) rfl fun A1 m1=>?_
  have n1:=m1.next
  have k1:=m1.keeps hf
  have r1:=m1.row1
  simp only [ptr] at r1
  simp only [ld_27,cell_row r1.row,cellOf,isT_ptr,cond_false,pureW_some]
  refine wc19 (h.keeps k1 (by simp) (by simp)) m1.fine (by omega) fun A2 d2 k2 n2 f2=>?_
  simp only [pe27,pureW_some,bin_lss]
  refine forkW_bool.2 ⟨fun h=>by simp at h,fun _=>?_⟩
  have r2:=r1.keeps k2 (by simp)
  simp only [forkW_dec,cell_row r2.row,cellOf,isT_ptr,cond_false,pureW_some]
  refine ⟨fun h=>absurd h hlim,fun _=>?_⟩
  have K2:=k1.trans k2 (by simp)
  have hd2:=h.keeps K2 (by simp) (by simp)
  refine wc23 hd2 ?_
  rw [hdn]
  refine forkW_bool.2 ⟨fun _=>?_,fun h=>by simp at h⟩
  exact hkN 100 A2 s hos hd2 (K2.more (by simp)) (by omega) f2
 have hdn:s.down=false:=by simpa using hdn
 refine w8 _ _ _ (c8 (I:=OI A d mp k L s limit) fun g id vals A' dd hI hd'=>?_) ?_
 ·rcases hI with ⟨rfl,hh⟩ | ⟨rfl,hh⟩ | ⟨rfl,hh⟩
  ·exact open0 hk9 hL hA (.inl ⟨rfl,hh⟩) hd'
  ·exact open2 h hok hk9 hL hkL hA (.inr (.inl ⟨rfl,hh⟩)) hd'
  ·exact open4 hg0 hk9 hL hkL hA hlim hdn hdl h0 hnm hkN hkS (.inr (.inr ⟨rfl,hh⟩)) hd'
 rw [e8]
 refine newP_made (cs:=[ptr d]) hf (by omega) rfl fun A1 m1=>?_
 have n1:=m1.next
 have k1:=m1.keeps hf
 have r1:=m1.row1
 simp only [ptr] at r1
 simp only [ptr,ld_27,cell_row r1.row,cellOf,isT_ptr,cond_false,pureW_some]
 refine wc19 (h.keeps k1 (by simp) (by simp)) m1.fine (by omega) fun A2 d2 k2 n2 f2=>?_
 simp only [pe27,pureW_some,bin_lss]
 refine forkW_bool.2 ⟨fun h=>by simp at h,fun _=>?_⟩
 have r2:=r1.keeps k2 (by simp)
 simp only [forkW_dec,cell_row r2.row,cellOf,isT_ptr,cond_false,pureW_some]
 refine ⟨fun h=>absurd h hlim,fun _=>?_⟩
 have K2:=k1.trans k2 (by simp)
 have hd2:=h.keeps K2 (by simp) (by simp)
 refine wc23 hd2 ?_
 rw [hdn]
 refine forkW_bool.2 ⟨fun h=>by simp at h,fun _=>?_⟩
 simp only [cell_row r2.row,cellOf,isT_ptr,cond_false,pureW_some]
 refine wc36 (L:=L) hd2 (hg0.keeps K2 (by simp)) hdn (by omega) hLf hL f2 (by omega) hnum ⟨by omega,by omega⟩ fun A3 v F X hX ho hF hsv g3=>?_
 have n3:=g3.next
 have le3:=g3.le
 simp only [exL_two0,exL_two1,pureW_some,bin_neq]
 refine forkW_bne.2 ⟨fun he=>by simp at he,fun _=>?_⟩
 have hXl:X.length≤s.D.length:=by
  have:=segsOf_len s.D
  rw [← hX,List.length_map] at this
  exact this
 have hxs:∀ x∈X,x.2.length≤L∧x.1.n < 100000000∧x.1.st < 256:=fun x hx=>by
  have hm:toSeg x∈segsOf s.D (namesS s.D):=by rw [← hX];exact List.mem_map.2 ⟨x,hx,rfl⟩
  obtain ⟨p,hp,he⟩:=seg_mem hm
  have h1:=scan_len _ (fileOf s.D p).1 rfl
  have h2:=fileOf_le hLf p
  have e1:x.2.map toR=(scan (fileOf s.D p).1).1:=congrArg Seg.l he
  have e2:x.1.n=numOf p:=congrArg Seg.n he
  have e3:x.1.st=(scan (fileOf s.D p).1).2.2:=congrArg Seg.st he
  have h3:=numOf_lt p
  have e1l:=congrArg List.length e1
  rw [List.length_map] at e1l
  exact ⟨by omega,by omega,by omega⟩
 have hXL:X.length * (L+2)≤1000 * (L+2):=Nat.mul_le_mul_right _ (by omega)
 have hfin:∀ (o:Option (List Seg × Nat)),rowS (segsOf s.D (namesS s.D))=o→o=none→openS s (namesS s.D) limit=(s,none,120):=by
  intro o h1 h2
  unfold openS
  rw [if_neg hlim,if_neg (by rw [hdn];simp),h1,h2]
 refine wc37 (lo:=A2.next) (M:=L) ho hsv g3.fine (by omega) (fun x hx=>(hxs x hx).1) hL (fun x hx=>(hxs x hx).2.1) (fun x hx=>(hxs x hx).2.2) (by omega) (fun hr A4 g4=>?_) fun f hr hfX A4 v' F' g4 hrd hF'=>?_
 ·have n4:=g4.next
  simp only [show ∀ a b c,extractP (.tuple ⟨[a,b,c]⟩) 0=some a from fun _ _ _=>rfl,show ∀ a b c,extractP (.tuple ⟨[a,b,c]⟩) 1=some b from fun _ _ _=>rfl,show ∀ a b c,extractP (.tuple ⟨[a,b,c]⟩) 2=some c from fun _ _ _=>rfl,pureW_some,un_not]
  refine forkW_bool.2 ⟨fun _=>?_,fun h=>by simp at h⟩
  have K4:=(K2.trans g3.keeps (by simp)).trans g4.keeps (by simp)
  exact hkN 120 A4 s (hfin none (by rw [← hX];exact hr) rfl) (h.keeps K4 (by simp) (by simp)) (K4.more (by simp)) (by omega) g4.fine
 have n4:=g4.next
 have le4:=g4.le
 simp only [show ∀ a b c,extractP (.tuple ⟨[a,b,c]⟩) 0=some a from fun _ _ _=>rfl,show ∀ a b c,extractP (.tuple ⟨[a,b,c]⟩) 1=some b from fun _ _ _=>rfl,show ∀ a b c,extractP (.tuple ⟨[a,b,c]⟩) 2=some c from fun _ _ _=>rfl,pureW_some,un_not]
 refine forkW_bool.2 ⟨fun h=>by simp at h,fun _=>?_⟩
 have r4:=(r2.keeps g3.keeps (by simp)).keeps g4.keeps (by simp)
 have hba:=ba83 d limit
 simp only [ptr] at hba
 simp only [cell_row r4.row,cellOf,isT_ptr,cond_false,pureW_some,hba]
 refine newP_made (cs:=[.pointer (some ⟨d,0,none⟩),.int .i64 limit,.string ⟨⟨[]⟩⟩,.slice none 0 0,.slice none 0 0,.int .i64 0,.bool false,.bool false]) g4.fine (by omega) rfl fun A5 m5=>?_
 have n5:=m5.next
 have k5:=m5.keeps g4.fine
 have r5:=r4.keeps k5 (by simp)
 simp only [cell_row r5.row,cellOf,isT_ptr,cond_false,pureW_some]
 have K5:Keeps A A5 []:=((K2.trans g3.keeps (by simp)).trans g4.keeps (by simp)).trans k5 (by simp)
 have hd5:=h.keeps K5 (by simp) (by simp)
 refine wc11 hd5 m5.fine (by omega) (by omega) fun A6 sv Fn h6 hFn k6 n6 f6=>?_
 have hrd6:=names_rd h6
 have hnl:(namesS s.D).length=s.D.length:=by unfold namesS;rw [List.length_mergeSort,List.length_map]
 refine wc38 (k:=⟨⟨[106,46,110,101,119]⟩⟩) hrd6 (by omega) ?_
 have K6:Keeps A A6 []:=K5.trans k6 (by simp)
 have k46:Keeps A4 A6 []:=k5.trans k6 (by simp)
 have k36:Keeps A3 A6 []:=g4.keeps.trans k46 (by simp)
 have le6:=k6.next
 have hox:OX s k L X f:=⟨hX.symm,hr,hfX,by omega,fun x hx=>(hxs x hx).1⟩
 have hlow:LowO A.next A6 A.next.succ.pred A.next d X v' f∨True:=.inr trivial
 have holt:=OwnE.lt ho
 have hlow:LowO A.next A6 A4.next A.next d X v' f:=by
  refine ⟨r5.keeps k6 (by simp),⟨by omega,by omega⟩,⟨F',hrd.keeps k46 (by simp),fun y hy=>?_⟩,fun x hx=>?_⟩
  ·have h1:=hF' y hy
   have h2:=hF y h1
   have h3:=holt y h1
   omega
  ·obtain ⟨G,hG1,hG2⟩:=hsv x hx
   refine ⟨G,hG1.keeps k36 (by simp),fun y hy=>?_⟩
   have h1:=hG1.fam y hy
   have h2:=hG2 y hy
   omega
 have ho6:=ho.keeps k36 (by simp)
 have hF6:∀ y∈F,A.next≤y∧y < A4.next:=fun y hy=>by
  have h2:=hF y hy
  have h3:=holt y hy
  omega
 have j6:=m5.row1.keeps k6 (by simp)
 have g6:Grow A A6 (1000 * (2 * L+100) - 110):=⟨K6,f6,by omega⟩
 have hfr:(⟨⟨[106,46,110,101,119]⟩⟩:ByteArray).data.toList=fresh:=rfl
 rw [hfr]
 refine forkW_bool.2 ⟨fun hin=>?_,fun hin=>?_⟩
 ·have hin:fresh∈namesS s.D:=by simpa using hin
  refine bsMade (bs84_1 A6 39 A.next) rfl f6 (by omega) fun A7 m7=>?_
  have n7:=m7.next
  have k7:=m7.keeps f6
  refine OwnF.append1 esF (p:=f1V 39 A.next) (OwnF.nil A7) m7.row1 m7.fine (by omega) (by simp) fun v8 A8 F8 o8 k8 hF8 n8 f8=>?_
  have k68:Keeps A6 A8 []:=k7.trans k8 (by simp)
  have h8:∀ y∈F8,A6.next < y:=fun y hy=>(hF8 y hy).elim (fun h=>by simp at h) fun h=>by omega
  refine mid (k:=k) (F':=F') (Fa:=F8) (vs:=[f1V 39 A.next]) ((hg0.keeps K6 (by simp)).keeps k68 (by simp)) hk9 hL hA hox (hlow.keeps k68 (by simp)) (by omega) (ho6.keeps k68 (by simp)) hF6 ?_ (fun y hy=>by have:=h8 y hy;omega) (j6.keeps k68 (by simp)) ((g6.trans ⟨k68,f8,(by omega:A8.next≤A6.next+2)⟩).more (by omega))
  rw [if_pos hin]
  refine ⟨o8,rfl,fun m a w ha hw=>?_⟩
  match m,ha,hw with
  | 0,ha,hw=>cases ha;cases hw;rfl
  | m+1,ha,hw=>simp at ha
 ·have hin:fresh∉namesS s.D:=by simpa using hin
  refine mid (k:=k) (F':=F') (Fa:=[]) (vs:=[]) (hg0.keeps K6 (by simp)) hk9 hL hA hox hlow (by omega) ho6 hF6 ?_ (by simp) j6 (g6.more (by omega))
  rw [if_neg hin]
  exact ActO.nil _ _ _ _
end
noncomputable def tailN (Q:Value→AW→Prop) (a0 t0 b:Value) (A:AW):Prop:=
 pureW (nilP a0) fun t187=>pureW (fieldAddrA Tp 83 t187 5) fun t188=>pureW (loadP Tp A 3 t188) fun t189=>pureW (lenA Tp A 9 b) fun t190=>pureW (binA Tp .add 3 (.tmp 101) (.tmp 103) t189 t190) fun t191=>pureW (nilP a0) fun t192=>pureW (fieldAddrA Tp 83 t192 5) fun t193=>effW (storeP Tp A 3 t193 t191) fun At194=>pureW (nilP a0) fun t195=>pureW (fieldAddrA Tp 83 t195 6) fun t196=>effW (storeP Tp At194 4 t196 (.bool true)) fun At197=>pureW (nilP a0) fun t198=>pureW (fieldAddrA Tp 83 t198 3) fun t199=>pureW (loadP Tp At197 22 t199) fun t200=>pureW (loadP Tp At197 35 t0) fun t201=>bothW (buildSliceA Tp At197 22 1 [(0,t201)]) fun t202 At202=>freshW (freshOf Tp (evalT (Tm.fill ⟨1,.nil⟩ 0 [t201])) (.buildSlice 22 1 #[(0,.tmp 0)])) At202 t202 (pureW (loadP Tp At202 35 t0) fun t203=>eqW t203 t201 (pureW (loadP Tp At202 22 t199) fun t204=>eqW t204 t200 (pureW (fieldAddrA Tp 83 t198 3) fun t205=>eqW t205 t199 (pureW (nilP a0) fun t206=>eqW t206 t198 (eqW a0 a0 (eqW a0 a0 (bothW (appendA Tp At202 22 22 t200 t202) fun t207 At207=>eqW a0 a0 (pureW (nilP a0) fun t208=>pureW (fieldAddrA Tp 83 t208 3) fun t209=>effW (storeP Tp At207 22 t209 t207) fun At210=>Q (.int .i64 0) At210))))))))
section
variable {W0:World} {m0:Inj Tp}
theorem tail_ok {A:AW} {j d t0:Nat} {q:JS} {Fl Fr:List Nat} {r:RV} {b:ByteArray} {K:Value→AW→Prop} (h:Jn A j d q Fl Fr) (hjl:j∉Fl) (hjr:j∉Fr) (hlr:∀ y∈Fl,y∉Fr) (ht:Go.Abs.Row1 A t0 (fR r) 35) (ht1:t0∉Fl) (ht2:t0≠j) (hf:Fine A) (hA:A.next+5 < maxId) (hl:q.l.length < 1000000) (hs:q.size+b.data.toList.length < 4611686018427387904)
  (hk:∀ A' Fl',Jn A' j d { q with size:=q.size+b.data.toList.length,some:=true,l:=q.l++[toR r] } Fl' Fr→(∀ y∈Fl',y∈Fl∨A.next≤y)→Keeps A A' (j::Fl)→A'.next≤A.next+2→Fine A'→K (.int .i64 0) A'):tailN K (ptr j) (ptr t0) (.string b) A:=by
 obtain ⟨vl,vr,rl,j1,o1,hql,o2⟩:=h
 have hjlt:=j1.lt
 have htlt:=ht.lt
 have hvl:=o1.one
 have hvr:=o2.one
 have hlls:=o1.lt
 have hrls:=o2.lt
 have ht:Go.Abs.Row1 A t0 [.int .u8 r.1.toNat,.string r.2] 35:=ht
 have hrl:rl.length=q.l.length:=by rw [hql,List.length_map]
 unfold tailN
 simp only [ptr,nilP_some,fa_83_3,fa_83_5,fa_83_6,ld_3,ln_9,cell_row j1.row,cellOf,isT_ptr,isT_int,isT_string,isT_bool,hvl.2,hvr.2,cond_false,pureW_some,bin_add]
 rw [wrap_i64 (by omega) (by omega)]
 have es:(q.size:Int)+(b.data.toList.length:Int)=((q.size+b.data.toList.length:Nat):Int):=by omega
 rw [es]
 refine j1.store hf (by omega) (st_3 _ _ _) rfl (by show 0+5+1≤8;omega) rfl fun A2 j2 k2 n2 f2=>?_
 have j2:Go.Abs.Row1 A2 j [.pointer (some ⟨d,0,none⟩),.int .i64 q.limit,.string ⟨⟨q.state⟩⟩,vl,vr,.int .i64 ((q.size+b.data.toList.length:Nat):Int),.bool q.some,.bool q.broken] 83:=j2
 have k2:Keeps A A2 [j]:=k2
 refine j2.store f2 (by omega) (st_4 _ _ _) rfl (by show 0+6+1≤8;omega) rfl fun A3 j3 k3 n3 f3=>?_
 have j3:Go.Abs.Row1 A3 j [.pointer (some ⟨d,0,none⟩),.int .i64 q.limit,.string ⟨⟨q.state⟩⟩,vl,vr,.int .i64 ((q.size+b.data.toList.length:Nat):Int),.bool true,.bool q.broken] 83:=j3
 have k3:Keeps A2 A3 [j]:=k3
 have K3:Keeps A A3 [j]:=k2.trans k3 (by simp)
 have t3:=ht.keeps K3 (by simpa using ht2)
 have hcells:∀ B,Go.Abs.Row1 B t0 [.int .u8 r.1.toNat,.string r.2] 35→B.cells? ⟨t0,0,none⟩ 2=some [.int .u8 r.1.toNat,.string r.2]:=fun B hB=>by rw [cells_row hB.row];rfl
 simp only [ld_22,ld_35,hcells A3 t3,cell_row j3.row,cellOf,isT_ptr,isT_int,isT_string,hvl.2,cond_false,pureW_some,Nat.zero_add]
 refine bs22' (c:=r.1) (s:=r.2) f3 (by omega) fun A4 m4=>?_
 have n4:=m4.next
 have k4:=m4.keeps f3
 refine ⟨⟨_,fresh22 _ _,?_⟩,?_⟩
 ·have:=m4.row
  simp only [stillFresh,rowHas,this,fR,sameL,same_int,same_string,Bool.and_self,Option.isNone_none,Nat.beq_refl]
 have j4:=j3.keeps k4 (by simp)
 have t4:=t3.keeps k4 (by simp)
 simp only [hcells A4 t4,cell_row j4.row,cellOf,isT_ptr,isT_int,isT_string,hvl.2,cond_false,pureW_some,eqW_self]
 have K4:Keeps A A4 [j]:=K3.trans k4 (by simp)
 refine (o1.keeps K4 fun y hy=>by simp;intro h;subst h;exact hjl hy).append etR (p:=r) m4.row1 m4.fine (by omega) (by omega) fun v5 A5 F5 o5 k5 hF5 n5 f5=>?_
 have j5:=j4.keeps k5 hjl
 obtain ⟨so,sc,hv5⟩:=o5.slice
 refine j5.store f5 (by omega) (st_22 _ _ _) (by rw [hv5];rfl) (by show 3+1≤8;omega) (by rw [hv5];rfl) fun A6 j6 k6 n6 f6=>?_
 have j6:Go.Abs.Row1 A6 j [.pointer (some ⟨d,0,none⟩),.int .i64 q.limit,.string ⟨⟨q.state⟩⟩,v5,vr,.int .i64 ((q.size+b.data.toList.length:Nat):Int),.bool true,.bool q.broken] 83:=by rw [hv5] at j6 ⊢;exact j6
 have k6:Keeps A5 A6 [j]:=k6
 have K6:Keeps A A6 (j::Fl):=((K4.more (by simp)).trans k5 (fun y hy=>.inl (by simp [hy]))).trans k6 (by simp)
 have le4:=K4.next
 have hF5':∀ y∈F5,y∈Fl∨A.next≤y:=fun y hy=>(hF5 y hy).imp (fun h=>h) fun h=>by omega
 refine hk A6 F5 ⟨v5,vr,rl++[r],j6,o5.keeps k6 fun y hy=>?_,?_,o2.keeps K6 fun y hy hm=>?_⟩ hF5' K6 (by omega) f6
 ·simp
  rintro rfl
  rcases hF5' y hy with h | h
  ·exact hjl h
  ·omega
 ·show q.l++[toR r]=_
  rw [hql,List.map_append];rfl
 ·rcases List.mem_cons.1 hm with h | h
  ·subst h;exact hjr hy
  ·exact hlr y h hy
theorem e10f (W0:World) (m0:Inj Tp) (S:Nat→List Value→AW→Prop) (Q:Value→AW→Prop) (a0 a1:Value) (A:AW):gE W0 m0 S Q 10 119 Tz Lz [a0,a1] A=(bothW (newP A (Value.cells a1).toList 35) fun t0 At0=>Wc Tp theX W0 m0 53 [a0] At0 fun t1 At1=>pureW (unA Tp .not t1) fun t2=>forkW t2 (Q (.int .i64 1) At1) (pureW (fieldAddrA Tp 35 t0 0) fun t3=>pureW (loadP Tp At1 5 t3) fun t4=>pureW (binA Tp .eql 5 (.tmp 16) (.const (.int .u8 0)) t4 (.int .u8 0)) fun t5=>forkW t5 (Q (.int .i64 2) At1) (Wc Tp theX W0 m0 54 [a0] At1 fun t6 At6=>pureW (binA Tp .neq 30 (.tmp 20) (.const (.int .i64 0)) t6 (.int .i64 0)) fun t7=>forkW t7 (Q t6 At6) (pureW (loadP Tp At6 35 t0) fun t8=>bothW (buildSliceA Tp At6 22 1 [(0,t8)]) fun t9 At9=>Wc Tp theX W0 m0 55 [t9] At9 fun t10 At10=>pureW (extractP t10 0) fun t11=>pureW (extractP t10 1) fun t12=>pureW (binA Tp .neq 30 (.tmp 29) (.const (.int .i64 0)) t12 (.int .i64 0)) fun t13=>forkW t13 (Q t12 At10) (Wc Tp theX W0 m0 56 [a0] At10 fun t14 At14=>pureW (nilP a0) fun t15=>pureW (fieldAddrA Tp 83 t15 6) fun t16=>pureW (loadP Tp At14 4 t16) fun t17=>forkW t17 (pureW (lenA Tp At14 9 t11) fun t18=>pureW (nilP a0) fun t19=>pureW (fieldAddrA Tp 83 t19 1) fun t20=>pureW (loadP Tp At14 3 t20) fun t21=>pureW (nilP a0) fun t22=>pureW (fieldAddrA Tp 83 t22 5) fun t23=>pureW (loadP Tp At14 3 t23) fun t24=>pureW (binA Tp .sub 3 (.tmp 44) (.tmp 48) t21 t24) fun t25=>pureW (binA Tp .gtr 3 (.tmp 40) (.tmp 49) t18 t25) fun t26=>forkW t26 (pureW (binA Tp .eql 3 (.tmp 53) (.const (.int .i64 99999999)) t14 (.int .i64 99999999)) fun t27=>forkW t27 (Q (.int .i64 6) At14) (pureW (nilP a0) fun t28=>pureW (fieldAddrA Tp 83 t28 0) fun t29=>pureW (loadP Tp At14 27 t29) fun t30=>knW Tp W0 m0 47 [t14] At14 fun t31 At31=>pureW (loadP Tp At31 27 t29) fun t32=>eqW t32 t30 (pureW (fieldAddrA Tp 83 t28 0) fun t33=>eqW t33 t29 (pureW (nilP a0) fun t34=>eqW t34 t28 (eqW a0 a0 (Wc Tp theX W0 m0 44 [t30,t31] At31 fun t35 At35=>pureW (binA Tp .neq 30 (.tmp 62) (.const (.int .i64 0)) t35 (.int .i64 0)) fun t36=>forkW t36 (Wc Tp theX W0 m0 57 [a0,t35] At35 fun t37 At37=>Q t37 At37) (pureW (binA Tp .add 3 (.tmp 67) (.const (.int .i64 1)) t14 (.int .i64 1)) fun t38=>pureW (nilP a0) fun t39=>pureW (fieldAddrA Tp 83 t39 0) fun t40=>pureW (loadP Tp At35 27 t40) fun t41=>knW Tp W0 m0 47 [t38] At35 fun t42 At42=>eqW t11 t11 (pureW (loadP Tp At42 27 t40) fun t43=>eqW t43 t41 (pureW (fieldAddrA Tp 83 t39 0) fun t44=>eqW t44 t40 (pureW (nilP a0) fun t45=>eqW t45 t39 (eqW a0 a0 (Wc Tp theX W0 m0 13 [t41,t42,t11] At42 fun t46 At46=>pureW (binA Tp .neq 30 (.tmp 77) (.const (.int .i64 0)) t46 (.int .i64 0)) fun t47=>forkW t47 (Wc Tp theX W0 m0 57 [a0,t46] At46 fun t48 At48=>Q t48 At48) (forkW t26 (pureW (nilP a0) fun t49=>pureW (fieldAddrA Tp 83 t49 4) fun t50=>pureW (loadP Tp At46 46 t50) fun t51=>bothW (buildSliceA Tp At46 46 1 [(0,t38)]) fun t52 At52=>bothW (appendA Tp At52 46 46 t51 t52) fun t53 At53=>pureW (nilP a0) fun t54=>pureW (fieldAddrA Tp 83 t54 4) fun t55=>effW (storeP Tp At53 46 t55 t53) fun At56=>pureW (nilP a0) fun t57=>pureW (fieldAddrA Tp 83 t57 5) fun t58=>effW (storeP Tp At56 3 t58 (.int .i64 0)) fun At59=>tailN Q a0 t0 t11 At59) (tailN Q a0 t0 t11 At46)))))))))))))) (pureW (nilP a0) fun t108=>pureW (fieldAddrA Tp 83 t108 0) fun t109=>pureW (loadP Tp At14 27 t109) fun t110=>knW Tp W0 m0 47 [t14] At14 fun t111 At111=>eqW t11 t11 (pureW (loadP Tp At111 27 t109) fun t112=>eqW t112 t110 (pureW (fieldAddrA Tp 83 t108 0) fun t113=>eqW t113 t109 (pureW (nilP a0) fun t114=>eqW t114 t108 (eqW a0 a0 (Wc Tp theX W0 m0 13 [t110,t111,t11] At111 fun t115 At115=>pureW (binA Tp .neq 30 (.tmp 77) (.const (.int .i64 0)) t115 (.int .i64 0)) fun t116=>forkW t116 (Wc Tp theX W0 m0 57 [a0,t115] At115 fun t117 At117=>Q t117 At117) (forkW t26 (pureW (nilP a0) fun t118=>pureW (fieldAddrA Tp 83 t118 4) fun t119=>pureW (loadP Tp At115 46 t119) fun t120=>bothW (buildSliceA Tp At115 46 1 [(0,t14)]) fun t121 At121=>bothW (appendA Tp At121 46 46 t120 t121) fun t122 At122=>pureW (nilP a0) fun t123=>pureW (fieldAddrA Tp 83 t123 4) fun t124=>effW (storeP Tp At122 46 t124 t122) fun At125=>pureW (nilP a0) fun t126=>pureW (fieldAddrA Tp 83 t126 5) fun t127=>effW (storeP Tp At125 3 t127 (.int .i64 0)) fun At128=>tailN Q a0 t0 t11 At128) (tailN Q a0 t0 t11 At115))))))))) (pureW (nilP a0) fun t177=>pureW (fieldAddrA Tp 83 t177 0) fun t178=>pureW (loadP Tp At14 27 t178) fun t179=>knW Tp W0 m0 47 [t14] At14 fun t180 At180=>eqW t11 t11 (pureW (loadP Tp At180 27 t178) fun t181=>eqW t181 t179 (pureW (fieldAddrA Tp 83 t177 0) fun t182=>eqW t182 t178 (pureW (nilP a0) fun t183=>eqW t183 t177 (eqW a0 a0 (Wc Tp theX W0 m0 13 [t179,t180,t11] At180 fun t184 At184=>pureW (binA Tp .neq 30 (.tmp 77) (.const (.int .i64 0)) t184 (.int .i64 0)) fun t185=>forkW t185 (Wc Tp theX W0 m0 57 [a0,t184] At184 fun t186 At186=>Q t186 At186) (tailN Q a0 t0 t11 At184)))))))))))):=by kernel_rfl
theorem wc10 {A : AW} {j d mp k n : Nat} {q : JS} {s : DS} {Fl Fr : List Nat} {r : RV} {K : Value → AW → Prop} (h : JD A j d mp q s Fl Fr) (hg : Glb A) (hok : OkS k s) (hk9 : k < 9000) (hf : Fine A) (hA : A.next < 900000000000) (h0 : 0 ≠ j ∧ 0 ≠ d ∧ 0 ≠ mp) (hr : r.2.data.toList.length ≤ 65536)
    (hl : q.l.length < 1000000) (hrw : q.row.length < 1000000) (hn : q.row.getLast? = some n) (hn8 : n < 100000000) (hsz : q.size < 1099511627776) (hl1 : 1 ≤ q.limit) (hl2 : q.limit < 9223372036854775808) (hN : NameK W0 m0 n) (hN1 : n ≠ 99999999 → NameK W0 m0 (n + 1))
    (hk : ∀ A' Fl' Fr', JD A' j d mp (appendJ s q (toR r)).2.1 (appendJ s q (toR r)).1 Fl' Fr' → (∀ y ∈ Fl', y ∈ Fl ∨ A.next ≤ y) → (∀ y ∈ Fr', y ∈ Fr ∨ A.next ≤ y) → Keeps A A' (j :: d :: mp :: (Fl ++ Fr)) → A'.next ≤ A.next + 100 + k → Fine A' → K (.int .i64 (appendJ s q (toR r)).2.2) A') :
    Wc Tp theX W0 m0 10 [ptr j, .agg ⟨fR r⟩] A K := by
  have hmax : maxId = 1099511627776 := rfl
  have hfew := hok.few
  have hjd := h
  refine w10 _ _ _ (cuts_none (S := fun _ _ _ => False) fun _ _ _ h => h) ?_
  rw [e10f]
  refine newP_made (cs := fR r) hf (by omega) rfl fun A1 m1 => ?_
  have n1 := m1.next
  have k1 := m1.keeps hf
  have t1 : Go.Abs.Row1 A1 A.next [.int .u8 r.1.toNat, .string r.2] 35 := m1.row1
  have J1 := h.keeps k1 (by simp) (by simp) (by simp) (by simp) (by simp)
  refine wc53 J1.jn ?_
  simp only [un_not, pureW_some]
  refine forkW_bool.2 ⟨fun h => by simp at h, fun _ => ?_⟩
  simp only [fa_35_0, ld_5, cell_row t1.row, cellOf, isT_int, cond_false, pureW_some, bin_eql]
  have stay : ∀ e : Int, appendJ s q (toR r) = (s, q, e) → ∀ A', Grow A A' 90 → K (.int .i64 e) A' := fun e he A' g => by
    rw [he] at hk
    exact hk A' Fl Fr (hjd.keeps g.keeps (by simp) (by simp) (by simp) (by simp) (by simp)) (fun y hy => .inl hy) (fun y hy => .inl hy) (g.keeps.more (by simp)) (by have := g.next; omega) g.fine
  have g1 : Grow A A1 1 := .made m1 hf
  refine forkW_beq.2 ⟨fun hz => ?_, fun hz => ?_⟩
  · have hz0 : (toR r).1 = 0 := UInt8.toNat_inj.1 (by show r.1.toNat = 0; omega)
    exact stay 2 (by unfold appendJ; rw [if_pos hz0]) A1 (g1.more (by omega))
  have hz0 : (toR r).1 ≠ 0 := fun h0 => hz (by have : r.1 = 0 := h0; rw [this]; rfl)
  refine wc54 J1.jn ?_
  simp only [bin_neq, pureW_some]
  refine forkW_bne.2 ⟨fun hb => ?_, fun hb => ?_⟩
  · have hb' : q.broken = true := by
      cases hq : q.broken with
      | true => rfl
      | false => rw [hq] at hb; simp at hb
    rw [if_pos hb']
    exact stay 100 (by unfold appendJ; rw [if_neg hz0, if_pos hb']) A1 (g1.more (by omega))
  have hb' : q.broken = false := by
    cases hq : q.broken with
    | false => rfl
    | true => rw [hq] at hb; simp at hb
  have hcells : ∀ B, Go.Abs.Row1 B A.next [.int .u8 r.1.toNat, .string r.2] 35 → B.cells? ⟨A.next, 0, none⟩ 2 = some [.int .u8 r.1.toNat, .string r.2] := fun B hB => by rw [cells_row hB.row]; rfl
  simp only [ld_35, hcells A1 t1, pureW_some]
  refine bs22' (c := r.1) (s := r.2) m1.fine (by omega) fun A2 m2 => ?_
  have n2 := m2.next
  have g2 := g1.trans (.made m2 m1.fine)
  have hrd : RdE 1 fR A2 (.slice (some ⟨A1.next, 0, none⟩) 1 1) [r] [A1.next] := .inr ⟨A1.next, 0, 1, _, _, A1.next, 0, false, rfl, m2.row, by omega, rfl, fun i p hi => by
    cases i with
    | zero => obtain rfl : r = p := by simpa using hi
              exact ⟨[], rfl⟩
    | succ i => simp at hi⟩
  have hp : putL ([r].map toR) = putR (toR r) := by simp [putL]
  have hpl : (putR (toR r)).length = 13 + r.2.data.toList.length := putR_length _
  refine wc55 hrd (hg.keeps g2.keeps (by simp)) m2.fine (by simp) (by simpa using hr) (by simp; omega) (by rw [hp, hpl]; omega) fun A3 g3 => ?_
  have g3 : Grow A2 A3 20 := g3
  have g3' := g2.trans g3
  have n3 := g3'.next
  have le3 := g3'.le
  rw [hp]
  simp only [exL_two0, exL_two1, pureW_some, bin_neq]
  refine forkW_bne.2 ⟨fun h => by simp at h, fun _ => ?_⟩
  have J3 := hjd.keeps g3'.keeps (by simp) (by simp) (by simp) (by simp) (by simp)
  refine wc56 J3.jn hn hrw ?_
  have t3 := t1.keeps ((Grow.made m2 m1.fine).trans g3).keeps (by simp)
  have hJn3 := J3.jn
  obtain ⟨vl, vr, rl, j3, o1, hql, o2⟩ := J3.jn
  have hvl := o1.one
  have hvr := o2.one
  have elast : q.row.getLast?.getD 0 = n := by rw [hn]; rfl
  have hjA := hjd.jn.lt
  have hdA := hjd.dk.lt
  have hFlA : ∀ y ∈ Fl, y < A.next := by obtain ⟨_, _, _, _, a, _, _⟩ := hjd.jn; exact a.lt
  have hFrA : ∀ y ∈ Fr, y < A.next := by obtain ⟨_, _, _, _, _, _, a⟩ := hjd.jn; exact a.lt
  have hjFl : j ∉ Fl := fun hm => (hjd.fl j hm).2.2.1 rfl
  have hjFr : j ∉ Fr := fun hm => (hjd.fr j hm).2.2 rfl
  have plain : ¬ (q.some = true ∧ q.limit - q.size < ((putR (toR r)).length : Int)) → ∀ T : AW → Prop, (∀ A4, tailN K (ptr j) (ptr A.next) (.string ⟨⟨putR (toR r)⟩⟩) A4 → T A4) → knW Tp W0 m0 47 [.int .i64 (n : Int)] A3 fun t180 At180 => pureW (At180.cell? ⟨j, 0, none⟩) fun t181 => eqW t181 (ptr d) (Wc Tp theX W0 m0 13 [ptr d, t180, .string ⟨⟨putR (toR r)⟩⟩] At180 fun t184 At184 => pureW (binA Tp .neq 30 (.tmp 77) (.const (.int .i64 0)) t184 (.int .i64 0)) fun t185 => forkW t185 (Wc Tp theX W0 m0 57 [ptr j, t184] At184 fun t186 At186 => K t186 At186) (T At184)) := by
    intro hno T hT
    refine knOne (by decide) hN rfl ?_
    simp only [ptr, cell_row j3.row, cellOf, isT_ptr, cond_false, pureW_some, eqW_self]
    refine wc13 (n := ⟨⟨Jr.nm n⟩⟩) (b := ⟨⟨putR (toR r)⟩⟩) J3.dk (hok.d (by omega)) hok.n (by show (putR (toR r)).length < _; rw [hpl]; omega) g3'.fine (by omega) fun A4 d4 k4 n4 f4 => ?_
    have ed : (⟨⟨Jr.nm n⟩⟩ : ByteArray).data.toList = Jr.nm n := rfl
    have eb : (⟨⟨putR (toR r)⟩⟩ : ByteArray).data.toList = putR (toR r) := rfl
    rw [ed, eb] at d4 ⊢
    have J4 : JD A4 j d mp q _ Fl Fr := J3.disk k4 d4
    have le4 := k4.next
    have K4 : Keeps A A4 (j :: d :: mp :: (Fl ++ Fr)) := (g3'.keeps.more (by simp)).trans k4 (fun y hy => .inl (by simp only [List.mem_cons, List.not_mem_nil, or_false] at hy; rcases hy with rfl | rfl <;> simp))
    have eap : appendJ s q (toR r) = (let y := appendS s (Jr.nm n) (putR (toR r)); if y.2 ≠ 0 then (y.1, doneJ q y.2, y.2) else (y.1, { q with size := q.size + (putR (toR r)).length, some := true, l := q.l ++ [toR r] }, 0)) := by
      unfold appendJ
      rw [if_neg hz0, if_neg (by rw [hb']; simp), elast]
      simp only
      rw [if_neg hno]
    simp only at eap
    simp only [bin_neq, pureW_some]
    refine forkW_bne.2 ⟨fun he => ?_, fun he => ?_⟩
    · rw [if_pos he] at eap
      rw [eap] at hk
      refine wc57 J4.jn f4 (by omega) hjFl hjFr fun A5 j5 k5 n5 f5 => ?_
      refine hk A5 Fl Fr ⟨j5, J4.dk.keeps k5 (by simp; exact fun h => hjd.nd.1 h.symm) (by simp; exact fun h => hjd.nd.2 h.symm), hjd.nd, hjd.fl, hjd.fr⟩ (fun y hy => .inl hy) (fun y hy => .inl hy) (K4.trans k5 (fun y hy => .inl (by simp [List.mem_singleton.1 hy]))) (by omega) f5
    · rw [if_neg (by simpa using he)] at eap
      rw [eap] at hk
      have t4 := t3.keeps k4 (by simp; omega)
      refine hT _ (tail_ok J4.jn hjFl hjFr (fun y hy => (hjd.fl y hy).2.2.2) t4 (fun hm => by have := hFlA _ hm; omega) (by omega) f4 (by omega) hl (by rw [eb, hpl]; omega) fun A5 Fl5 j5 hF5 k5 n5 f5 => ?_)
      have hF5' : ∀ y ∈ Fl5, y ∈ Fl ∨ A.next ≤ y := fun y hy => (hF5 y hy).imp (fun h => h) fun h => by omega
      refine hk A5 Fl5 Fr ⟨j5, J4.dk.keeps k5 (fun hm => ?_) (fun hm => ?_), hjd.nd, fun y hy => ?_, hjd.fr⟩ hF5' (fun y hy => .inl hy) (K4.trans k5 (fun y hy => .inl ?_)) (by omega) f5
      · rcases List.mem_cons.1 hm with h | h
        · exact hjd.nd.1 h.symm
        · exact (hjd.fl d h).1 rfl
      · rcases List.mem_cons.1 hm with h | h
        · exact hjd.nd.2 h.symm
        · exact (hjd.fl mp h).2.1 rfl
      · rcases hF5' y hy with h | h
        · exact hjd.fl y h
        · exact ⟨by omega, by omega, by omega, fun hm => by have := hFrA y hm; omega⟩
      · rcases List.mem_cons.1 hy with h | h
        · simp [h]
        · simp [h]
  have hj3 : Go.Abs.Row1 A3 j [.pointer (some ⟨d, 0, none⟩), .int .i64 q.limit, .string ⟨⟨q.state⟩⟩, vl, vr, .int .i64 (q.size : Int), .bool q.some, .bool q.broken] 83 := j3
  simp only [ptr] at plain ⊢
  simp only [nilP_some, fa_83_0, fa_83_1, fa_83_5, fa_83_6, Nat.zero_add, ld_3, ld_4, ld_27, cell_row hj3.row, cellOf, isT_ptr, isT_int, isT_string, isT_bool, hvl.2, hvr.2, cond_false, pureW_some, ln_9, bin_sub, bin_gtr, eqW_self]
  have ebl : ((⟨⟨putR (toR r)⟩⟩ : ByteArray).data.toList.length : Int) = ((putR (toR r)).length : Int) := rfl
  rw [wrap_i64 (n := q.limit - (q.size : Int)) (by omega) (by omega), ebl]
  refine forkW_bool.2 ⟨fun hsome => ?_, fun hsome => ?_⟩
  rotate_left
  · exact plain (fun hh => by rw [hsome] at hh; cases hh.1) _ fun A4 h => h
  refine forkW_dec.2 ⟨fun hturn => ?_, fun hturn => plain (fun hh => hturn hh.2) _ fun A4 h => forkW_dec.2 ⟨fun hc => absurd hc hturn, fun _ => h⟩⟩
  have htn : q.some = true ∧ q.limit - q.size < ((putR (toR r)).length : Int) := ⟨hsome, hturn⟩
  simp only [bin_eql, pureW_some]
  refine forkW_beq.2 ⟨fun hmx => ?_, fun hmx => ?_⟩
  · have hmx : n = 99999999 := by omega
    refine stay 6 ?_ A3 (g3'.more (by simp))
    unfold appendJ
    rw [if_neg hz0, if_neg (by rw [hb']; simp), elast]
    simp only
    rw [if_pos htn, if_pos hmx]
  have hmx : n ≠ 99999999 := by omega
  have eap : appendJ s q (toR r) = (let x := syncS s (Jr.nm n); if x.2 ≠ 0 then (x.1, doneJ q x.2, x.2) else let y := appendS x.1 (Jr.nm (n + 1)) (putR (toR r)); if y.2 ≠ 0 then (y.1, doneJ q y.2, y.2) else (y.1, { q with row := q.row ++ [n + 1], size := (putR (toR r)).length, some := true, l := q.l ++ [toR r] }, 0)) := by
    unfold appendJ
    rw [if_neg hz0, if_neg (by rw [hb']; simp), elast]
    simp only
    rw [if_pos htn, if_neg hmx]
  simp only at eap
  refine knOne (by decide) hN rfl ?_
  simp only [cell_row hj3.row, cellOf, isT_ptr, cond_false, pureW_some, eqW_self]
  refine wc44 (n := ⟨⟨Jr.nm n⟩⟩) J3.dk hok.n g3'.fine (by omega) fun A4 d4 k4 n4 f4 => ?_
  have ed : (⟨⟨Jr.nm n⟩⟩ : ByteArray).data.toList = Jr.nm n := rfl
  have eb : (⟨⟨putR (toR r)⟩⟩ : ByteArray).data.toList = putR (toR r) := rfl
  rw [ed] at d4 ⊢
  have J4 : JD A4 j d mp q _ Fl Fr := J3.disk k4 d4
  have le4 := k4.next
  have hsub : ∀ y ∈ [d, mp], y ∈ j :: d :: mp :: (Fl ++ Fr) := fun y hy => by simp only [List.mem_cons, List.not_mem_nil, or_false] at hy; rcases hy with rfl | rfl <;> simp
  have K4 : Keeps A A4 (j :: d :: mp :: (Fl ++ Fr)) := (g3'.keeps.more (by simp)).trans k4 (fun y hy => .inl (hsub y hy))
  simp only [bin_neq, pureW_some]
  refine forkW_bne.2 ⟨fun he => ?_, fun he => ?_⟩
  · rw [if_pos he] at eap
    rw [eap] at hk
    refine wc57 J4.jn f4 (by omega) hjFl hjFr fun A5 j5 k5 n5 f5 => ?_
    exact hk A5 Fl Fr ⟨j5, J4.dk.keeps k5 (by simp; exact fun h => hjd.nd.1 h.symm) (by simp; exact fun h => hjd.nd.2 h.symm), hjd.nd, hjd.fl, hjd.fr⟩ (fun y hy => .inl hy) (fun y hy => .inl hy) (K4.trans k5 (fun y hy => .inl (by simp [List.mem_singleton.1 hy]))) (by omega) f5
  rw [if_neg (by simpa using he)] at eap
  have j4 := hj3.keeps k4 (by simp; exact hjd.nd)
  simp only [bin_add, cell_row j4.row, cellOf, isT_ptr, cond_false, pureW_some]
  rw [wrap_i64 (n := (n : Int) + 1) (by omega) (by omega)]
  have en1 : (n : Int) + 1 = ((n + 1 : Nat) : Int) := by omega
  rw [en1]
  refine knOne (by decide) (hN1 hmx) rfl ?_
  simp only [cell_row j4.row, cellOf, isT_ptr, cond_false, pureW_some, eqW_self]
  have hok4 : OkS (k + 1) (syncS s (Jr.nm n)).1 := syncS_ok hok _
  have hfew4 := hok4.few
  refine wc13 (n := ⟨⟨Jr.nm (n + 1)⟩⟩) (b := ⟨⟨putR (toR r)⟩⟩) J4.dk (hok4.d (by omega)) hok4.n (by show (putR (toR r)).length < _; rw [hpl]; omega) f4 (by omega) fun A5 d5 k5 n5 f5 => ?_
  have ed1 : (⟨⟨Jr.nm (n + 1)⟩⟩ : ByteArray).data.toList = Jr.nm (n + 1) := rfl
  rw [ed1, eb] at d5 ⊢
  have J5 : JD A5 j d mp q _ Fl Fr := J4.disk k5 d5
  have le5 := k5.next
  have K5 : Keeps A A5 (j :: d :: mp :: (Fl ++ Fr)) := K4.trans k5 (fun y hy => .inl (hsub y hy))
  simp only [bin_neq, pureW_some]
  refine forkW_bne.2 ⟨fun he2 => ?_, fun he2 => ?_⟩
  · rw [if_pos he2] at eap
    rw [eap] at hk
    refine wc57 J5.jn f5 (by omega) hjFl hjFr fun A6 j6 k6 n6 f6 => ?_
    exact hk A6 Fl Fr ⟨j6, J5.dk.keeps k6 (by simp; exact fun h => hjd.nd.1 h.symm) (by simp; exact fun h => hjd.nd.2 h.symm), hjd.nd, hjd.fl, hjd.fr⟩ (fun y hy => .inl hy) (fun y hy => .inl hy) (K5.trans k6 (fun y hy => .inl (by simp [List.mem_singleton.1 hy]))) (by omega) f6
  rw [if_neg (by simpa using he2)] at eap
  rw [eap] at hk
  refine forkW_dec.2 ⟨fun _ => ?_, fun h => absurd hturn h⟩
  obtain ⟨vl5, vr5, rl5, j5, p1, hql5, p2⟩ := J5.jn
  have hvl5 := p1.one
  have hvr5 := p2.one
  have t5 := (t3.keeps k4 (by simp; omega)).keeps k5 (by simp; omega)
  simp only [fa_83_4, Nat.zero_add, ld_46, cell_row j5.row, cellOf, isT_ptr, isT_int, isT_string, hvl5.2, hvr5.2, cond_false, pureW_some]
  refine bsMade (bs46 A5 ((n + 1 : Nat) : Int)) rfl f5 (by omega) fun A6 m6 => ?_
  have n6 := m6.next
  have k6 := m6.keeps f5
  refine OwnF.append1 esI (p := n + 1) (p2.keeps k6 (by simp)) m6.row1 m6.fine (by omega) hrw fun w7 A7 Fr7 o7 k7 hF7 n7 f7 => ?_
  obtain ⟨wo, wc, hw7⟩ := o7.slice
  have j7 := (j5.keeps k6 (by simp)).keeps k7 hjFr
  refine j7.store f7 (by omega) (st_46 _ _ _) (by rw [hw7]; rfl) (by show 4 + 1 ≤ 8; omega) (by rw [hw7]; rfl) fun A8 j8 k8 n8 f8 => ?_
  have j8 : Go.Abs.Row1 A8 j [.pointer (some ⟨d, 0, none⟩), .int .i64 q.limit, .string ⟨⟨q.state⟩⟩, vl5, w7, .int .i64 (q.size : Int), .bool q.some, .bool q.broken] 83 := by rw [hw7] at j8 ⊢; exact j8
  have k8 : Keeps A7 A8 [j] := k8
  refine j8.store f8 (by omega) (st_3 _ _ _) rfl (by show 5 + 1 ≤ 8; omega) rfl fun A9 j9 k9 n9 f9 => ?_
  have j9 : Go.Abs.Row1 A9 j [.pointer (some ⟨d, 0, none⟩), .int .i64 q.limit, .string ⟨⟨q.state⟩⟩, vl5, w7, .int .i64 ((0 : Nat) : Int), .bool q.some, .bool q.broken] 83 := j9
  have k9 : Keeps A8 A9 [j] := k9
  have k79 : Keeps A7 A9 [j] := k8.trans k9 (by simp)
  have K59 : Keeps A5 A9 (j :: Fr) := ((k6.more (T := j :: Fr) (by simp)).trans k7 (fun y hy => .inl (by simp [hy]))).trans k79 (fun y hy => .inl (by simp [List.mem_singleton.1 hy]))
  have hF7' : ∀ y ∈ Fr7, y ∈ Fr ∨ A.next ≤ y := fun y hy => (hF7 y hy).imp (fun h => h) fun h => by omega
  have hjFr7 : j ∉ Fr7 := fun hm => by
    rcases hF7' _ hm with h | h
    · exact hjFr h
    · omega
  have hlr7 : ∀ y ∈ Fl, y ∉ Fr7 := fun y hy hm => by
    rcases hF7' _ hm with h | h
    · exact (hjd.fl y hy).2.2.2 h
    · have := hFlA y hy; omega
  have J9 : Jn A9 j d { q with row := q.row ++ [n + 1], size := 0 } Fl Fr7 := ⟨vl5, w7, rl5, j9, p1.keeps K59 fun y hy hm => by
      rcases List.mem_cons.1 hm with h | h
      · subst h; exact hjFl hy
      · exact (hjd.fl y hy).2.2.2 h, hql5, o7.keeps k79 fun y hy => by simp; rintro rfl; exact hjFr7 hy⟩
  have t9 := t5.keeps K59 fun hm => by
    rcases List.mem_cons.1 hm with h | h
    · omega
    · have := hFrA _ h; omega
  refine tail_ok J9 hjFl hjFr7 hlr7 t9 (fun hm => by have := hFlA _ hm; omega) (by omega) f9 (by omega) hl (by rw [eb, hpl]; show 0 + _ < _; omega) fun A10 Fl10 j10 hF10 k10 n10 f10 => ?_
  have e0 : 0 + (putR (toR r)).length = (putR (toR r)).length := by omega
  have j10 : Jn A10 j d { q with row := q.row ++ [n + 1], size := 0 + (putR (toR r)).length, some := true, l := q.l ++ [toR r] } Fl10 Fr7 := j10
  rw [e0] at j10
  have le9 := K59.next
  have hF10' : ∀ y ∈ Fl10, y ∈ Fl ∨ A9.next ≤ y := hF10
  have K10 : Keeps A5 A10 (j :: (Fl ++ Fr)) := (K59.more (T := j :: (Fl ++ Fr)) (fun y hy => by
      rcases List.mem_cons.1 hy with h | h
      · simp [h]
      · simp [h])).trans k10 (fun y hy => .inl (by
      rcases List.mem_cons.1 hy with h | h
      · simp [h]
      · simp [h]))
  have hdm : ∀ z, (z = d ∨ z = mp) → z ∉ j :: (Fl ++ Fr) := fun z hz hm => by
    rcases List.mem_cons.1 hm with hh | hh
    · rcases hz with hz | hz
      · exact hjd.nd.1 (hh.symm.trans hz)
      · exact hjd.nd.2 (hh.symm.trans hz)
    · rcases List.mem_append.1 hh with hh | hh
      · have := hjd.fl z hh
        exact hz.elim this.1 this.2.1
      · have := hjd.fr z hh
        exact hz.elim this.1 this.2.1
  have o7l := o7.lt
  refine hk A10 Fl10 Fr7 ⟨j10, J5.dk.keeps K10 (hdm d (.inl rfl)) (hdm mp (.inr rfl)), hjd.nd, fun y hy => ?_, fun y hy => ?_⟩ (fun y hy => (hF10' y hy).imp (fun h => h) fun h => by omega) hF7' (K5.trans K10 (fun y hy => .inl ?_)) (by omega) f10
  · rcases hF10' y hy with h | h
    · have := hjd.fl y h
      exact ⟨this.1, this.2.1, this.2.2.1, hlr7 y h⟩
    · exact ⟨by omega, by omega, by omega, fun hm => by have := o7l y hm; omega⟩
  · rcases hF7' y hy with h | h
    · exact hjd.fr y h
    · exact ⟨by omega, by omega, by omega⟩
  · rcases List.mem_cons.1 hy with h | h
    · simp [h]
    · simp only [List.mem_cons]; exact .inr (.inr (.inr h))
end
end Go.Proofs.YtbchfeibhoobeaaGreatDoor
namespace Go.Proofs.YtbchfeibhoobeaaGreatDoor
open Go.Jr
theorem nm_ok:∀ i,i < 64→numOf (Jr.nm i)=i∧mayS (Jr.nm i)=true∧Jr.nm i≠fresh:=by decide
theorem nm_inj {i j:Nat} (hi:i < 64) (hj:j < 64) (h:Jr.nm i=Jr.nm j):i=j:=by
 rw [← (nm_ok i hi).1,← (nm_ok j hj).1,h]
theorem nm_leB:∀ i,i < 64→∀ j,j < 64→i≤j→leB (Jr.nm i) (Jr.nm j)=true:=by
 have h:((List.range 64).all fun i=>(List.range 64).all fun j=>!decide (i≤j) || leB (Jr.nm i) (Jr.nm j))=true:=by decide+kernel
 intro i hi j hj hij
 have h1:=List.all_eq_true.1 h i (List.mem_range.2 hi)
 have h2:=List.all_eq_true.1 h1 j (List.mem_range.2 hj)
 simpa [hij] using h2
def filesF (F:Nat→Nat) (bs:List (List UInt8)):Fls:=bs.zipIdx.map fun x=>(Jr.nm (x.2+1),(x.1,F x.2))
theorem putF_app {D:Fls} {k:List UInt8} (h:∀ e∈D,e.1≠k) (v:Fil) (R:Fls):putF (D++R) k v=D++putF R k v:=by
 induction D with
 | nil=>rfl
 | cons e r ih=>
  rw [List.cons_append,putF]
  have he:(e.1==k)=false:=by rw [beq_eq_false_iff_ne];exact h e (by simp)
  rw [he]
  simp only [Bool.false_eq_true,if_false,List.cons_append]
  rw [ih fun x hx=>h x (by simp [hx])]
theorem lookF_app {D:Fls} {k:List UInt8} (h:∀ e∈D,e.1≠k) (R:Fls):lookF (D++R) k=lookF R k:=by
 unfold lookF
 rw [List.find?_append]
 have:D.find? (fun e=>e.1==k)=none:=List.find?_eq_none.2 fun e he=>by simpa using h e he
 rw [this];rfl
theorem foldr_add (l:List Nat):l.foldr (·+·) 0=l.sum:=rfl
theorem filterMap_all {α β:Type} {f:α→Option β} {g:α→β}:∀ {l:List α},(∀ x∈l,f x=some (g x))→l.filterMap f=l.map g
 | [],_=>rfl
 | x::r,h=>by rw [List.filterMap_cons,h x (by simp),filterMap_all fun y hy=>h y (by simp [hy])];rfl
theorem putL_one (r:Rec):putL [r]=putR r:=by simp [putL]
def TI (room limit:Int) (R:List Rec) (s:DS) (q:JS):Prop:=
 ∃ F gs g,s=⟨filesF F ((gs++[g]).map putL),room,0,false⟩∧q=⟨limit,[],R,(List.range (gs.length+1)).map (·+1),(putL g).length,true,false⟩∧(gs++[g]).flatten=(0,[])::R∧(∀ x∈gs++[g],x≠[])∧gs.length≤R.length
theorem open_new {room limit:Int} (hr:13≤room) (hl:1≤limit):∃ s q,openS ⟨[],room,0,false⟩ (namesS []) limit=(s,some q,0)∧TI room limit [] s q:=by
 have hn:namesS []=[]:=by unfold namesS;simp
 have hseg:segsOf [] []=[]:=rfl
 have hrow:rowS []=some ([],0):=rfl
 have hacts:actsOf [] [] [] 0=[.ap0,.syF,.rn1]:=by unfold actsOf;simp
 have hb0:begin0.length=13:=putR_length _
 have hmf:mayS fresh=true:=by decide
 have hm1:mayS (Jr.nm 1)=true:=(nm_ok 1 (by omega)).2.1
 have h1:appendS ⟨[],room,0,false⟩ fresh begin0=(⟨[(fresh,(begin0,0))],room,0,false⟩,0):=by
  unfold appendS
  have hfo:fileOf [] fresh=([],0):=rfl
  have hu:usedF []=0:=rfl
  simp only [Bool.false_eq_true,if_false,hmf,hfo,hu,List.length_nil,hb0]
  rw [if_neg (by simp),if_neg (by omega),if_neg (by omega)]
  unfold actS
  simp only [Int.lt_irrefl,if_false]
  rfl
 have h2:syncS ⟨[(fresh,(begin0,0))],room,0,false⟩ fresh=(⟨[(fresh,(begin0,13))],room,0,false⟩,0):=by
  unfold syncS
  have hl:lookF [(fresh,(begin0,0))] fresh=some (begin0,0):=by simp [lookF]
  simp only [Bool.false_eq_true,if_false,hl]
  unfold actS
  simp only [Int.lt_irrefl,if_false,hb0]
  simp [putF]
 have h3:renameS ⟨[(fresh,(begin0,13))],room,0,false⟩ fresh (Jr.nm 1)=(⟨[(Jr.nm 1,(begin0,13))],room,0,false⟩,0):=by
  unfold renameS
  have hl:lookF [(fresh,(begin0,13))] fresh=some (begin0,13):=by simp [lookF]
  simp only [Bool.false_eq_true,if_false,hl,hmf,hm1,Bool.and_self]
  rw [if_neg (by simp)]
  unfold actS
  simp only [Int.lt_irrefl,if_false]
  simp [delF,putF]
 have hrun:runAcs ⟨[],room,0,false⟩ [.ap0,.syF,.rn1]=(⟨[(Jr.nm 1,(begin0,13))],room,0,false⟩,0):=by
  simp only [runAcs,Ac.run,h1,h2,h3,if_true]
 refine ⟨⟨[(Jr.nm 1,(begin0,13))],room,0,false⟩,madeJ limit [],?_,fun _=>13,[],[(0,[])],?_,?_,?_,?_,?_⟩
 ·unfold openS
  rw [if_neg (by omega),hn]
  simp only [Bool.false_eq_true,if_false,hseg,hrow,hacts,hrun,if_true]
 ·simp [filesF,putL_one,begin0]
 ·unfold madeJ
  simp [allR,putL_one,putR_length]
 ·rfl
 ·simp
 ·simp
theorem lastB_first {x:Seg} {r:List Seg} (h:∀ y∈r,begins y=false):lastB (x::r)=if begins x=true then some 0 else none:=by
 have hr:lastB r=none:=by
  induction r with
  | nil=>rfl
  | cons y r ih=>
   unfold lastB
   rw [ih fun z hz=>h z (by simp [hz])]
   simp [h y (by simp)]
 unfold lastB
 rw [hr]
theorem begins_of {x:Seg} (h:∀ c∈x.l,c.1≠0):begins x=false:=by
 obtain ⟨n,l,sz,st⟩:=x
 cases l with
 | nil=>rfl
 | cons c r=>
  have:=h c (by simp)
  show (c.1==0)=false
  simpa using this
end Go.Proofs.YtbchfeibhoobeaaGreatDoor
namespace Go.Proofs.YtbchfeibhoobeaaGreatDoor
open Go.Abs Go.Jr Go.Crc
theorem pe29 (a:Addr) (xo yo:Operand):binA Tp .eql 29 xo yo (.pointer (some a)) (.pointer none)=some (.bool false):=by kernel_rfl
theorem putL_len (l:List Rec) {n:Nat} (h:∀ r∈l,r.2.length≤n):(putL l).length≤l.length * (13+n):=by
 induction l with
 | nil=>simp [putL]
 | cons r l ih=>
  rw [putL_cons,List.length_append,putR_length,List.length_cons,Nat.succ_mul]
  have:=ih fun x hx=>h x (by simp [hx])
  have:=h r (by simp)
  omega
theorem appendJ_ok {k:Nat} {s:DS} {q:JS} {r:Rec} (h:OkS k s):OkS (k+2) (appendJ s q r).1:=by
 unfold appendJ
 split
 ·exact h.more (by omega)
 ·split
  ·exact h.more (by omega)
  ·simp only
   split
   ·split
    ·exact h.more (by omega)
    ·split
     ·exact (syncS_ok h _).more (by omega)
     ·split
      ·exact (appendS_ok (syncS_ok h _) _ _).more (by omega)
      ·exact (appendS_ok (syncS_ok h _) _ _).more (by omega)
   ·split
    ·exact (appendS_ok h _ _).more (by omega)
    ·exact (appendS_ok h _ _).more (by omega)
theorem open_new_ok {room limit:Int} (hr:13≤room) (hr2:room < 9223372036854775808) (hl:1≤limit):∃ s q,openS ⟨[],room,0,false⟩ (namesS []) limit=(s,some q,0)∧TI room limit [] s q∧OkS 5 s:=by
 obtain ⟨s,q,h1,h2⟩:=open_new hr hl
 refine ⟨s,q,h1,h2,?_⟩
 have h0:OkS 0 ⟨[],room,0,false⟩:=⟨Nat.le_refl _,by simp,by simp,by show (0:Int)≤room;omega,hr2,by show (0:Int) < 9223372036854775808;decide⟩
 have key:∀ (l:List Ac) (k:Nat) (s:DS),OkS k s→OkS (k+l.length) (runAcs s l).1:=by
  intro l
  induction l with
  | nil=>intro k s h;exact h
  | cons a r ih=>
   intro k s h
   rw [runAcs_cons]
   split
   ·exact (ih (k+1) _ (Ac.run_ok h a)).more (by simp;omega)
   ·exact (Ac.run_ok h a).more (by simp)
 have hn:namesS []=[]:=by unfold namesS;simp
 have hacts:actsOf [] [] [] 0=[.ap0,.syF,.rn1]:=by unfold actsOf;simp
 have:=key [.ap0,.syF,.rn1] 0 _ h0
 unfold openS at h1
 rw [if_neg (by omega),hn] at h1
 have hseg:segsOf [] []=[]:=rfl
 have hrow:rowS []=some ([],0):=rfl
 simp only [Bool.false_eq_true,if_false,hseg,hrow,hacts] at h1
 split at h1
 ·simp only [Prod.mk.injEq] at h1
  rw [← h1.1]
  exact this.more (by simp)
 ·simp only [Prod.mk.injEq] at h1
  simp at h1
end Go.Proofs.YtbchfeibhoobeaaGreatDoor
namespace Go.Proofs.YtbchfeibhoobeaaGreatDoor
open Go.Abs
noncomputable def T4:Nat→List Item:=fun i=>match i with
 | 0=>[(.code (cd 4 [1,1,1,1,0,1,0,0])),(.inLoop (cd 4 [1,1,1,1,0,1,0,0])),(.inBlock 0),(.code (cd 4 [1,1,1,1,1]))]
 | _=>[]
noncomputable def T5:Nat→List Item:=fun i=>match i with
 | 0=>[(.code (cd 5 [1,1,1,1,1,0,1,0,0])),(.inLoop (cd 5 [1,1,1,1,1,0,1,0,0])),(.inBlock 0),(.code (cd 5 [1,1,1,1,1,1]))]
 | 3=>[(.code (cd 5 [1,1,1,1,1,0,1,0,0,1,0,0,1,1,1,1,1,1,1,1,1,1,1,1,1,1,1,0,1,0,0])),(.inLoop (cd 5 [1,1,1,1,1,0,1,0,0,1,0,0,1,1,1,1,1,1,1,1,1,1,1,1,1,1,1,0,1,0,0])),(.inBlock 3),(.code (cd 5 [1,1,1,1,1,0,1,0,0,1,0,0,1,1,1,1,1,1,1,1,1,1,1,1,1,1,1,1])),(.inBlock 1),(.code (cd 5 [1,1,1,1,1,0,1,0,0,1,1])),(.inLoop (cd 5 [1,1,1,1,1,0,1,0,0])),(.inBlock 0),(.code (cd 5 [1,1,1,1,1,1]))]
 | _=>[]
def L5:Nat→List Tmp:=fun i=>match i with
 | 0=>[0,1,5,6,8,9]
 | 3=>[0,1,5,6,8,9,14,15]
 | _=>[]
section
variable (W0:World) (m0:Inj Tp) (S:Nat→List Value→AW→Prop) (Q:Value→AW→Prop)
theorem e5 (a0 a1:Value) (A:AW):gE W0 m0 S Q 5 180 T5 L5 [a0,a1] A=(Wc Tp theX W0 m0 7 [(.int .i64 3000)] A fun t0 At0=>bothW (convertA Tp At0 5 3 a0) fun t1 At1=>pureW (binA Tp .add 3 (.const (.int .i64 14)) (.tmp 20) (.int .i64 14) t1) fun t2=>Wc Tp theX W0 m0 8 [t0,t2] At1 fun t3 At3=>pureW (extractP t3 0) fun t4=>pureW (extractP t3 1) fun t5=>pureW (binA Tp .neq 30 (.tmp 25) (.const (.int .i64 0)) t5 (.int .i64 0)) fun t6=>forkW t6 (Q (.bool false) At3) (pureW (binA Tp .eql 29 (.tmp 28) (.const (.pointer none)) t4 (.pointer none)) fun t7=>forkW t7 (Q (.bool false) At3) (pureW (buildA Tp 58 []) fun t8=>bothW (buildSliceA Tp At3 59 1 [(0,t8)]) fun t9 At9=>cutW (T5 0) (T5 0) (S 0 [a0,a1,t0,t4,t9,(.int .i64 0)] At9)))):=by kernel_rfl
theorem l5_3 (d:Nat→Value) (A:AW):gL W0 m0 S Q 5 180 T5 L5 d 3 A=(pureW (lenA Tp A 59 (d 8)) fun t0=>pureW (binA Tp .lss 3 (.tmp 144) (.tmp 146) (d 15) t0) fun t1=>forkW t1 (forkW (d 14) (eqW undef undef (eqW undef undef (eqW undef undef (eqW undef undef (eqW undef undef (eqW undef undef (eqW undef undef (eqW undef undef (eqW undef undef (eqW undef undef (pureW (binA Tp .add 3 (.tmp 148) (.const (.int .i64 1)) (d 15) (.int .i64 1)) fun t2=>cutW (T5 3) (T5 3) (S 3 [(d 0),(d 1),(d 5),(d 6),(d 8),(d 9),(.bool true),t2] A)))))))))))) (pureW (indexAddrA Tp 59 (d 8) (d 15)) fun t3=>pureW (fieldAddrA Tp 58 t3 0) fun t4=>pureW (loadP Tp A 9 t4) fun t5=>Wc Tp theX W0 m0 17 [(d 6)] A fun t6 At6=>pureW (loadP Tp At6 9 t4) fun t7=>eqW t7 t5 (pureW (fieldAddrA Tp 58 t3 0) fun t8=>eqW t8 t4 (pureW (indexAddrA Tp 59 (d 8) (d 15)) fun t9=>eqW t9 t3 (eqW (d 15) (d 15) (eqW (d 8) (d 8) (pureW (binA Tp .eql 9 (.tmp 156) (.tmp 158) t5 t6) fun t10=>forkW t10 (pureW (indexAddrA Tp 59 (d 8) (d 15)) fun t11=>pureW (fieldAddrA Tp 58 t11 1) fun t12=>pureW (loadP Tp At6 22 t12) fun t13=>Wc Tp theX W0 m0 18 [(d 6)] At6 fun t14 At14=>pureW (loadP Tp At14 22 t12) fun t15=>eqW t15 t13 (pureW (fieldAddrA Tp 58 t11 1) fun t16=>eqW t16 t12 (pureW (indexAddrA Tp 59 (d 8) (d 15)) fun t17=>eqW t17 t11 (eqW (d 15) (d 15) (eqW (d 8) (d 8) (Wc Tp theX W0 m0 20 [t13,t14] At14 fun t18 At18=>pureW (binA Tp .add 3 (.tmp 148) (.const (.int .i64 1)) (d 15) (.int .i64 1)) fun t19=>cutW (T5 3) (T5 3) (S 3 [(d 0),(d 1),(d 5),(d 6),(d 8),(d 9),t18,t19] At18))))))) (eqW undef undef (eqW undef undef (eqW undef undef (eqW undef undef (eqW undef undef (pureW (binA Tp .add 3 (.tmp 148) (.const (.int .i64 1)) (d 15) (.int .i64 1)) fun t20=>cutW (T5 3) (T5 3) (S 3 [(d 0),(d 1),(d 5),(d 6),(d 8),(d 9),(.bool false),t20] At6)))))))))))))) (pureW (unA Tp .not (d 14)) fun t21=>forkW t21 (Q (.bool false) A) (Wc Tp theX W0 m0 17 [(d 6)] A fun t22 At22=>Wc Tp theX W0 m0 18 [(d 6)] At22 fun t23 At23=>pureW (buildA Tp 58 [(0,t22),(1,t23)]) fun t24=>bothW (buildSliceA Tp At23 59 1 [(0,t24)]) fun t25 At25=>pureW (binA Tp .add 3 (.tmp 41) (.const (.int .i64 1)) (d 9) (.int .i64 1)) fun t26=>cutW (T5 0) (T5 0) (S 0 [(d 0),(d 1),(d 5),(d 6),t25,t26] At25)))):=by kernel_rfl
theorem w5:Wf2 5 180 T5 L5:=wf2 (fun _ _=>by kernel_rfl) (by decide) fun _ _=>rfl
theorem c5:Cutf 5 180 T5 L5:=cutf (by decide)
theorem e14 (a0:Value) (A:AW):gE W0 m0 S Q 14 20 Tz Lz [a0] A=(bothW (newP A (Value.cells a0).toList 48) fun t0 At0=>pureW (fieldAddrA Tp 48 t0 1) fun t1=>pureW (fieldAddrA Tp 35 t1 1) fun t2=>pureW (loadP Tp At0 9 t2) fun t3=>pureW (lenA Tp At0 9 t3) fun t4=>pureW (binA Tp .gtr 3 (.tmp 6) (.const (.int .i64 200)) t4 (.int .i64 200)) fun t5=>forkW t5 (Q (.bool true) At0) (pureW (fieldAddrA Tp 48 t0 3) fun t6=>pureW (loadP Tp At0 46 t6) fun t7=>pureW (lenA Tp At0 46 t7) fun t8=>pureW (binA Tp .gtr 3 (.tmp 11) (.const (.int .i64 20)) t8 (.int .i64 20)) fun t9=>forkW t9 (Q (.bool true) At0) (pureW (fieldAddrA Tp 48 t0 4) fun t10=>pureW (loadP Tp At0 9 t10) fun t11=>pureW (lenA Tp At0 9 t11) fun t12=>pureW (binA Tp .gtr 3 (.tmp 17) (.const (.int .i64 60)) t12 (.int .i64 60)) fun t13=>Q t13 At0))):=by kernel_rfl
theorem w14:Wf1 14 20 Tz Lz:=wf1 (fun _=>by kernel_rfl) (by decide) fun _=>rfl
noncomputable def T20:Nat→List Item:=fun i=>match i with
 | 0=>[(.code (cd 20 [1,1,0,1,0,0])),(.inLoop (cd 20 [1,1,0,1,0,0])),(.inBlock 0),(.code (cd 20 [1,1,1]))]
 | _=>[]
def L20:Nat→List Tmp:=fun i=>match i with
 | 0=>[0,1,5]
 | _=>[]
theorem e20 (a0 a1:Value) (A:AW):gE W0 m0 S Q 20 26 T20 L20 [a0,a1] A=(pureW (lenA Tp A 22 a0) fun t0=>pureW (lenA Tp A 22 a1) fun t1=>pureW (binA Tp .neq 3 (.tmp 7) (.tmp 9) t0 t1) fun t2=>forkW t2 (Q (.bool false) A) (cutW (T20 0) (T20 0) (S 0 [a0,a1,(.int .i64 0)] A))):=by kernel_rfl
theorem l20_0 (d:Nat→Value) (A:AW):gL W0 m0 S Q 20 26 T20 L20 d 0 A=(pureW (lenA Tp A 22 (d 0)) fun t0=>pureW (binA Tp .lss 3 (.tmp 11) (.tmp 13) (d 5) t0) fun t1=>forkW t1 (pureW (indexAddrA Tp 22 (d 0) (d 5)) fun t2=>pureW (loadP Tp A 35 t2) fun t3=>pureW (indexAddrA Tp 22 (d 1) (d 5)) fun t4=>pureW (loadP Tp A 35 t4) fun t5=>pureW (binA Tp .neq 35 (.tmp 20) (.tmp 24) t3 t5) fun t6=>forkW t6 (Q (.bool false) A) (pureW (binA Tp .add 3 (.tmp 15) (.const (.int .i64 1)) (d 5) (.int .i64 1)) fun t7=>cutW (T20 0) (T20 0) (S 0 [(d 0),(d 1),t7] A))) (Q (.bool true) A)):=by kernel_rfl
theorem w20:Wf2 20 26 T20 L20:=wf2 (fun _ _=>by kernel_rfl) (by decide) fun _ _=>rfl
theorem c20:Cutf 20 26 T20 L20:=cutf (by decide)
end
end Go.Proofs.YtbchfeibhoobeaaGreatDoor
namespace Go.Proofs.YtbchfeibhoobeaaGreatDoor
open Go.Abs Go.Jr Go.Crc
def NumsK (W0:World) (m0:Inj Tp) (N:Nat):Prop:=∀ n,1≤n→n≤N→NumK W0 m0 (Jr.nm n)∧NameK W0 m0 n
section
variable {W0:World} {m0:Inj Tp}
end
end Go.Proofs.YtbchfeibhoobeaaGreatDoor
