/-
  This text prints what the functions reached ask of their memory, and shows what they answer. Conditions: none for the last theorem, those that each theorem states for the others.
-/
import Derived.Test.YtbchfeibhoobeaaGreatDoorPk
set_option maxRecDepth 100000
set_option maxHeartbeats 1000000
namespace Go.Proofs.YtbchfeibhoobeaaGreatDoor
open Go Go.Abs
theorem nums_kc32 (W:World) (m:Inj Tryz.prog):NumsK W m 32:=by
 intro n h1 h2
 by_cases h:n≤24
 ·exact nums_kc W m n h1 h
 ·have a:=List.all_eq_true.1 Hd.r4 (n - 25) (List.mem_range.2 (by omega))
  have b:=List.all_eq_true.1 Hd.q4 (n - 25) (List.mem_range.2 (by omega))
  rw [show n - 25+25=n by omega] at a b
  exact ⟨Hd.kF b W m,Hd.kN a W m⟩
end Go.Proofs.YtbchfeibhoobeaaGreatDoor
namespace Go.Jr
def rmAll (s:DS):List Nat→DS × Int
 | []=>(s,0)
 | k::r=>if (removeS s (nm k)).2≠0 then removeS s (nm k) else rmAll (removeS s (nm k)).1 r
def checkpointJ (s:DS) (names:List (List UInt8)) (q:JS) (st:List UInt8):DS × JS × Int:=
 if q.broken=true then (s,q,100) else
 if 65536 < st.length then (s,q,3) else
 let n:=q.row.getLast?.getD 0+1
 if 99999999 < n then (s,q,6) else
 let x0:=if fresh∈names then removeS s fresh else (s,0)
 if x0.2≠0 then (x0.1,doneJ q x0.2,x0.2) else
 let x1:=appendS x0.1 fresh (putR (0,st))
 if x1.2≠0 then (x1.1,doneJ q x1.2,x1.2) else
 let x2:=syncS x1.1 fresh
 if x2.2≠0 then (x2.1,doneJ q x2.2,x2.2) else
 let x3:=renameS x2.1 fresh (nm n)
 if x3.2≠0 then (x3.1,doneJ q x3.2,x3.2) else
 let q':JS:={ q with state:=st,l:=[],row:=[n],size:=(putR (0,st)).length,some:=true }
 let y:=rmAll x3.1 q.row
 if y.2≠0 then (y.1,doneJ q' y.2,y.2) else (y.1,q',0)
end Go.Jr
namespace Go.Proofs.YtbchfeibhoobeaaGreatDoor
open Go.Abs Go.Jr
section
variable {W0:World} {m0:Inj Tryz.prog}
theorem dmIn {j d mp:Nat} {Fl Fr:List Nat}:∀ y∈[d,mp],y∈j::d::mp::(Fl++Fr):=fun y hy=>by
 simp only [List.mem_cons,List.not_mem_nil,or_false] at hy
 rcases hy with rfl | rfl <;> simp
theorem wc15 {A:AW} {j d mp k n:Nat} {q:JS} {s:DS} {Fl Fr:List Nat} {K:Value→AW→Prop} (h:JD A j d mp q s Fl Fr) (hok:OkS k s) (hf:Fine A) (hA:A.next < 900000000000) (hrw:q.row.length < 1000000) (hn:q.row.getLast? =some n) (hN:NameK W0 m0 n)
  (hk:∀ A',JD A' j d mp (syncJ s q).2.1 (syncJ s q).1 Fl Fr→Keeps A A' [j,d,mp]→A'.next≤A.next+20→Fine A'→K (.int .i64 (syncJ s q).2.2) A'):
  Wc Tryz.prog theX W0 m0 15 [ptr j] A K:=by
 have hmax:maxId=1099511627776:=rfl
 have hjd:=h
 refine w15 _ _ (cuts_none (S:=fun _ _ _=>False) fun _ _ _ h=>h) ?_
 rw [e15]
 refine wc53 h.jn ?_
 simp only [un_not,pureW_some]
 refine forkW_bool.2 ⟨fun h=>by simp at h,fun _=>?_⟩
 refine wc54 h.jn ?_
 simp only [bin_neq,pureW_some]
 unfold syncJ at hk
 refine forkW_bne.2 ⟨fun hb=>?_,fun hb=>?_⟩
 ·have hb':q.broken=true:=by
   cases hq:q.broken with
   | true=>rfl
   | false=>rw [hq] at hb;simp at hb
  rw [if_pos hb'] at hk
  rw [if_pos hb']
  exact hk A hjd (.refl _ _) (by omega) hf
 have hb':q.broken=false:=by
  cases hq:q.broken with
  | false=>rfl
  | true=>rw [hq] at hb;simp at hb
 rw [if_neg (by rw [hb'];simp)] at hk
 have elast:q.row.getLast?.getD 0=n:=by rw [hn];rfl
 rw [elast] at hk
 have hJn:=h.jn
 obtain ⟨vl,vr,rl,j1,o1,hql,o2⟩:=h.jn
 have hjA:=j1.lt
 simp only [ptr,nilP_some,fa_83_0,ld_27,cell_row j1.row,cellOf,isT_ptr,cond_false,pureW_some]
 refine wc56 hJn hn hrw ?_
 simp only [cell_row j1.row,cellOf,isT_ptr,cond_false,pureW_some,eqW_self]
 refine knOne (by decide) hN rfl ?_
 simp only [cell_row j1.row,cellOf,isT_ptr,cond_false,pureW_some,eqW_self]
 refine wc44 (n:=⟨⟨Jr.nm n⟩⟩) h.dk hok.n hf (by omega) fun A2 d2 k2 n2 f2=>?_
 have ed:(⟨⟨Jr.nm n⟩⟩:ByteArray).data.toList=Jr.nm n:=rfl
 rw [ed] at d2 ⊢
 have J2:JD A2 j d mp q _ Fl Fr:=hjd.disk k2 d2
 refine wc57 J2.jn f2 (by omega) (fun hm=>(hjd.fl j hm).2.2.1 rfl) (fun hm=>(hjd.fr j hm).2.2 rfl) fun A3 j3 k3 n3 f3=>?_
 refine hk A3 ⟨j3,J2.dk.keeps k3 (by simp;exact fun h=>hjd.nd.1 h.symm) (by simp;exact fun h=>hjd.nd.2 h.symm),hjd.nd,hjd.fl,hjd.fr⟩ ((k2.more (T:=[j,d,mp]) (fun y hy=>.inl (by simp only [List.mem_cons,List.not_mem_nil,or_false] at hy ⊢;exact .inr hy))).trans k3 (fun y hy=>.inl (by simp [List.mem_singleton.1 hy]))) (by omega) f3
theorem wc17 {A:AW} {j d:Nat} {q:JS} {Fl Fr:List Nat} {K:Value→AW→Prop} (h:Jn A j d q Fl Fr) (hk:K (.string ⟨⟨q.state⟩⟩) A):Wc Tryz.prog theX W0 m0 17 [ptr j] A K:=by
 refine w17 _ _ (cuts_none (S:=fun _ _ _=>False) fun _ _ _ h=>h) ?_
 rw [e17]
 refine wc53 h ?_
 simp only [un_not,pureW_some]
 refine forkW_bool.2 ⟨fun h=>by simp at h,fun _=>?_⟩
 obtain ⟨vl,vr,rl,j1,o1,hql,o2⟩:=h
 simp only [ptr,nilP_some,fa_83_2,ld_9,cell_row j1.row,cellOf,isT_ptr,isT_int,isT_string,cond_false,pureW_some,Nat.zero_add]
 exact hk
theorem OwnF_cap0 {A:AW} {l:List RV} {v:Value} {F:List Nat} (h:OwnF 35 1 fR A v l F):∀ c,v=.slice none 0 c→c=0:=by
 intro c hv
 rcases h with h | ⟨b,h1,_⟩
 ·rcases h with ⟨h1,_⟩ | ⟨b,f,h1,_⟩
  ·rw [hv] at h1;simpa using h1
  ·rw [hv] at h1;simp at h1
 ·rw [hv] at h1;simp at h1
theorem wc18 {A:AW} {j d:Nat} {q:JS} {Fl Fr:List Nat} {K:Value→AW→Prop} (h:Jn A j d q Fl Fr) (hf:Fine A) (hA:A.next < 900000000000) (hl:q.l.length < 1000000)
  (hk:∀ A' v (R:List RV) F',q.l=R.map toR→OwnF 35 1 fR A' v R F'→(∀ y∈F',A.next≤y)→Grow A A' 2→K v A'):Wc Tryz.prog theX W0 m0 18 [ptr j] A K:=by
 have hmax:maxId=1099511627776:=rfl
 refine w18 _ _ (cuts_none (S:=fun _ _ _=>False) fun _ _ _ h=>h) ?_
 rw [e18]
 refine wc53 h ?_
 simp only [un_not,pureW_some]
 refine forkW_bool.2 ⟨fun h=>by simp at h,fun _=>?_⟩
 obtain ⟨vl,vr,rl,j1,o1,hql,o2⟩:=h
 have hvl:=o1.one
 simp only [ptr,nilP_some,fa_83_3,ld_22,cell_row j1.row,cellOf,isT_ptr,isT_int,isT_string,hvl.2,cond_false,pureW_some,Nat.zero_add]
 refine wc52 (o1.rd etR.len) (OwnF_cap0 o1) hf (by omega) (by rw [hql,List.length_map] at hl;exact hl) fun A2 v2 F2 o2' hF2 g2=>?_
 exact hk A2 v2 rl F2 hql o2' hF2 g2
end
noncomputable def ckT (W0:World) (m0:Inj Tryz.prog) (S:Nat→List Value→AW→Prop) (Q:Value→AW→Prop) (a0 a1 t7:Value) (A:AW):Prop:=
 Wc Tryz.prog theX W0 m0 41 [a1] A fun t20 At20=>pureW (nilP a0) fun t21=>pureW (fieldAddrA Tryz.prog 83 t21 0) fun t22=>pureW (loadP Tryz.prog At20 27 t22) fun t23=>Wc Tryz.prog theX W0 m0 13 [t23,(.string ⟨⟨[106,46,110,101,119]⟩⟩),t20] At20 fun t24 At24=>pureW (binA Tryz.prog .neq 30 (.tmp 56) (.const (.int .i64 0)) t24 (.int .i64 0)) fun t25=>forkW t25 (Wc Tryz.prog theX W0 m0 57 [a0,t24] At24 fun t26 At26=>Q t26 At26) (pureW (nilP a0) fun t27=>pureW (fieldAddrA Tryz.prog 83 t27 0) fun t28=>pureW (loadP Tryz.prog At24 27 t28) fun t29=>Wc Tryz.prog theX W0 m0 44 [t29,(.string ⟨⟨[106,46,110,101,119]⟩⟩)] At24 fun t30 At30=>pureW (binA Tryz.prog .neq 30 (.tmp 66) (.const (.int .i64 0)) t30 (.int .i64 0)) fun t31=>forkW t31 (Wc Tryz.prog theX W0 m0 57 [a0,t30] At30 fun t32 At32=>Q t32 At32) (pureW (nilP a0) fun t33=>pureW (fieldAddrA Tryz.prog 83 t33 0) fun t34=>pureW (loadP Tryz.prog At30 27 t34) fun t35=>knW Tryz.prog W0 m0 47 [t7] At30 fun t36 At36=>pureW (loadP Tryz.prog At36 27 t34) fun t37=>eqW t37 t35 (pureW (fieldAddrA Tryz.prog 83 t33 0) fun t38=>eqW t38 t34 (pureW (nilP a0) fun t39=>eqW t39 t33 (eqW a0 a0 (Wc Tryz.prog theX W0 m0 46 [t35,(.string ⟨⟨[106,46,110,101,119]⟩⟩),t36] At36 fun t40 At40=>pureW (binA Tryz.prog .neq 30 (.tmp 78) (.const (.int .i64 0)) t40 (.int .i64 0)) fun t41=>forkW t41 (Wc Tryz.prog theX W0 m0 57 [a0,t40] At40 fun t42 At42=>Q t42 At42) (pureW (nilP a0) fun t43=>pureW (fieldAddrA Tryz.prog 83 t43 4) fun t44=>pureW (loadP Tryz.prog At40 46 t44) fun t45=>bothW (buildSliceA Tryz.prog At40 46 1 [(0,t7)]) fun t46 At46=>pureW (lenA Tryz.prog At46 9 t20) fun t47=>pureW (nilP a0) fun t48=>pureW (fieldAddrA Tryz.prog 83 t48 2) fun t49=>effW (storeP Tryz.prog At46 9 t49 a1) fun At50=>pureW (nilP a0) fun t51=>pureW (fieldAddrA Tryz.prog 83 t51 3) fun t52=>effW (storeP Tryz.prog At50 22 t52 (.slice none 0 0)) fun At53=>pureW (nilP a0) fun t54=>pureW (fieldAddrA Tryz.prog 83 t54 4) fun t55=>effW (storeP Tryz.prog At53 46 t55 t46) fun At56=>pureW (nilP a0) fun t57=>pureW (fieldAddrA Tryz.prog 83 t57 5) fun t58=>effW (storeP Tryz.prog At56 3 t58 t47) fun At59=>pureW (nilP a0) fun t60=>pureW (fieldAddrA Tryz.prog 83 t60 6) fun t61=>effW (storeP Tryz.prog At59 4 t61 (.bool true)) fun At62=>pureW (lenA Tryz.prog At62 46 t45) fun t63=>cutW (T16 0) (T16 0) (S 0 [a0,t45,t63,(.int .i64 0)] At62))))))))
theorem e16f (W0:World) (m0:Inj Tryz.prog) (S:Nat→List Value→AW→Prop) (Q:Value→AW→Prop) (a0 a1:Value) (A:AW):wpgo Tryz.prog theX W0 m0 16 T16 L16 S Q none 4000 (Tm.fill ⟨126,.nil⟩ 0 [a0,a1]) [.code (cd 16 [])] false 0 0 0 [] A=(Wc Tryz.prog theX W0 m0 53 [a0] A fun t0 At0=>pureW (unA Tryz.prog .not t0) fun t1=>forkW t1 (Q (.int .i64 1) At0) (Wc Tryz.prog theX W0 m0 54 [a0] At0 fun t2 At2=>pureW (binA Tryz.prog .neq 30 (.tmp 21) (.const (.int .i64 0)) t2 (.int .i64 0)) fun t3=>forkW t3 (Q t2 At2) (pureW (lenA Tryz.prog At2 9 a1) fun t4=>pureW (binA Tryz.prog .gtr 3 (.tmp 25) (.const (.int .i64 65536)) t4 (.int .i64 65536)) fun t5=>forkW t5 (Q (.int .i64 3) At2) (Wc Tryz.prog theX W0 m0 56 [a0] At2 fun t6 At6=>pureW (binA Tryz.prog .add 3 (.tmp 28) (.const (.int .i64 1)) t6 (.int .i64 1)) fun t7=>pureW (binA Tryz.prog .gtr 3 (.tmp 30) (.const (.int .i64 99999999)) t7 (.int .i64 99999999)) fun t8=>forkW t8 (Q (.int .i64 6) At6) (pureW (nilP a0) fun t9=>pureW (fieldAddrA Tryz.prog 83 t9 0) fun t10=>pureW (loadP Tryz.prog At6 27 t10) fun t11=>Wc Tryz.prog theX W0 m0 11 [t11] At6 fun t12 At12=>Wc Tryz.prog theX W0 m0 38 [t12,(.string ⟨⟨[106,46,110,101,119]⟩⟩)] At12 fun t13 At13=>forkW t13 (pureW (nilP a0) fun t14=>pureW (fieldAddrA Tryz.prog 83 t14 0) fun t15=>pureW (loadP Tryz.prog At13 27 t15) fun t16=>Wc Tryz.prog theX W0 m0 40 [t16,(.string ⟨⟨[106,46,110,101,119]⟩⟩)] At13 fun t17 At17=>pureW (binA Tryz.prog .neq 30 (.tmp 43) (.const (.int .i64 0)) t17 (.int .i64 0)) fun t18=>forkW t18 (Wc Tryz.prog theX W0 m0 57 [a0,t17] At17 fun t19 At19=>Q t19 At19) (ckT W0 m0 S Q a0 a1 t7 At17)) (ckT W0 m0 S Q a0 a1 t7 At13)))))):=e16 W0 m0 S Q a0 a1 A
def CI (A:AW) (j d mp k:Nat) (Fl Fr:List Nat) (s:DS) (q:JS) (old:List Nat) (vo:Value):Nat→Nat→List Value→AW→Prop:=fun g id vals A'=>id=0∧∃ (i:Nat) (s1:DS) (Fr':List Nat),vals=[ptr j,vo,.int .i64 (old.length:Int),.int .i64 (i:Int)]∧i≤old.length∧g=old.length - i∧
 JD A' j d mp q s1 [] Fr'∧(∀ y∈Fr',A.next≤y)∧OwnF 3 0 fI A' vo old Fr∧rmAll s old=rmAll s1 (old.drop i)∧OkS (k+4+i) s1∧Keeps A A' (j::d::mp::(Fl++Fr))∧Fine A'∧A'.next≤A.next+200+10 * k+10 * i
section
variable {W0:World} {m0:Inj Tryz.prog}
theorem ck_loop {A A':AW} {j d mp k g:Nat} {q:JS} {s:DS} {Fl Fr:List Nat} {old:List Nat} {vo:Value} {vals:List Value} {dd:Nat→Value} {K:Value→AW→Prop} (hjd:∀ x∈Fr,x < A.next∧x≠d∧x≠mp∧x≠j) (hA:A.next < 800000000000) (hk9:k+old.length < 8000) (hN:∀ x∈old,NameK W0 m0 x)
  (hk:∀ A' Fr',JD A' j d mp (if (rmAll s old).2≠0 then doneJ q (rmAll s old).2 else q) (rmAll s old).1 [] Fr'→(∀ y∈Fr',A.next≤y)→Keeps A A' (j::d::mp::(Fl++Fr))→A'.next≤A.next+200+10 * k+10 * old.length+10→Fine A'→K (.int .i64 (rmAll s old).2) A')
  {S:Nat→List Value→AW→Prop} (hS:∀ g2 id v A'',g2 < g→CI A j d mp k Fl Fr s q old vo g2 id v A''→S id v A'')
  (h:CI A j d mp k Fl Fr s q old vo g 0 vals A') (hd':(L16 0).map dd=vals):wpgo Tryz.prog theX W0 m0 16 T16 L16 S K none 4000 (tmOf 126 dd) (T16 0) false 0 0 0 [] A':=by
 have hmax:maxId=1099511627776:=rfl
 obtain ⟨_,i,s1,Fr',rfl,hi,rfl,hJ,hFr',hvo,hrm,hok,hkp,hf,hn⟩:=h
 rw [l16_0]
 simp only [L16,List.map_cons,List.map_nil,List.cons.injEq,and_true] at hd'
 obtain ⟨h0,h107,h108,h109⟩:=hd'
 simp only [h0,h107,h108,h109,bin_lss,pureW_some,forkW_dec]
 have hle:=hkp.next
 refine ⟨fun hlt=>?_,fun hge=>?_⟩
 ·have hlt:i < old.length:=by omega
  obtain ⟨p,hp⟩:∃ p,old[i]? =some p:=⟨_,List.getElem?_eq_getElem hlt⟩
  obtain ⟨a,a1,a2⟩:=esI.at (hvo.rd esI.len) hp rfl
  obtain ⟨vl,vr,rl,j1,o1,hql,o2⟩:=hJ.jn
  rw [drop_get hp] at hrm
  have hrm:rmAll s old=if (removeS s1 (Jr.nm p)).2≠0 then removeS s1 (Jr.nm p) else rmAll (removeS s1 (Jr.nm p)).1 (old.drop (i+1)):=hrm
  simp only [a1,a2,pureW_some,ptr,nilP_some,fa_83_0,ld_27,cell_row j1.row,cellOf,isT_ptr,cond_false]
  refine knOne (by decide) (hN p (List.mem_of_getElem? hp)) rfl ?_
  simp only [cell_row j1.row,cellOf,isT_ptr,cond_false,pureW_some,eqW_self]
  refine wc40 (n:=⟨⟨Jr.nm p⟩⟩) hJ.dk hok.n hf (by omega) fun A2 d2 k2 n2 f2=>?_
  have ed:(⟨⟨Jr.nm p⟩⟩:ByteArray).data.toList=Jr.nm p:=rfl
  rw [ed] at d2 ⊢
  have J2:JD A2 j d mp q _ [] Fr':=hJ.disk k2 d2
  have K2:Keeps A A2 (j::d::mp::(Fl++Fr)):=hkp.trans k2 fun y hy=>.inl (dmIn y hy)
  simp only [bin_neq,bin_add,pureW_some]
  rw [wrap_i64 (by omega) (by omega)]
  refine forkW_bne.2 ⟨fun he=>?_,fun he=>?_⟩
  ·rw [if_pos he] at hrm
   rw [hrm,if_pos he] at hk
   refine wc57 J2.jn f2 (by omega) (by simp) (fun hm=>(hJ.fr j hm).2.2 rfl) fun A3 j3 k3 n3 f3=>?_
   exact hk A3 Fr' ⟨j3,J2.dk.keeps k3 (by simp;exact fun h=>hJ.nd.1 h.symm) (by simp;exact fun h=>hJ.nd.2 h.symm),hJ.nd,by simp,hJ.fr⟩ hFr' (K2.trans k3 fun y hy=>.inl (by simp [List.mem_singleton.1 hy])) (by omega) f3
  ·rw [if_neg (by simpa using he)] at hrm
   refine cutW_self.2 (hS (old.length - (i+1)) 0 _ A2 (by omega) ⟨rfl,i+1,_,Fr',rfl,by omega,rfl,J2,hFr',hvo.keeps k2 (fun y hy=>by have:=hjd y hy;simp;exact ⟨this.2.1,this.2.2.1⟩),hrm,(removeS_ok hok _).more (by omega),K2,f2,by omega⟩)
 ·have hi':i=old.length:=by omega
  subst hi'
  rw [List.drop_length] at hrm
  have hrm:rmAll s old=(s1,0):=hrm
  rw [hrm] at hk
  exact hk A' Fr' hJ hFr' hkp (by omega) hf
def ckS (s:DS) (q:JS) (st:List UInt8):DS × JS × Int:=
 let n:=q.row.getLast?.getD 0+1
 let x1:=appendS s fresh (putR (0,st))
 if x1.2≠0 then (x1.1,doneJ q x1.2,x1.2) else
 let x2:=syncS x1.1 fresh
 if x2.2≠0 then (x2.1,doneJ q x2.2,x2.2) else
 let x3:=renameS x2.1 fresh (Jr.nm n)
 if x3.2≠0 then (x3.1,doneJ q x3.2,x3.2) else
 let q':JS:={ q with state:=st,l:=[],row:=[n],size:=(putR (0,st)).length,some:=true }
 let y:=rmAll x3.1 q.row
 if y.2≠0 then (y.1,doneJ q' y.2,y.2) else (y.1,q',0)
def ckI (A:AW) (j d mp k:Nat) (Fl Fr:List Nat) (s:DS) (q:JS) (st:List UInt8):Nat→Nat→List Value→AW→Prop:=fun g id vals A'=>∃ vo,((appendS s fresh (putR (0,st))).2=0∧(syncS (appendS s fresh (putR (0,st))).1 fresh).2=0∧(renameS (syncS (appendS s fresh (putR (0,st))).1 fresh).1 fresh (Jr.nm (q.row.getLast?.getD 0+1))).2=0)∧CI A j d mp k Fl Fr
 (renameS (syncS (appendS s fresh (putR (0,st))).1 fresh).1 fresh (Jr.nm (q.row.getLast?.getD 0+1))).1 { q with state:=st,l:=[],row:=[q.row.getLast?.getD 0+1],size:=(putR (0,st)).length,some:=true } q.row vo g id vals A'
theorem ck_ok {A A1:AW} {j d mp k n:Nat} {q:JS} {s:DS} {Fl Fr:List Nat} {st:ByteArray} {K:Value→AW→Prop} (h:JD A1 j d mp q s Fl Fr) (hg:Glb A1) (hok:OkS k s) (hk9:k < 8000) (hf:Fine A1) (hA:A.next < 800000000000) (hAA:Keeps A A1 (j::d::mp::(Fl++Fr))) (hAn:A1.next≤A.next+50+6 * k) (h0:0≠j∧0≠d∧0≠mp) (hst:st.data.toList.length≤65536)
  {S:Nat→List Value→AW→Prop} (hS:∀ g2 id v A',ckI A j d mp k Fl Fr s q st.data.toList g2 id v A'→S id v A')
  (hn:q.row.getLast? =some n) (hn8:n+1 < 100000000) (hN:NameK W0 m0 (n+1)) (hlt:j < A.next∧(∀ x∈Fl,x < A.next)∧∀ x∈Fr,x < A.next)
  (hk:(ckS s q st.data.toList).2.2≠0→∀ A' Fl' Fr',JD A' j d mp (ckS s q st.data.toList).2.1 (ckS s q st.data.toList).1 Fl' Fr'→(∀ y∈Fl',y∈Fl∨A.next≤y)→(∀ y∈Fr',y∈Fr∨A.next≤y)→Keeps A A' (j::d::mp::(Fl++Fr))→A'.next≤A.next+200+10 * k+10 * q.row.length+10→Fine A'→K (.int .i64 (ckS s q st.data.toList).2.2) A'):
  ckT W0 m0 S K (ptr j) (.string st) (.int .i64 ((n+1:Nat):Int)) A1:=by
 have hmax:maxId=1099511627776:=rfl
 have hfew:=hok.few
 have hle0:=hAA.next
 have elast:q.row.getLast?.getD 0=n:=by rw [hn];rfl
 have hjFl:j∉Fl:=fun hm=>(h.fl j hm).2.2.1 rfl
 have hjFr:j∉Fr:=fun hm=>(h.fr j hm).2.2 rfl
 unfold ckT
 refine wc41 hg hf hst (by omega) fun A2 g2=>?_
 have n2:=g2.next
 have le2:=g2.le
 have J2:=h.keeps g2.keeps (by simp) (by simp) (by simp) (by simp) (by simp)
 have hjn2:=J2.jn
 obtain ⟨vl,vr,rl,j2,o1,hql,o2⟩:=J2.jn
 have hpl:(putR (0,st.data.toList)).length=13+st.data.toList.length:=putR_length _
 simp only [ptr,nilP_some,fa_83_0,ld_27,cell_row j2.row,cellOf,isT_ptr,cond_false,pureW_some]
 have eb:(⟨⟨putR (0,st.data.toList)⟩⟩:ByteArray).data.toList=putR (0,st.data.toList):=rfl
 have efr:(⟨⟨[106,46,110,101,119]⟩⟩:ByteArray).data.toList=fresh:=rfl
 have K2:Keeps A A2 (j::d::mp::(Fl++Fr)):=hAA.trans g2.keeps (by simp)
 unfold ckS at hk
 rw [elast] at hk
 refine wc13 (n:=⟨⟨[106,46,110,101,119]⟩⟩) (b:=⟨⟨putR (0,st.data.toList)⟩⟩) J2.dk (hok.d (by omega)) hok.n (by rw [eb,hpl];omega) g2.fine (by omega) fun A3 d3 k3 n3 f3=>?_
 rw [efr,eb] at d3 ⊢
 have J3:JD A3 j d mp q _ Fl Fr:=J2.disk k3 d3
 have le3:=k3.next
 have K3:Keeps A A3 (j::d::mp::(Fl++Fr)):=K2.trans k3 fun y hy=>.inl (dmIn y hy)
 have fail:∀ (A4:AW) (s4:DS) (e:Int),JD A4 j d mp q s4 Fl Fr→Keeps A A4 (j::d::mp::(Fl++Fr))→Fine A4→A4.next≤A.next+200+10 * k+10→(∀ A' Fl' Fr',JD A' j d mp (doneJ q e) s4 Fl' Fr'→(∀ y∈Fl',y∈Fl∨A.next≤y)→(∀ y∈Fr',y∈Fr∨A.next≤y)→Keeps A A' (j::d::mp::(Fl++Fr))→A'.next≤A.next+200+10 * k+10 * q.row.length+10→Fine A'→K (.int .i64 e) A')→
   Wc Tryz.prog theX W0 m0 57 [.pointer (some ⟨j,0,none⟩),.int .i64 e] A4 fun t26 At26=>K t26 At26:=by
  intro A4 s4 e hJ hK hF hN4 hk4
  refine wc57 hJ.jn hF (by omega) hjFl hjFr fun A5 j5 k5 n5 f5=>?_
  exact hk4 A5 Fl Fr ⟨j5,hJ.dk.keeps k5 (by simp;exact fun h=>hJ.nd.1 h.symm) (by simp;exact fun h=>hJ.nd.2 h.symm),hJ.nd,hJ.fl,hJ.fr⟩ (fun y hy=>.inl hy) (fun y hy=>.inl hy) (hK.trans k5 fun y hy=>.inl (by simp [List.mem_singleton.1 hy])) (by omega) f5
 simp only [bin_neq,pureW_some]
 refine forkW_bne.2 ⟨fun he=>?_,fun he=>?_⟩
 ·simp only [if_pos he] at hk
  exact fail A3 _ _ J3 K3 f3 (by omega) (hk he)
 simp only [if_neg (by simpa using he:¬ (appendS s fresh (putR (0,st.data.toList))).2≠0)] at hk
 have hok3:OkS (k+1) (appendS s fresh (putR (0,st.data.toList))).1:=appendS_ok hok _ _
 have j3:=j2.keeps k3 (by simp;exact h.nd)
 simp only [cell_row j3.row,cellOf,isT_ptr,cond_false,pureW_some]
 refine wc44 (n:=⟨⟨[106,46,110,101,119]⟩⟩) J3.dk hok3.n f3 (by omega) fun A4 d4 k4 n4 f4=>?_
 rw [efr] at d4 ⊢
 have J4:JD A4 j d mp q _ Fl Fr:=J3.disk k4 d4
 have le4:=k4.next
 have K4:Keeps A A4 (j::d::mp::(Fl++Fr)):=K3.trans k4 fun y hy=>.inl (dmIn y hy)
 simp only [bin_neq,pureW_some]
 refine forkW_bne.2 ⟨fun he2=>?_,fun he2=>?_⟩
 ·simp only [if_pos he2] at hk
  exact fail A4 _ _ J4 K4 f4 (by omega) (hk he2)
 simp only [if_neg (by simpa using he2:¬ (syncS (appendS s fresh (putR (0,st.data.toList))).1 fresh).2≠0)] at hk
 have hok4:OkS (k+2) (syncS (appendS s fresh (putR (0,st.data.toList))).1 fresh).1:=syncS_ok hok3 _
 have j4:=j3.keeps k4 (by simp;exact h.nd)
 simp only [cell_row j4.row,cellOf,isT_ptr,cond_false,pureW_some]
 refine knOne (by decide) hN rfl ?_
 simp only [cell_row j4.row,cellOf,isT_ptr,cond_false,pureW_some,eqW_self]
 refine wc46 (n:=⟨⟨[106,46,110,101,119]⟩⟩) (t:=⟨⟨Jr.nm (n+1)⟩⟩) J4.dk hok4.n f4 (by omega) fun A5 d5 k5 n5 f5=>?_
 have en:(⟨⟨Jr.nm (n+1)⟩⟩:ByteArray).data.toList=Jr.nm (n+1):=rfl
 rw [efr,en] at d5 ⊢
 have J5:JD A5 j d mp q _ Fl Fr:=J4.disk k5 d5
 have le5:=k5.next
 have K5:Keeps A A5 (j::d::mp::(Fl++Fr)):=K4.trans k5 fun y hy=>.inl (dmIn y hy)
 simp only [bin_neq,pureW_some]
 refine forkW_bne.2 ⟨fun he3=>?_,fun he3=>?_⟩
 ·simp only [if_pos he3] at hk
  exact fail A5 _ _ J5 K5 f5 (by omega) (hk he3)
 have hok5:OkS (k+3) (renameS (syncS (appendS s fresh (putR (0,st.data.toList))).1 fresh).1 fresh (Jr.nm (n+1))).1:=renameS_ok hok4 _ _
 obtain ⟨wl,wr,rl5,j5,p1,hql5,p2⟩:=J5.jn
 have hwl:=p1.one
 have hwr:=p2.one
 simp only [fa_83_2,fa_83_3,fa_83_4,fa_83_5,fa_83_6,Nat.zero_add,ld_46,cell_row j5.row,cellOf,isT_ptr,isT_int,isT_string,hwl.2,hwr.2,cond_false,pureW_some]
 refine bsMade (bs46 A5 ((n+1:Nat):Int)) rfl f5 (by omega) fun A6 m6=>?_
 have n6:=m6.next
 have k6:=m6.keeps f5
 have j6:=j5.keeps k6 (by simp)
 simp only [ln_9,eb,pureW_some]
 refine j6.store m6.fine (by omega) (st_9 _ _ _) rfl (by show 2+1≤8;omega) rfl fun A7 j7 k7 n7 f7=>?_
 have j7:Go.Abs.Row1 A7 j [.pointer (some ⟨d,0,none⟩),.int .i64 q.limit,.string st,wl,wr,.int .i64 (q.size:Int),.bool q.some,.bool q.broken] 83:=j7
 have k7:Keeps A6 A7 [j]:=k7
 refine j7.store f7 (by omega) (st_22 _ _ _) rfl (by show 3+1≤8;omega) rfl fun A8 j8 k8 n8 f8=>?_
 have j8:Go.Abs.Row1 A8 j [.pointer (some ⟨d,0,none⟩),.int .i64 q.limit,.string st,.slice none 0 0,wr,.int .i64 (q.size:Int),.bool q.some,.bool q.broken] 83:=j8
 have k8:Keeps A7 A8 [j]:=k8
 refine j8.store f8 (by omega) (st_46 _ _ _) rfl (by show 4+1≤8;omega) rfl fun A9 j9 k9 n9 f9=>?_
 have j9:Go.Abs.Row1 A9 j [.pointer (some ⟨d,0,none⟩),.int .i64 q.limit,.string st,.slice none 0 0,.slice (some ⟨A5.next,0,none⟩) 1 1,.int .i64 (q.size:Int),.bool q.some,.bool q.broken] 83:=j9
 have k9:Keeps A8 A9 [j]:=k9
 refine j9.store f9 (by omega) (st_3 _ _ _) rfl (by show 5+1≤8;omega) rfl fun A10 j10 k10 n10 f10=>?_
 have j10:Go.Abs.Row1 A10 j [.pointer (some ⟨d,0,none⟩),.int .i64 q.limit,.string st,.slice none 0 0,.slice (some ⟨A5.next,0,none⟩) 1 1,.int .i64 ((putR (0,st.data.toList)).length:Int),.bool q.some,.bool q.broken] 83:=j10
 have k10:Keeps A9 A10 [j]:=k10
 refine j10.store f10 (by omega) (st_4 _ _ _) rfl (by show 6+1≤8;omega) rfl fun A11 j11 k11 n11 f11=>?_
 have j11:Go.Abs.Row1 A11 j [.pointer (some ⟨d,0,none⟩),.int .i64 q.limit,.string st,.slice none 0 0,.slice (some ⟨A5.next,0,none⟩) 1 1,.int .i64 ((putR (0,st.data.toList)).length:Int),.bool true,.bool q.broken] 83:=j11
 have k11:Keeps A10 A11 [j]:=k11
 have k611:Keeps A6 A11 [j]:=(((k7.trans k8 (by simp)).trans k9 (by simp)).trans k10 (by simp)).trans k11 (by simp)
 have k511:Keeps A5 A11 [j]:=(k6.more (by simp)).trans k611 (by simp)
 have r6:Go.Abs.Row1 A6 A5.next (flat fI [n+1]) 3:=m6.row1
 have hjlt:=j5.lt
 have r11:=r6.keeps k611 (by simp;omega)
 have hvo:OwnF 3 0 fI A11 wr q.row Fr:=p2.keeps k511 fun y hy=>by simp;rintro rfl;exact hjFr hy
 rw [esI.lenR (hvo.rd esI.len)]
 simp only [pureW_some]
 have est:(⟨⟨st.data.toList⟩⟩:ByteArray)=st:=rfl
 have dk11:=J5.dk.keeps k511 (by simp;exact fun h'=>h.nd.1 h'.symm) (by simp;exact fun h'=>h.nd.2 h'.symm)
 have hdl:=J5.dk.lt
 refine cutW_self.2 (hS q.row.length 0 _ _ ⟨wr,⟨he,he2,by rw [elast];exact he3⟩,rfl,0,_,[A5.next],rfl,by omega,rfl,⟨⟨.slice none 0 0,.slice (some ⟨A5.next,0,none⟩) 1 1,[],j11,OwnF.nil _,rfl,.inr ⟨A5.next,by rw [elast];rfl,by simp,by rw [elast];exact r11,rfl⟩⟩,by rw [elast];exact dk11,h.nd,by simp,fun y hy=>?_⟩,fun y hy=>?_,hvo,rfl,by rw [elast];exact hok5.more (by omega),K5.trans k511 (fun y hy=>.inl (by simp [List.mem_singleton.1 hy])),f11,by omega⟩)
 ·rw [List.mem_singleton.1 hy];exact ⟨by omega,by omega,by omega⟩
 ·rw [List.mem_singleton.1 hy];omega
theorem ckS_eq (s:DS) (names:List (List UInt8)) (q:JS) (st:List UInt8) (hb:q.broken=false) (hst:¬ 65536 < st.length) (hn:¬ 99999999 < q.row.getLast?.getD 0+1):checkpointJ s names q st=
  (if (if fresh∈names then removeS s fresh else (s,0)).2≠0 then ((if fresh∈names then removeS s fresh else (s,0)).1,doneJ q (if fresh∈names then removeS s fresh else (s,0)).2,(if fresh∈names then removeS s fresh else (s,0)).2) else ckS (if fresh∈names then removeS s fresh else (s,0)).1 q st):=by
 unfold checkpointJ ckS
 rw [if_neg (by rw [hb];simp),if_neg hst]
 simp only
 rw [if_neg hn]
theorem wc16 {A:AW} {j d mp k n:Nat} {q:JS} {s:DS} {Fl Fr:List Nat} {st:ByteArray} {K:Value→AW→Prop} (h:JD A j d mp q s Fl Fr) (hg:Glb A) (hok:OkS k s) (hk9:k+q.row.length < 7000) (hf:Fine A) (hA:A.next < 800000000000) (h0:0≠j∧0≠d∧0≠mp) (hst:st.data.toList.length≤65536)
  (hn:q.row.getLast? =some n) (hn8:n+1 < 100000000) (hN:NameK W0 m0 (n+1)) (hNr:∀ x∈q.row,NameK W0 m0 x)
  (hk:∀ A' Fl' Fr',JD A' j d mp (checkpointJ s (namesS s.D) q st.data.toList).2.1 (checkpointJ s (namesS s.D) q st.data.toList).1 Fl' Fr'→(∀ y∈Fl',y∈Fl∨A.next≤y)→(∀ y∈Fr',y∈Fr∨A.next≤y)→Keeps A A' (j::d::mp::(Fl++Fr))→A'.next≤A.next+240+10 * k+10 * q.row.length→Fine A'→K (.int .i64 (checkpointJ s (namesS s.D) q st.data.toList).2.2) A'):
  Wc Tryz.prog theX W0 m0 16 [ptr j,.string st] A K:=by
 have hmax:maxId=1099511627776:=rfl
 have hfew:=hok.few
 have hjd:=h
 have hjA:=h.jn.lt
 have hFlA:∀ y∈Fl,y < A.next:=by obtain ⟨_,_,_,_,a,_,_⟩:=h.jn;exact a.lt
 have hFrA:∀ y∈Fr,y < A.next:=by obtain ⟨_,_,_,_,_,_,a⟩:=h.jn;exact a.lt
 have elast:q.row.getLast?.getD 0=n:=by rw [hn];rfl
 have hloop:∀ x∈Fr,x < A.next∧x≠d∧x≠mp∧x≠j:=fun x hx=>⟨hFrA x hx,h.fr x hx⟩
 by_cases hb:q.broken=true
 ·have he:checkpointJ s (namesS s.D) q st.data.toList=(s,q,100):=by unfold checkpointJ;rw [if_pos hb]
  rw [he] at hk
  refine w16 _ _ _ (cuts_none (S:=fun _ _ _=>False) fun _ _ _ h=>h) ?_
  rw [e16f]
  refine wc53 h.jn ?_
  simp only [un_not,pureW_some]
  refine forkW_bool.2 ⟨fun h=>by simp at h,fun _=>?_⟩
  refine wc54 h.jn ?_
  rw [if_pos hb]
  simp only [bin_neq,pureW_some]
  exact forkW_bne.2 ⟨fun _=>hk A Fl Fr hjd (fun y hy=>.inl hy) (fun y hy=>.inl hy) (.refl _ _) (by omega) hf,fun h=>by simp at h⟩
 have hb:q.broken=false:=by simpa using hb
 rw [ckS_eq s (namesS s.D) q st.data.toList hb (by omega) (by rw [elast];omega)] at hk
 obtain ⟨x0,hx0⟩:∃ x0,(if fresh∈namesS s.D then removeS s fresh else (s,0))=x0:=⟨_,rfl⟩
 rw [hx0] at hk
 have hokx:OkS (k+1) x0.1:=by
  rw [← hx0]
  split
  ·exact removeS_ok hok _
  ·exact hok.more (by omega)
 have hJ0:∀ A1,Jn A1 j d q Fl Fr→Dk A1 d mp x0.1→JD A1 j d mp q x0.1 Fl Fr:=fun A1 h1 h2=>⟨h1,h2,hjd.nd,hjd.fl,hjd.fr⟩
 refine w16 _ _ _ (c16 (I:=fun g id vals A'=>x0.2=0∧ckI A j d mp (k+1) Fl Fr x0.1 q st.data.toList g id vals A') fun g id vals A' dd hI hd'=>?_) ?_
 ·obtain ⟨hx2,vo,⟨hz1,hz2,hz3⟩,hCI⟩:=hI
  obtain rfl:id=0:=hCI.1
  rw [if_neg (by simpa using hx2)] at hk
  unfold ckS at hk
  simp only [if_neg (by simpa using hz1:¬ (appendS x0.1 fresh (putR (0,st.data.toList))).2≠0),if_neg (by simpa using hz2:¬ (syncS (appendS x0.1 fresh (putR (0,st.data.toList))).1 fresh).2≠0),if_neg (by simpa using hz3:¬ (renameS (syncS (appendS x0.1 fresh (putR (0,st.data.toList))).1 fresh).1 fresh (Jr.nm (q.row.getLast?.getD 0+1))).2≠0)] at hk
  refine ck_loop (k:=k+1) hloop hA (by omega) hNr (fun A2 Fr' h1 h2 h3 h4 h5=>?_) (fun g2 id v A'' hg2 hc=>⟨g2,hg2,hx2,vo,⟨hz1,hz2,hz3⟩,hc⟩) hCI hd'
  refine (fun hk0=>?_:_→_) hk
  by_cases hy:(rmAll (renameS (syncS (appendS x0.1 fresh (putR (0,st.data.toList))).1 fresh).1 fresh (Jr.nm (q.row.getLast?.getD 0+1))).1 q.row).2=0
  ·rw [if_neg (by simpa using hy)] at hk0 h1
   have:=hk0 A2 [] Fr' h1 (by simp) (fun y hy=>.inr (h2 y hy)) h3 (by omega) h5
   rw [hy]
   exact this
  ·rw [if_pos hy] at hk0 h1
   exact hk0 A2 [] Fr' h1 (by simp) (fun y hy=>.inr (h2 y hy)) h3 (by omega) h5
 rw [e16f]
 refine wc53 h.jn ?_
 simp only [un_not,pureW_some]
 refine forkW_bool.2 ⟨fun h=>by simp at h,fun _=>?_⟩
 refine wc54 h.jn ?_
 rw [if_neg (by rw [hb];simp)]
 simp only [bin_neq,pureW_some,ln_9,bin_gtr,forkW_dec]
 refine forkW_bne.2 ⟨fun h=>by simp at h,fun _=>⟨fun h=>by omega,fun _=>?_⟩⟩
 refine wc56 h.jn hn (by omega) ?_
 obtain ⟨vl,vr,rl,j1,o1,hql,o2⟩:=h.jn
 simp only [bin_add,pureW_some,bin_gtr]
 rw [wrap_i64 (by omega) (by omega)]
 have en1:(n:Int)+1=((n+1:Nat):Int):=by omega
 simp only [forkW_dec]
 refine ⟨fun h=>by omega,fun _=>?_⟩
 simp only [ptr,nilP_some,fa_83_0,ld_27,cell_row j1.row,cellOf,isT_ptr,cond_false,pureW_some]
 refine wc11 h.dk hf (by omega) (by omega) fun A1 sv Fn h1 hFn k1 n1 f1=>?_
 have hrd:=names_rd h1
 have hnl:(namesS s.D).length=s.D.length:=by unfold namesS;rw [List.length_mergeSort,List.length_map]
 refine wc38 (k:=⟨⟨[106,46,110,101,119]⟩⟩) hrd (by omega) ?_
 have efr:(⟨⟨[106,46,110,101,119]⟩⟩:ByteArray).data.toList=fresh:=rfl
 rw [efr]
 have J1:=hjd.keeps k1 (by simp) (by simp) (by simp) (by simp) (by simp)
 have le1:=k1.next
 have K1:Keeps A A1 (j::d::mp::(Fl++Fr)):=k1.more (by simp)
 have hjlt:j < A.next∧(∀ x∈Fl,x < A.next)∧∀ x∈Fr,x < A.next:=⟨hjA,hFlA,hFrA⟩
 refine forkW_bool.2 ⟨fun hin=>?_,fun hin=>?_⟩
 ·have hin:fresh∈namesS s.D:=by simpa using hin
  rw [if_pos hin] at hx0
  have j1':=j1.keeps k1 (by simp)
  simp only [cell_row j1'.row,cellOf,isT_ptr,cond_false,pureW_some]
  refine wc40 (n:=⟨⟨[106,46,110,101,119]⟩⟩) J1.dk hok.n f1 (by omega) fun A2 d2 k2 n2 f2=>?_
  rw [efr,hx0] at d2 ⊢
  have J2:=J1.disk k2 d2
  have le2:=k2.next
  have K2:Keeps A A2 (j::d::mp::(Fl++Fr)):=K1.trans k2 fun y hy=>.inl (dmIn y hy)
  simp only [bin_neq,pureW_some]
  refine forkW_bne.2 ⟨fun he=>?_,fun he=>?_⟩
  ·rw [if_pos he] at hk
   refine wc57 J2.jn f2 (by omega) (fun hm=>(hjd.fl j hm).2.2.1 rfl) (fun hm=>(hjd.fr j hm).2.2 rfl) fun A3 j3 k3 n3 f3=>?_
   exact hk A3 Fl Fr ⟨j3,J2.dk.keeps k3 (by simp;exact fun h=>hjd.nd.1 h.symm) (by simp;exact fun h=>hjd.nd.2 h.symm),hjd.nd,hjd.fl,hjd.fr⟩ (fun y hy=>.inl hy) (fun y hy=>.inl hy) (K2.trans k3 fun y hy=>.inl (by simp [List.mem_singleton.1 hy])) (by omega) f3
  ·have he:x0.2=0:=by simpa using he
   rw [if_neg (by simpa using he)] at hk
   rw [en1]
   exact (ck_ok (W0:=W0) (m0:=m0) (A:=A) (K:=K) J2 ((hg.keeps k1 (by simp)).keeps k2 (by simp;exact h0.2)) (hokx.more (Nat.le_refl _)) (by omega) f2 hA K2 (by omega) h0 hst (fun g2 id v A' hh=>⟨g2,he,hh⟩) hn hn8 hN hjlt (fun hne A' Fl' Fr' a1 a2 a3 a4 a5 a6=>hk A' Fl' Fr' a1 a2 a3 a4 (by omega) a6))
 ·have hin:fresh∉namesS s.D:=by simpa using hin
  rw [if_neg hin] at hx0
  subst hx0
  rw [if_neg (by simp)] at hk
  rw [en1]
  exact (ck_ok (W0:=W0) (m0:=m0) (A:=A) (K:=K) J1 (hg.keeps k1 (by simp)) hokx (by omega) f1 hA K1 (by omega) h0 hst (fun g2 id v A' hh=>⟨g2,rfl,hh⟩) hn hn8 hN hjlt (fun hne A' Fl' Fr' a1 a2 a3 a4 a5 a6=>hk A' Fl' Fr' a1 a2 a3 a4 (by omega) a6))
end
structure AV where
 what:UInt8
 r:RV
 n:Int
 o:Option Addr
 len:Nat
 cap:Nat
 file:ByteArray
def fA (x:AV):List Value:=[.int .u8 x.what.toNat,.int .u8 x.r.1.toNat,.string x.r.2,.int .i64 x.n,.slice x.o x.len x.cap,.string x.file]
theorem etA:ET Tryz.prog 45 48 5 fA where
 us:=by kernel_rfl
 sz:=by kernel_rfl
 ag:=by kernel_rfl
 by':=⟨80,by kernel_rfl,by decide⟩
 hz:=by kernel_rfl
 len:=fun _=>rfl
 one:=fun _=>rfl
 noT:=fun _=>rfl
theorem zA:zeroT Tryz.prog 48=some (.agg ⟨[.int .u8 0,.int .u8 0,.string ⟨⟨[]⟩⟩,.int .i64 0,.slice none 0 0,.string ⟨⟨[]⟩⟩]⟩):=by kernel_rfl
def RdA (A:AW) (x:Value) (n:Nat) (l:List AV) (F:List Nat):Prop:=∃ o c,x=.slice o n c∧l.length≤n∧RdE 5 fA A (.slice o l.length c) l F
theorem RdA.keeps {A A':AW} {x:Value} {n:Nat} {l:List AV} {F S:List Nat} (h:RdA A x n l F) (k:Keeps A A' S) (hd:∀ y∈F,y∉S):RdA A' x n l F:=by
 obtain ⟨o,c,h1,h2,h3⟩:=h
 exact ⟨o,c,h1,h2,h3.keeps k hd⟩
theorem RdA.len {A B:AW} {x:Value} {n:Nat} {l:List AV} {F:List Nat} (h:RdA A x n l F):lenA Tryz.prog B 45 x=some (.int .i64 (n:Int)):=by
 obtain ⟨o,c,rfl,_,_⟩:=h
 exact ln_45 _ _ _ _
theorem RdA.at {A:AW} {x:Value} {n:Nat} {l:List AV} {F:List Nat} (h:RdA A x n l F) {i:Nat} {p:AV} (hi:l[i]? =some p):
  ∃ r o,indexAddrA Tryz.prog 45 x (.int .i64 (i:Int))=some (.pointer (some ⟨r,o,none⟩))∧A.cells? ⟨r,o,none⟩ 6=some (fA p)∧loadP Tryz.prog A 48 (.pointer (some ⟨r,o,none⟩))=some (.agg ⟨fA p⟩):=by
 obtain ⟨o,c,rfl,h2,h3⟩:=h
 have hlt:i < l.length:=(List.getElem?_eq_some_iff.1 hi).1
 obtain ⟨r,o',a1,a2,a3⟩:=h3.at etA hi
 refine ⟨r,o',?_,a2,a3⟩
 rcases h3 with ⟨rfl,_⟩ | ⟨r2,o2,c2,cs,e,g,b,ro,hs,_⟩
 ·simp at hi
 ·simp only [Value.slice.injEq] at hs
  obtain ⟨rfl,_,rfl⟩:=hs
  rw [ia_elem etA hlt] at a1
  rw [ia_elem etA (by omega)]
  exact a1
def big (x:AV):Bool:=decide (200 < x.r.2.data.toList.length) || (decide (20 < x.len) || decide (60 < x.file.data.toList.length))
theorem ba_eqJ {a b:ByteArray} (h:a.data.toList=b.data.toList):a=b:=by
 cases a with | mk a=>cases b with | mk b=>cases a;cases b;simpa using h
theorem ft35:quiet Tryz.prog (underlying 35)=some (.struct (Tryz.prog.fieldsOf 35)):=by kernel_rfl
noncomputable def F35 (i:Nat):Field:=(Tryz.prog.fieldsOf 35).toList.getD i default
theorem fs35:(Tryz.prog.fieldsOf 35).toList=[F35 0,F35 1]:=by kernel_rfl
theorem pt35_0 (n:Int) (b:ByteArray):quiet Tryz.prog (part (F35 0).type ⟨[.int .u8 n,.string b]⟩ (F35 0).offset)=some (.int .u8 n):=by kernel_rfl
theorem pt35_1 (n:Int) (b:ByteArray):quiet Tryz.prog (part (F35 1).type ⟨[.int .u8 n,.string b]⟩ (F35 1).offset)=some (.string b):=by kernel_rfl
theorem ty35_0:(F35 0).type=5:=by kernel_rfl
theorem ty35_1:(F35 1).type=9:=by kernel_rfl
theorem ut5:quiet Tryz.prog (underlying 5)=some (.int .u8):=by kernel_rfl
def sameR (p q:RV):Bool:=((p.1.toNat:Int)==(q.1.toNat:Int))&&p.2.data.toList==q.2.data.toList
theorem sameR_iff {p q:RV}:sameR p q=true↔p=q:=by
 unfold sameR
 simp only [Bool.and_eq_true,beq_iff_eq]
 constructor
 ·rintro ⟨h1,h2⟩
  obtain ⟨a,b⟩:=p
  obtain ⟨c,d⟩:=q
  have h3:=ba_eqJ h2
  have h1:(a.toNat:Int)=(c.toNat:Int):=h1
  have h1:a.toNat=c.toNat:=by omega
  simp only at h3
  rw [UInt8.toNat_inj.1 h1,h3]
 ·rintro rfl;exact ⟨rfl,rfl⟩
theorem quiet35 (n:Nat) (p q:RV):quiet Tryz.prog (Op.equalIn (n+1+1) 35 (.agg ⟨fR p⟩) (.agg ⟨fR q⟩))=some (sameR p q):=by
 show quiet Tryz.prog (Op.equalIn (n+1+1) 35 (.agg ⟨[.int .u8 p.1.toNat,.string p.2]⟩) (.agg ⟨[.int .u8 q.1.toNat,.string q.2]⟩))=_
 rw [quiet_struct (n+1) 35 _ _ ft35 (by kernel_rfl),fs35]
 rw [quiet_fieldR (by kernel_rfl) (pt35_0 _ p.2) (pt35_0 _ q.2) (by rw [ty35_0];exact quiet_eq_int n 5 _ _ _ _ ut5)]
 rw [quiet_fieldR (by kernel_rfl) (pt35_1 _ p.2) (pt35_1 _ q.2) (by rw [ty35_1];exact quiet_eqs ut9)]
 unfold sameR
 cases (p.1.toNat:Int)==(q.1.toNat:Int) <;> cases p.2.data.toList==q.2.data.toList <;> rfl
theorem neqR (p q:RV) (xo yo:Operand):binA Tryz.prog .neq 35 xo yo (.agg ⟨fR p⟩) (.agg ⟨fR q⟩)=some (.bool !(sameR p q)):=by
 have hg:eqGuardA Tryz.prog 35 xo yo (.agg ⟨fR p⟩) (.agg ⟨fR q⟩)=true:=by
  show (!Tryz.prog.eqGuardType Tryz.prog.depth 35)=true
  kernel_rfl
 have he:eqA Tryz.prog 35 (.agg ⟨fR p⟩) (.agg ⟨fR q⟩)=some (sameR p q):=by
  unfold eqA
  have hc:(closedV 4 (.agg ⟨fR p⟩)&&closedV 4 (.agg ⟨fR q⟩))=true:=rfl
  rw [hc,cond_true]
  exact quiet35 9998 p q
 show (bif eqGuardA Tryz.prog 35 xo yo (.agg ⟨fR p⟩) (.agg ⟨fR q⟩) then (match eqA Tryz.prog 35 (.agg ⟨fR p⟩) (.agg ⟨fR q⟩) with | some b=>some (Value.bool !b) | none=>none) else none)=_
 rw [hg,cond_true,he]
section
variable {W0:World} {m0:Inj Tryz.prog}
theorem wc14 {A:AW} {x:AV} {K:Value→AW→Prop} (hf:Fine A) (hA:A.next < maxId) (hk:∀ A',Grow A A' 1→K (.bool (big x)) A'):Wc Tryz.prog theX W0 m0 14 [.agg ⟨fA x⟩] A K:=by
 refine w14 _ _ (cuts_none (S:=fun _ _ _=>False) fun _ _ _ h=>h) ?_
 rw [e14]
 refine newP_made (cs:=fA x) hf hA rfl fun A1 m1=>?_
 have g1:=Grow.made m1 hf
 have r1:Go.Abs.Row1 A1 A.next [.int .u8 x.what.toNat,.int .u8 x.r.1.toNat,.string x.r.2,.int .i64 x.n,.slice x.o x.len x.cap,.string x.file] 48:=m1.row1
 have hk1:=hk A1 g1
 unfold big at hk1
 simp only [fa_48_1,fa_48_3,fa_48_4,fa_35_1,ld_9,ld_46,cell_row r1.row,cellOf,isTuple,cond_false,pureW_some,ln_9,ln_46,bin_gtr,forkW_dec,Nat.zero_add]
 refine ⟨fun h=>?_,fun h1=>⟨fun h=>?_,fun h2=>?_⟩⟩
 ·rw [decide_eq_true (by omega),Bool.true_or] at hk1
  exact hk1
 ·rw [decide_eq_false (by omega),Bool.false_or,decide_eq_true (show 20 < x.len by omega),Bool.true_or] at hk1
  exact hk1
 ·rw [decide_eq_false (by omega),Bool.false_or,decide_eq_false (show ¬ 20 < x.len by omega),Bool.false_or] at hk1
  have e:decide ((60:Int) < (x.file.data.toList.length:Int))=decide (60 < x.file.data.toList.length):=by
   by_cases h:60 < x.file.data.toList.length
   ·rw [decide_eq_true h,decide_eq_true (by omega)]
   ·rw [decide_eq_false h,decide_eq_false (by omega)]
  rw [e]
  exact hk1
theorem wc20 {A:AW} {a b:Value} {la lb:List RV} {Fa Fb:List Nat} {K:Value→AW→Prop} (ha:RdE 1 fR A a la Fa) (hb:RdE 1 fR A b lb Fb) (hl:la.length < 1000000) (hk:∀ r:Bool,(r=true↔la=lb)→K (.bool r) A):Wc Tryz.prog theX W0 m0 20 [a,b] A K:=by
 let I:Nat→Nat→List Value→AW→Prop:=fun g id vals A'=>id=0∧A'=A∧∃ i:Nat,vals=[a,b,.int .i64 (i:Int)]∧i≤la.length∧g=la.length - i∧la.length=lb.length∧la.take i=lb.take i
 refine w20 _ _ _ (c20 (I:=I) fun g id vals A' d hI hd'=>?_) ?_
 ·obtain ⟨rfl,rfl,i,rfl,hi,rfl,hll,htk⟩:=hI
  rw [l20_0]
  simp only [L20,List.map_cons,List.map_nil,List.cons.injEq,and_true] at hd'
  obtain ⟨h0,h1,h5⟩:=hd'
  simp only [h0,h1,h5,ha.len etR,bin_lss,pureW_some,forkW_dec]
  refine ⟨fun hlt=>?_,fun hge=>?_⟩
  ·have hlt:i < la.length:=by omega
   obtain ⟨p,hp⟩:∃ p,la[i]? =some p:=⟨_,List.getElem?_eq_getElem hlt⟩
   obtain ⟨q,hq⟩:∃ q,lb[i]? =some q:=⟨_,List.getElem?_eq_getElem (by omega)⟩
   obtain ⟨r,o,a1,a2,a3⟩:=ha.at etR hp
   obtain ⟨r',o',b1,b2,b3⟩:=hb.at etR hq
   simp only [a1,a3,b1,b3,pureW_some,neqR]
   refine forkW_bool.2 ⟨fun hne=>hk false ⟨fun h=>by simp at h,fun h=>?_⟩,fun heq=>?_⟩
   ·subst h
    rw [hp] at hq
    obtain rfl:p=q:=by simpa using hq
    rw [sameR_iff.2 rfl] at hne
    simp at hne
   ·have hpq:p=q:=by
     cases hs:sameR p q with
     | true=>exact sameR_iff.1 hs
     | false=>rw [hs] at heq;simp at heq
    subst hpq
    simp only [bin_add,pureW_some]
    rw [wrap_i64 (by omega) (by omega)]
    refine cutW_self.2 ⟨la.length - (i+1),by omega,rfl,rfl,i+1,by simp,by omega,rfl,hll,?_⟩
    rw [List.take_add_one,List.take_add_one,hp,hq,htk]
  ·have hi':i=la.length:=by omega
   subst hi'
   refine hk true ⟨fun _=>?_,fun _=>rfl⟩
   rw [List.take_length] at htk
   rw [htk,hll,List.take_length]
 ·rw [e20]
  simp only [ha.len etR,hb.len etR,pureW_some,bin_neq]
  refine forkW_bne.2 ⟨fun h=>hk false ⟨fun h=>by simp at h,fun h2=>absurd (by rw [h2]) h⟩,fun h=>?_⟩
  exact cutW_self.2 ⟨la.length - 0,rfl,rfl,0,rfl,by omega,rfl,by omega,by simp⟩
end
end Go.Proofs.YtbchfeibhoobeaaGreatDoor
namespace Go.Proofs.YtbchfeibhoobeaaGreatDoor
open Go.Jr
def filesB (n0:Nat) (F:Nat→Nat) (bs:List (List UInt8)):Fls:=bs.zipIdx.map fun x=>(Jr.nm (x.2+n0),(x.1,F x.2))
theorem filesB_snoc (n0:Nat) (F:Nat→Nat) (bs:List (List UInt8)) (b:List UInt8):filesB n0 F (bs++[b])=filesB n0 F bs++[(Jr.nm (bs.length+n0),(b,F bs.length))]:=by
 unfold filesB
 rw [List.zipIdx_append,List.map_append]
 simp
theorem filesB_congr {n0:Nat} {F G:Nat→Nat} {bs:List (List UInt8)} (h:∀ i,i < bs.length→F i=G i):filesB n0 F bs=filesB n0 G bs:=by
 unfold filesB
 apply List.map_congr_left
 rintro ⟨b,i⟩ hm
 have:=(List.getElem?_eq_some_iff.1 (List.mem_zipIdx_iff_getElem?.1 hm)).1
 rw [h i this]
theorem filesB_mem {n0:Nat} {F:Nat→Nat} {bs:List (List UInt8)} {e:List UInt8 × Fil} (h:e∈filesB n0 F bs):∃ i b,bs[i]? =some b∧e=(Jr.nm (i+n0),(b,F i)):=by
 obtain ⟨⟨b,i⟩,hm,rfl⟩:=List.mem_map.1 h
 exact ⟨i,b,List.mem_zipIdx_iff_getElem?.1 hm,rfl⟩
theorem filesB_len (n0:Nat) (F:Nat→Nat) (bs:List (List UInt8)):(filesB n0 F bs).length=bs.length:=by unfold filesB;rw [List.length_map,List.length_zipIdx]
theorem filesB_ne {n0:Nat} {F:Nat→Nat} {bs:List (List UInt8)} {n:Nat} (hn:bs.length+n0≤n) (h64:n < 64):∀ e∈filesB n0 F bs,e.1≠Jr.nm n:=by
 intro e he h
 obtain ⟨i,b,hi,rfl⟩:=filesB_mem he
 have:=(List.getElem?_eq_some_iff.1 hi).1
 have:=nm_inj (by omega) h64 h
 omega
theorem filesB_fresh {n0:Nat} {F:Nat→Nat} {bs:List (List UInt8)} (h64:bs.length+n0 < 64):∀ e∈filesB n0 F bs,e.1≠fresh:=by
 intro e he
 obtain ⟨i,b,hi,rfl⟩:=filesB_mem he
 have:=(List.getElem?_eq_some_iff.1 hi).1
 exact (nm_ok (i+n0) (by omega)).2.2
theorem lookB_last (n0:Nat) (F:Nat→Nat) (bs:List (List UInt8)) (b:List UInt8) (h64:bs.length+n0 < 64):lookF (filesB n0 F (bs++[b])) (Jr.nm (bs.length+n0))=some (b,F bs.length):=by
 rw [filesB_snoc,lookF_app (filesB_ne (by omega) h64)]
 simp [lookF]
theorem lookB_none (n0:Nat) (F:Nat→Nat) (bs:List (List UInt8)) {n:Nat} (hn:bs.length+n0≤n) (h64:n < 64):lookF (filesB n0 F bs) (Jr.nm n)=none:=by
 have:=lookF_app (filesB_ne (F:=F) hn h64) []
 rw [List.append_nil] at this
 rw [this];rfl
theorem putB_last (n0:Nat) (F:Nat→Nat) (bs:List (List UInt8)) (b b':List UInt8) (n:Nat) (h64:bs.length+n0 < 64):putF (filesB n0 F (bs++[b])) (Jr.nm (bs.length+n0)) (b',n)=filesB n0 (fun i=>if i=bs.length then n else F i) (bs++[b']):=by
 rw [filesB_snoc,putF_app (filesB_ne (by omega) h64),filesB_snoc]
 simp only [putF,BEq.rfl,if_true]
 congr 1
 exact filesB_congr fun i hi=>by rw [if_neg (by omega)]
theorem putB_new (n0:Nat) (F:Nat→Nat) (bs:List (List UInt8)) (b:List UInt8) (n:Nat) (h64:bs.length+n0 < 64):putF (filesB n0 F bs) (Jr.nm (bs.length+n0)) (b,n)=filesB n0 (fun i=>if i=bs.length then n else F i) (bs++[b]):=by
 have:=putF_app (filesB_ne (F:=F) (bs:=bs) (n:=bs.length+n0) (Nat.le_refl _) h64) (b,n) []
 rw [List.append_nil] at this
 rw [this,filesB_snoc]
 simp only [putF,if_true]
 congr 1
 exact filesB_congr fun i hi=>by rw [if_neg (by omega)]
theorem usedB_files (n0:Nat) (F:Nat→Nat) (bs:List (List UInt8)):usedF (filesB n0 F bs)=bs.flatten.length:=by
 unfold usedF filesB
 rw [List.map_map,List.length_flatten,foldr_add]
 congr 1
 rw [List.zipIdx_eq_zip_range']
 rw [show (fun e:List UInt8 × Fil=>e.2.1.length)∘(fun x:List UInt8 × Nat=>(Jr.nm (x.2+n0),(x.1,F x.2)))=fun x=>x.1.length from rfl]
 rw [show (fun x:List UInt8 × Nat=>x.1.length)=List.length∘Prod.fst from rfl,← List.map_map,List.map_fst_zip (by simp)]
theorem names_filesB (n0:Nat) (F:Nat→Nat) (bs:List (List UInt8)) (h64:bs.length+n0 < 64):namesS (filesB n0 F bs)=bs.zipIdx.map fun x=>Jr.nm (x.2+n0):=by
 unfold namesS
 have e:(filesB n0 F bs).map (·.1)=bs.zipIdx.map fun x=>Jr.nm (x.2+n0):=by unfold filesB;rw [List.map_map];rfl
 rw [e]
 refine List.mergeSort_of_pairwise ?_
 rw [List.zipIdx_eq_zip_range',List.pairwise_map]
 rw [List.pairwise_iff_getElem]
 intro i j hi hj hij
 simp only [List.getElem_zip,List.getElem_range']
 simp at hi hj
 exact nm_leB _ (by omega) _ (by omega) (by omega)
theorem names_getB (n0:Nat) (F:Nat→Nat) (bs:List (List UInt8)) (h64:bs.length+n0 < 64) {i:Nat} {p:List UInt8} (h:(namesS (filesB n0 F bs))[i]? =some p):i < bs.length∧p=Jr.nm (i+n0):=by
 rw [names_filesB n0 F bs h64,List.getElem?_map,List.getElem?_zipIdx] at h
 cases hb:bs[i]? with
 | none=>rw [hb] at h;cases h
 | some b=>
  rw [hb] at h
  have h1:Jr.nm (0+i+n0)=p:=by simpa using h
  rw [Nat.zero_add] at h1
  exact ⟨(List.getElem?_eq_some_iff.1 hb).1,h1.symm⟩
theorem fresh_namesB (n0:Nat) (F:Nat→Nat) (bs:List (List UInt8)) (h64:bs.length+n0 < 64):fresh∉namesS (filesB n0 F bs):=by
 intro hm
 obtain ⟨i,hi⟩:=List.mem_iff_getElem?.1 hm
 obtain ⟨h1,h2⟩:=names_getB n0 F bs h64 hi
 exact (nm_ok (i+n0) (by omega)).2.2 h2.symm
theorem look_filesB (n0:Nat) (F:Nat→Nat):∀ (bs:List (List UInt8)),bs.length+n0 < 64→∀ i b,bs[i]? =some b→lookF (filesB n0 F bs) (Jr.nm (i+n0))=some (b,F i):=by
 intro bs h64 i b hb
 have hm:(Jr.nm (i+n0),(b,F i))∈filesB n0 F bs:=List.mem_map.2 ⟨(b,i),List.mem_zipIdx_iff_getElem?.2 hb,rfl⟩
 have hi:=(List.getElem?_eq_some_iff.1 hb).1
 unfold lookF
 cases hq:(filesB n0 F bs).find? fun e=>e.1==Jr.nm (i+n0) with
 | none=>have:=List.find?_eq_none.1 hq _ hm;simp at this
 | some e=>
  have h1:=List.find?_some hq
  obtain ⟨j,c,hj,rfl⟩:=filesB_mem (List.mem_of_find?_eq_some hq)
  have hjl:=(List.getElem?_eq_some_iff.1 hj).1
  have h1:Jr.nm (j+n0)=Jr.nm (i+n0):=by simpa using h1
  have:=nm_inj (by omega) (by omega) h1
  obtain rfl:j=i:=by omega
  rw [hb] at hj
  obtain rfl:b=c:=by simpa using hj
  rfl
theorem segs_filesB (n0:Nat) (F:Nat→Nat) (bs:List (List UInt8)) (h1:1≤n0) (h64:bs.length+n0 < 64):segsOf (filesB n0 F bs) (namesS (filesB n0 F bs))=bs.zipIdx.map fun x=>segOf (x.2+n0) x.1:=by
 rw [names_filesB n0 F bs h64]
 unfold segsOf
 rw [List.filterMap_map]
 refine filterMap_all ?_
 rintro ⟨b,i⟩ hm
 have hb:=List.mem_zipIdx_iff_getElem?.1 hm
 have hi:=(List.getElem?_eq_some_iff.1 hb).1
 have hl:=look_filesB n0 F bs h64 i b hb
 have hn:=(nm_ok (i+n0) (by omega)).1
 simp only [Function.comp]
 rw [hn,if_neg (by omega)]
 unfold fileOf
 rw [hl]
 rfl
theorem appendB_new {n0:Nat} {F:Nat→Nat} {bs:List (List UInt8)} {b:List UInt8} {room:Int} (h64:bs.length+n0 < 60) (hb:b.length≤1048576) (hr:(bs.flatten.length+b.length:Nat)≤room):
  appendS ⟨filesB n0 F bs,room,0,false⟩ (Jr.nm (bs.length+n0)) b=(⟨filesB n0 (fun i=>if i=bs.length then 0 else F i) (bs++[b]),room,0,false⟩,0):=by
 have hl:=lookB_none n0 F bs (n:=bs.length+n0) (Nat.le_refl _) (by omega)
 have hfo:fileOf (filesB n0 F bs) (Jr.nm (bs.length+n0))=([],0):=by unfold fileOf;rw [hl];rfl
 have hm:=(nm_ok (bs.length+n0) (by omega)).2.1
 unfold appendS
 simp only [Bool.false_eq_true,if_false,hm,usedB_files,hfo,List.length_nil]
 rw [if_neg (by simp),if_neg (by omega),if_neg (by omega)]
 unfold actS
 simp only [Int.lt_irrefl,if_false]
 rw [List.nil_append,putB_new n0 F bs b 0 (by omega)]
theorem appendB_last {n0:Nat} {F:Nat→Nat} {bs:List (List UInt8)} {c b:List UInt8} {room:Int} (h64:bs.length+n0 < 60) (hb:c.length+b.length≤1048576) (hr:((bs++[c]).flatten.length+b.length:Nat)≤room):
  appendS ⟨filesB n0 F (bs++[c]),room,0,false⟩ (Jr.nm (bs.length+n0)) b=(⟨filesB n0 F (bs++[c++b]),room,0,false⟩,0):=by
 have hl:=lookB_last n0 F bs c (by omega)
 have hfo:fileOf (filesB n0 F (bs++[c])) (Jr.nm (bs.length+n0))=(c,F bs.length):=by unfold fileOf;rw [hl];rfl
 have hm:=(nm_ok (bs.length+n0) (by omega)).2.1
 unfold appendS
 simp only [Bool.false_eq_true,if_false,hm,usedB_files,hfo]
 rw [if_neg (by simp),if_neg (by omega),if_neg (by omega)]
 unfold actS
 simp only [Int.lt_irrefl,if_false]
 rw [putB_last n0 F bs c (c++b) _ (by omega)]
 congr 2
 exact filesB_congr fun i _=>by split <;> simp_all
theorem syncB_last {n0:Nat} {F:Nat→Nat} {bs:List (List UInt8)} {c:List UInt8} {room:Int} (h64:bs.length+n0 < 60):
  syncS ⟨filesB n0 F (bs++[c]),room,0,false⟩ (Jr.nm (bs.length+n0))=(⟨filesB n0 (fun i=>if i=bs.length then c.length else F i) (bs++[c]),room,0,false⟩,0):=by
 have hl:=lookB_last n0 F bs c (by omega)
 unfold syncS
 simp only [Bool.false_eq_true,if_false,hl]
 unfold actS
 simp only [Int.lt_irrefl,if_false]
 rw [putB_last n0 F bs c c _ (by omega)]
def TB (room limit:Int) (st:List UInt8) (R:List Rec) (s:DS) (q:JS) (hi:Nat):Prop:=
 ∃ n0 F gs g,s=⟨filesB n0 F ((gs++[g]).map putL),room,0,false⟩∧q=⟨limit,st,R,(List.range (gs.length+1)).map (·+n0),(putL g).length,true,false⟩∧(gs++[g]).flatten=(0,st)::R∧(∀ x∈gs++[g],x≠[])∧1≤n0∧gs.length+n0≤hi
theorem row_lastB (n n0:Nat):((List.range (n+1)).map (·+n0)).getLast? =some (n+n0):=by
 rw [List.range_succ,List.map_append,List.map_singleton,List.getLast?_concat]
theorem row_snocB (n n0:Nat):(List.range (n+1)).map (·+n0)++[n+n0+1]=(List.range (n+2)).map (·+n0):=by
 rw [List.range_succ (n:=n+1),List.map_append,List.map_singleton,show n+1+n0=n+n0+1 by omega]
theorem TI.toB {room limit:Int} {s:DS} {q:JS} (h:TI room limit [] s q):TB room limit [] [] s q 1:=by
 obtain ⟨F,gs,g,rfl,rfl,hf,hne,hg⟩:=h
 exact ⟨1,F,gs,g,rfl,rfl,hf,hne,Nat.le_refl _,by simp at hg;simp [hg]⟩
theorem TB.step {room limit:Int} {st:List UInt8} {R:List Rec} {s:DS} {q:JS} {hi:Nat} {r:Rec} (h:TB room limit st R s q hi) (hr:r.1≠0) (hl:r.2.length≤200) (hR:hi < 50) (hb:((putL ((0,st)::R)).length+(putR r).length:Nat)≤room) (hb2:(putL ((0,st)::R)).length < 1000000):
  (appendJ s q r).2.2=0∧TB room limit st (R++[r]) (appendJ s q r).1 (appendJ s q r).2.1 (hi+1):=by
 obtain ⟨n0,F,gs,g,rfl,rfl,hf,hne,h1n,hg⟩:=h
 have hpr:=putR_length r
 have htot:((gs++[g]).map putL).flatten.length=(putL ((0,st)::R)).length:=by rw [putL_flat,hf]
 have hgl:(putL g).length≤(putL ((0,st)::R)).length:=by
  rw [← hf,List.flatten_append,putL_append,List.length_append]
  simp
 unfold appendJ
 rw [if_neg hr]
 simp only [Bool.false_eq_true,if_false,row_lastB,Option.getD_some,true_and]
 have em:(gs++[g]).map putL=gs.map putL++[putL g]:=by rw [List.map_append];rfl
 have el:(gs.map putL).length=gs.length:=List.length_map _
 by_cases ht:limit - ((putL g).length:Int) < ((putR r).length:Int)
 ·rw [if_pos ht,if_neg (by omega)]
  have h1:=syncB_last (n0:=n0) (F:=F) (bs:=gs.map putL) (c:=putL g) (room:=room) (by omega)
  rw [el] at h1
  rw [em,h1]
  simp only [ne_eq,not_true_eq_false,if_false]
  have h2:=appendB_new (n0:=n0) (F:=fun i=>if i=gs.length then (putL g).length else F i) (bs:=gs.map putL++[putL g]) (b:=putR r) (room:=room) (by rw [List.length_append,el];simp;omega) (by omega) (by rw [← em,htot];exact hb)
  rw [List.length_append,el] at h2
  rw [show gs.length+[putL g].length+n0=gs.length+n0+1 by simp;omega] at h2
  rw [h2]
  simp only [not_true_eq_false,if_false]
  refine ⟨trivial,n0,fun i=>if i=gs.length+[putL g].length then 0 else if i=gs.length then (putL g).length else F i,gs++[g],[r],?_,?_,?_,?_,h1n,?_⟩
  ·rw [List.map_append,List.map_append,List.map_singleton,List.map_singleton,putL_one]
  ·rw [List.length_append,putL_one]
   rw [row_snocB]
   rfl
  ·rw [List.flatten_append,hf];simp
  ·intro x hx
   rcases List.mem_append.1 hx with hx | hx
   ·exact hne x hx
   ·rw [List.mem_singleton.1 hx];simp
  ·rw [List.length_append];simp;omega
 ·rw [if_neg ht]
  have h1:=appendB_last (n0:=n0) (F:=F) (bs:=gs.map putL) (c:=putL g) (b:=putR r) (room:=room) (by omega) (by omega) (by rw [← em,htot];exact hb)
  rw [el] at h1
  rw [em,h1]
  simp only [ne_eq,not_true_eq_false,if_false]
  refine ⟨trivial,n0,F,gs,g++[r],?_,?_,?_,?_,h1n,by omega⟩
  ·rw [List.map_append,List.map_singleton,putL_append,putL_one]
  ·rw [putL_append,putL_one,List.length_append]
  ·rw [List.flatten_append] at hf ⊢
   rw [← List.cons_append,← hf]
   simp
  ·intro x hx
   rcases List.mem_append.1 hx with hx | hx
   ·exact hne x (by simp [hx])
   ·rw [List.mem_singleton.1 hx];simp
theorem TB.sync {room limit:Int} {st:List UInt8} {R:List Rec} {s:DS} {q:JS} {hi:Nat} (h:TB room limit st R s q hi) (hR:hi < 50):(syncJ s q).2.2=0∧TB room limit st R (syncJ s q).1 (syncJ s q).2.1 hi:=by
 obtain ⟨n0,F,gs,g,rfl,rfl,hf,hne,h1n,hg⟩:=h
 have em:(gs++[g]).map putL=gs.map putL++[putL g]:=by rw [List.map_append];rfl
 have el:(gs.map putL).length=gs.length:=List.length_map _
 have h1:=syncB_last (n0:=n0) (F:=F) (bs:=gs.map putL) (c:=putL g) (room:=room) (by omega)
 rw [el] at h1
 unfold syncJ
 simp only [Bool.false_eq_true,if_false,row_lastB,Option.getD_some,em,h1]
 exact ⟨trivial,n0,_,gs,g,by rw [em],by simp [doneJ],hf,hne,h1n,hg⟩
theorem delF_app_last {D:Fls} {k:List UInt8} (h:∀ e∈D,e.1≠k) (v:Fil):delF (D++[(k,v)]) k=D:=by
 unfold delF
 rw [List.filter_append]
 have h1:D.filter (fun e=>!(e.1==k))=D:=List.filter_eq_self.2 fun e he=>by simpa using h e he
 rw [h1]
 simp
theorem delF_first {D:Fls} {k:List UInt8} (h:∀ e∈D,e.1≠k) (v:Fil):delF ((k,v)::D) k=D:=by
 unfold delF
 rw [List.filter_cons]
 have h1:D.filter (fun e=>!(e.1==k))=D:=List.filter_eq_self.2 fun e he=>by simpa using h e he
 rw [h1]
 simp
theorem rmAll_files {room:Int}:∀ (bs:List (List UInt8)) (n0:Nat) (F:Nat→Nat) (v:Fil),1≤n0→bs.length+n0 < 60→
  rmAll ⟨filesB n0 F bs++[(Jr.nm (bs.length+n0),v)],room,0,false⟩ ((List.range bs.length).map (·+n0))=(⟨[(Jr.nm (bs.length+n0),v)],room,0,false⟩,0)
 | [],n0,F,v,_,_=>by simp [filesB,rmAll]
 | b::r,n0,F,v,h1,h64=>by
  have h64:r.length+1+n0 < 60:=h64
  have e1:filesB n0 F (b::r)=(Jr.nm n0,(b,F 0))::filesB (n0+1) (fun i=>F (i+1)) r:=by
   unfold filesB
   rw [List.zipIdx_cons',List.map_cons,List.map_map]
   simp only [Nat.zero_add,Function.comp_def]
   congr 1
   apply List.map_congr_left
   intro x _
   show (Jr.nm (x.2+1+n0),(x.1,F (x.2+1)))=(Jr.nm (x.2+(n0+1)),(x.1,F (x.2+1)))
   rw [show x.2+1+n0=x.2+(n0+1) by omega]
  have e2:(List.range (b::r).length).map (·+n0)=n0::(List.range r.length).map (·+(n0+1)):=by
   rw [List.length_cons,List.range_succ_eq_map,List.map_cons,List.map_map]
   simp only [Nat.zero_add]
   congr 1
   apply List.map_congr_left
   intro x _
   show x+1+n0=x+(n0+1)
   omega
  have hne:∀ e∈filesB (n0+1) (fun i=>F (i+1)) r++[(Jr.nm (r.length+(n0+1)),v)],e.1≠Jr.nm n0:=by
   intro e he h
   rcases List.mem_append.1 he with he | he
   ·obtain ⟨i,c,hi,rfl⟩:=filesB_mem he
    have:=(List.getElem?_eq_some_iff.1 hi).1
    have:=nm_inj (by omega) (by omega) h
    omega
   ·rw [List.mem_singleton.1 he] at h
    have:=nm_inj (by omega) (by omega) h
    omega
  have ih:=rmAll_files (room:=room) r (n0+1) (fun i=>F (i+1)) v (by omega) (by omega)
  have e3:(b::r).length+n0=r.length+(n0+1):=by rw [List.length_cons];omega
  rw [e1,e2,e3]
  have hrm:removeS ⟨(Jr.nm n0,(b,F 0))::filesB (n0+1) (fun i=>F (i+1)) r++[(Jr.nm (r.length+(n0+1)),v)],room,0,false⟩ (Jr.nm n0)=(⟨filesB (n0+1) (fun i=>F (i+1)) r++[(Jr.nm (r.length+(n0+1)),v)],room,0,false⟩,0):=by
   unfold removeS
   have hl:lookF ((Jr.nm n0,(b,F 0))::filesB (n0+1) (fun i=>F (i+1)) r++[(Jr.nm (r.length+(n0+1)),v)]) (Jr.nm n0)=some (b,F 0):=by simp [lookF]
   simp only [Bool.false_eq_true,if_false,hl]
   unfold actS
   simp only [Int.lt_irrefl,if_false]
   rw [List.cons_append,delF_first hne]
  unfold rmAll
  rw [hrm]
  simp only [ne_eq,not_true_eq_false,if_false]
  exact ih
theorem TB.check {room limit:Int} {st:List UInt8} {R:List Rec} {s:DS} {q:JS} {hi:Nat} {st':List UInt8} (h:TB room limit st R s q hi) (hl:st'.length≤200) (hR:hi < 50) (hb:((putL ((0,st)::R)).length+(putR (0,st')).length:Nat)≤room):
  (checkpointJ s (namesS s.D) q st').2.2=0∧TB room limit st' [] (checkpointJ s (namesS s.D) q st').1 (checkpointJ s (namesS s.D) q st').2.1 (hi+1):=by
 obtain ⟨n0,F,gs,g,rfl,rfl,hf,hne,h1n,hg⟩:=h
 have hpr:=putR_length (0,st')
 have htot:((gs++[g]).map putL).flatten.length=(putL ((0,st)::R)).length:=by rw [putL_flat,hf]
 have em:(gs++[g]).map putL=gs.map putL++[putL g]:=by rw [List.map_append];rfl
 have el:((gs++[g]).map putL).length=gs.length+1:=by rw [List.length_map,List.length_append];rfl
 generalize hbs:(gs++[g]).map putL=bs at *
 have hfr:=fresh_namesB n0 F bs (by omega)
 have hmf:mayS fresh=true:=by decide
 have hm1:mayS (Jr.nm (gs.length+n0+1))=true:=(nm_ok _ (by omega)).2.1
 have hnf:=filesB_fresh (n0:=n0) (F:=F) (bs:=bs) (by omega)
 have hlk:lookF (filesB n0 F bs) fresh=none:=by
  have:=lookF_app hnf []
  rw [List.append_nil] at this
  rw [this];rfl
 have h1:appendS ⟨filesB n0 F bs,room,0,false⟩ fresh (putR (0,st'))=(⟨filesB n0 F bs++[(fresh,(putR (0,st'),0))],room,0,false⟩,0):=by
  unfold appendS
  have hfo:fileOf (filesB n0 F bs) fresh=([],0):=by unfold fileOf;rw [hlk];rfl
  simp only [Bool.false_eq_true,if_false,hmf,hfo,usedB_files,List.length_nil]
  have hlen:(putR (0,st')).length=13+st'.length:=hpr
  rw [if_neg (by simp),if_neg (by omega),if_neg (by omega)]
  unfold actS
  simp only [Int.lt_irrefl,if_false]
  have:=putF_app hnf (putR (0,st'),0) []
  rw [List.append_nil] at this
  rw [List.nil_append,this]
  rfl
 have h2:syncS ⟨filesB n0 F bs++[(fresh,(putR (0,st'),0))],room,0,false⟩ fresh=(⟨filesB n0 F bs++[(fresh,(putR (0,st'),(putR (0,st')).length))],room,0,false⟩,0):=by
  unfold syncS
  have hl:lookF (filesB n0 F bs++[(fresh,(putR (0,st'),0))]) fresh=some (putR (0,st'),0):=by rw [lookF_app hnf];simp [lookF]
  simp only [Bool.false_eq_true,if_false,hl]
  unfold actS
  simp only [Int.lt_irrefl,if_false]
  rw [putF_app hnf]
  simp [putF]
 have hnn:∀ e∈filesB n0 F bs,e.1≠Jr.nm (gs.length+n0+1):=filesB_ne (by omega) (by omega)
 have h3:renameS ⟨filesB n0 F bs++[(fresh,(putR (0,st'),(putR (0,st')).length))],room,0,false⟩ fresh (Jr.nm (gs.length+n0+1))=(⟨filesB n0 F bs++[(Jr.nm (gs.length+n0+1),(putR (0,st'),(putR (0,st')).length))],room,0,false⟩,0):=by
  unfold renameS
  have hl:lookF (filesB n0 F bs++[(fresh,(putR (0,st'),(putR (0,st')).length))]) fresh=some (putR (0,st'),(putR (0,st')).length):=by rw [lookF_app hnf];simp [lookF]
  simp only [Bool.false_eq_true,if_false,hl,hmf,hm1,Bool.and_self]
  rw [if_neg (by simp)]
  unfold actS
  simp only [Int.lt_irrefl,if_false]
  rw [delF_app_last hnf]
  have:=putF_app hnn (putR (0,st'),(putR (0,st')).length) []
  rw [List.append_nil] at this
  rw [this]
  rfl
 have h4:=rmAll_files (room:=room) bs n0 F (putR (0,st'),(putR (0,st')).length) h1n (by omega)
 rw [show bs.length+n0=gs.length+n0+1 by omega,el] at h4
 unfold checkpointJ
 simp only [Bool.false_eq_true,if_false,row_lastB,Option.getD_some]
 rw [if_neg (by omega),if_neg (by omega),if_neg hfr]
 simp only [ne_eq,not_true_eq_false,if_false,h1,h2,h3,h4]
 refine ⟨trivial,gs.length+n0+1,fun _=>(putR (0,st')).length,[],[(0,st')],?_,?_,rfl,by simp,by omega,by simp;omega⟩
 ·simp [filesB,putL_one]
 ·simp [putL_one]
theorem TB.facts {room limit:Int} {st:List UInt8} {R:List Rec} {s:DS} {q:JS} {hi:Nat} (h:TB room limit st R s q hi):∃ n,q.row.getLast? =some n∧1≤n∧n≤hi∧q.row.length≤n∧q.l=R∧q.state=st∧q.size≤(putL ((0,st)::R)).length∧q.limit=limit∧q.broken=false∧∀ x∈q.row,1≤x∧x≤hi:=by
 obtain ⟨n0,F,gs,g,rfl,rfl,hf,hne,h1n,hg⟩:=h
 refine ⟨gs.length+n0,row_lastB _ _,by omega,hg,by simp;omega,rfl,rfl,?_,rfl,rfl,?_⟩
 ·rw [← hf,List.flatten_append,putL_append,List.length_append]
  simp
 ·intro x hx
  obtain ⟨i,hi,rfl⟩:=List.mem_map.1 hx
  have:=List.mem_range.1 hi
  show 1≤i+n0∧i+n0≤_
  omega
structure GB (st:List UInt8) (R:List Rec) (gs:List (List Rec)):Prop where
 flat:gs.flatten=(0,st)::R
 ne:∀ g∈gs,g≠[]
 kind:∀ r∈R,r.1≠0
 len:∀ r∈R,r.2.length≤65536
 lst:st.length≤65536
theorem GB.first {st:List UInt8} {R:List Rec} {gs:List (List Rec)} (h:GB st R gs):∃ g0 r,gs=((0,st)::g0)::r∧(∀ c∈g0,c.1≠0)∧∀ g∈r,∀ c∈g,c.1≠0:=by
 cases hg:gs with
 | nil=>have:=h.flat;rw [hg] at this;simp at this
 | cons g r=>
  have hf:=h.flat
  rw [hg,List.flatten_cons] at hf
  cases hg0:g with
  | nil=>exact absurd hg0 (h.ne g (by rw [hg];simp))
  | cons c g0=>
   rw [hg0,List.cons_append] at hf
   obtain ⟨rfl,hR⟩:=by simpa using hf
   refine ⟨g0,r,rfl,fun c hc=>h.kind c (by rw [← hR];simp [hc]),fun g hgm c hc=>h.kind c ?_⟩
   rw [← hR,List.mem_append]
   exact .inr (List.mem_flatten.2 ⟨g,hgm,hc⟩)
theorem GB.lens {st:List UInt8} {R:List Rec} {gs:List (List Rec)} (h:GB st R gs) {g:List Rec} (hg:g∈gs):∀ r∈g,r.2.length≤65536:=by
 intro r hr
 have:r∈gs.flatten:=List.mem_flatten.2 ⟨g,hg,hr⟩
 rw [h.flat] at this
 rcases List.mem_cons.1 this with rfl | h1
 ·exact h.lst
 ·exact h.len r h1
theorem scanB_group {st:List UInt8} {R:List Rec} {gs:List (List Rec)} (h:GB st R gs) {g:List Rec} (hg:g∈gs):scan (putL g)=(g,(putL g).length,0):=scan_put (h.lens hg) _ (by omega)
theorem openB_plain {st:List UInt8} {R:List Rec} {gs:List (List Rec)} {n0:Nat} {F:Nat→Nat} {room limit:Int} (h:GB st R gs) (h1n:1≤n0) (h64:gs.length+n0 < 60) (hl:1≤limit):
  ∃ F',openS ⟨filesB n0 F (gs.map putL),room,0,false⟩ (namesS (filesB n0 F (gs.map putL))) limit=(⟨filesB n0 F' (gs.map putL),room,0,false⟩,some (madeJ limit (gs.zipIdx.map fun x=>⟨x.2+n0,x.1,(putL x.1).length,0⟩)),0):=by
 have hlen:(gs.map putL).length+n0 < 64:=by rw [List.length_map];omega
 have hseg:segsOf (filesB n0 F (gs.map putL)) (namesS (filesB n0 F (gs.map putL)))=gs.zipIdx.map fun x=>(⟨x.2+n0,x.1,(putL x.1).length,0⟩:Seg):=by
  rw [segs_filesB n0 F _ h1n hlen,List.zipIdx_map,List.map_map]
  apply List.map_congr_left
  rintro ⟨g,i⟩ hm
  have hg:=List.mem_of_getElem? (List.mem_zipIdx_iff_getElem?.1 hm)
  show segOf (i+n0) (putL g)=_
  unfold segOf
  rw [scanB_group h hg]
 obtain ⟨g0,r,hgs,hk0,hkr⟩:=h.first
 have hrow:rowS (gs.zipIdx.map fun x=>(⟨x.2+n0,x.1,(putL x.1).length,0⟩:Seg))=some (gs.zipIdx.map fun x=>⟨x.2+n0,x.1,(putL x.1).length,0⟩,0):=by
  have hlast:lastB (gs.zipIdx.map fun x=>(⟨x.2+n0,x.1,(putL x.1).length,0⟩:Seg))=some 0:=by
   rw [hgs,List.zipIdx_cons,List.map_cons]
   rw [lastB_first]
   ·rfl
   ·intro y hy
    obtain ⟨⟨g,i⟩,hm,rfl⟩:=List.mem_map.1 hy
    have hg:g∈r:=by
     have:=List.mem_zipIdx hm
     exact this.2.2▸List.getElem_mem _
    show begins ⟨i+n0,g,(putL g).length,0⟩=false
    exact begins_of (hkr g hg)
  unfold rowS
  rw [hlast]
  simp only [List.drop_zero]
  rw [if_pos]
  refine (all_zip _ _).2 fun i x hx=>?_
  rw [List.getElem?_map,List.getElem?_zipIdx] at hx
  cases hq:gs[i]? with
  | none=>rw [hq] at hx;cases hx
  | some g=>
   rw [hq] at hx
   obtain rfl:(⟨0+i+n0,g,(putL g).length,0⟩:Seg)=x:=by simpa using hx
   have hhead:((gs.zipIdx.map fun x=>(⟨x.2+n0,x.1,(putL x.1).length,0⟩:Seg)).head?.map (·.n)).getD 0=n0:=by
    rw [hgs,List.zipIdx_cons];simp
   rw [hhead,okSeg_eq]
   simp only [decide_true,Bool.or_true,Bool.true_and]
   rw [decide_eq_true (by omega),decide_eq_true (by omega)]
   simp only [Bool.true_and]
   refine (all_zip _ _).2 fun k c hc=>?_
   unfold okC
   by_cases hz:i+k=0
   ·simp [hz]
   ·have hc0:c.1≠0:=by
     rw [hgs] at hq
     cases i with
     | zero=>
      obtain rfl:(0,st)::g0=g:=by simpa using hq
      cases k with
      | zero=>exact absurd rfl hz
      | succ k=>exact hk0 c (List.mem_of_getElem? (by simpa using hc))
     | succ i=>exact hkr g (List.mem_of_getElem? (by simpa using hq)) c (List.mem_of_getElem? hc)
    simp [hc0]
 obtain ⟨gi,gl,hgl⟩:∃ gi gl,gs=gi++[gl]:=⟨gs.dropLast,gs.getLast (by rw [hgs];simp),(List.dropLast_concat_getLast _).symm⟩
 have hfresh:=fresh_namesB n0 F (gs.map putL) hlen
 have hacts:actsOf (namesS (filesB n0 F (gs.map putL))) (gs.zipIdx.map fun x=>(⟨x.2+n0,x.1,(putL x.1).length,0⟩:Seg)) (gs.zipIdx.map fun x=>(⟨x.2+n0,x.1,(putL x.1).length,0⟩:Seg)) 0=[.sy (gi.length+n0)]:=by
  have hne:(gs.zipIdx.map fun x=>(⟨x.2+n0,x.1,(putL x.1).length,0⟩:Seg))≠[]:=by rw [hgs,List.zipIdx_cons];simp
  have hlast:(gs.zipIdx.map fun x=>(⟨x.2+n0,x.1,(putL x.1).length,0⟩:Seg)).getLast? =some ⟨gi.length+n0,gl,(putL gl).length,0⟩:=by
   rw [hgl,List.zipIdx_append,List.map_append]
   simp
  unfold actsOf
  rw [if_neg hfresh,if_neg hne,hlast]
  simp
 have hsync:=syncB_last (n0:=n0) (F:=F) (bs:=gi.map putL) (c:=putL gl) (room:=room) (by rw [List.length_map];rw [hgl,List.length_append] at h64;simp at h64;omega)
 have em:gs.map putL=gi.map putL++[putL gl]:=by rw [hgl,List.map_append];rfl
 rw [List.length_map] at hsync
 refine ⟨fun i=>if i=gi.length then (putL gl).length else F i,?_⟩
 unfold openS
 rw [if_neg (by omega)]
 simp only [Bool.false_eq_true,if_false,hseg,hrow,hacts]
 simp only [runAcs,Ac.run,em,hsync,if_true]
theorem allR_segs (gs:List (List Rec)) (n0:Nat):allR (gs.zipIdx.map fun x=>(⟨x.2+n0,x.1,(putL x.1).length,0⟩:Seg))=gs.flatten:=by
 unfold allR
 rw [List.flatMap_map]
 show gs.zipIdx.flatMap (fun x=>x.1)=_
 rw [List.flatMap_def,List.zipIdx_eq_zip_range',List.map_fst_zip (by simp)]
theorem TB.open {room limit:Int} {st:List UInt8} {R:List Rec} {s:DS} {q:JS} {hi:Nat} {limit':Int} (h:TB room limit st R s q hi) (hk:∀ r∈R,r.1≠0) (hl:∀ r∈R,r.2.length≤65536) (hst:st.length≤65536) (hhi:hi < 50) (hlim:1≤limit'):
  ∃ s' q',openS s (namesS s.D) limit'=(s',some q',0)∧q'.state=st∧q'.l=R:=by
 obtain ⟨n0,F,gs,g,rfl,rfl,hf,hne,h1n,hg⟩:=h
 obtain ⟨F',ho⟩:=openB_plain (n0:=n0) (F:=F) (room:=room) (limit:=limit') (⟨hf,hne,hk,hl,hst⟩:GB st R (gs++[g])) h1n (by rw [List.length_append];simp;omega) hlim
 refine ⟨_,_,ho,?_,?_⟩
 ·unfold madeJ
  rw [allR_segs,hf]
  rfl
 ·unfold madeJ
  rw [allR_segs,hf]
  rfl
theorem TB.files {room limit:Int} {st:List UInt8} {R:List Rec} {s:DS} {q:JS} {hi:Nat} (h:TB room limit st R s q hi) (hhi:hi < 50):
  (∀ f∈namesS s.D,∃ n,1≤n∧n≤hi∧f=Jr.nm n)∧(∀ x∈segsOf s.D (namesS s.D),1≤x.n∧x.n≤hi)∧s.D.length≤hi∧∀ f∈s.D,f.2.1.length≤(putL ((0,st)::R)).length:=by
 obtain ⟨n0,F,gs,g,rfl,rfl,hf,hne,h1n,hg⟩:=h
 have el:((gs++[g]).map putL).length=gs.length+1:=by rw [List.length_map,List.length_append];rfl
 refine ⟨fun f hf=>?_,fun x hx=>?_,?_,fun f hf=>?_⟩
 ·obtain ⟨i,hi⟩:=List.mem_iff_getElem?.1 hf
  obtain ⟨h1,rfl⟩:=names_getB n0 F _ (by omega) hi
  exact ⟨i+n0,by omega,by omega,rfl⟩
 ·rw [show (⟨filesB n0 F ((gs++[g]).map putL),room,0,false⟩:DS).D=filesB n0 F ((gs++[g]).map putL) from rfl,segs_filesB n0 F _ h1n (by omega)] at hx
  obtain ⟨⟨b,i⟩,hm,rfl⟩:=List.mem_map.1 hx
  have:=(List.getElem?_eq_some_iff.1 (List.mem_zipIdx_iff_getElem?.1 hm)).1
  show 1≤i+n0∧i+n0≤hi
  omega
 ·show (filesB n0 F _).length≤hi
  rw [filesB_len]
  omega
 ·obtain ⟨i,b,hb,rfl⟩:=filesB_mem hf
  rw [List.getElem?_map] at hb
  rename_i hflat
  cases hq:(gs++[g])[i]? with
  | none=>rw [hq] at hb;cases hb
  | some x=>
   rw [hq] at hb
   obtain rfl:putL x=b:=by simpa using hb
   have hx:=List.mem_of_getElem? hq
   obtain ⟨a,c,hac⟩:=List.append_of_mem hx
   show (putL x).length≤_
   rw [← hflat,hac,List.flatten_append,List.flatten_cons,putL_append,putL_append,List.length_append,List.length_append]
   omega
theorem checkpointJ_ok {k:Nat} {s:DS} {q:JS} {names:List (List UInt8)} {st:List UInt8} (h:OkS k s):OkS (k+5+q.row.length) (checkpointJ s names q st).1:=by
 have hrm:∀ (l:List Nat) (k:Nat) (s:DS),OkS k s→OkS (k+l.length) (rmAll s l).1:=by
  intro l
  induction l with
  | nil=>intro k s h;exact h
  | cons a r ih=>
   intro k s h
   unfold rmAll
   split
   ·exact (removeS_ok h _).more (by simp)
   ·exact (ih (k+1) _ (removeS_ok h _)).more (by simp;omega)
 have h0:OkS (k+1) (if fresh∈names then removeS s fresh else (s,0)).1:=by
  split
  ·exact removeS_ok h _
  ·exact h.more (by omega)
 unfold checkpointJ
 split
 ·exact h.more (by omega)
 ·split
  ·exact h.more (by omega)
  ·simp only
   split
   ·exact h.more (by omega)
   ·generalize (if fresh∈names then removeS s fresh else (s,0))=x0 at h0 ⊢
    have h1:=appendS_ok h0 fresh (putR (0,st))
    generalize appendS x0.1 fresh (putR (0,st))=x1 at h1 ⊢
    have h2:=syncS_ok h1 fresh
    generalize syncS x1.1 fresh=x2 at h2 ⊢
    have h3:=renameS_ok h2 fresh (Jr.nm (q.row.getLast?.getD 0+1))
    generalize renameS x2.1 fresh (Jr.nm (q.row.getLast?.getD 0+1))=x3 at h3 ⊢
    have h4:=hrm q.row _ _ h3
    generalize rmAll x3.1 q.row=x4 at h4 ⊢
    split
    ·exact h0.more (by omega)
    ·split
     ·exact h1.more (by omega)
     ·split
      ·exact h2.more (by omega)
      ·split
       ·exact h3.more (by omega)
       ·split
        ·exact h4.more (by omega)
        ·exact h4.more (by omega)
theorem syncJ_ok {k:Nat} {s:DS} {q:JS} (h:OkS k s):OkS (k+1) (syncJ s q).1:=by
 unfold syncJ
 split
 ·exact h.more (by omega)
 ·exact syncS_ok h _
end Go.Proofs.YtbchfeibhoobeaaGreatDoor
namespace Go.Proofs.YtbchfeibhoobeaaGreatDoor
open Go.Abs Go.Jr Go.Crc
noncomputable def againTail (W0:World) (m0:Inj Tryz.prog) (Q:Value→AW→Prop) (d:Nat→Value) (A:AW):Prop:=
 Wc Tryz.prog theX W0 m0 17 [(d 6)] A fun t26 At26=>Wc Tryz.prog theX W0 m0 18 [(d 6)] At26 fun t27 At27=>Wc Tryz.prog theX W0 m0 19 [(d 5)] At27 fun t28 At28=>Wc Tryz.prog theX W0 m0 8 [t28,(.int .i64 1)] At28 fun t29 At29=>pureW (extractP t29 0) fun t30=>pureW (extractP t29 1) fun t31=>bothW (convertA Tryz.prog At29 5 3 (d 0)) fun t32 At32=>pureW (binA Tryz.prog .add 3 (.const (.int .i64 14)) (.tmp 79) (.int .i64 14) t32) fun t33=>Wc Tryz.prog theX W0 m0 8 [(d 5),t33] At32 fun t34 At34=>pureW (extractP t34 0) fun t35=>pureW (extractP t34 1) fun t36=>pureW (binA Tryz.prog .neq 30 (.tmp 84) (.const (.int .i64 0)) t31 (.int .i64 0)) fun t37=>forkW t37 (Q (.bool false) At34) (pureW (binA Tryz.prog .neq 30 (.tmp 87) (.const (.int .i64 0)) t36 (.int .i64 0)) fun t38=>forkW t38 (Q (.bool false) At34) (pureW (binA Tryz.prog .eql 29 (.tmp 91) (.const (.pointer none)) t30 (.pointer none)) fun t39=>forkW t39 (Q (.bool false) At34) (pureW (binA Tryz.prog .eql 29 (.tmp 95) (.const (.pointer none)) t35 (.pointer none)) fun t40=>forkW t40 (Q (.bool false) At34) (Wc Tryz.prog theX W0 m0 17 [t30] At34 fun t41 At41=>pureW (binA Tryz.prog .eql 9 (.tmp 99) (.tmp 100) t41 t26) fun t42=>forkW t42 (Wc Tryz.prog theX W0 m0 17 [t35] At41 fun t43 At43=>pureW (binA Tryz.prog .eql 9 (.tmp 104) (.tmp 105) t43 t26) fun t44=>forkW t44 (Wc Tryz.prog theX W0 m0 18 [t30] At43 fun t45 At45=>Wc Tryz.prog theX W0 m0 20 [t45,t27] At45 fun t46 At46=>forkW t46 (Wc Tryz.prog theX W0 m0 18 [t35] At46 fun t47 At47=>Wc Tryz.prog theX W0 m0 20 [t47,t27] At47 fun t48 At48=>forkW t48 (knW Tryz.prog W0 m0 9 [] At48 fun t49 At49=>Q t49 At49) (Q (.bool false) At48)) (Q (.bool false) At46)) (Q (.bool false) At43)) (Q (.bool false) At41)))))
theorem l4_0f (W0:World) (m0:Inj Tryz.prog) (S:Nat→List Value→AW→Prop) (Q:Value→AW→Prop) (d:Nat→Value) (A:AW):wpgo Tryz.prog theX W0 m0 4 T4 L4 S Q none 4000 (tmOf 123 d) (T4 0) false 0 0 0 [] A=(pureW (lenA Tryz.prog A 45 (d 1)) fun t0=>pureW (binA Tryz.prog .lss 3 (.tmp 31) (.tmp 33) (d 8) t0) fun t1=>forkW t1 (pureW (binA Tryz.prog .lss 3 (.tmp 36) (.const (.int .i64 30)) (d 8) (.int .i64 30)) fun t2=>forkW t2 (pureW (indexAddrA Tryz.prog 45 (d 1) (d 8)) fun t3=>pureW (loadP Tryz.prog A 48 t3) fun t4=>bothW (allocP Tryz.prog A 48) fun t5 At5=>effW (storeP Tryz.prog At5 48 t5 t4) fun At6=>pureW (loadP Tryz.prog At6 48 t5) fun t7=>Wc Tryz.prog theX W0 m0 14 [t7] At6 fun t8 At8=>forkW t8 (knW Tryz.prog W0 m0 9 [] At8 fun t9 At9=>Q t9 At9) (pureW (fieldAddrA Tryz.prog 48 t5 0) fun t10=>pureW (loadP Tryz.prog At8 5 t10) fun t11=>pureW (binA Tryz.prog .rem 5 (.tmp 49) (.const (.int .u8 7)) t11 (.int .u8 7)) fun t12=>pureW (binA Tryz.prog .eql 5 (.tmp 50) (.const (.int .u8 2)) t12 (.int .u8 2)) fun t13=>forkW t13 (Wc Tryz.prog theX W0 m0 15 [(d 6)] At8 fun t14 At14=>pureW (binA Tryz.prog .add 3 (.tmp 39) (.const (.int .i64 1)) (d 8) (.int .i64 1)) fun t15=>cutW (T4 0) (T4 0) (S 0 [(d 0),(d 1),(d 5),(d 6),t15] At14)) (pureW (binA Tryz.prog .eql 5 (.tmp 50) (.const (.int .u8 3)) t12 (.int .u8 3)) fun t16=>forkW t16 (pureW (fieldAddrA Tryz.prog 48 t5 1) fun t17=>pureW (fieldAddrA Tryz.prog 35 t17 1) fun t18=>pureW (loadP Tryz.prog At8 9 t18) fun t19=>Wc Tryz.prog theX W0 m0 16 [(d 6),t19] At8 fun t20 At20=>pureW (binA Tryz.prog .add 3 (.tmp 39) (.const (.int .i64 1)) (d 8) (.int .i64 1)) fun t21=>cutW (T4 0) (T4 0) (S 0 [(d 0),(d 1),(d 5),(d 6),t21] At20)) (pureW (fieldAddrA Tryz.prog 48 t5 1) fun t22=>pureW (loadP Tryz.prog At8 35 t22) fun t23=>Wc Tryz.prog theX W0 m0 10 [(d 6),t23] At8 fun t24 At24=>pureW (binA Tryz.prog .add 3 (.tmp 39) (.const (.int .i64 1)) (d 8) (.int .i64 1)) fun t25=>cutW (T4 0) (T4 0) (S 0 [(d 0),(d 1),(d 5),(d 6),t25] At24))))) (againTail W0 m0 Q d A)) (againTail W0 m0 Q d A)):=l4_0 W0 m0 S Q d A
theorem bin_remI {P:Program} {t:TypeId} {xo yo:Operand} {k:IntKind} {a b:Int} (hb:b≠0):binA P .rem t xo yo (.int k a) (.int k b)=some (.int k (a.tmod b)):=by simp [binA,binOp,Op.intDiv,hb,quiet,closedO,closedV,pure]
theorem rem7 {t:TypeId} {xo yo:Operand} (a:UInt8):binA Tryz.prog .rem t xo yo (.int .u8 (a.toNat:Int)) (.int .u8 7)=some (.int .u8 ((a.toNat % 7:Nat):Int)):=bin_remI (by decide)
theorem toR_inj {a b:List RV} (h:a.map toR=b.map toR):a=b:=by
 induction a generalizing b with
 | nil=>cases b with | nil=>rfl | cons y r=>simp at h
 | cons x l ih=>
  cases b with
  | nil=>simp at h
  | cons y r=>
   rw [List.map_cons,List.map_cons] at h
   obtain ⟨h1,h2⟩:=List.cons.inj h
   obtain ⟨a1,a2⟩:=x
   obtain ⟨b1,b2⟩:=y
   have h1:(a1,a2.data.toList)=(b1,b2.data.toList):=h1
   obtain ⟨h3,h4⟩:=Prod.mk.inj h1
   rw [ih h2,h3,ba_eqJ h4]
def AL (A:AW) (x:Value) (n lim:Nat) (g id:Nat) (vals:List Value) (A':AW):Prop:=
 id=0∧∃ (i d mp j:Nat) (q:JS) (s:DS) (st:List UInt8) (R:List Rec) (Fl Fr:List Nat),
  vals=[.int .u8 (lim:Int),x,ptr d,ptr j,.int .i64 (i:Int)]∧i≤30∧i≤n∧g=31 - i∧
  (A.next≤d∧A.next≤mp∧A.next≤j∧(∀ y∈Fl,A.next≤y)∧∀ y∈Fr,A.next≤y)∧
  JD A' j d mp q s Fl Fr∧TB 20000 (14+(lim:Int)) st R s q (i+1)∧OkS (i+1) s∧
  (∀ r∈R,r.1≠0∧r.2.length≤200)∧st.length≤200∧(putL ((0,st)::R)).length≤(i+1) * 213∧
  R.length≤i∧Keeps A A' []∧Fine A'∧A'.next≤A.next+3300000+20000 * i
theorem okS_few {k h n:Nat} {s:DS} (ok:OkS k s) (hf:s.D.length≤h) (hn:h≤n):OkS n s:=⟨Nat.le_trans hf hn,ok.len,ok.safe,ok.r0,ok.r1,ok.f1⟩
theorem TB.more {room limit:Int} {st:List UInt8} {R:List Rec} {s:DS} {q:JS} {hi n:Nat} (h:TB room limit st R s q hi) (hn:hi≤n):TB room limit st R s q n:=by
 obtain ⟨a,b,c,e,z1,z2,z3,z4,z5,z6⟩:=h
 exact ⟨a,b,c,e,z1,z2,z3,z4,z5,Nat.le_trans z6 hn⟩
theorem AL_next {A A' A4:AW} {x:Value} {n lim i d mp j k hi:Nat} {q':JS} {s':DS} {st':List UInt8} {R':List Rec} {Fl Fr Fl4 Fr4:List Nat} (hi1:i < n) (hi2:i < 30) (hlo:A.next≤d∧A.next≤mp∧A.next≤j∧(∀ y∈Fl,A.next≤y)∧∀ y∈Fr,A.next≤y) (hA':A.next≤A'.next)
  (hFl:∀ y∈Fl4,y∈Fl∨A'.next≤y) (hFr:∀ y∈Fr4,y∈Fr∨A'.next≤y) (hjd:JD A4 j d mp q' s' Fl4 Fr4) (htb:TB 20000 (14+(lim:Int)) st' R' s' q' hi) (hhi:hi≤i+2) (hok:OkS k s')
  (hR:∀ r∈R',r.1≠0∧r.2.length≤200) (hst:st'.length≤200) (hp:(putL ((0,st')::R')).length≤(i+1) * 213+213) (hRl:R'.length≤i+1) (hk:Keeps A A4 []) (hf:Fine A4) (hnx:A4.next≤A.next+3300000+20000 * i+20000):
  ∃ g2,g2 < 31 - i∧AL A x n lim g2 0 [.int .u8 (lim:Int),x,ptr d,ptr j,.int .i64 ((i:Int)+1)] A4:=by
 have e213:(i+1+1) * 213=(i+1) * 213+213:=Nat.succ_mul _ _
 refine ⟨31 - (i+1),by omega,rfl,i+1,d,mp,j,q',s',st',R',Fl4,Fr4,rfl,by omega,by omega,rfl,⟨hlo.1,hlo.2.1,hlo.2.2.1,fun y hy=>(hFl y hy).elim (hlo.2.2.2.1 y) fun h=>Nat.le_trans hA' h,fun y hy=>(hFr y hy).elim (hlo.2.2.2.2 y) fun h=>Nat.le_trans hA' h⟩,hjd,htb.more hhi,okS_few hok (htb.files (by omega)).2.2.1 hhi,hR,hst,?_,hRl,hk,hf,by omega⟩
 rw [e213]
 exact hp
section
variable {W0:World} {m0:Inj Tryz.prog}
theorem again_tail {A A':AW} {lim i d mp j:Nat} {q:JS} {s:DS} {st:List UInt8} {R:List Rec} {Fl Fr:List Nat} {dd:Nat→Value} (hhd:KC.Holds Tryz.prog W0 m0 ⟨9,[],[.bool true]⟩) (hN:NumsK W0 m0 32) (hg0:Glb A) (hA:A.next < 400000000000) (hlim:lim < 256) (h0:dd 0=.int .u8 (lim:Int)) (h5:dd 5=ptr d) (h6:dd 6=ptr j) (hi:i≤30)
  (hlo:A.next≤d∧A.next≤mp∧A.next≤j∧(∀ y∈Fl,A.next≤y)∧∀ y∈Fr,A.next≤y) (hjd:JD A' j d mp q s Fl Fr) (htb:TB 20000 (14+(lim:Int)) st R s q (i+1)) (hok:OkS (i+1) s)
  (hR:∀ r∈R,r.1≠0∧r.2.length≤200) (hst:st.length≤200) (hpl:(putL ((0,st)::R)).length≤(i+1) * 213) (hRl:R.length≤i) (hkp:Keeps A A' []) (hf:Fine A') (hnx:A'.next≤A.next+3300000+20000 * i):
  againTail W0 m0 (fun v _=>v=.bool true) dd A':=by
 have hmax:maxId=1099511627776:=rfl
 have hglt:=hg0.lt
 obtain ⟨n,hn1,hn2,hn3,hn4,hn5,hn6,hn7,hn8,hn9,hn10⟩:=htb.facts
 obtain ⟨hf1,hf2,hf3,hf4⟩:=htb.files (by omega)
 have hjA:=hjd.jn.lt
 have hdA:=hjd.dk.lt
 have hFlA:∀ y∈Fl,y < A'.next:=by obtain ⟨_,_,_,_,a,_,_⟩:=hjd.jn;exact a.lt
 have hFrA:∀ y∈Fr,y < A'.next:=by obtain ⟨_,_,_,_,_,_,a⟩:=hjd.jn;exact a.lt
 unfold againTail
 rw [h0,h5,h6]
 refine wc17 hjd.jn ?_
 refine wc18 hjd.jn hf (by omega) (by rw [hn5];omega) fun A1 v1 R1 F1 e1 o1 hF1 g1=>?_
 have n1:=g1.next
 have l1:=g1.le
 have hjd1:=hjd.keeps g1.keeps (by simp) (by simp) (by simp) (by simp) (by simp)
 have hF1l:=o1.lt
 refine wc19 hjd1.dk g1.fine (by omega) fun A2 d2 k2 n2 f2=>?_
 have hjd2:=hjd1.keeps k2 (by simp) (by simp) (by simp) (by simp) (by simp)
 have o2:=o1.keeps k2 (by simp)
 have K2:Keeps A A2 []:=(hkp.trans g1.keeps (by simp)).trans k2 (by simp)
 have hL:∀ f∈s.D,f.2.1.length≤6603:=fun f hf=>by
  have:=hf4 f hf
  have:(i+1) * 213≤31 * 213:=Nat.mul_le_mul_right _ (by omega)
  omega
 have hkL:(i+1) * 6603 < 900000:=Nat.lt_of_le_of_lt (Nat.mul_le_mul_right 6603 (show i+1≤31 by omega)) (by decide)
 have hnums:∀ f∈namesS s.D,NumK W0 m0 f:=fun f hf=>by
  obtain ⟨m,hm1,hm2,rfl⟩:=hf1 f hf
  exact (hN m hm1 (by omega)).1
 have hnms:∀ m,m=1∨(∃ x∈segsOf s.D (namesS s.D),x.n=m)→NameK W0 m0 m:=fun m hm=>by
  rcases hm with rfl | ⟨x,hx,rfl⟩
  ·exact (hN 1 (by omega) (by omega)).2
  ·have:=hf2 x hx
   exact (hN x.n this.1 (by omega)).2
 obtain ⟨s3',q3',ho3',hs3',hl3'⟩:=htb.open (limit':=1) (fun r hr=>(hR r hr).1) (fun r hr=>by have:=(hR r hr).2;omega) (by omega) (by omega) (by decide)
 obtain ⟨s4',q4',ho4',hs4',hl4'⟩:=htb.open (limit':=14+(lim:Int)) (fun r hr=>(hR r hr).1) (fun r hr=>by have:=(hR r hr).2;omega) (by omega) (by omega) (by omega)
 refine wc8 (k:=i+1) (L:=6603) d2 (hg0.keeps K2 (by simp)) hok (by omega) hL (by omega) hkL f2 (by omega) ⟨by omega,by omega⟩ hnums hnms (fun e A3 s3 ho _ _ _ _=>by have:=ho.symm.trans ho3';simp at this) fun A3 s3 q3 j3 Fl3 Fr3 ho3 hjd3 hj3 hFl3 hFr3 k3 n3 f3=>?_
 obtain ⟨rfl,rfl⟩:s3=s3'∧q3=q3':=by
  have:=ho3.symm.trans ho3'
  simp only [Prod.mk.injEq,Option.some.injEq] at this
  exact ⟨this.1,this.2.1⟩
 have le3:=k3.next
 have hS3:∀ y∈[A1.next+1,A1.next],A1.next≤y:=fun y hy=>by simp only [List.mem_cons,List.not_mem_nil,or_false] at hy;omega
 have hjd3':=hjd2.keeps k3 (fun hm=>by have:=hS3 _ hm;omega) (fun hm=>by have:=hS3 _ hm;omega) (fun hm=>by have:=hS3 _ hm;omega) (fun y hy hm=>by have:=hS3 _ hm;have:=hFlA y hy;omega) (fun y hy hm=>by have:=hS3 _ hm;have:=hFrA y hy;omega)
 have o3:=o2.keeps k3 (fun y hy hm=>by have:=hS3 _ hm;have:=hF1l y hy;omega)
 have K3:Keeps A A3 []:=K2.trans k3 fun y hy=>.inr (by have:=hS3 y hy;omega)
 have hj3l:=hjd3.jn.lt
 have hFl3l:∀ y∈Fl3,y < A3.next:=by obtain ⟨_,_,_,_,a,_,_⟩:=hjd3.jn;exact a.lt
 have hFr3l:∀ y∈Fr3,y < A3.next:=by obtain ⟨_,_,_,_,_,_,a⟩:=hjd3.jn;exact a.lt
 simp only [exL_two0,exL_two1,pureW_some,cv_5_3,bothW_ok,bin_add]
 rw [wrap_i64 (n:=(lim:Int)) (by omega) (by omega),wrap_i64 (n:=14+(lim:Int)) (by omega) (by omega)]
 refine wc8 (k:=i+1) (L:=6603) hjd3'.dk (hg0.keeps K3 (by simp)) hok (by omega) hL (by omega) hkL f3 (by omega) ⟨by omega,by omega⟩ hnums hnms (fun e A4 s4 ho _ _ _ _=>by have:=ho.symm.trans ho4';simp at this) fun A4 s4 q4 j4 Fl4 Fr4 ho4 hjd4 hj4 hFl4 hFr4 k4 n4 f4=>?_
 obtain ⟨rfl,rfl⟩:s4=s4'∧q4=q4':=by
  have:=ho4.symm.trans ho4'
  simp only [Prod.mk.injEq,Option.some.injEq] at this
  exact ⟨this.1,this.2.1⟩
 have le4:=k4.next
 have hS4:∀ y∈[d,mp],y < A'.next:=fun y hy=>by simp only [List.mem_cons,List.not_mem_nil,or_false] at hy;omega
 have hjd3a:=hjd3.jn.keeps k4 (fun hm=>by have:=hS4 _ hm;omega) (fun y hy hm=>by have:=hS4 _ hm;have:=hFl3 y hy;omega) (fun y hy hm=>by have:=hS4 _ hm;have:=hFr3 y hy;omega)
 have o4:=o3.keeps k4 (fun y hy hm=>by have:=hS4 _ hm;have:=hF1 y hy;omega)
 simp only [exL_two0,exL_two1,pureW_some,bin_neq,ptr,pe29]
 refine forkW_bne.2 ⟨fun h=>by simp at h,fun _=>forkW_bne.2 ⟨fun h=>by simp at h,fun _=>forkW_bool.2 ⟨fun h=>by simp at h,fun _=>forkW_bool.2 ⟨fun h=>by simp at h,fun _=>?_⟩⟩⟩⟩
 have hpt:∀ b:Nat,(.pointer (some ⟨b,0,none⟩):Value)=ptr b:=fun _=>rfl
 rw [hpt,hpt]
 refine wc17 hjd3a ?_
 simp only [streq9,pureW_some]
 refine forkW_bool.2 ⟨fun _=>?_,fun h=>by rw [hs3',hn6] at h;simp at h⟩
 refine wc17 hjd4.jn ?_
 simp only [streq9,pureW_some]
 refine forkW_bool.2 ⟨fun _=>?_,fun h=>by rw [hs4',hn6] at h;simp at h⟩
 refine wc18 hjd3a f4 (by omega) (by rw [hl3'];omega) fun A5 v5 R5 F5 e5 o5 hF5 g5=>?_
 have n5:=g5.next
 have l5:=g5.le
 have hR5:R5=R1:=toR_inj (by rw [← e5,← e1,hl3',hn5])
 have o1a:=o4.keeps g5.keeps (by simp)
 have hR1l:R1.length≤30:=by
  have:=congrArg List.length e1
  rw [List.length_map,hn5] at this
  omega
 refine wc20 (o5.rd etR.len) (o1a.rd etR.len) (by rw [hR5];omega) fun r hr=>?_
 rw [hr.2 hR5]
 refine forkW_bool.2 ⟨fun _=>?_,fun h=>by simp at h⟩
 refine wc18 (hjd4.jn.keeps g5.keeps (by simp) (by simp) (by simp)) g5.fine (by omega) (by rw [hl4'];omega) fun A6 v6 R6 F6 e6 o6 hF6 g6=>?_
 have hR6:R6=R1:=toR_inj (by rw [← e6,← e1,hl4',hn5])
 have o1b:=o1a.keeps g6.keeps (by simp)
 refine wc20 (o6.rd etR.len) (o1b.rd etR.len) (by rw [hR6];omega) fun r hr=>?_
 rw [hr.2 hR6]
 exact forkW_bool.2 ⟨fun _=>knOne (by decide) hhd rfl rfl,fun h=>by simp at h⟩
theorem again0 {A A':AW} {x:Value} {l:List AV} {F:List Nat} {n lim g id:Nat} {vals:List Value} {dd:Nat→Value} (hhd:KC.Holds Tryz.prog W0 m0 ⟨9,[],[.bool true]⟩) (hN:NumsK W0 m0 32) (hg0:Glb A) (hA:A.next < 400000000000) (hlim:lim < 256) (hx:RdA A x n l F) (hln:l.length=min n 40) (h:AL A x n lim g id vals A') (hd':(L4 id).map dd=vals):
  wpgo Tryz.prog theX W0 m0 4 T4 L4 (fun id v A''=>∃ g2,g2 < g∧AL A x n lim g2 id v A'') (fun v _=>v=.bool true) none 4000 (tmOf 123 dd) (T4 id) false 0 0 0 [] A':=by
 have hmax:maxId=1099511627776:=rfl
 obtain ⟨rfl,i,d,mp,j,q,s,st,R,Fl,Fr,rfl,hi,hin,rfl,hlo,hjd,htb,hok,hR,hst,hpl,hRl,hkp,hf,hnx⟩:=h
 have hxr:=hx.keeps hkp (by simp)
 have hglt:=hg0.lt
 have hjA:=hjd.jn.lt
 have hdA:=hjd.dk.lt
 have hFlA:∀ y∈Fl,y < A'.next:=by obtain ⟨_,_,_,_,a,_,_⟩:=hjd.jn;exact a.lt
 have hFrA:∀ y∈Fr,y < A'.next:=by obtain ⟨_,_,_,_,_,_,a⟩:=hjd.jn;exact a.lt
 rw [l4_0f]
 simp only [L4,List.map_cons,List.map_nil,List.cons.injEq,and_true] at hd'
 obtain ⟨h0,h1,h5,h6,h8⟩:=hd'
 have tail:againTail W0 m0 (fun v _=>v=.bool true) dd A':=again_tail hhd hN hg0 hA hlim h0 h5 h6 hi hlo hjd htb hok hR hst hpl hRl hkp hf hnx
 simp only [h0,h1,h5,h6,h8,hxr.len,bin_lss,pureW_some,forkW_dec]
 refine ⟨fun hlt=>⟨fun hlt2=>?_,fun _=>tail⟩,fun _=>tail⟩
 have hlt:i < n:=by omega
 have hlt2:i < 30:=by omega
 obtain ⟨p,hp⟩:∃ p,l[i]? =some p:=⟨_,List.getElem?_eq_getElem (by omega)⟩
 obtain ⟨r,o,a1,a2,a3⟩:=hxr.at hp
 simp only [a1,pureW_some,a3]
 refine allocP_made zA hf (by omega) rfl fun A1 m1=>?_
 have n1:=m1.next
 refine m1.row1.store m1.fine (by omega) (st_48 _ _ _) rfl (by show 0+6≤6;omega) rfl fun A2 r2 k2 n2 f2=>?_
 have r2:Go.Abs.Row1 A2 A'.next [.int .u8 p.what.toNat,.int .u8 p.r.1.toNat,.string p.r.2,.int .i64 p.n,.slice p.o p.len p.cap,.string p.file] 48:=r2
 have g2:Grow A' A2 1:=(Grow.made m1 hf).own k2 (by simp) (m:=0) (by omega) f2
 have hc6:A2.cells? ⟨A'.next,0,none⟩ 6=some (fA p):=by rw [cells_row r2.row];rfl
 simp only [ld_48,hc6,pureW_some]
 refine wc14 f2 (by omega) fun A3 g3=>?_
 have g3':=g2.trans g3
 have n3:=g3'.next
 have le3:=g3'.le
 have r3:=r2.keeps g3.keeps (by simp)
 refine forkW_bool.2 ⟨fun _=>knOne (by decide) hhd rfl rfl,fun hb=>?_⟩
 have hsm:p.r.2.data.toList.length≤200:=by
  unfold big at hb
  simp only [Bool.or_eq_false_iff,decide_eq_false_iff_not] at hb
  omega
 have hjd3:=hjd.keeps g3'.keeps (by simp) (by simp) (by simp) (by simp) (by simp)
 have K3:Keeps A A3 []:=hkp.trans g3'.keeps (by simp)
 have hg3:Glb A3:=hg0.keeps K3 (by simp)
 obtain ⟨n',hn1,hn2,hn3,hn4,hn5,hn6,hn7,hn8,hn9,hn10⟩:=htb.facts
 obtain ⟨hf1,hf2,hf3,hf4⟩:=htb.files (by omega)
 have h213:(i+1) * 213≤31 * 213:=Nat.mul_le_mul_right _ (by omega)
 have e213:(i+1+1) * 213=(i+1) * 213+213:=Nat.succ_mul _ _
 simp only [fa_48_0,ld_5,cell_row r3.row,cellOf,isTuple,cond_false,pureW_some,rem7,bin_eql,Nat.zero_add]
 have hS:∀ y∈j::d::mp::(Fl++Fr),A.next≤y:=fun y hy=>by
  rcases List.mem_cons.1 hy with h | hy
  ·omega
  ·rcases List.mem_cons.1 hy with h | hy
   ·omega
   ·rcases List.mem_cons.1 hy with h | hy
    ·omega
    ·rcases List.mem_append.1 hy with h | h
     ·exact hlo.2.2.2.1 y h
     ·exact hlo.2.2.2.2 y h
 have hS3:∀ y∈[j,d,mp],A.next≤y:=fun y hy=>by simp only [List.mem_cons,List.not_mem_nil,or_false] at hy;omega
 refine forkW_beq.2 ⟨fun h2=>?_,fun h2=>forkW_beq.2 ⟨fun h3=>?_,fun h3=>?_⟩⟩
 ·obtain ⟨hs0,hs1⟩:=htb.sync (by omega)
  refine wc15 hjd3 hok g3'.fine (by omega) (by omega) hn1 (hN n' hn2 (by omega)).2 fun A4 hjd4 k4 n4 f4=>?_
  simp only [bin_add,pureW_some]
  rw [wrap_i64 (by omega) (by omega)]
  exact cutW_self.2 (AL_next (A':=A') hlt hlt2 hlo hkp.next (fun y hy=>.inl hy) (fun y hy=>.inl hy) hjd4 hs1 (by omega) (syncJ_ok (q:=q) hok) hR hst (by omega) (by omega) (K3.trans k4 fun y hy=>.inr (hS3 y hy)) f4 (by omega))
 ·have hstep:=htb.check (st':=p.r.2.data.toList) hsm (by omega) (by rw [putR_length];simp only;omega)
  simp only [fa_48_1,fa_35_1,ld_9,cell_row r3.row,cellOf,isTuple,cond_false,pureW_some,Nat.zero_add]
  refine wc16 (n:=n') (st:=p.r.2) hjd3 hg3 hok (by omega) g3'.fine (by omega) ⟨by omega,by omega,by omega⟩ (by omega) hn1 (by omega) (hN (n'+1) (by omega) (by omega)).2 (fun y hy=>(hN y (hn10 y hy).1 (by have:=(hn10 y hy).2;omega)).2) fun A4 Fl4 Fr4 hjd4 hFl4 hFr4 k4 n4 f4=>?_
  simp only [bin_add,pureW_some]
  rw [wrap_i64 (by omega) (by omega)]
  refine cutW_self.2 (AL_next (A':=A') hlt hlt2 hlo hkp.next (fun y hy=>(hFl4 y hy).imp id fun h=>by omega) (fun y hy=>(hFr4 y hy).imp id fun h=>by omega) hjd4 hstep.2 (by omega) (checkpointJ_ok (q:=q) hok) (by simp) hsm ?_ (by simp) (K3.trans k4 fun y hy=>.inr (hS y hy)) f4 (by omega))
  rw [putL_one,putR_length]
  show 13+p.r.2.data.toList.length≤_
  omega
 ·have hc2:A3.cells? ⟨A'.next,1,none⟩ 2=some (fR p.r):=by rw [cells_row r3.row];rfl
  simp only [fa_48_1,ld_35,hc2,pureW_some,Nat.zero_add]
  refine wc10 (n:=n') (r:=p.r) hjd3 hg3 hok (by omega) g3'.fine (by omega) ⟨by omega,by omega,by omega⟩ (by omega) (by rw [hn5];omega) (by omega) hn1 (by omega) (by omega) (by rw [hn8];omega) (by rw [hn8];omega) (hN n' hn2 (by omega)).2 (fun _=>(hN (n'+1) (by omega) (by omega)).2) fun A4 Fl4 Fr4 hjd4 hFl4 hFr4 k4 n4 f4=>?_
  simp only [bin_add,pureW_some]
  rw [wrap_i64 (by omega) (by omega)]
  by_cases hz:(toR p.r).1=0
  ·have he:appendJ s q (toR p.r)=(s,q,2):=by unfold appendJ;rw [if_pos hz]
   rw [he] at hjd4
   exact cutW_self.2 (AL_next (A':=A') hlt hlt2 hlo hkp.next (fun y hy=>(hFl4 y hy).imp id fun h=>by omega) (fun y hy=>(hFr4 y hy).imp id fun h=>by omega) hjd4 htb (by omega) hok hR hst (by omega) (by omega) (K3.trans k4 fun y hy=>.inr (hS y hy)) f4 (by omega))
  ·have hpr:=putR_length (toR p.r)
   have hpl2:(toR p.r).2.length=p.r.2.data.toList.length:=rfl
   have hstep:=htb.step (r:=toR p.r) hz (by omega) (by omega) (by omega) (by omega)
   refine cutW_self.2 (AL_next (A':=A') hlt hlt2 hlo hkp.next (fun y hy=>(hFl4 y hy).imp id fun h=>by omega) (fun y hy=>(hFr4 y hy).imp id fun h=>by omega) hjd4 hstep.2 (by omega) (appendJ_ok (q:=q) (r:=toR p.r) hok) ?_ hst ?_ (by rw [List.length_append];simp;omega) (K3.trans k4 fun y hy=>.inr (hS y hy)) f4 (by omega))
   ·intro r hr
    rcases List.mem_append.1 hr with h | h
    ·exact hR r h
    ·rw [List.mem_singleton.1 h]
     exact ⟨hz,by omega⟩
   ·rw [← List.cons_append,putL_append,putL_one,List.length_append]
    omega
theorem wc4 {A:AW} {x:Value} {l:List AV} {F:List Nat} {n lim:Nat} (hhd:KC.Holds Tryz.prog W0 m0 ⟨9,[],[.bool true]⟩) (hN:NumsK W0 m0 32) (hg0:Glb A) (hf:Fine A) (hA:A.next < 400000000000) (hlim:lim < 256) (hx:RdA A x n l F) (hln:l.length=min n 40):
  Wc Tryz.prog theX W0 m0 4 [.int .u8 (lim:Int),x] A fun v _=>v=.bool true:=by
 have hmax:maxId=1099511627776:=rfl
 have hglt:=hg0.lt
 refine w4 _ _ _ (c4 (I:=AL A x n lim) fun g id vals A' dd hI hd'=>?_) ?_
 ·obtain rfl:id=0:=hI.1
  exact again0 hhd hN hg0 hA hlim hx hln hI hd'
 rw [e4]
 refine wc7 hf (by omega) fun A2 d2 k2 n2 f2=>?_
 have hmx:max (20000:Int) 0=20000:=rfl
 rw [hmx] at d2
 simp only [cv_5_3,bothW_ok,bin_add]
 rw [wrap_i64 (n:=(lim:Int)) (by omega) (by omega),wrap_i64 (n:=14+(lim:Int)) (by omega) (by omega)]
 simp only [pureW_some]
 obtain ⟨s1,q1,ho1,ho2,ho3⟩:=open_new_ok (room:=20000) (limit:=14+(lim:Int)) (by decide) (by decide) (by omega)
 have hn0:namesS []=[]:=by unfold namesS;simp
 refine wc8 (k:=0) (L:=0) d2 (hg0.keeps k2 (by simp)) ⟨Nat.le_refl _,by simp,by simp,by show (0:Int)≤20000;decide,by show (20000:Int) < 9223372036854775808;decide,by show (0:Int) < 9223372036854775808;decide⟩ (by omega) (by simp) (by omega) (by decide) f2 (by omega) ⟨by omega,by omega⟩ (fun f hf=>by rw [hn0] at hf;cases hf) (fun m hm=>?_) (fun e A3 s' hos _ _ _ _=>?_) fun A3 s' q j Fl Fr hos hjd hj hFl hFr k3 n3 f3=>?_
 ·rcases hm with rfl | ⟨y,hy,rfl⟩
  ·exact (hN 1 (by omega) (by omega)).2
  ·rw [hn0] at hy
   cases hy
 ·have:=hos.symm.trans ho1
  simp at this
 ·have he:=hos.symm.trans ho1
  simp only [Prod.mk.injEq,Option.some.injEq] at he
  obtain ⟨rfl,rfl,_⟩:=he
  simp only [exL_two0,exL_two1,pureW_some,bin_neq,ptr,pe29]
  refine forkW_bne.2 ⟨fun h=>by simp at h,fun _=>forkW_bool.2 ⟨fun h=>by simp at h,fun _=>?_⟩⟩
  have K3:Keeps A A3 []:=k2.trans k3 fun y hy=>.inr (by simp only [List.mem_cons,List.not_mem_nil,or_false] at hy;omega)
  have hTB:=ho2.toB
  have hfew:=(hTB.files (by omega)).2.2.1
  exact cutW_self.2 ⟨31 - 0,rfl,0,A.next+1,A.next,j,q,s',[],[],Fl,Fr,rfl,by omega,by omega,rfl,⟨by omega,by omega,by omega,fun y hy=>by have:=hFl y hy;omega,fun y hy=>by have:=hFr y hy;omega⟩,hjd,hTB,⟨hfew,ho3.len,ho3.safe,ho3.r0,ho3.r1,ho3.f1⟩,by simp,by simp,by rw [putL_one,putR_length];simp,by simp,K3,f3,by omega⟩
end
end Go.Proofs.YtbchfeibhoobeaaGreatDoor
namespace Go.Proofs.YtbchfeibhoobeaaGreatDoor
open Go Go.Abs Go.ChangeShapes Go.WideShapes Go.ChangeAt Go.RowKit Go.Joins Go.Deep
def fZ (n:Int):List Value:=[.int .i64 n]
theorem fZ_closed (p:Int):(fZ p).all (closedV 4)=true:=rfl
theorem fZ_length (p:Int):(fZ p).length=0+1:=rfl
theorem fA_length (p:AV):(fA p).length=5+1:=rfl
def KeepIn (W:World) (p:AV) (kl:List Int) (ka:Arg):Prop:=InSlice W fZ (.slice p.o p.len p.cap) kl ka
structure ActRel (m:Inj Tryz.prog) (p' p:AV):Prop where
 what:p'.what=p.what
 r:p'.r=p.r
 n:p'.n=p.n
 file:p'.file=p.file
 keep:VRel m (.slice p'.o p'.len p'.cap) (.slice p.o p.len p.cap)
theorem ActRel.cells {m:Inj Tryz.prog} {p' p:AV} (h:ActRel m p' p):∀ (i:Nat) v,(fA p')[i]? =some v→∃ v',(fA p)[i]? =some v'∧VRel m v v':=by
 obtain ⟨h1,h2,h3,h4,h5⟩:=h
 obtain ⟨w,r,n,o,len,cap,file⟩:=p
 obtain ⟨w',r',n',o',len',cap',file'⟩:=p'
 simp only at h1 h2 h3 h4 h5
 subst h1 h2 h3 h4
 intro i v hv
 match i,hv with
 | 0,hv=>cases hv;exact ⟨_,rfl,.int _ _⟩
 | 1,hv=>cases hv;exact ⟨_,rfl,.int _ _⟩
 | 2,hv=>cases hv;exact ⟨_,rfl,.string _⟩
 | 3,hv=>cases hv;exact ⟨_,rfl,.int _ _⟩
 | 4,hv=>cases hv;exact ⟨_,rfl,h5⟩
 | 5,hv=>cases hv;exact ⟨_,rfl,.string _⟩
 | i+6,hv=>simp [fA] at hv
theorem flat_rel {m:Inj Tryz.prog}:∀ {l' l:List AV},l'.length≤l.length→(∀ (i:Nat) p' p,l'[i]? =some p'→l[i]? =some p→ActRel m p' p)→∀ (i:Nat) v,(flat fA l')[i]? =some v→∃ v',(flat fA l)[i]? =some v'∧VRel m v v'
 | [],l,_,_,i,v,hv=>by simp [flat] at hv
 | p'::r',[],h,_,i,v,hv=>by simp at h
 | p'::r',p::r,h,ha,i,v,hv=>by
  have e1:flat fA (p'::r')=fA p'++flat fA r':=by simp [flat]
  have e2:flat fA (p::r)=fA p++flat fA r:=by simp [flat]
  rw [e1] at hv
  rw [e2]
  by_cases hi:i < 6
  ·rw [List.getElem?_append_left (by rw [fA_length];exact hi)] at hv
   rw [List.getElem?_append_left (by rw [fA_length];exact hi)]
   exact (ha 0 p' p rfl rfl).cells i v hv
  ·rw [List.getElem?_append_right (by rw [fA_length];omega),fA_length] at hv
   rw [List.getElem?_append_right (by rw [fA_length];omega),fA_length]
   exact flat_rel (by simpa using h) (fun j a b ha' hb=>ha (j+1) a b (by simpa using ha') (by simpa using hb)) (i - 6) v hv
theorem acts_args {W:World} {s:Value} {l:List AV} {La:Arg} (h:InSlice W fA s l La) (hok:∀ p∈l,∃ kl ka,KeepIn W p kl ka):
  ∃ (L:List Arg) (s':Value) (l':List AV),L.length≤41∧Args Tryz.prog W L∧VRel (mR Tryz.prog L) s' s∧l'.length=min l.length 40∧(∀ (i:Nat) p' p,l'[i]? =some p'→l[i]? =some p→p'.n=p.n)∧
   ∀ gl,Tryz.prog.globals.size+L.length+1≤maxId→∃ F,RdA (wR Tryz.prog.globals.size gl L) s' l.length l' F∧∀ p'∈l',∃ (kl:List Int) (F':List Nat),RdE 0 fZ (wR Tryz.prog.globals.size gl L) (.slice p'.o p'.len p'.cap) kl F':=by
 cases h with
 | nil hl hs h0=>
  subst hl
  obtain ⟨o,c,rfl⟩:=h0
  let L:List Arg:=[(placeOf (.slice o 0 c),none)]
  obtain ⟨o',n',c',hv⟩:=hs.rel (P:=Tryz.prog) (l:=L.map (·.1)) 0 rfl
  have hn':n'=0:=by cases hv <;> rfl
  subst hn'
  refine ⟨L,_,[],by simp [L],?_,hv,by simp,by simp,fun gl hk=>⟨[],⟨o',c',rfl,by simp,.nil _ _ _⟩,by simp⟩⟩
  intro j p cs e hj
  match j,hj with
  | 0,hj=>simp [L] at hj
  | j+1,hj=>simp [L] at hj
 | blk a c cs e' fr hs hc hc2 hsp hb ho hg=>
  obtain ⟨K,hK⟩:∃ K:AV→Arg,∀ p,p∈l→∃ kl,KeepIn W p kl (K p):=by
   refine Classical.axiomOfChoice (r:=fun p ka=>p∈l→∃ kl,KeepIn W p kl ka) fun p=>?_
   by_cases hp:p∈l
   ·obtain ⟨kl,ka,h⟩:=hok p hp
    exact ⟨ka,fun _=>⟨kl,h⟩⟩
   ·exact ⟨((0,0),none),fun h=>absurd h hp⟩
  let t:=l.take 40
  have htl:∀ p∈t,p∈l:=fun p hp=>List.mem_of_mem_take hp
  let L0:List Arg:=((a.block,a.off),none)::t.map K
  have hrel:∀ (i:Nat) p,t[i]? =some p→∃ p',ActRel (mR Tryz.prog L0) p' p∧∃ kl:List Int,(kl=[]∧p'.len=0)∨∃ q e,p'.o=some ⟨Tryz.prog.globals.size+(i+1),0,none⟩∧p'.len=kl.length∧L0[i+1]? =some (q,some (flat fZ kl,e)):=by
   intro i p hp
   obtain ⟨kl,hkl⟩:=hK p (htl p (List.mem_of_getElem? hp))
   have hLi:L0[i+1]? =some (K p):=by
    show (t.map K)[i]? =_
    rw [List.getElem?_map,hp]
    rfl
   obtain ⟨s',hv,hcase⟩:=InSlice.rel (P:=Tryz.prog) hkl hLi
   rcases hcase with ⟨h1,o,c,rfl⟩ | ⟨c,q,e,rfl,h2⟩
   ·exact ⟨⟨p.what,p.r,p.n,o,0,c,p.file⟩,⟨rfl,rfl,rfl,rfl,hv⟩,kl,.inl ⟨h1,rfl⟩⟩
   ·exact ⟨⟨p.what,p.r,p.n,_,kl.length,c,p.file⟩,⟨rfl,rfl,rfl,rfl,hv⟩,kl,.inr ⟨q,e,rfl,rfl,h2⟩⟩
  obtain ⟨G,hG⟩:∃ G:Nat→AV,∀ (i:Nat),∀ p,t[i]? =some p→ActRel (mR Tryz.prog L0) (G i) p∧∃ kl:List Int,(kl=[]∧(G i).len=0)∨∃ q e,(G i).o=some ⟨Tryz.prog.globals.size+(i+1),0,none⟩∧(G i).len=kl.length∧L0[i+1]? =some (q,some (flat fZ kl,e)):=by
   refine Classical.axiomOfChoice (r:=fun (i:Nat) (p':AV)=>∀ p,t[i]? =some p→ActRel (mR Tryz.prog L0) p' p∧∃ kl:List Int,(kl=[]∧p'.len=0)∨∃ q e,p'.o=some ⟨Tryz.prog.globals.size+(i+1),0,none⟩∧p'.len=kl.length∧L0[i+1]? =some (q,some (flat fZ kl,e))) fun i=>?_
   cases hq:t[i]? with
   | none=>exact ⟨⟨0,(0,.empty),0,none,0,0,.empty⟩,fun p h=>by cases h⟩
   | some p=>
    obtain ⟨p',h1,h2⟩:=hrel i p hq
    exact ⟨p',fun p2 h=>by cases h;exact ⟨h1,h2⟩⟩
  let l':List AV:=(List.range t.length).map G
  have hl':∀ (i:Nat) p',l'[i]? =some p'→i < t.length∧p'=G i:=by
   intro i p' hp
   have hp:((List.range t.length).map G)[i]? =some p':=hp
   rw [List.getElem?_map] at hp
   by_cases hi:i < t.length
   ·rw [List.getElem?_range hi] at hp
    exact ⟨hi,by simpa using hp.symm⟩
   ·rw [List.getElem?_eq_none (by rw [List.length_range];omega)] at hp
    cases hp
  have hll:l'.length=t.length:=by simp [l']
  have htlen:t.length=min l.length 40:=by rw [List.length_take,Nat.min_comm]
  let L:List Arg:=((a.block,a.off),some (flat fA l',e'))::t.map K
  have hLm:L.map (·.1)=L0.map (·.1):=rfl
  have hmR:mR Tryz.prog L=mR Tryz.prog L0:=by unfold mR;rw [hLm]
  have hact:∀ (i:Nat) p' p,l'[i]? =some p'→t[i]? =some p→ActRel (mR Tryz.prog L0) p' p:=by
   intro i p' p h1 h2
   obtain ⟨_,rfl⟩:=hl' i p' h1
   exact (hG i p h2).1
  refine ⟨L,.slice (some ⟨Tryz.prog.globals.size+0,0,none⟩) l.length c,l',?_,?_,?_,by rw [hll,htlen],?_,fun gl hk=>⟨[Tryz.prog.globals.size+L.length],⟨_,_,rfl,?_,?_⟩,?_⟩⟩
  ·show (t.map K).length+1≤41
   rw [List.length_map,htlen]
   omega
  ·intro j p cs2 e hj
   cases j with
   | zero=>
    have hj:some (((a.block,a.off),some (flat fA l',e')):Arg)=some (p,some (cs2,e)):=hj
    simp only [Option.some.injEq,Prod.mk.injEq] at hj
    obtain ⟨rfl,rfl,rfl⟩:=hj
    refine ⟨cs,fr,hb,ho,fun i v hv=>?_⟩
    obtain ⟨v',h1,h2⟩:=flat_rel (l:=t) (by rw [hll];exact Nat.le_refl _) hact i v hv
    refine ⟨v',hg i v' ?_,by rw [hmR];exact h2⟩
    have et:flat fA l=flat fA t++flat fA (l.drop 40):=by
     have h3:flat fA (l.take 40++l.drop 40)=flat fA (l.take 40)++flat fA (l.drop 40):=by unfold flat;rw [List.flatMap_append]
     rw [List.take_append_drop] at h3
     exact h3
    rw [et,List.getElem?_append_left]
    ·exact h1
    ·exact (List.getElem?_eq_some_iff.1 h1).1
   | succ j=>
    have hj:(t.map K)[j]? =some (p,some (cs2,e)):=hj
    rw [List.getElem?_map] at hj
    cases hq:t[j]? with
    | none=>rw [hq] at hj;cases hj
    | some y=>
     rw [hq] at hj
     obtain ⟨kl,hkl⟩:=hK y (htl y (List.mem_of_getElem? hq))
     exact InSlice.args hkl fZ_closed (by simpa using hj)
  ·rw [hs]
   refine .slice (.inl ⟨hc2,rfl⟩) hc fun _=>⟨rfl,hsp,a.off,?_,rfl⟩
   show mA Tryz.prog (L.map (·.1)) (Tryz.prog.globals.size+0)=_
   rw [mA_arg]
   rfl
  ·intro i p' p h1 h2
   obtain ⟨hi,rfl⟩:=hl' i p' h1
   have h2:t[i]? =some p:=by
    rw [List.getElem?_take_of_lt (by omega)]
    exact h2
   exact (hG i p h2).1.n
  ·rw [hll,htlen];omega
  ·exact rdE_arg fA_length hk rfl
  ·intro p' hp'
   obtain ⟨i,hi⟩:=List.mem_iff_getElem?.1 hp'
   obtain ⟨hit,rfl⟩:=hl' i p' hi
   obtain ⟨p,hp⟩:∃ p,t[i]? =some p:=⟨_,List.getElem?_eq_getElem hit⟩
   obtain ⟨_,kl,hkl⟩:=hG i p hp
   rcases hkl with ⟨rfl,h0⟩ | ⟨q,e,h1,h2,h3⟩
   ·rw [h0]
    exact ⟨[],[],.nil _ _ _⟩
   ·rw [h1,h2]
    exact ⟨kl,_,rdE_arg (j:=i+1) fZ_length hk h3⟩
theorem Tryz.cells3:Tryz.prog.cellsOf 3=1:=by kernel_rfl
theorem Tryz.cells46:Tryz.prog.cellsOf 46=1:=by kernel_rfl
theorem Tryz.cells48:Tryz.prog.cellsOf 48=6:=by kernel_rfl
section
variable {H:Type} {enc:TypeId × Value→H} {w:World} {q:Nat}
theorem read_int {t:TypeId} {cs:List Value} {k:IntKind} {y:DataW H × List MemPlace} (hu:Tryz.prog.underlying t=some (.int k)) (h:DataW.trod enc Tryz.prog w 0 (fun _=>true) true q t cs=some y):∃ n:Int,cs=[.int k n]∧k.min≤n∧n≤k.max:=by
 obtain ⟨n,e0,_,wk⟩:=DataW.trod_int hu h
 simp only [Lit.wf,Bool.and_eq_true,decide_eq_true_eq] at wk
 exact ⟨n,e0,wk.1,wk.2⟩
theorem read_ints {cs:List Value} {y:DataW H × List MemPlace} (h:DataW.trod enc Tryz.prog w 0 (fun _=>true) true q 46 cs=some y):∃ (s:Value) (l:List Int) (La:Arg),cs=[s]∧InSlice w fZ s l La:=by
 obtain ⟨s,l,La,hc,hs,_⟩:=read_flat (f:=fZ) (ok:=fun _=>True) 0 Tryz.underlying46 (by rw [Tryz.cells3];decide) (fun f=>by rw [Tryz.cells3];rfl) (fun q cs y hy=>by
  obtain ⟨n,rfl,_⟩:=read_int Tryz.underlying3 hy
  exact ⟨n,rfl,trivial⟩) h
 exact ⟨s,l,La,hc,hs⟩
theorem inSlice_slice {W:World} {β:Type} {f:β→List Value} {s:Value} {l:List β} {La:Arg} (h:InSlice W f s l La):∃ o n c,s=.slice o n c:=by
 cases h with
 | nil _ _ h0=>obtain ⟨o,c,rfl⟩:=h0;exact ⟨_,_,_,rfl⟩
 | blk a c cs e' fr hs=>exact ⟨_,_,_,hs⟩
def OkA (W:World) (p:AV):Prop:=(∃ kl ka,KeepIn W p kl ka)∧-9223372036854775808≤p.n∧p.n≤9223372036854775807
theorem read_act {cs:List Value} {y:DataW H × List MemPlace} (h:DataW.trod enc Tryz.prog w 0 (fun _=>true) true q 48 cs=some y):∃ p:AV,cs=fA p∧OkA w p:=by
 obtain ⟨xs,n,_,_,hl,hlen,hg⟩:=DataW.trod_struct Tryz.underlying48 h
 have hl:cs.length=6:=hl.trans Tryz.cells48
 match cs,hl,xs,hlen with
 | [c0,c1,c2,c3,c4,c5],_,[y0,y1,y2,y3,y4],_=>
  have g0:DataW.trod enc Tryz.prog w 0 (fun _=>true) true n 5 [c0]=some y0:=by simpa [Tryz.cells5] using hg 0 _ rfl
  have g1:DataW.trod enc Tryz.prog w 0 (fun _=>true) true n 35 [c1,c2]=some y1:=by simpa [Tryz.cells35] using hg 1 _ rfl
  have g2:DataW.trod enc Tryz.prog w 0 (fun _=>true) true n 3 [c3]=some y2:=by simpa [Tryz.cells3] using hg 2 _ rfl
  have g3:DataW.trod enc Tryz.prog w 0 (fun _=>true) true n 46 [c4]=some y3:=by simpa [Tryz.cells46] using hg 3 _ rfl
  have g4:DataW.trod enc Tryz.prog w 0 (fun _=>true) true n 9 [c5]=some y4:=by simpa [Tryz.cells9] using hg 4 _ rfl
  obtain ⟨m0,rfl,hm0⟩:=read_num Tryz.underlying5 rfl g0
  obtain ⟨r,hr,_⟩:=read_rec g1
  obtain ⟨z,hz,hz1,hz2⟩:=read_int Tryz.underlying3 g2
  obtain ⟨s,kl,ka,hs,hin⟩:=read_ints g3
  obtain ⟨fl,rfl⟩:=read_txt g4
  obtain ⟨o,ln,cp,rfl⟩:=inSlice_slice hin
  have hm0:(m0:Int)≤255:=hm0
  simp only [fR,List.cons.injEq,and_true] at hr hz hs
  obtain ⟨rfl,rfl⟩:=hr
  subst hz
  subst hs
  refine ⟨⟨UInt8.ofNat m0,r,z,o,ln,cp,fl⟩,?_,⟨kl,ka,hin⟩,hz1,hz2⟩
  show [Value.int .u8 (m0:Int),_,_,_,_,_]=[.int .u8 ((UInt8.ofNat m0).toNat:Int),_,_,_,_,_]
  rw [UInt8.toNat_ofNat',Nat.mod_eq_of_lt (by omega)]
theorem read_acts {b0:Nat} {v:Value} {d:DataW H} {p:List MemPlace} (hv:Value.okWide Tryz.prog w .any b0 45 v) (h:DataW.Trod enc Tryz.prog w 0 (fun _=>true) true 45 v d p):
  ∃ (l:List AV) (La:Arg),InSlice w fA v l La∧∀ p∈l,OkA w p:=by
 obtain ⟨fuel,hf⟩:=h
 obtain ⟨s,l,La,hc,hs,hw⟩:=read_flat (f:=fA) (ok:=OkA w) ⟨0,(0,.empty),0,none,0,0,.empty⟩ Tryz.underlying45 (by rw [Tryz.cells48];decide) (fun f=>by rw [Tryz.cells48];rfl) (fun q cs y hy=>read_act hy) hf
 have hv0:v=s:=by
  obtain ⟨a,n,c,rfl⟩:=okWide_slice Tryz.underlying45 hv
  simpa [Value.cells] using hc
 subst hv0
 exact ⟨l,La,hs,hw⟩
end
end Go.Proofs.YtbchfeibhoobeaaGreatDoor
