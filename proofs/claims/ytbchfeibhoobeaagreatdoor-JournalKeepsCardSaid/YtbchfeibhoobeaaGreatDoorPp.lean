/-
  This text prints what the functions reached ask of their memory, and shows what they answer. Conditions: none for the last theorem, those that each theorem states for the others.
-/
import Derived.Test.YtbchfeibhoobeaaGreatDoorPo
set_option maxRecDepth 100000
set_option maxHeartbeats 1000000
namespace Go.Proofs.YtbchfeibhoobeaaGreatDoor
open Go Go.Abs
theorem nums_kc48 (W:World) (m:Inj Tp):NumsK W m 48:=by
 intro n h1 h2
 by_cases h:n≤32
 ·exact nums_kc32 W m n h1 h
 ·by_cases h:n≤40
  ·have a:=List.all_eq_true.1 Hd.r5 (n - 33) (List.mem_range.2 (by omega))
   have b:=List.all_eq_true.1 Hd.q5 (n - 33) (List.mem_range.2 (by omega))
   rw [show n - 33+33=n by omega] at a b
   exact ⟨Hd.kF b W m,Hd.kN a W m⟩
  ·have a:=List.all_eq_true.1 Hd.r6 (n - 41) (List.mem_range.2 (by omega))
   have b:=List.all_eq_true.1 Hd.q6 (n - 41) (List.mem_range.2 (by omega))
   rw [show n - 41+41=n by omega] at a b
   exact ⟨Hd.kF b W m,Hd.kN a W m⟩
end Go.Proofs.YtbchfeibhoobeaaGreatDoor
namespace Go.Jr
def rmAll (s:DS):List Nat→DS × Int
 | []=>(s,0)
 | k::r=>if (removeS s (nm k)).2≠0 then removeS s (nm k) else rmAll (removeS s (nm k)).1 r
def checkpointJ (s:DS) (names:List (List UInt8)) (q:JS) (st:List UInt8):DS × JS × Int:=
 if q.broken=true then (s,q,100) else
 if 65536 < st.length then (s,q,3) else
 let n:=q.row.getLast?.getD 0+1
 if 99999999 < n then (s,q,6) else
 let x0:=if fresh∈names then removeS s fresh else (s,0)
 if x0.2≠0 then (x0.1,doneJ q x0.2,x0.2) else
 let x1:=appendS x0.1 fresh (putR (0,st))
 if x1.2≠0 then (x1.1,doneJ q x1.2,x1.2) else
 let x2:=syncS x1.1 fresh
 if x2.2≠0 then (x2.1,doneJ q x2.2,x2.2) else
 let x3:=renameS x2.1 fresh (nm n)
 if x3.2≠0 then (x3.1,doneJ q x3.2,x3.2) else
 let q':JS:={ q with state:=st,l:=[],row:=[n],size:=(putR (0,st)).length,some:=true }
 let y:=rmAll x3.1 q.row
 if y.2≠0 then (y.1,doneJ q' y.2,y.2) else (y.1,q',0)
def fuseS (s:DS) (n:Int):DS:=if s.down=true then s else { s with fuse:=max n 0 }
def crashS (s:DS):DS:={ s with down:=true,fuse:=0 }
def wakeF (f:Fil) (k:Option Int):Fil:=
 match k with
 | none=>(f.1.take f.2,f.2)
 | some k=>(f.1.take (f.2+(min (max k 0) ((f.1.length:Int) - f.2)).toNat),f.2+(min (max k 0) ((f.1.length:Int) - f.2)).toNat)
def wakeL (D:Fls) (keep:List Int):List (List UInt8)→Nat→Fls
 | [],_=>D
 | p::r,i=>wakeL (putF D p (wakeF (fileOf D p) keep[i]?)) keep r (i+1)
def wakeS (s:DS) (names:List (List UInt8)) (keep:List Int):DS:=if s.down=true then ⟨wakeL s.D keep names 0,s.room,s.fuse,false⟩ else s
end Go.Jr
namespace Go.Proofs.YtbchfeibhoobeaaGreatDoor
open Go.Abs Go.Jr
section
variable {W0:World} {m0:Inj Tp}
theorem dmIn {j d mp:Nat} {Fl Fr:List Nat}:∀ y∈[d,mp],y∈j::d::mp::(Fl++Fr):=fun y hy=>by
 simp only [List.mem_cons,List.not_mem_nil,or_false] at hy
 rcases hy with rfl | rfl <;> simp
theorem wc15 {A:AW} {j d mp k n:Nat} {q:JS} {s:DS} {Fl Fr:List Nat} {K:Value→AW→Prop} (h:JD A j d mp q s Fl Fr) (hok:OkS k s) (hf:Fine A) (hA:A.next < 900000000000) (hrw:q.row.length < 1000000) (hn:q.row.getLast? =some n) (hN:NameK W0 m0 n)
  (hk:∀ A',JD A' j d mp (syncJ s q).2.1 (syncJ s q).1 Fl Fr→Keeps A A' [j,d,mp]→A'.next≤A.next+20→Fine A'→K (.int .i64 (syncJ s q).2.2) A'):
  Wc Tp theX W0 m0 15 [ptr j] A K:=by
 have hmax:maxId=1099511627776:=rfl
 have hjd:=h
 refine w15 _ _ (cuts_none (S:=fun _ _ _=>False) fun _ _ _ h=>h) ?_
 rw [e15]
 refine wc53 h.jn ?_
 simp only [un_not,pureW_some]
 refine forkW_bool.2 ⟨fun h=>by simp at h,fun _=>?_⟩
 refine wc54 h.jn ?_
 simp only [bin_neq,pureW_some]
 unfold syncJ at hk
 refine forkW_bne.2 ⟨fun hb=>?_,fun hb=>?_⟩
 ·have hb':q.broken=true:=by
   cases hq:q.broken with
   | true=>rfl
   | false=>rw [hq] at hb;simp at hb
  rw [if_pos hb'] at hk
  rw [if_pos hb']
  exact hk A hjd (.refl _ _) (by omega) hf
 have hb':q.broken=false:=by
  cases hq:q.broken with
  | false=>rfl
  | true=>rw [hq] at hb;simp at hb
 rw [if_neg (by rw [hb'];simp)] at hk
 have elast:q.row.getLast?.getD 0=n:=by rw [hn];rfl
 rw [elast] at hk
 have hJn:=h.jn
 obtain ⟨vl,vr,rl,j1,o1,hql,o2⟩:=h.jn
 have hjA:=j1.lt
 simp only [ptr,nilP_some,fa_83_0,ld_27,cell_row j1.row,cellOf,isT_ptr,cond_false,pureW_some]
 refine wc56 hJn hn hrw ?_
 simp only [cell_row j1.row,cellOf,isT_ptr,cond_false,pureW_some,eqW_self]
 refine knOne (by decide) hN rfl ?_
 simp only [cell_row j1.row,cellOf,isT_ptr,cond_false,pureW_some,eqW_self]
 refine wc44 (n:=⟨⟨Jr.nm n⟩⟩) h.dk hok.n hf (by omega) fun A2 d2 k2 n2 f2=>?_
 have ed:(⟨⟨Jr.nm n⟩⟩:ByteArray).data.toList=Jr.nm n:=rfl
 rw [ed] at d2 ⊢
 have J2:JD A2 j d mp q _ Fl Fr:=hjd.disk k2 d2
 refine wc57 J2.jn f2 (by omega) (fun hm=>(hjd.fl j hm).2.2.1 rfl) (fun hm=>(hjd.fr j hm).2.2 rfl) fun A3 j3 k3 n3 f3=>?_
 refine hk A3 ⟨j3,J2.dk.keeps k3 (by simp;exact fun h=>hjd.nd.1 h.symm) (by simp;exact fun h=>hjd.nd.2 h.symm),hjd.nd,hjd.fl,hjd.fr⟩ ((k2.more (T:=[j,d,mp]) (fun y hy=>.inl (by simp only [List.mem_cons,List.not_mem_nil,or_false] at hy ⊢;exact .inr hy))).trans k3 (fun y hy=>.inl (by simp [List.mem_singleton.1 hy]))) (by omega) f3
theorem wc17 {A:AW} {j d:Nat} {q:JS} {Fl Fr:List Nat} {K:Value→AW→Prop} (h:Jn A j d q Fl Fr) (hk:K (.string ⟨⟨q.state⟩⟩) A):Wc Tp theX W0 m0 17 [ptr j] A K:=by
 refine w17 _ _ (cuts_none (S:=fun _ _ _=>False) fun _ _ _ h=>h) ?_
 rw [e17]
 refine wc53 h ?_
 simp only [un_not,pureW_some]
 refine forkW_bool.2 ⟨fun h=>by simp at h,fun _=>?_⟩
 obtain ⟨vl,vr,rl,j1,o1,hql,o2⟩:=h
 simp only [ptr,nilP_some,fa_83_2,ld_9,cell_row j1.row,cellOf,isT_ptr,isT_int,isT_string,cond_false,pureW_some,Nat.zero_add]
 exact hk
theorem OwnF_cap0 {A:AW} {l:List RV} {v:Value} {F:List Nat} (h:OwnF 35 1 fR A v l F):∀ c,v=.slice none 0 c→c=0:=by
 intro c hv
 rcases h with h | ⟨b,h1,_⟩
 ·rcases h with ⟨h1,_⟩ | ⟨b,f,h1,_⟩
  ·rw [hv] at h1;simpa using h1
  ·rw [hv] at h1;simp at h1
 ·rw [hv] at h1;simp at h1
theorem wc18 {A:AW} {j d:Nat} {q:JS} {Fl Fr:List Nat} {K:Value→AW→Prop} (h:Jn A j d q Fl Fr) (hf:Fine A) (hA:A.next < 900000000000) (hl:q.l.length < 1000000)
  (hk:∀ A' v (R:List RV) F',q.l=R.map toR→OwnF 35 1 fR A' v R F'→(∀ y∈F',A.next≤y)→Grow A A' 2→K v A'):Wc Tp theX W0 m0 18 [ptr j] A K:=by
 have hmax:maxId=1099511627776:=rfl
 refine w18 _ _ (cuts_none (S:=fun _ _ _=>False) fun _ _ _ h=>h) ?_
 rw [e18]
 refine wc53 h ?_
 simp only [un_not,pureW_some]
 refine forkW_bool.2 ⟨fun h=>by simp at h,fun _=>?_⟩
 obtain ⟨vl,vr,rl,j1,o1,hql,o2⟩:=h
 have hvl:=o1.one
 simp only [ptr,nilP_some,fa_83_3,ld_22,cell_row j1.row,cellOf,isT_ptr,isT_int,isT_string,hvl.2,cond_false,pureW_some,Nat.zero_add]
 refine wc52 (o1.rd etR.len) (OwnF_cap0 o1) hf (by omega) (by rw [hql,List.length_map] at hl;exact hl) fun A2 v2 F2 o2' hF2 g2=>?_
 exact hk A2 v2 rl F2 hql o2' hF2 g2
theorem wc21 {A:AW} {d mp:Nat} {s:DS} {n:Int} {K:Value→AW→Prop} (h:Dk A d mp s) (hf:Fine A) (hA:A.next < 900000000000)
  (hk:∀ A',Dk A' d mp (fuseS s n)→Keeps A A' [d]→A'.next=A.next→Fine A'→K (.tuple ⟨[]⟩) A'):Wc Tp theX W0 m0 21 [ptr d,.int .i64 n] A K:=by
 have hmax:maxId=1099511627776:=rfl
 refine w21 _ _ _ (cuts_none (S:=fun _ _ _=>False) fun _ _ _ h=>h) ?_
 rw [e21]
 have h0:=h
 refine wc58 h ?_
 refine forkW_bool.2 ⟨fun _=>?_,fun h=>by simp at h⟩
 obtain ⟨es,c,hr,hm,hne,hD⟩:=h
 unfold fuseS at hk
 simp only [ptr,nilP_some,fa_76_3,fa_76_2,ld_4,cell_row hr.row,cellOf,isT_map,isT_int,isT_bool,cond_false,pureW_some,Nat.zero_add,un_not,max0]
 refine forkW_bool.2 ⟨fun hd=>?_,fun hd=>?_⟩
 ·rw [if_neg (by simpa using hd)] at hk
  refine hr.store hf (by omega) (st_3 _ _ _) rfl (by show 2+1≤4;omega) rfl fun A2 r2 k2 n2 f2=>?_
  have k2:Keeps A A2 [d]:=k2
  exact hk A2 ⟨es,c,r2,hm.keeps k2 (by simp;exact fun h=>hne h.symm),hne,hD⟩ k2 n2 f2
 ·rw [if_pos (by simpa using hd)] at hk
  exact hk A h0 (.refl _ _) rfl hf
theorem wc22 {A:AW} {d mp:Nat} {s:DS} {K:Value→AW→Prop} (h:Dk A d mp s) (hf:Fine A) (hA:A.next < 900000000000)
  (hk:∀ A',Dk A' d mp (crashS s)→Keeps A A' [d]→A'.next=A.next→Fine A'→K (.tuple ⟨[]⟩) A'):Wc Tp theX W0 m0 22 [ptr d] A K:=by
 have hmax:maxId=1099511627776:=rfl
 refine w22 _ _ (cuts_none (S:=fun _ _ _=>False) fun _ _ _ h=>h) ?_
 rw [e22]
 refine wc58 h ?_
 refine forkW_bool.2 ⟨fun _=>?_,fun h=>by simp at h⟩
 obtain ⟨es,c,hr,hm,hne,hD⟩:=h
 simp only [ptr,nilP_some,fa_76_3,fa_76_2,pureW_some,Nat.zero_add]
 refine hr.store hf (by have:=hr.lt;omega) (st_4 _ _ _) rfl (by show 3+1≤4;omega) rfl fun A2 r2 k2 n2 f2=>?_
 have r2:Go.Abs.Row1 A2 d [.map (some mp),.int .i64 s.room,.int .i64 s.fuse,.bool true] 76:=r2
 have k2:Keeps A A2 [d]:=k2
 refine r2.store f2 (by omega) (st_3 _ _ _) rfl (by show 2+1≤4;omega) rfl fun A3 r3 k3 n3 f3=>?_
 have r3:Go.Abs.Row1 A3 d [.map (some mp),.int .i64 s.room,.int .i64 0,.bool true] 76:=r3
 have k3:Keeps A2 A3 [d]:=k3
 have K3:Keeps A A3 [d]:=k2.trans k3 (by simp)
 exact hk A3 ⟨es,c,r3,hm.keeps K3 (by simp;exact fun h=>hne h.symm),hne,hD⟩ K3 (by omega) f3
end
noncomputable def ckT (W0:World) (m0:Inj Tp) (S:Nat→List Value→AW→Prop) (Q:Value→AW→Prop) (a0 a1 t7:Value) (A:AW):Prop:=
 Wc Tp theX W0 m0 41 [a1] A fun t20 At20=>pureW (nilP a0) fun t21=>pureW (fieldAddrA Tp 83 t21 0) fun t22=>pureW (loadP Tp At20 27 t22) fun t23=>Wc Tp theX W0 m0 13 [t23,(.string ⟨⟨[106,46,110,101,119]⟩⟩),t20] At20 fun t24 At24=>pureW (binA Tp .neq 30 (.tmp 56) (.const (.int .i64 0)) t24 (.int .i64 0)) fun t25=>forkW t25 (Wc Tp theX W0 m0 57 [a0,t24] At24 fun t26 At26=>Q t26 At26) (pureW (nilP a0) fun t27=>pureW (fieldAddrA Tp 83 t27 0) fun t28=>pureW (loadP Tp At24 27 t28) fun t29=>Wc Tp theX W0 m0 44 [t29,(.string ⟨⟨[106,46,110,101,119]⟩⟩)] At24 fun t30 At30=>pureW (binA Tp .neq 30 (.tmp 66) (.const (.int .i64 0)) t30 (.int .i64 0)) fun t31=>forkW t31 (Wc Tp theX W0 m0 57 [a0,t30] At30 fun t32 At32=>Q t32 At32) (pureW (nilP a0) fun t33=>pureW (fieldAddrA Tp 83 t33 0) fun t34=>pureW (loadP Tp At30 27 t34) fun t35=>knW Tp W0 m0 47 [t7] At30 fun t36 At36=>pureW (loadP Tp At36 27 t34) fun t37=>eqW t37 t35 (pureW (fieldAddrA Tp 83 t33 0) fun t38=>eqW t38 t34 (pureW (nilP a0) fun t39=>eqW t39 t33 (eqW a0 a0 (Wc Tp theX W0 m0 46 [t35,(.string ⟨⟨[106,46,110,101,119]⟩⟩),t36] At36 fun t40 At40=>pureW (binA Tp .neq 30 (.tmp 78) (.const (.int .i64 0)) t40 (.int .i64 0)) fun t41=>forkW t41 (Wc Tp theX W0 m0 57 [a0,t40] At40 fun t42 At42=>Q t42 At42) (pureW (nilP a0) fun t43=>pureW (fieldAddrA Tp 83 t43 4) fun t44=>pureW (loadP Tp At40 46 t44) fun t45=>bothW (buildSliceA Tp At40 46 1 [(0,t7)]) fun t46 At46=>pureW (lenA Tp At46 9 t20) fun t47=>pureW (nilP a0) fun t48=>pureW (fieldAddrA Tp 83 t48 2) fun t49=>effW (storeP Tp At46 9 t49 a1) fun At50=>pureW (nilP a0) fun t51=>pureW (fieldAddrA Tp 83 t51 3) fun t52=>effW (storeP Tp At50 22 t52 (.slice none 0 0)) fun At53=>pureW (nilP a0) fun t54=>pureW (fieldAddrA Tp 83 t54 4) fun t55=>effW (storeP Tp At53 46 t55 t46) fun At56=>pureW (nilP a0) fun t57=>pureW (fieldAddrA Tp 83 t57 5) fun t58=>effW (storeP Tp At56 3 t58 t47) fun At59=>pureW (nilP a0) fun t60=>pureW (fieldAddrA Tp 83 t60 6) fun t61=>effW (storeP Tp At59 4 t61 (.bool true)) fun At62=>pureW (lenA Tp At62 46 t45) fun t63=>cutW (T16 0) (T16 0) (S 0 [a0,t45,t63,(.int .i64 0)] At62))))))))
theorem e16f (W0:World) (m0:Inj Tp) (S:Nat→List Value→AW→Prop) (Q:Value→AW→Prop) (a0 a1:Value) (A:AW):gE W0 m0 S Q 16 126 T16 L16 [a0,a1] A=(Wc Tp theX W0 m0 53 [a0] A fun t0 At0=>pureW (unA Tp .not t0) fun t1=>forkW t1 (Q (.int .i64 1) At0) (Wc Tp theX W0 m0 54 [a0] At0 fun t2 At2=>pureW (binA Tp .neq 30 (.tmp 21) (.const (.int .i64 0)) t2 (.int .i64 0)) fun t3=>forkW t3 (Q t2 At2) (pureW (lenA Tp At2 9 a1) fun t4=>pureW (binA Tp .gtr 3 (.tmp 25) (.const (.int .i64 65536)) t4 (.int .i64 65536)) fun t5=>forkW t5 (Q (.int .i64 3) At2) (Wc Tp theX W0 m0 56 [a0] At2 fun t6 At6=>pureW (binA Tp .add 3 (.tmp 28) (.const (.int .i64 1)) t6 (.int .i64 1)) fun t7=>pureW (binA Tp .gtr 3 (.tmp 30) (.const (.int .i64 99999999)) t7 (.int .i64 99999999)) fun t8=>forkW t8 (Q (.int .i64 6) At6) (pureW (nilP a0) fun t9=>pureW (fieldAddrA Tp 83 t9 0) fun t10=>pureW (loadP Tp At6 27 t10) fun t11=>Wc Tp theX W0 m0 11 [t11] At6 fun t12 At12=>Wc Tp theX W0 m0 38 [t12,(.string ⟨⟨[106,46,110,101,119]⟩⟩)] At12 fun t13 At13=>forkW t13 (pureW (nilP a0) fun t14=>pureW (fieldAddrA Tp 83 t14 0) fun t15=>pureW (loadP Tp At13 27 t15) fun t16=>Wc Tp theX W0 m0 40 [t16,(.string ⟨⟨[106,46,110,101,119]⟩⟩)] At13 fun t17 At17=>pureW (binA Tp .neq 30 (.tmp 43) (.const (.int .i64 0)) t17 (.int .i64 0)) fun t18=>forkW t18 (Wc Tp theX W0 m0 57 [a0,t17] At17 fun t19 At19=>Q t19 At19) (ckT W0 m0 S Q a0 a1 t7 At17)) (ckT W0 m0 S Q a0 a1 t7 At13)))))):=by kernel_rfl
def CI (A:AW) (j d mp k:Nat) (Fl Fr:List Nat) (s:DS) (q:JS) (old:List Nat) (vo:Value):Nat→Nat→List Value→AW→Prop:=fun g id vals A'=>id=0∧∃ (i:Nat) (s1:DS) (Fr':List Nat),vals=[ptr j,vo,.int .i64 (old.length:Int),.int .i64 (i:Int)]∧i≤old.length∧g=old.length - i∧
 JD A' j d mp q s1 [] Fr'∧(∀ y∈Fr',A.next≤y)∧OwnF 3 0 fI A' vo old Fr∧rmAll s old=rmAll s1 (old.drop i)∧OkS (k+4+i) s1∧Keeps A A' (j::d::mp::(Fl++Fr))∧Fine A'∧A'.next≤A.next+200+10 * k+10 * i
section
variable {W0:World} {m0:Inj Tp}
theorem ck_loop {A A':AW} {j d mp k g:Nat} {q:JS} {s:DS} {Fl Fr:List Nat} {old:List Nat} {vo:Value} {vals:List Value} {dd:Nat→Value} {K:Value→AW→Prop} (hjd:∀ x∈Fr,x < A.next∧x≠d∧x≠mp∧x≠j) (hA:A.next < 800000000000) (hk9:k+old.length < 8000) (hN:∀ x∈old,NameK W0 m0 x)
  (hk:∀ A' Fr',JD A' j d mp (if (rmAll s old).2≠0 then doneJ q (rmAll s old).2 else q) (rmAll s old).1 [] Fr'→(∀ y∈Fr',A.next≤y)→Keeps A A' (j::d::mp::(Fl++Fr))→A'.next≤A.next+200+10 * k+10 * old.length+10→Fine A'→K (.int .i64 (rmAll s old).2) A')
  {S:Nat→List Value→AW→Prop} (hS:∀ g2 id v A'',g2 < g→CI A j d mp k Fl Fr s q old vo g2 id v A''→S id v A'')
  (h:CI A j d mp k Fl Fr s q old vo g 0 vals A') (hd':(L16 0).map dd=vals):gL W0 m0 S K 16 126 T16 L16 dd 0 A':=by
 have hmax:maxId=1099511627776:=rfl
 obtain ⟨_,i,s1,Fr',rfl,hi,rfl,hJ,hFr',hvo,hrm,hok,hkp,hf,hn⟩:=h
 rw [l16_0]
 simp only [L16,List.map_cons,List.map_nil,List.cons.injEq,and_true] at hd'
 obtain ⟨h0,h107,h108,h109⟩:=hd'
 simp only [h0,h107,h108,h109,bin_lss,pureW_some,forkW_dec]
 have hle:=hkp.next
 refine ⟨fun hlt=>?_,fun hge=>?_⟩
 ·have hlt:i < old.length:=by omega
  obtain ⟨p,hp⟩:∃ p,old[i]? =some p:=⟨_,List.getElem?_eq_getElem hlt⟩
  obtain ⟨a,a1,a2⟩:=esI.at (hvo.rd esI.len) hp rfl
  obtain ⟨vl,vr,rl,j1,o1,hql,o2⟩:=hJ.jn
  rw [drop_get hp] at hrm
  have hrm:rmAll s old=if (removeS s1 (Jr.nm p)).2≠0 then removeS s1 (Jr.nm p) else rmAll (removeS s1 (Jr.nm p)).1 (old.drop (i+1)):=hrm
  simp only [a1,a2,pureW_some,ptr,nilP_some,fa_83_0,ld_27,cell_row j1.row,cellOf,isT_ptr,cond_false]
  refine knOne (by decide) (hN p (List.mem_of_getElem? hp)) rfl ?_
  simp only [cell_row j1.row,cellOf,isT_ptr,cond_false,pureW_some,eqW_self]
  refine wc40 (n:=⟨⟨Jr.nm p⟩⟩) hJ.dk hok.n hf (by omega) fun A2 d2 k2 n2 f2=>?_
  have ed:(⟨⟨Jr.nm p⟩⟩:ByteArray).data.toList=Jr.nm p:=rfl
  rw [ed] at d2 ⊢
  have J2:JD A2 j d mp q _ [] Fr':=hJ.disk k2 d2
  have K2:Keeps A A2 (j::d::mp::(Fl++Fr)):=hkp.trans k2 fun y hy=>.inl (dmIn y hy)
  simp only [bin_neq,bin_add,pureW_some]
  rw [wrap_i64 (by omega) (by omega)]
  refine forkW_bne.2 ⟨fun he=>?_,fun he=>?_⟩
  ·rw [if_pos he] at hrm
   rw [hrm,if_pos he] at hk
   refine wc57 J2.jn f2 (by omega) (by simp) (fun hm=>(hJ.fr j hm).2.2 rfl) fun A3 j3 k3 n3 f3=>?_
   exact hk A3 Fr' ⟨j3,J2.dk.keeps k3 (by simp;exact fun h=>hJ.nd.1 h.symm) (by simp;exact fun h=>hJ.nd.2 h.symm),hJ.nd,by simp,hJ.fr⟩ hFr' (K2.trans k3 fun y hy=>.inl (by simp [List.mem_singleton.1 hy])) (by omega) f3
  ·rw [if_neg (by simpa using he)] at hrm
   refine cutW_self.2 (hS (old.length - (i+1)) 0 _ A2 (by omega) ⟨rfl,i+1,_,Fr',rfl,by omega,rfl,J2,hFr',hvo.keeps k2 (fun y hy=>by have:=hjd y hy;simp;exact ⟨this.2.1,this.2.2.1⟩),hrm,(removeS_ok hok _).more (by omega),K2,f2,by omega⟩)
 ·have hi':i=old.length:=by omega
  subst hi'
  rw [List.drop_length] at hrm
  have hrm:rmAll s old=(s1,0):=hrm
  rw [hrm] at hk
  exact hk A' Fr' hJ hFr' hkp (by omega) hf
def ckS (s:DS) (q:JS) (st:List UInt8):DS × JS × Int:=
 let n:=q.row.getLast?.getD 0+1
 let x1:=appendS s fresh (putR (0,st))
 if x1.2≠0 then (x1.1,doneJ q x1.2,x1.2) else
 let x2:=syncS x1.1 fresh
 if x2.2≠0 then (x2.1,doneJ q x2.2,x2.2) else
 let x3:=renameS x2.1 fresh (Jr.nm n)
 if x3.2≠0 then (x3.1,doneJ q x3.2,x3.2) else
 let q':JS:={ q with state:=st,l:=[],row:=[n],size:=(putR (0,st)).length,some:=true }
 let y:=rmAll x3.1 q.row
 if y.2≠0 then (y.1,doneJ q' y.2,y.2) else (y.1,q',0)
def ckI (A:AW) (j d mp k:Nat) (Fl Fr:List Nat) (s:DS) (q:JS) (st:List UInt8):Nat→Nat→List Value→AW→Prop:=fun g id vals A'=>∃ vo,((appendS s fresh (putR (0,st))).2=0∧(syncS (appendS s fresh (putR (0,st))).1 fresh).2=0∧(renameS (syncS (appendS s fresh (putR (0,st))).1 fresh).1 fresh (Jr.nm (q.row.getLast?.getD 0+1))).2=0)∧CI A j d mp k Fl Fr
 (renameS (syncS (appendS s fresh (putR (0,st))).1 fresh).1 fresh (Jr.nm (q.row.getLast?.getD 0+1))).1 { q with state:=st,l:=[],row:=[q.row.getLast?.getD 0+1],size:=(putR (0,st)).length,some:=true } q.row vo g id vals A'
theorem ck_ok {A A1:AW} {j d mp k n:Nat} {q:JS} {s:DS} {Fl Fr:List Nat} {st:ByteArray} {K:Value→AW→Prop} (h:JD A1 j d mp q s Fl Fr) (hg:Glb A1) (hok:OkS k s) (hk9:k < 8000) (hf:Fine A1) (hA:A.next < 800000000000) (hAA:Keeps A A1 (j::d::mp::(Fl++Fr))) (hAn:A1.next≤A.next+50+6 * k) (h0:0≠j∧0≠d∧0≠mp) (hst:st.data.toList.length≤65536)
  {S:Nat→List Value→AW→Prop} (hS:∀ g2 id v A',ckI A j d mp k Fl Fr s q st.data.toList g2 id v A'→S id v A')
  (hn:q.row.getLast? =some n) (hn8:n+1 < 100000000) (hN:NameK W0 m0 (n+1)) (hlt:j < A.next∧(∀ x∈Fl,x < A.next)∧∀ x∈Fr,x < A.next)
  (hk:(ckS s q st.data.toList).2.2≠0→∀ A' Fl' Fr',JD A' j d mp (ckS s q st.data.toList).2.1 (ckS s q st.data.toList).1 Fl' Fr'→(∀ y∈Fl',y∈Fl∨A.next≤y)→(∀ y∈Fr',y∈Fr∨A.next≤y)→Keeps A A' (j::d::mp::(Fl++Fr))→A'.next≤A.next+200+10 * k+10 * q.row.length+10→Fine A'→K (.int .i64 (ckS s q st.data.toList).2.2) A'):
  ckT W0 m0 S K (ptr j) (.string st) (.int .i64 ((n+1:Nat):Int)) A1:=by
 have hmax:maxId=1099511627776:=rfl
 have hfew:=hok.few
 have hle0:=hAA.next
 have elast:q.row.getLast?.getD 0=n:=by rw [hn];rfl
 have hjFl:j∉Fl:=fun hm=>(h.fl j hm).2.2.1 rfl
 have hjFr:j∉Fr:=fun hm=>(h.fr j hm).2.2 rfl
 unfold ckT
 refine wc41 hg hf hst (by omega) fun A2 g2=>?_
 have n2:=g2.next
 have le2:=g2.le
 have J2:=h.keeps g2.keeps (by simp) (by simp) (by simp) (by simp) (by simp)
 have hjn2:=J2.jn
 obtain ⟨vl,vr,rl,j2,o1,hql,o2⟩:=J2.jn
 have hpl:(putR (0,st.data.toList)).length=13+st.data.toList.length:=putR_length _
 simp only [ptr,nilP_some,fa_83_0,ld_27,cell_row j2.row,cellOf,isT_ptr,cond_false,pureW_some]
 have eb:(⟨⟨putR (0,st.data.toList)⟩⟩:ByteArray).data.toList=putR (0,st.data.toList):=rfl
 have efr:(⟨⟨[106,46,110,101,119]⟩⟩:ByteArray).data.toList=fresh:=rfl
 have K2:Keeps A A2 (j::d::mp::(Fl++Fr)):=hAA.trans g2.keeps (by simp)
 unfold ckS at hk
 rw [elast] at hk
 refine wc13 (n:=⟨⟨[106,46,110,101,119]⟩⟩) (b:=⟨⟨putR (0,st.data.toList)⟩⟩) J2.dk (hok.d (by omega)) hok.n (by rw [eb,hpl];omega) g2.fine (by omega) fun A3 d3 k3 n3 f3=>?_
 rw [efr,eb] at d3 ⊢
 have J3:JD A3 j d mp q _ Fl Fr:=J2.disk k3 d3
 have le3:=k3.next
 have K3:Keeps A A3 (j::d::mp::(Fl++Fr)):=K2.trans k3 fun y hy=>.inl (dmIn y hy)
 have fail:∀ (A4:AW) (s4:DS) (e:Int),JD A4 j d mp q s4 Fl Fr→Keeps A A4 (j::d::mp::(Fl++Fr))→Fine A4→A4.next≤A.next+200+10 * k+10→(∀ A' Fl' Fr',JD A' j d mp (doneJ q e) s4 Fl' Fr'→(∀ y∈Fl',y∈Fl∨A.next≤y)→(∀ y∈Fr',y∈Fr∨A.next≤y)→Keeps A A' (j::d::mp::(Fl++Fr))→A'.next≤A.next+200+10 * k+10 * q.row.length+10→Fine A'→K (.int .i64 e) A')→
   Wc Tp theX W0 m0 57 [.pointer (some ⟨j,0,none⟩),.int .i64 e] A4 fun t26 At26=>K t26 At26:=by
  intro A4 s4 e hJ hK hF hN4 hk4
  refine wc57 hJ.jn hF (by omega) hjFl hjFr fun A5 j5 k5 n5 f5=>?_
  exact hk4 A5 Fl Fr ⟨j5,hJ.dk.keeps k5 (by simp;exact fun h=>hJ.nd.1 h.symm) (by simp;exact fun h=>hJ.nd.2 h.symm),hJ.nd,hJ.fl,hJ.fr⟩ (fun y hy=>.inl hy) (fun y hy=>.inl hy) (hK.trans k5 fun y hy=>.inl (by simp [List.mem_singleton.1 hy])) (by omega) f5
 simp only [bin_neq,pureW_some]
 refine forkW_bne.2 ⟨fun he=>?_,fun he=>?_⟩
 ·simp only [if_pos he] at hk
  exact fail A3 _ _ J3 K3 f3 (by omega) (hk he)
 simp only [if_neg (by simpa using he:¬ (appendS s fresh (putR (0,st.data.toList))).2≠0)] at hk
 have hok3:OkS (k+1) (appendS s fresh (putR (0,st.data.toList))).1:=appendS_ok hok _ _
 have j3:=j2.keeps k3 (by simp;exact h.nd)
 simp only [cell_row j3.row,cellOf,isT_ptr,cond_false,pureW_some]
 refine wc44 (n:=⟨⟨[106,46,110,101,119]⟩⟩) J3.dk hok3.n f3 (by omega) fun A4 d4 k4 n4 f4=>?_
 rw [efr] at d4 ⊢
 have J4:JD A4 j d mp q _ Fl Fr:=J3.disk k4 d4
 have le4:=k4.next
 have K4:Keeps A A4 (j::d::mp::(Fl++Fr)):=K3.trans k4 fun y hy=>.inl (dmIn y hy)
 simp only [bin_neq,pureW_some]
 refine forkW_bne.2 ⟨fun he2=>?_,fun he2=>?_⟩
 ·simp only [if_pos he2] at hk
  exact fail A4 _ _ J4 K4 f4 (by omega) (hk he2)
 simp only [if_neg (by simpa using he2:¬ (syncS (appendS s fresh (putR (0,st.data.toList))).1 fresh).2≠0)] at hk
 have hok4:OkS (k+2) (syncS (appendS s fresh (putR (0,st.data.toList))).1 fresh).1:=syncS_ok hok3 _
 have j4:=j3.keeps k4 (by simp;exact h.nd)
 simp only [cell_row j4.row,cellOf,isT_ptr,cond_false,pureW_some]
 refine knOne (by decide) hN rfl ?_
 simp only [cell_row j4.row,cellOf,isT_ptr,cond_false,pureW_some,eqW_self]
 refine wc46 (n:=⟨⟨[106,46,110,101,119]⟩⟩) (t:=⟨⟨Jr.nm (n+1)⟩⟩) J4.dk hok4.n f4 (by omega) fun A5 d5 k5 n5 f5=>?_
 have en:(⟨⟨Jr.nm (n+1)⟩⟩:ByteArray).data.toList=Jr.nm (n+1):=rfl
 rw [efr,en] at d5 ⊢
 have J5:JD A5 j d mp q _ Fl Fr:=J4.disk k5 d5
 have le5:=k5.next
 have K5:Keeps A A5 (j::d::mp::(Fl++Fr)):=K4.trans k5 fun y hy=>.inl (dmIn y hy)
 simp only [bin_neq,pureW_some]
 refine forkW_bne.2 ⟨fun he3=>?_,fun he3=>?_⟩
 ·simp only [if_pos he3] at hk
  exact fail A5 _ _ J5 K5 f5 (by omega) (hk he3)
 have hok5:OkS (k+3) (renameS (syncS (appendS s fresh (putR (0,st.data.toList))).1 fresh).1 fresh (Jr.nm (n+1))).1:=renameS_ok hok4 _ _
 obtain ⟨wl,wr,rl5,j5,p1,hql5,p2⟩:=J5.jn
 have hwl:=p1.one
 have hwr:=p2.one
 simp only [fa_83_2,fa_83_3,fa_83_4,fa_83_5,fa_83_6,Nat.zero_add,ld_46,cell_row j5.row,cellOf,isT_ptr,isT_int,isT_string,hwl.2,hwr.2,cond_false,pureW_some]
 refine bsMade (bs46 A5 ((n+1:Nat):Int)) rfl f5 (by omega) fun A6 m6=>?_
 have n6:=m6.next
 have k6:=m6.keeps f5
 have j6:=j5.keeps k6 (by simp)
 simp only [ln_9,eb,pureW_some]
 refine j6.store m6.fine (by omega) (st_9 _ _ _) rfl (by show 2+1≤8;omega) rfl fun A7 j7 k7 n7 f7=>?_
 have j7:Go.Abs.Row1 A7 j [.pointer (some ⟨d,0,none⟩),.int .i64 q.limit,.string st,wl,wr,.int .i64 (q.size:Int),.bool q.some,.bool q.broken] 83:=j7
 have k7:Keeps A6 A7 [j]:=k7
 refine j7.store f7 (by omega) (st_22 _ _ _) rfl (by show 3+1≤8;omega) rfl fun A8 j8 k8 n8 f8=>?_
 have j8:Go.Abs.Row1 A8 j [.pointer (some ⟨d,0,none⟩),.int .i64 q.limit,.string st,.slice none 0 0,wr,.int .i64 (q.size:Int),.bool q.some,.bool q.broken] 83:=j8
 have k8:Keeps A7 A8 [j]:=k8
 refine j8.store f8 (by omega) (st_46 _ _ _) rfl (by show 4+1≤8;omega) rfl fun A9 j9 k9 n9 f9=>?_
 have j9:Go.Abs.Row1 A9 j [.pointer (some ⟨d,0,none⟩),.int .i64 q.limit,.string st,.slice none 0 0,.slice (some ⟨A5.next,0,none⟩) 1 1,.int .i64 (q.size:Int),.bool q.some,.bool q.broken] 83:=j9
 have k9:Keeps A8 A9 [j]:=k9
 refine j9.store f9 (by omega) (st_3 _ _ _) rfl (by show 5+1≤8;omega) rfl fun A10 j10 k10 n10 f10=>?_
 have j10:Go.Abs.Row1 A10 j [.pointer (some ⟨d,0,none⟩),.int .i64 q.limit,.string st,.slice none 0 0,.slice (some ⟨A5.next,0,none⟩) 1 1,.int .i64 ((putR (0,st.data.toList)).length:Int),.bool q.some,.bool q.broken] 83:=j10
 have k10:Keeps A9 A10 [j]:=k10
 refine j10.store f10 (by omega) (st_4 _ _ _) rfl (by show 6+1≤8;omega) rfl fun A11 j11 k11 n11 f11=>?_
 have j11:Go.Abs.Row1 A11 j [.pointer (some ⟨d,0,none⟩),.int .i64 q.limit,.string st,.slice none 0 0,.slice (some ⟨A5.next,0,none⟩) 1 1,.int .i64 ((putR (0,st.data.toList)).length:Int),.bool true,.bool q.broken] 83:=j11
 have k11:Keeps A10 A11 [j]:=k11
 have k611:Keeps A6 A11 [j]:=(((k7.trans k8 (by simp)).trans k9 (by simp)).trans k10 (by simp)).trans k11 (by simp)
 have k511:Keeps A5 A11 [j]:=(k6.more (by simp)).trans k611 (by simp)
 have r6:Go.Abs.Row1 A6 A5.next (flat fI [n+1]) 3:=m6.row1
 have hjlt:=j5.lt
 have r11:=r6.keeps k611 (by simp;omega)
 have hvo:OwnF 3 0 fI A11 wr q.row Fr:=p2.keeps k511 fun y hy=>by simp;rintro rfl;exact hjFr hy
 rw [esI.lenR (hvo.rd esI.len)]
 simp only [pureW_some]
 have est:(⟨⟨st.data.toList⟩⟩:ByteArray)=st:=rfl
 have dk11:=J5.dk.keeps k511 (by simp;exact fun h'=>h.nd.1 h'.symm) (by simp;exact fun h'=>h.nd.2 h'.symm)
 have hdl:=J5.dk.lt
 refine cutW_self.2 (hS q.row.length 0 _ _ ⟨wr,⟨he,he2,by rw [elast];exact he3⟩,rfl,0,_,[A5.next],rfl,by omega,rfl,⟨⟨.slice none 0 0,.slice (some ⟨A5.next,0,none⟩) 1 1,[],j11,OwnF.nil _,rfl,.inr ⟨A5.next,by rw [elast];rfl,by simp,by rw [elast];exact r11,rfl⟩⟩,by rw [elast];exact dk11,h.nd,by simp,fun y hy=>?_⟩,fun y hy=>?_,hvo,rfl,by rw [elast];exact hok5.more (by omega),K5.trans k511 (fun y hy=>.inl (by simp [List.mem_singleton.1 hy])),f11,by omega⟩)
 ·rw [List.mem_singleton.1 hy];exact ⟨by omega,by omega,by omega⟩
 ·rw [List.mem_singleton.1 hy];omega
theorem ckS_eq (s:DS) (names:List (List UInt8)) (q:JS) (st:List UInt8) (hb:q.broken=false) (hst:¬ 65536 < st.length) (hn:¬ 99999999 < q.row.getLast?.getD 0+1):checkpointJ s names q st=
  (if (if fresh∈names then removeS s fresh else (s,0)).2≠0 then ((if fresh∈names then removeS s fresh else (s,0)).1,doneJ q (if fresh∈names then removeS s fresh else (s,0)).2,(if fresh∈names then removeS s fresh else (s,0)).2) else ckS (if fresh∈names then removeS s fresh else (s,0)).1 q st):=by
 unfold checkpointJ ckS
 rw [if_neg (by rw [hb];simp),if_neg hst]
 simp only
 rw [if_neg hn]
theorem wc16 {A:AW} {j d mp k n:Nat} {q:JS} {s:DS} {Fl Fr:List Nat} {st:ByteArray} {K:Value→AW→Prop} (h:JD A j d mp q s Fl Fr) (hg:Glb A) (hok:OkS k s) (hk9:k+q.row.length < 7000) (hf:Fine A) (hA:A.next < 800000000000) (h0:0≠j∧0≠d∧0≠mp) (hst:st.data.toList.length≤65536)
  (hn:q.row.getLast? =some n) (hn8:n+1 < 100000000) (hN:NameK W0 m0 (n+1)) (hNr:∀ x∈q.row,NameK W0 m0 x)
  (hk:∀ A' Fl' Fr',JD A' j d mp (checkpointJ s (namesS s.D) q st.data.toList).2.1 (checkpointJ s (namesS s.D) q st.data.toList).1 Fl' Fr'→(∀ y∈Fl',y∈Fl∨A.next≤y)→(∀ y∈Fr',y∈Fr∨A.next≤y)→Keeps A A' (j::d::mp::(Fl++Fr))→A'.next≤A.next+240+10 * k+10 * q.row.length→Fine A'→K (.int .i64 (checkpointJ s (namesS s.D) q st.data.toList).2.2) A'):
  Wc Tp theX W0 m0 16 [ptr j,.string st] A K:=by
 have hmax:maxId=1099511627776:=rfl
 have hfew:=hok.few
 have hjd:=h
 have hjA:=h.jn.lt
 have hFlA:∀ y∈Fl,y < A.next:=by obtain ⟨_,_,_,_,a,_,_⟩:=h.jn;exact a.lt
 have hFrA:∀ y∈Fr,y < A.next:=by obtain ⟨_,_,_,_,_,_,a⟩:=h.jn;exact a.lt
 have elast:q.row.getLast?.getD 0=n:=by rw [hn];rfl
 have hloop:∀ x∈Fr,x < A.next∧x≠d∧x≠mp∧x≠j:=fun x hx=>⟨hFrA x hx,h.fr x hx⟩
 by_cases hb:q.broken=true
 ·have he:checkpointJ s (namesS s.D) q st.data.toList=(s,q,100):=by unfold checkpointJ;rw [if_pos hb]
  rw [he] at hk
  refine w16 _ _ _ (cuts_none (S:=fun _ _ _=>False) fun _ _ _ h=>h) ?_
  rw [e16f]
  refine wc53 h.jn ?_
  simp only [un_not,pureW_some]
  refine forkW_bool.2 ⟨fun h=>by simp at h,fun _=>?_⟩
  refine wc54 h.jn ?_
  rw [if_pos hb]
  simp only [bin_neq,pureW_some]
  exact forkW_bne.2 ⟨fun _=>hk A Fl Fr hjd (fun y hy=>.inl hy) (fun y hy=>.inl hy) (.refl _ _) (by omega) hf,fun h=>by simp at h⟩
 have hb:q.broken=false:=by simpa using hb
 rw [ckS_eq s (namesS s.D) q st.data.toList hb (by omega) (by rw [elast];omega)] at hk
 obtain ⟨x0,hx0⟩:∃ x0,(if fresh∈namesS s.D then removeS s fresh else (s,0))=x0:=⟨_,rfl⟩
 rw [hx0] at hk
 have hokx:OkS (k+1) x0.1:=by
  rw [← hx0]
  split
  ·exact removeS_ok hok _
  ·exact hok.more (by omega)
 have hJ0:∀ A1,Jn A1 j d q Fl Fr→Dk A1 d mp x0.1→JD A1 j d mp q x0.1 Fl Fr:=fun A1 h1 h2=>⟨h1,h2,hjd.nd,hjd.fl,hjd.fr⟩
 refine w16 _ _ _ (c16 (I:=fun g id vals A'=>x0.2=0∧ckI A j d mp (k+1) Fl Fr x0.1 q st.data.toList g id vals A') fun g id vals A' dd hI hd'=>?_) ?_
 ·obtain ⟨hx2,vo,⟨hz1,hz2,hz3⟩,hCI⟩:=hI
  obtain rfl:id=0:=hCI.1
  rw [if_neg (by simpa using hx2)] at hk
  unfold ckS at hk
  simp only [if_neg (by simpa using hz1:¬ (appendS x0.1 fresh (putR (0,st.data.toList))).2≠0),if_neg (by simpa using hz2:¬ (syncS (appendS x0.1 fresh (putR (0,st.data.toList))).1 fresh).2≠0),if_neg (by simpa using hz3:¬ (renameS (syncS (appendS x0.1 fresh (putR (0,st.data.toList))).1 fresh).1 fresh (Jr.nm (q.row.getLast?.getD 0+1))).2≠0)] at hk
  refine ck_loop (k:=k+1) hloop hA (by omega) hNr (fun A2 Fr' h1 h2 h3 h4 h5=>?_) (fun g2 id v A'' hg2 hc=>⟨g2,hg2,hx2,vo,⟨hz1,hz2,hz3⟩,hc⟩) hCI hd'
  refine (fun hk0=>?_:_→_) hk
  by_cases hy:(rmAll (renameS (syncS (appendS x0.1 fresh (putR (0,st.data.toList))).1 fresh).1 fresh (Jr.nm (q.row.getLast?.getD 0+1))).1 q.row).2=0
  ·rw [if_neg (by simpa using hy)] at hk0 h1
   have:=hk0 A2 [] Fr' h1 (by simp) (fun y hy=>.inr (h2 y hy)) h3 (by omega) h5
   rw [hy]
   exact this
  ·rw [if_pos hy] at hk0 h1
   exact hk0 A2 [] Fr' h1 (by simp) (fun y hy=>.inr (h2 y hy)) h3 (by omega) h5
 rw [e16f]
 refine wc53 h.jn ?_
 simp only [un_not,pureW_some]
 refine forkW_bool.2 ⟨fun h=>by simp at h,fun _=>?_⟩
 refine wc54 h.jn ?_
 rw [if_neg (by rw [hb];simp)]
 simp only [bin_neq,pureW_some,ln_9,bin_gtr,forkW_dec]
 refine forkW_bne.2 ⟨fun h=>by simp at h,fun _=>⟨fun h=>by omega,fun _=>?_⟩⟩
 refine wc56 h.jn hn (by omega) ?_
 obtain ⟨vl,vr,rl,j1,o1,hql,o2⟩:=h.jn
 simp only [bin_add,pureW_some,bin_gtr]
 rw [wrap_i64 (by omega) (by omega)]
 have en1:(n:Int)+1=((n+1:Nat):Int):=by omega
 simp only [forkW_dec]
 refine ⟨fun h=>by omega,fun _=>?_⟩
 simp only [ptr,nilP_some,fa_83_0,ld_27,cell_row j1.row,cellOf,isT_ptr,cond_false,pureW_some]
 refine wc11 h.dk hf (by omega) (by omega) fun A1 sv Fn h1 hFn k1 n1 f1=>?_
 have hrd:=names_rd h1
 have hnl:(namesS s.D).length=s.D.length:=by unfold namesS;rw [List.length_mergeSort,List.length_map]
 refine wc38 (k:=⟨⟨[106,46,110,101,119]⟩⟩) hrd (by omega) ?_
 have efr:(⟨⟨[106,46,110,101,119]⟩⟩:ByteArray).data.toList=fresh:=rfl
 rw [efr]
 have J1:=hjd.keeps k1 (by simp) (by simp) (by simp) (by simp) (by simp)
 have le1:=k1.next
 have K1:Keeps A A1 (j::d::mp::(Fl++Fr)):=k1.more (by simp)
 have hjlt:j < A.next∧(∀ x∈Fl,x < A.next)∧∀ x∈Fr,x < A.next:=⟨hjA,hFlA,hFrA⟩
 refine forkW_bool.2 ⟨fun hin=>?_,fun hin=>?_⟩
 ·have hin:fresh∈namesS s.D:=by simpa using hin
  rw [if_pos hin] at hx0
  have j1':=j1.keeps k1 (by simp)
  simp only [cell_row j1'.row,cellOf,isT_ptr,cond_false,pureW_some]
  refine wc40 (n:=⟨⟨[106,46,110,101,119]⟩⟩) J1.dk hok.n f1 (by omega) fun A2 d2 k2 n2 f2=>?_
  rw [efr,hx0] at d2 ⊢
  have J2:=J1.disk k2 d2
  have le2:=k2.next
  have K2:Keeps A A2 (j::d::mp::(Fl++Fr)):=K1.trans k2 fun y hy=>.inl (dmIn y hy)
  simp only [bin_neq,pureW_some]
  refine forkW_bne.2 ⟨fun he=>?_,fun he=>?_⟩
  ·rw [if_pos he] at hk
   refine wc57 J2.jn f2 (by omega) (fun hm=>(hjd.fl j hm).2.2.1 rfl) (fun hm=>(hjd.fr j hm).2.2 rfl) fun A3 j3 k3 n3 f3=>?_
   exact hk A3 Fl Fr ⟨j3,J2.dk.keeps k3 (by simp;exact fun h=>hjd.nd.1 h.symm) (by simp;exact fun h=>hjd.nd.2 h.symm),hjd.nd,hjd.fl,hjd.fr⟩ (fun y hy=>.inl hy) (fun y hy=>.inl hy) (K2.trans k3 fun y hy=>.inl (by simp [List.mem_singleton.1 hy])) (by omega) f3
  ·have he:x0.2=0:=by simpa using he
   rw [if_neg (by simpa using he)] at hk
   rw [en1]
   exact (ck_ok (W0:=W0) (m0:=m0) (A:=A) (K:=K) J2 ((hg.keeps k1 (by simp)).keeps k2 (by simp;exact h0.2)) (hokx.more (Nat.le_refl _)) (by omega) f2 hA K2 (by omega) h0 hst (fun g2 id v A' hh=>⟨g2,he,hh⟩) hn hn8 hN hjlt (fun hne A' Fl' Fr' a1 a2 a3 a4 a5 a6=>hk A' Fl' Fr' a1 a2 a3 a4 (by omega) a6))
 ·have hin:fresh∉namesS s.D:=by simpa using hin
  rw [if_neg hin] at hx0
  subst hx0
  rw [if_neg (by simp)] at hk
  rw [en1]
  exact (ck_ok (W0:=W0) (m0:=m0) (A:=A) (K:=K) J1 (hg.keeps k1 (by simp)) hokx (by omega) f1 hA K1 (by omega) h0 hst (fun g2 id v A' hh=>⟨g2,rfl,hh⟩) hn hn8 hN hjlt (fun hne A' Fl' Fr' a1 a2 a3 a4 a5 a6=>hk A' Fl' Fr' a1 a2 a3 a4 (by omega) a6))
end
def fZ (n:Int):List Value:=[.int .i64 n]
structure AV where
 what:UInt8
 r:RV
 n:Int
 o:Option Addr
 len:Nat
 cap:Nat
 file:ByteArray
def fA (x:AV):List Value:=[.int .u8 x.what.toNat,.int .u8 x.r.1.toNat,.string x.r.2,.int .i64 x.n,.slice x.o x.len x.cap,.string x.file]
theorem etA:ET Tp 45 48 5 fA where
 us:=by kernel_rfl
 sz:=by kernel_rfl
 ag:=by kernel_rfl
 by':=⟨80,by kernel_rfl,by decide⟩
 hz:=by kernel_rfl
 len:=fun _=>rfl
 one:=fun _=>rfl
 noT:=fun _=>rfl
theorem zA:zeroT Tp 48=some (.agg ⟨[.int .u8 0,.int .u8 0,.string ⟨⟨[]⟩⟩,.int .i64 0,.slice none 0 0,.string ⟨⟨[]⟩⟩]⟩):=by kernel_rfl
def RdA (A:AW) (x:Value) (n:Nat) (l:List AV) (F:List Nat):Prop:=∃ o c,x=.slice o n c∧l.length≤n∧RdE 5 fA A (.slice o l.length c) l F
theorem RdA.keeps {A A':AW} {x:Value} {n:Nat} {l:List AV} {F S:List Nat} (h:RdA A x n l F) (k:Keeps A A' S) (hd:∀ y∈F,y∉S):RdA A' x n l F:=by
 obtain ⟨o,c,h1,h2,h3⟩:=h
 exact ⟨o,c,h1,h2,h3.keeps k hd⟩
theorem RdA.len {A B:AW} {x:Value} {n:Nat} {l:List AV} {F:List Nat} (h:RdA A x n l F):lenA Tp B 45 x=some (.int .i64 (n:Int)):=by
 obtain ⟨o,c,rfl,_,_⟩:=h
 exact ln_45 _ _ _ _
theorem RdA.at {A:AW} {x:Value} {n:Nat} {l:List AV} {F:List Nat} (h:RdA A x n l F) {i:Nat} {p:AV} (hi:l[i]? =some p):
  ∃ r o,indexAddrA Tp 45 x (.int .i64 (i:Int))=some (.pointer (some ⟨r,o,none⟩))∧A.cells? ⟨r,o,none⟩ 6=some (fA p)∧loadP Tp A 48 (.pointer (some ⟨r,o,none⟩))=some (.agg ⟨fA p⟩):=by
 obtain ⟨o,c,rfl,h2,h3⟩:=h
 have hlt:i < l.length:=(List.getElem?_eq_some_iff.1 hi).1
 obtain ⟨r,o',a1,a2,a3⟩:=h3.at etA hi
 refine ⟨r,o',?_,a2,a3⟩
 rcases h3 with ⟨rfl,_⟩ | ⟨r2,o2,c2,cs,e,g,b,ro,hs,_⟩
 ·simp at hi
 ·simp only [Value.slice.injEq] at hs
  obtain ⟨rfl,_,rfl⟩:=hs
  rw [ia_elem etA hlt] at a1
  rw [ia_elem etA (by omega)]
  exact a1
def big (x:AV):Bool:=decide (200 < x.r.2.data.toList.length) || (decide (20 < x.len) || decide (60 < x.file.data.toList.length))
theorem ba_eqJ {a b:ByteArray} (h:a.data.toList=b.data.toList):a=b:=by
 cases a with | mk a=>cases b with | mk b=>cases a;cases b;simpa using h
theorem ft35:quiet Tp (underlying 35)=some (.struct (Tp.fieldsOf 35)):=by kernel_rfl
noncomputable def F35 (i:Nat):Field:=(Tp.fieldsOf 35).toList.getD i default
theorem fs35:(Tp.fieldsOf 35).toList=[F35 0,F35 1]:=by kernel_rfl
theorem pt35_0 (n:Int) (b:ByteArray):quiet Tp (part (F35 0).type ⟨[.int .u8 n,.string b]⟩ (F35 0).offset)=some (.int .u8 n):=by kernel_rfl
theorem pt35_1 (n:Int) (b:ByteArray):quiet Tp (part (F35 1).type ⟨[.int .u8 n,.string b]⟩ (F35 1).offset)=some (.string b):=by kernel_rfl
theorem ty35_0:(F35 0).type=5:=by kernel_rfl
theorem ty35_1:(F35 1).type=9:=by kernel_rfl
theorem ut5:quiet Tp (underlying 5)=some (.int .u8):=by kernel_rfl
def sameR (p q:RV):Bool:=((p.1.toNat:Int)==(q.1.toNat:Int))&&p.2.data.toList==q.2.data.toList
theorem sameR_iff {p q:RV}:sameR p q=true↔p=q:=by
 unfold sameR
 simp only [Bool.and_eq_true,beq_iff_eq]
 constructor
 ·rintro ⟨h1,h2⟩
  obtain ⟨a,b⟩:=p
  obtain ⟨c,d⟩:=q
  have h3:=ba_eqJ h2
  have h1:(a.toNat:Int)=(c.toNat:Int):=h1
  have h1:a.toNat=c.toNat:=by omega
  simp only at h3
  rw [UInt8.toNat_inj.1 h1,h3]
 ·rintro rfl;exact ⟨rfl,rfl⟩
theorem quiet35 (n:Nat) (p q:RV):quiet Tp (Op.equalIn (n+1+1) 35 (.agg ⟨fR p⟩) (.agg ⟨fR q⟩))=some (sameR p q):=by
 show quiet Tp (Op.equalIn (n+1+1) 35 (.agg ⟨[.int .u8 p.1.toNat,.string p.2]⟩) (.agg ⟨[.int .u8 q.1.toNat,.string q.2]⟩))=_
 rw [quiet_struct (n+1) 35 _ _ ft35 (by kernel_rfl),fs35]
 rw [quiet_fieldR (by kernel_rfl) (pt35_0 _ p.2) (pt35_0 _ q.2) (by rw [ty35_0];exact quiet_eq_int n 5 _ _ _ _ ut5)]
 rw [quiet_fieldR (by kernel_rfl) (pt35_1 _ p.2) (pt35_1 _ q.2) (by rw [ty35_1];exact quiet_eqs ut9)]
 unfold sameR
 cases (p.1.toNat:Int)==(q.1.toNat:Int) <;> cases p.2.data.toList==q.2.data.toList <;> rfl
theorem neqR (p q:RV) (xo yo:Operand):binA Tp .neq 35 xo yo (.agg ⟨fR p⟩) (.agg ⟨fR q⟩)=some (.bool !(sameR p q)):=by
 have hg:eqGuardA Tp 35 xo yo (.agg ⟨fR p⟩) (.agg ⟨fR q⟩)=true:=by
  show (!Tp.eqGuardType Tp.depth 35)=true
  kernel_rfl
 have he:eqA Tp 35 (.agg ⟨fR p⟩) (.agg ⟨fR q⟩)=some (sameR p q):=by
  unfold eqA
  have hc:(closedV 4 (.agg ⟨fR p⟩)&&closedV 4 (.agg ⟨fR q⟩))=true:=rfl
  rw [hc,cond_true]
  exact quiet35 9998 p q
 show (bif eqGuardA Tp 35 xo yo (.agg ⟨fR p⟩) (.agg ⟨fR q⟩) then (match eqA Tp 35 (.agg ⟨fR p⟩) (.agg ⟨fR q⟩) with | some b=>some (Value.bool !b) | none=>none) else none)=_
 rw [hg,cond_true,he]
section
variable {W0:World} {m0:Inj Tp}
theorem wc14 {A:AW} {x:AV} {K:Value→AW→Prop} (hf:Fine A) (hA:A.next < maxId) (hk:∀ A',Grow A A' 1→K (.bool (big x)) A'):Wc Tp theX W0 m0 14 [.agg ⟨fA x⟩] A K:=by
 refine w14 _ _ (cuts_none (S:=fun _ _ _=>False) fun _ _ _ h=>h) ?_
 rw [e14]
 refine newP_made (cs:=fA x) hf hA rfl fun A1 m1=>?_
 have g1:=Grow.made m1 hf
 have r1:Go.Abs.Row1 A1 A.next [.int .u8 x.what.toNat,.int .u8 x.r.1.toNat,.string x.r.2,.int .i64 x.n,.slice x.o x.len x.cap,.string x.file] 48:=m1.row1
 have hk1:=hk A1 g1
 unfold big at hk1
 simp only [fa_48_1,fa_48_3,fa_48_4,fa_35_1,ld_9,ld_46,cell_row r1.row,cellOf,isTuple,cond_false,pureW_some,ln_9,ln_46,bin_gtr,forkW_dec,Nat.zero_add]
 refine ⟨fun h=>?_,fun h1=>⟨fun h=>?_,fun h2=>?_⟩⟩
 ·rw [decide_eq_true (by omega),Bool.true_or] at hk1
  exact hk1
 ·rw [decide_eq_false (by omega),Bool.false_or,decide_eq_true (show 20 < x.len by omega),Bool.true_or] at hk1
  exact hk1
 ·rw [decide_eq_false (by omega),Bool.false_or,decide_eq_false (show ¬ 20 < x.len by omega),Bool.false_or] at hk1
  have e:decide ((60:Int) < (x.file.data.toList.length:Int))=decide (60 < x.file.data.toList.length):=by
   by_cases h:60 < x.file.data.toList.length
   ·rw [decide_eq_true h,decide_eq_true (by omega)]
   ·rw [decide_eq_false h,decide_eq_false (by omega)]
  rw [e]
  exact hk1
theorem wc20 {A:AW} {a b:Value} {la lb:List RV} {Fa Fb:List Nat} {K:Value→AW→Prop} (ha:RdE 1 fR A a la Fa) (hb:RdE 1 fR A b lb Fb) (hl:lb.length < 1000000) (hk:∀ r:Bool,(r=true↔la=lb)→K (.bool r) A):Wc Tp theX W0 m0 20 [a,b] A K:=by
 let I:Nat→Nat→List Value→AW→Prop:=fun g id vals A'=>id=0∧A'=A∧∃ i:Nat,vals=[a,b,.int .i64 (i:Int)]∧i≤la.length∧g=la.length - i∧la.length=lb.length∧la.take i=lb.take i
 refine w20 _ _ _ (c20 (I:=I) fun g id vals A' d hI hd'=>?_) ?_
 ·obtain ⟨rfl,rfl,i,rfl,hi,rfl,hll,htk⟩:=hI
  rw [l20_0]
  simp only [L20,List.map_cons,List.map_nil,List.cons.injEq,and_true] at hd'
  obtain ⟨h0,h1,h5⟩:=hd'
  simp only [h0,h1,h5,ha.len etR,bin_lss,pureW_some,forkW_dec]
  refine ⟨fun hlt=>?_,fun hge=>?_⟩
  ·have hlt:i < la.length:=by omega
   obtain ⟨p,hp⟩:∃ p,la[i]? =some p:=⟨_,List.getElem?_eq_getElem hlt⟩
   obtain ⟨q,hq⟩:∃ q,lb[i]? =some q:=⟨_,List.getElem?_eq_getElem (by omega)⟩
   obtain ⟨r,o,a1,a2,a3⟩:=ha.at etR hp
   obtain ⟨r',o',b1,b2,b3⟩:=hb.at etR hq
   simp only [a1,a3,b1,b3,pureW_some,neqR]
   refine forkW_bool.2 ⟨fun hne=>hk false ⟨fun h=>by simp at h,fun h=>?_⟩,fun heq=>?_⟩
   ·subst h
    rw [hp] at hq
    obtain rfl:p=q:=by simpa using hq
    rw [sameR_iff.2 rfl] at hne
    simp at hne
   ·have hpq:p=q:=by
     cases hs:sameR p q with
     | true=>exact sameR_iff.1 hs
     | false=>rw [hs] at heq;simp at heq
    subst hpq
    simp only [bin_add,pureW_some]
    rw [wrap_i64 (by omega) (by omega)]
    refine cutW_self.2 ⟨la.length - (i+1),by omega,rfl,rfl,i+1,by simp,by omega,rfl,hll,?_⟩
    rw [List.take_add_one,List.take_add_one,hp,hq,htk]
  ·have hi':i=la.length:=by omega
   subst hi'
   refine hk true ⟨fun _=>?_,fun _=>rfl⟩
   rw [List.take_length] at htk
   rw [htk,hll,List.take_length]
 ·rw [e20]
  simp only [ha.len etR,hb.len etR,pureW_some,bin_neq]
  refine forkW_bne.2 ⟨fun h=>hk false ⟨fun h=>by simp at h,fun h2=>absurd (by rw [h2]) h⟩,fun h=>?_⟩
  exact cutW_self.2 ⟨la.length - 0,rfl,rfl,0,rfl,by omega,rfl,by omega,by simp⟩
end
end Go.Proofs.YtbchfeibhoobeaaGreatDoor
namespace Go.Proofs.YtbchfeibhoobeaaGreatDoor
open Go.Jr
def filesB (n0:Nat) (F:Nat→Nat) (bs:List (List UInt8)):Fls:=bs.zipIdx.map fun x=>(Jr.nm (x.2+n0),(x.1,F x.2))
theorem filesB_snoc (n0:Nat) (F:Nat→Nat) (bs:List (List UInt8)) (b:List UInt8):filesB n0 F (bs++[b])=filesB n0 F bs++[(Jr.nm (bs.length+n0),(b,F bs.length))]:=by
 unfold filesB
 rw [List.zipIdx_append,List.map_append]
 simp
theorem filesB_congr {n0:Nat} {F G:Nat→Nat} {bs:List (List UInt8)} (h:∀ i,i < bs.length→F i=G i):filesB n0 F bs=filesB n0 G bs:=by
 unfold filesB
 apply List.map_congr_left
 rintro ⟨b,i⟩ hm
 have:=(List.getElem?_eq_some_iff.1 (List.mem_zipIdx_iff_getElem?.1 hm)).1
 rw [h i this]
theorem filesB_mem {n0:Nat} {F:Nat→Nat} {bs:List (List UInt8)} {e:List UInt8 × Fil} (h:e∈filesB n0 F bs):∃ i b,bs[i]? =some b∧e=(Jr.nm (i+n0),(b,F i)):=by
 obtain ⟨⟨b,i⟩,hm,rfl⟩:=List.mem_map.1 h
 exact ⟨i,b,List.mem_zipIdx_iff_getElem?.1 hm,rfl⟩
theorem filesB_len (n0:Nat) (F:Nat→Nat) (bs:List (List UInt8)):(filesB n0 F bs).length=bs.length:=by unfold filesB;rw [List.length_map,List.length_zipIdx]
theorem filesB_ne {n0:Nat} {F:Nat→Nat} {bs:List (List UInt8)} {n:Nat} (hn:bs.length+n0≤n) (h64:n < 64):∀ e∈filesB n0 F bs,e.1≠Jr.nm n:=by
 intro e he h
 obtain ⟨i,b,hi,rfl⟩:=filesB_mem he
 have:=(List.getElem?_eq_some_iff.1 hi).1
 have:=nm_inj (by omega) h64 h
 omega
theorem filesB_fresh {n0:Nat} {F:Nat→Nat} {bs:List (List UInt8)} (h64:bs.length+n0 < 64):∀ e∈filesB n0 F bs,e.1≠fresh:=by
 intro e he
 obtain ⟨i,b,hi,rfl⟩:=filesB_mem he
 have:=(List.getElem?_eq_some_iff.1 hi).1
 exact (nm_ok (i+n0) (by omega)).2.2
theorem lookB_last (n0:Nat) (F:Nat→Nat) (bs:List (List UInt8)) (b:List UInt8) (h64:bs.length+n0 < 64):lookF (filesB n0 F (bs++[b])) (Jr.nm (bs.length+n0))=some (b,F bs.length):=by
 rw [filesB_snoc,lookF_app (filesB_ne (by omega) h64)]
 simp [lookF]
theorem lookB_none (n0:Nat) (F:Nat→Nat) (bs:List (List UInt8)) {n:Nat} (hn:bs.length+n0≤n) (h64:n < 64):lookF (filesB n0 F bs) (Jr.nm n)=none:=by
 have:=lookF_app (filesB_ne (F:=F) hn h64) []
 rw [List.append_nil] at this
 rw [this];rfl
theorem putB_last (n0:Nat) (F:Nat→Nat) (bs:List (List UInt8)) (b b':List UInt8) (n:Nat) (h64:bs.length+n0 < 64):putF (filesB n0 F (bs++[b])) (Jr.nm (bs.length+n0)) (b',n)=filesB n0 (fun i=>if i=bs.length then n else F i) (bs++[b']):=by
 rw [filesB_snoc,putF_app (filesB_ne (by omega) h64),filesB_snoc]
 simp only [putF,BEq.rfl,if_true]
 congr 1
 exact filesB_congr fun i hi=>by rw [if_neg (by omega)]
theorem putB_new (n0:Nat) (F:Nat→Nat) (bs:List (List UInt8)) (b:List UInt8) (n:Nat) (h64:bs.length+n0 < 64):putF (filesB n0 F bs) (Jr.nm (bs.length+n0)) (b,n)=filesB n0 (fun i=>if i=bs.length then n else F i) (bs++[b]):=by
 have:=putF_app (filesB_ne (F:=F) (bs:=bs) (n:=bs.length+n0) (Nat.le_refl _) h64) (b,n) []
 rw [List.append_nil] at this
 rw [this,filesB_snoc]
 simp only [putF,if_true]
 congr 1
 exact filesB_congr fun i hi=>by rw [if_neg (by omega)]
theorem usedB_files (n0:Nat) (F:Nat→Nat) (bs:List (List UInt8)):usedF (filesB n0 F bs)=bs.flatten.length:=by
 unfold usedF filesB
 rw [List.map_map,List.length_flatten,foldr_add]
 congr 1
 rw [List.zipIdx_eq_zip_range']
 rw [show (fun e:List UInt8 × Fil=>e.2.1.length)∘(fun x:List UInt8 × Nat=>(Jr.nm (x.2+n0),(x.1,F x.2)))=fun x=>x.1.length from rfl]
 rw [show (fun x:List UInt8 × Nat=>x.1.length)=List.length∘Prod.fst from rfl,← List.map_map,List.map_fst_zip (by simp)]
theorem names_filesB (n0:Nat) (F:Nat→Nat) (bs:List (List UInt8)) (h64:bs.length+n0 < 64):namesS (filesB n0 F bs)=bs.zipIdx.map fun x=>Jr.nm (x.2+n0):=by
 unfold namesS
 have e:(filesB n0 F bs).map (·.1)=bs.zipIdx.map fun x=>Jr.nm (x.2+n0):=by unfold filesB;rw [List.map_map];rfl
 rw [e]
 refine List.mergeSort_of_pairwise ?_
 rw [List.zipIdx_eq_zip_range',List.pairwise_map]
 rw [List.pairwise_iff_getElem]
 intro i j hi hj hij
 simp only [List.getElem_zip,List.getElem_range']
 simp at hi hj
 exact nm_leB _ (by omega) _ (by omega) (by omega)
theorem names_getB (n0:Nat) (F:Nat→Nat) (bs:List (List UInt8)) (h64:bs.length+n0 < 64) {i:Nat} {p:List UInt8} (h:(namesS (filesB n0 F bs))[i]? =some p):i < bs.length∧p=Jr.nm (i+n0):=by
 rw [names_filesB n0 F bs h64,List.getElem?_map,List.getElem?_zipIdx] at h
 cases hb:bs[i]? with
 | none=>rw [hb] at h;cases h
 | some b=>
  rw [hb] at h
  have h1:Jr.nm (0+i+n0)=p:=by simpa using h
  rw [Nat.zero_add] at h1
  exact ⟨(List.getElem?_eq_some_iff.1 hb).1,h1.symm⟩
theorem fresh_namesB (n0:Nat) (F:Nat→Nat) (bs:List (List UInt8)) (h64:bs.length+n0 < 64):fresh∉namesS (filesB n0 F bs):=by
 intro hm
 obtain ⟨i,hi⟩:=List.mem_iff_getElem?.1 hm
 obtain ⟨h1,h2⟩:=names_getB n0 F bs h64 hi
 exact (nm_ok (i+n0) (by omega)).2.2 h2.symm
theorem look_filesB (n0:Nat) (F:Nat→Nat):∀ (bs:List (List UInt8)),bs.length+n0 < 64→∀ i b,bs[i]? =some b→lookF (filesB n0 F bs) (Jr.nm (i+n0))=some (b,F i):=by
 intro bs h64 i b hb
 have hm:(Jr.nm (i+n0),(b,F i))∈filesB n0 F bs:=List.mem_map.2 ⟨(b,i),List.mem_zipIdx_iff_getElem?.2 hb,rfl⟩
 have hi:=(List.getElem?_eq_some_iff.1 hb).1
 unfold lookF
 cases hq:(filesB n0 F bs).find? fun e=>e.1==Jr.nm (i+n0) with
 | none=>have:=List.find?_eq_none.1 hq _ hm;simp at this
 | some e=>
  have h1:=List.find?_some hq
  obtain ⟨j,c,hj,rfl⟩:=filesB_mem (List.mem_of_find?_eq_some hq)
  have hjl:=(List.getElem?_eq_some_iff.1 hj).1
  have h1:Jr.nm (j+n0)=Jr.nm (i+n0):=by simpa using h1
  have:=nm_inj (by omega) (by omega) h1
  obtain rfl:j=i:=by omega
  rw [hb] at hj
  obtain rfl:b=c:=by simpa using hj
  rfl
theorem segs_filesB (n0:Nat) (F:Nat→Nat) (bs:List (List UInt8)) (h1:1≤n0) (h64:bs.length+n0 < 64):segsOf (filesB n0 F bs) (namesS (filesB n0 F bs))=bs.zipIdx.map fun x=>segOf (x.2+n0) x.1:=by
 rw [names_filesB n0 F bs h64]
 unfold segsOf
 rw [List.filterMap_map]
 refine filterMap_all ?_
 rintro ⟨b,i⟩ hm
 have hb:=List.mem_zipIdx_iff_getElem?.1 hm
 have hi:=(List.getElem?_eq_some_iff.1 hb).1
 have hl:=look_filesB n0 F bs h64 i b hb
 have hn:=(nm_ok (i+n0) (by omega)).1
 simp only [Function.comp]
 rw [hn,if_neg (by omega)]
 unfold fileOf
 rw [hl]
 rfl
theorem syncB_last {n0:Nat} {F:Nat→Nat} {bs:List (List UInt8)} {c:List UInt8} {room:Int} (h64:bs.length+n0 < 60):
  syncS ⟨filesB n0 F (bs++[c]),room,0,false⟩ (Jr.nm (bs.length+n0))=(⟨filesB n0 (fun i=>if i=bs.length then c.length else F i) (bs++[c]),room,0,false⟩,0):=by
 have hl:=lookB_last n0 F bs c (by omega)
 unfold syncS
 simp only [Bool.false_eq_true,if_false,hl]
 unfold actS
 simp only [Int.lt_irrefl,if_false]
 rw [putB_last n0 F bs c c _ (by omega)]
theorem row_lastB (n n0:Nat):((List.range (n+1)).map (·+n0)).getLast? =some (n+n0):=by
 rw [List.range_succ,List.map_append,List.map_singleton,List.getLast?_concat]
theorem row_snocB (n n0:Nat):(List.range (n+1)).map (·+n0)++[n+n0+1]=(List.range (n+2)).map (·+n0):=by
 rw [List.range_succ (n:=n+1),List.map_append,List.map_singleton,show n+1+n0=n+n0+1 by omega]
theorem delF_app_last {D:Fls} {k:List UInt8} (h:∀ e∈D,e.1≠k) (v:Fil):delF (D++[(k,v)]) k=D:=by
 unfold delF
 rw [List.filter_append]
 have h1:D.filter (fun e=>!(e.1==k))=D:=List.filter_eq_self.2 fun e he=>by simpa using h e he
 rw [h1]
 simp
theorem delF_first {D:Fls} {k:List UInt8} (h:∀ e∈D,e.1≠k) (v:Fil):delF ((k,v)::D) k=D:=by
 unfold delF
 rw [List.filter_cons]
 have h1:D.filter (fun e=>!(e.1==k))=D:=List.filter_eq_self.2 fun e he=>by simpa using h e he
 rw [h1]
 simp
theorem rmAll_files {room:Int}:∀ (bs:List (List UInt8)) (n0:Nat) (F:Nat→Nat) (v:Fil),1≤n0→bs.length+n0 < 60→
  rmAll ⟨filesB n0 F bs++[(Jr.nm (bs.length+n0),v)],room,0,false⟩ ((List.range bs.length).map (·+n0))=(⟨[(Jr.nm (bs.length+n0),v)],room,0,false⟩,0)
 | [],n0,F,v,_,_=>by simp [filesB,rmAll]
 | b::r,n0,F,v,h1,h64=>by
  have h64:r.length+1+n0 < 60:=h64
  have e1:filesB n0 F (b::r)=(Jr.nm n0,(b,F 0))::filesB (n0+1) (fun i=>F (i+1)) r:=by
   unfold filesB
   rw [List.zipIdx_cons',List.map_cons,List.map_map]
   simp only [Nat.zero_add,Function.comp_def]
   congr 1
   apply List.map_congr_left
   intro x _
   show (Jr.nm (x.2+1+n0),(x.1,F (x.2+1)))=(Jr.nm (x.2+(n0+1)),(x.1,F (x.2+1)))
   rw [show x.2+1+n0=x.2+(n0+1) by omega]
  have e2:(List.range (b::r).length).map (·+n0)=n0::(List.range r.length).map (·+(n0+1)):=by
   rw [List.length_cons,List.range_succ_eq_map,List.map_cons,List.map_map]
   simp only [Nat.zero_add]
   congr 1
   apply List.map_congr_left
   intro x _
   show x+1+n0=x+(n0+1)
   omega
  have hne:∀ e∈filesB (n0+1) (fun i=>F (i+1)) r++[(Jr.nm (r.length+(n0+1)),v)],e.1≠Jr.nm n0:=by
   intro e he h
   rcases List.mem_append.1 he with he | he
   ·obtain ⟨i,c,hi,rfl⟩:=filesB_mem he
    have:=(List.getElem?_eq_some_iff.1 hi).1
    have:=nm_inj (by omega) (by omega) h
    omega
   ·rw [List.mem_singleton.1 he] at h
    have:=nm_inj (by omega) (by omega) h
    omega
  have ih:=rmAll_files (room:=room) r (n0+1) (fun i=>F (i+1)) v (by omega) (by omega)
  have e3:(b::r).length+n0=r.length+(n0+1):=by rw [List.length_cons];omega
  rw [e1,e2,e3]
  have hrm:removeS ⟨(Jr.nm n0,(b,F 0))::filesB (n0+1) (fun i=>F (i+1)) r++[(Jr.nm (r.length+(n0+1)),v)],room,0,false⟩ (Jr.nm n0)=(⟨filesB (n0+1) (fun i=>F (i+1)) r++[(Jr.nm (r.length+(n0+1)),v)],room,0,false⟩,0):=by
   unfold removeS
   have hl:lookF ((Jr.nm n0,(b,F 0))::filesB (n0+1) (fun i=>F (i+1)) r++[(Jr.nm (r.length+(n0+1)),v)]) (Jr.nm n0)=some (b,F 0):=by simp [lookF]
   simp only [Bool.false_eq_true,if_false,hl]
   unfold actS
   simp only [Int.lt_irrefl,if_false]
   rw [List.cons_append,delF_first hne]
  unfold rmAll
  rw [hrm]
  simp only [ne_eq,not_true_eq_false,if_false]
  exact ih
end Go.Proofs.YtbchfeibhoobeaaGreatDoor
namespace Go.Jr
open Go.Crc
theorem scan_prefix:∀ {l:List Rec},(∀ r∈l,r.2.length≤65536)→∀ n,n≤(putL l).length→∀ f,n < f→∃ k st,k≤l.length∧(st=0∨st=1)∧scanP f ((putL l).take n)=(l.take k,(putL (l.take k)).length,st)∧(putL (l.take k)).length≤n∧(st=0→(putL (l.take k)).length=n)∧∀ c,c≤l.length→(putL (l.take c)).length≤n→c≤k
 | [],_,n,hn,f+1,_=>by
  obtain rfl:n=0:=by simpa [putL] using hn
  exact ⟨0,0,Nat.le_refl _,.inl rfl,rfl,Nat.le_refl _,fun _=>rfl,fun c hc _=>hc⟩
 | r::l,h,n,hn,f+1,hf=>by
  have hr:=h r (by simp)
  have hl:=putR_length r
  rw [putL_cons,List.length_append] at hn
  by_cases hlt:n < 13+r.2.length
  ·have hmono:∀ c,c≤(r::l).length→(putL ((r::l).take c)).length≤n→c≤0:=by
    intro c hc h2
    cases c with
    | zero=>exact Nat.le_refl _
    | succ c=>
     rw [List.take_succ_cons,putL_cons,List.length_append] at h2
     omega
   have hslen:((putL (r::l)).take n).length=n:=by rw [List.length_take,putL_cons,List.length_append];omega
   by_cases h0:n=0
   ·subst h0
    exact ⟨0,0,Nat.zero_le _,.inl rfl,by rw [List.take_zero];rfl,Nat.le_refl _,fun _=>rfl,hmono⟩
   ·refine ⟨0,1,Nat.zero_le _,.inr rfl,?_,Nat.zero_le _,fun h=>by simp at h,hmono⟩
    have hne:(putL (r::l)).take n≠[]:=by intro h;rw [h] at hslen;simp at hslen;omega
    show scanP (f+1) ((putL (r::l)).take n)=([],0,1)
    rw [scanP_succ,if_neg hne,hslen]
    by_cases h9:n < 9
    ·rw [if_pos h9]
    ·have e1:((putL (r::l)).take n).take 9=headR r:=by
      rw [List.take_take,Nat.min_eq_left (by omega),putL_cons,putR_take]
     have e5:(((putL (r::l)).take n).take 5).drop 1=be4 r.2.length:=by
      rw [List.take_take,Nat.min_eq_left (by omega),putL_cons];rfl
     have e6:numB ((((putL (r::l)).take n).take 5).drop 1)=r.2.length:=by rw [e5,numB_be4 (by omega)]
     rw [if_neg h9,e1,if_neg (by unfold headR;rw [sealed_seal];simp),e6,if_neg (by omega),if_pos hlt]
  ·obtain ⟨k,st,hk,hst,hs,hle,hz,hm⟩:=scan_prefix (l:=l) (fun x hx=>h x (by simp [hx])) (n - (13+r.2.length)) (by omega) f (by omega)
   refine ⟨k+1,st,by simpa using hk,hst,?_,?_,?_,?_⟩
   ·have e:(putL (r::l)).take n=putR r++(putL l).take (n - (13+r.2.length)):=by
     rw [putL_cons,List.take_append,hl,List.take_of_length_le (by omega)]
    rw [e,scanP_put hr,hs]
    show _=(r::l.take k,(putL (r::l.take k)).length,st)
    rw [putL_cons,List.length_append,hl]
   ·rw [List.take_succ_cons,putL_cons,List.length_append,hl];omega
   ·intro h0
    have:=hz h0
    rw [List.take_succ_cons,putL_cons,List.length_append,hl];omega
   ·intro c hc h2
    cases c with
    | zero=>omega
    | succ c=>
     rw [List.take_succ_cons,putL_cons,List.length_append,hl] at h2
     have:=hm c (by simpa using hc) (by omega)
     omega
def wakeD (keep:List Int):Nat→Fls→Fls
 | _,[]=>[]
 | i,e::r=>(e.1,wakeF e.2 keep[i]?)::wakeD keep (i+1) r
theorem wakeD_app (keep:List Int):∀ (i:Nat) (a b:Fls),wakeD keep i (a++b)=wakeD keep i a++wakeD keep (i+a.length) b
 | i,[],b=>rfl
 | i,e::r,b=>by
  rw [List.cons_append,wakeD,wakeD,wakeD_app keep (i+1) r b,List.cons_append,List.length_cons,show i+1+r.length=i+(r.length+1) by omega]
theorem wakeL_eq (keep:List Int):∀ (D P:Fls) (i:Nat),((P++D).map (·.1)).Nodup→wakeL (P++D) keep (D.map (·.1)) i=P++wakeD keep i D
 | [],P,i,_=>by simp [wakeL,wakeD]
 | e::r,P,i,hn=>by
  have hne:∀ x∈P,x.1≠e.1:=by
   intro x hx h
   rw [List.map_append,List.nodup_append] at hn
   exact hn.2.2 x.1 (List.mem_map.2 ⟨x,hx,rfl⟩) e.1 (by simp) h
  have hfo:fileOf (P++e::r) e.1=e.2:=by
   unfold fileOf
   rw [Go.Proofs.YtbchfeibhoobeaaGreatDoor.lookF_app hne]
   simp [lookF]
  rw [List.map_cons,wakeL,hfo,Go.Proofs.YtbchfeibhoobeaaGreatDoor.putF_app hne]
  have hp:putF (e::r) e.1 (wakeF e.2 keep[i]?)=(e.1,wakeF e.2 keep[i]?)::r:=by simp [putF]
  rw [hp,show P++(e.1,wakeF e.2 keep[i]?)::r=(P++[(e.1,wakeF e.2 keep[i]?)])++r by simp]
  rw [wakeL_eq keep r (P++[(e.1,wakeF e.2 keep[i]?)]) (i+1) (by simpa using hn)]
  simp [wakeD]
theorem wakeF_ok {f:Fil} (h:f.2≤f.1.length) (k:Option Int):∃ n,f.2≤n∧n≤f.1.length∧wakeF f k=(f.1.take n,n):=by
 cases k with
 | none=>exact ⟨f.2,Nat.le_refl _,h,rfl⟩
 | some k=>exact ⟨_,by omega,by omega,rfl⟩
theorem wakeD_len (keep:List Int):∀ (i:Nat) (D:Fls),(wakeD keep i D).length=D.length
 | _,[]=>rfl
 | i,e::r=>by rw [wakeD,List.length_cons,List.length_cons,wakeD_len keep (i+1) r]
end Go.Jr
namespace Go.Proofs.YtbchfeibhoobeaaGreatDoor
open Go.Abs Go.Jr
theorem esZ:ES Tp 46 3 fZ where
 us:=by kernel_rfl
 sz:=by kernel_rfl
 by':=⟨8,by kernel_rfl,by decide⟩
 hz:=by kernel_rfl
 ld:=ld_3
 len:=fun _=>rfl
 one:=fun _=>rfl
 noT:=fun _=>rfl
theorem look_file {es:List (En ByteArray Fv)} (p:ByteArray):fF ((lookE keqB es p).getD (⟨⟨[]⟩⟩,0))=fileOf (es.map fE) p.data.toList:=by
 unfold fileOf
 rw [← look_map]
 cases lookE keqB es p with
 | none=>rfl
 | some v=>rfl
theorem putF_safe {D:Fls} {k:List UInt8} {v:Fil} (h:∀ f∈D,f.2.2≤f.2.1.length) (hv:v.2≤v.1.length):∀ f∈putF D k v,f.2.2≤f.2.1.length:=by
 intro f hf
 rcases putF_mem hf with rfl | h1
 ·exact hv
 ·exact h f h1
theorem putF_lens {D:Fls} {k:List UInt8} {v:Fil} (h:∀ f∈D,f.2.1.length≤1048576) (hv:v.1.length≤1048576):∀ f∈putF D k v,f.2.1.length≤1048576:=by
 intro f hf
 rcases putF_mem hf with rfl | h1
 ·exact hv
 ·exact h f h1
theorem fileOf_cases (D:Fls) (p:List UInt8):fileOf D p=([],0)∨(p,fileOf D p)∈D:=by
 unfold fileOf
 cases h:lookF D p with
 | none=>exact .inl rfl
 | some f=>exact .inr (lookF_mem h)
section
variable {W0:World} {m0:Inj Tp}
theorem wc24 {A:AW} {d mp:Nat} {s:DS} {kv:Value} {kl:List Int} {Fk:List Nat} {K:Value→AW→Prop} (h:Dk A d mp s) (hdn:s.down=true) (hok:OkD s) (hk':RdE 0 fZ A kv kl Fk) (hFk:∀ y∈Fk,y≠d∧y≠mp) (hf:Fine A) (hA:A.next < 900000000000)
  (hk:∀ A',Dk A' d mp (wakeS s (namesS s.D) kl)→Keeps A A' [d,mp]→A'.next≤A.next+30+5 * s.D.length→Fine A'→K (.tuple ⟨[]⟩) A'):Wc Tp theX W0 m0 24 [ptr d,kv] A K:=by
 have hmax:maxId=1099511627776:=rfl
 have hfew:=hok.few
 have hlt0:=h.lt
 have hws:wakeS s (namesS s.D) kl=⟨wakeL s.D kl (namesS s.D) 0,s.room,s.fuse,false⟩:=by unfold wakeS;rw [if_pos hdn]
 rw [hws] at hk
 have hnl:(namesS s.D).length=s.D.length:=by unfold namesS;rw [List.length_mergeSort,List.length_map]
 let I:Nat→Nat→List Value→AW→Prop:=fun g id vals A'=>id=0∧∃ (i:Nat) (sv:Value) (Fn:List Nat) (D':Fls),vals=[ptr d,kv,sv,.int .i64 (s.D.length:Int),.int .i64 (i:Int)]∧i≤s.D.length∧g=s.D.length - i∧Dk A' d mp ⟨D',s.room,s.fuse,false⟩∧(∀ y∈Fn,A.next≤y)∧RdE 0 fS A' sv (namesS s.D) Fn∧
  wakeL D' kl ((namesS s.D).drop i) i=wakeL s.D kl (namesS s.D) 0∧(∀ f∈D',f.2.2≤f.2.1.length)∧(∀ f∈D',f.2.1.length≤1048576)∧Keeps A A' [d,mp]∧Fine A'∧A'.next≤A.next+20+3 * s.D.length+2 * i
 refine w24 _ _ _ (c24 (I:=I) fun g id vals A' dd hI hd'=>?_) ?_
 ·obtain ⟨rfl,i,sv,Fn,D',rfl,hi,rfl,hdk,hFn,hrd,hwl,hsf,hln,hkp,hfn,hnx⟩:=hI
  have hnm:=hkp.next
  have hkr:=hk'.keeps hkp (fun y hy hm=>by have:=hFk y hy;simp only [List.mem_cons,List.not_mem_nil,or_false] at hm;omega)
  rw [l24_0]
  simp only [L24,List.map_cons,List.map_nil,List.cons.injEq,and_true] at hd'
  obtain ⟨h0,h1,h22,h23,h24⟩:=hd'
  simp only [h0,h1,h22,h23,h24,bin_lss,pureW_some,forkW_dec]
  refine ⟨fun hlt=>?_,fun hge=>?_⟩
  ·have hlt:i < s.D.length:=by omega
   obtain ⟨p,hp⟩:∃ p,(namesS s.D)[i]? =some p:=⟨_,List.getElem?_eq_getElem (by omega)⟩
   obtain ⟨a,a1,a2⟩:=esS.at hrd hp rfl
   obtain ⟨es,c,hr,hm,hne,hD⟩:=hdk
   have hD:D'=es.map fE:=hD
   have hv:=look_file (es:=es) ⟨⟨p⟩⟩
   rw [← hD] at hv
   have hv:fF ((lookE keqB es ⟨⟨p⟩⟩).getD (⟨⟨[]⟩⟩,0))=fileOf D' p:=hv
   obtain ⟨v,hve⟩:∃ v,(lookE keqB es ⟨⟨p⟩⟩).getD (⟨⟨[]⟩⟩,0)=v:=⟨_,rfl⟩
   rw [hve] at hv
   have hv1:(fileOf D' p).1=v.1.data.toList:=by rw [← hv];rfl
   have hv2:(fileOf D' p).2=v.2:=by rw [← hv];rfl
   have hvs:v.2≤v.1.data.toList.length∧v.1.data.toList.length≤1048576:=by
    rw [← hv1,← hv2]
    rcases fileOf_cases D' p with h | h
    ·rw [h];exact ⟨Nat.zero_le _,Nat.zero_le _⟩
    ·exact ⟨hsf _ h,hln _ h⟩
   have hdrop:(namesS s.D).drop i=p::(namesS s.D).drop (i+1):=by
    have hlt2:=(List.getElem?_eq_some_iff.1 hp)
    rw [List.drop_eq_getElem_cons hlt2.1,hlt2.2]
   rw [hdrop] at hwl
   have hwl:wakeL (putF D' p (wakeF (fileOf D' p) kl[i]?)) kl ((namesS s.D).drop (i+1)) (i+1)=wakeL s.D kl (namesS s.D) 0:=hwl
   have htx:(txV p:Value)=.string ⟨⟨p⟩⟩:=rfl
   have hlk:lookupA Tp A' 74 (.map (some mp)) (.string ⟨⟨p⟩⟩) false=some (vF v):=by rw [lookV hm,hve]
   simp only [a1,a2,pureW_some,ptr,nilP_some,fa_76_0,ld_74,cell_row hr.row,cellOf,isT_map,cond_false,Nat.zero_add,htx,hlk]
   refine allocP_made zF hfn (by omega) rfl fun A1 m1=>?_
   have n1:=m1.next
   refine m1.row1.store m1.fine (by omega) (st_100 _ _ _) rfl (by show 0+2≤2;omega) rfl fun A2 r2 k2 n2 f2=>?_
   have r2:Go.Abs.Row1 A2 A'.next [.string v.1,.int .i64 (v.2:Int)] 100:=r2
   have k12:Keeps A' A2 []:=(m1.keeps hfn).trans k2 (fun x hx=>by have:=List.mem_singleton.1 hx;exact .inr (by omega))
   have hr2:=hr.keeps k12 (by simp)
   have hm2:=hm.keeps k12 (by simp)
   have hkr2:=hkr.keeps k12 (by simp)
   have fin:∀ (n:Nat),v.2≤n→n≤v.1.data.toList.length→wakeF (fileOf D' p) kl[i]? =(v.1.data.toList.take n,n)→
     effW (mapUpdateA Tp A2 74 (.map (some mp)) (.string ⟨⟨p⟩⟩) (.agg ⟨[.string ⟨⟨v.1.data.toList.take n⟩⟩,.int .i64 (n:Int)]⟩)) fun At31=>cutW (T24 0) (T24 0) (∃ g2,g2 < s.D.length - i∧I g2 0 [dd 0,dd 1,dd 22,dd 23,.int .i64 (IntKind.i64.wrap ((i:Int)+1))] At31):=by
    intro n hn1 hn2 hn3
    refine hm2.put mtF f2 (by omega) (k:=⟨⟨p⟩⟩) (v:=(⟨⟨v.1.data.toList.take n⟩⟩,n)) fun A3 c3 hm3 k3 n3 f3=>?_
    rw [wrap_i64 (by omega) (by omega)]
    have K3:Keeps A' A3 [mp]:=(k12.more (T:=[mp]) (fun y hy=>by cases hy)).trans k3 (fun y hy=>.inl hy)
    rw [hn3] at hwl
    refine cutW_self.2 ⟨s.D.length - (i+1),by omega,rfl,i+1,sv,Fn,putF D' p (v.1.data.toList.take n,n),by rw [h0,h1,h22,h23];rfl,by omega,rfl,⟨_,c3,hr2.keeps k3 (by simp;exact hne),hm3,hne,by show putF D' p _=_;rw [hD,put_map];rfl⟩,hFn,hrd.keeps K3 (fun y hy hm=>by have:=hFn y hy;have:=List.mem_singleton.1 hm;omega),?_,?_,?_,hkp.trans K3 (fun y hy=>.inl (by simp [List.mem_singleton.1 hy])),f3,by omega⟩
    ·exact hwl
    ·exact putF_safe hsf (by show n≤(v.1.data.toList.take n).length;rw [List.length_take];omega)
    ·exact putF_lens hln (by show (v.1.data.toList.take n).length≤_;rw [List.length_take];omega)
   simp only [fa_100_0,fa_100_1,ld_3,ld_9,cell_row r2.row,cell_row hr2.row,cellOf,isT_int,isT_string,isT_map,cond_false,pureW_some,Nat.zero_add,esZ.lenR hkr2,bin_lss,forkW_dec,ld_74,nilP_some,fa_76_0,ln_9]
   refine ⟨fun hik=>?_,fun hik=>?_⟩
   ·have hik:i < kl.length:=by omega
    obtain ⟨z,hz⟩:∃ z,kl[i]? =some z:=⟨_,List.getElem?_eq_getElem hik⟩
    obtain ⟨b,b1,b2⟩:=esZ.at hkr2 hz rfl
    rw [hz] at fin
    simp only [b1,b2,pureW_some,max0,bin_sub]
    rw [wrap_i64 (n:=(v.1.data.toList.length:Int) - (v.2:Int)) (by omega) (by omega)]
    simp only [pureW_some,min1,bin_add]
    obtain ⟨m,hm'⟩:∃ m:Nat,min (max z 0) ((v.1.data.toList.length:Int) - (v.2:Int))=(m:Int):=⟨(min (max z 0) ((v.1.data.toList.length:Int) - (v.2:Int))).toNat,by omega⟩
    rw [hm',wrap_i64 (by omega) (by omega)]
    have e2:(v.2:Int)+(m:Int)=((v.2+m:Nat):Int):=by omega
    rw [e2]
    simp only [pureW_some,sl9t (show v.2+m≤v.1.data.toList.length by omega),ba100x]
    have:=fin (v.2+m) (by omega) (by omega) (by
     show (_,_)=_
     rw [hv1,hv2,hm']
     rfl)
    rw [h0,h1,h22,h23] at this
    exact this
   ·have hz:kl[i]? =none:=List.getElem?_eq_none (by omega)
    rw [hz] at fin
    simp only [sl9t hvs.1,ba100x,pureW_some,bin_add]
    have:=fin v.2 (Nat.le_refl _) hvs.1 (by
     show (_,_)=_
     rw [hv1,hv2])
    rw [h0,h1,h22,h23] at this
    exact this
  ·have hi':i=s.D.length:=by omega
   subst hi'
   rw [List.drop_of_length_le (by omega)] at hwl
   have hwl:D'=wakeL s.D kl (namesS s.D) 0:=hwl
   rw [← hwl] at hk
   exact hk A' hdk hkp (by omega) hfn
 ·rw [e24]
  have h0:=h
  refine wc58 h ?_
  simp only [un_not,pureW_some]
  refine forkW_bool.2 ⟨fun h=>by simp at h,fun _=>?_⟩
  obtain ⟨es,c,hr,hm,hne,hD⟩:=h
  simp only [ptr,nilP_some,fa_76_3,ld_4,cell_row hr.row,cellOf,isT_bool,cond_false,pureW_some,hdn,un_not,Nat.zero_add]
  refine forkW_bool.2 ⟨fun h=>by simp at h,fun _=>?_⟩
  refine hr.store hf (by omega) (st_4 _ _ _) rfl (by show 3+1≤4;omega) rfl fun A2 r2 k2 n2 f2=>?_
  have r2:Go.Abs.Row1 A2 d [.map (some mp),.int .i64 s.room,.int .i64 s.fuse,.bool false] 76:=r2
  have k2:Keeps A A2 [d]:=k2
  have d2:Dk A2 d mp ⟨s.D,s.room,s.fuse,false⟩:=⟨es,c,r2,hm.keeps k2 (by simp;exact fun h=>hne h.symm),hne,hD⟩
  refine wc11 d2 f2 (by show s.D.length < 100000;omega) (by show A2.next+30+3 * s.D.length < _;omega) fun A3 sv Fn h3 hFn k3 n3 f3=>?_
  have h3:OwnG A3 9 1 sv (namesS s.D).length ((namesS s.D).map txV) Fn:=h3
  have n3:A3.next≤A2.next+15+3 * s.D.length:=n3
  have hrd:=names_rd h3
  simp only [esS.lenR hrd,hnl,pureW_some]
  have K3:Keeps A A3 [d]:=k2.trans k3 (by simp)
  exact cutW_self.2 ⟨s.D.length - 0,rfl,0,sv,Fn,s.D,rfl,by omega,rfl,d2.keeps k3 (by simp) (by simp),fun y hy=>by have:=hFn y hy;omega,hrd,by rw [List.drop_zero],hok.safe,hok.len,K3.more (fun y hy=>.inl (by simp [List.mem_singleton.1 hy])),f3,by omega⟩
end
end Go.Proofs.YtbchfeibhoobeaaGreatDoor
namespace Go.Proofs.YtbchfeibhoobeaaGreatDoor
open Go.Jr
theorem checkpointJ_ok {k:Nat} {s:DS} {q:JS} {names:List (List UInt8)} {st:List UInt8} (h:OkS k s):OkS (k+5+q.row.length) (checkpointJ s names q st).1:=by
 have hrm:∀ (l:List Nat) (k:Nat) (s:DS),OkS k s→OkS (k+l.length) (rmAll s l).1:=by
  intro l
  induction l with
  | nil=>intro k s h;exact h
  | cons a r ih=>
   intro k s h
   unfold rmAll
   split
   ·exact (removeS_ok h _).more (by simp)
   ·exact (ih (k+1) _ (removeS_ok h _)).more (by simp;omega)
 have h0:OkS (k+1) (if fresh∈names then removeS s fresh else (s,0)).1:=by
  split
  ·exact removeS_ok h _
  ·exact h.more (by omega)
 unfold checkpointJ
 split
 ·exact h.more (by omega)
 ·split
  ·exact h.more (by omega)
  ·simp only
   split
   ·exact h.more (by omega)
   ·generalize (if fresh∈names then removeS s fresh else (s,0))=x0 at h0 ⊢
    have h1:=appendS_ok h0 fresh (putR (0,st))
    generalize appendS x0.1 fresh (putR (0,st))=x1 at h1 ⊢
    have h2:=syncS_ok h1 fresh
    generalize syncS x1.1 fresh=x2 at h2 ⊢
    have h3:=renameS_ok h2 fresh (Jr.nm (q.row.getLast?.getD 0+1))
    generalize renameS x2.1 fresh (Jr.nm (q.row.getLast?.getD 0+1))=x3 at h3 ⊢
    have h4:=hrm q.row _ _ h3
    generalize rmAll x3.1 q.row=x4 at h4 ⊢
    split
    ·exact h0.more (by omega)
    ·split
     ·exact h1.more (by omega)
     ·split
      ·exact h2.more (by omega)
      ·split
       ·exact h3.more (by omega)
       ·split
        ·exact h4.more (by omega)
        ·exact h4.more (by omega)
theorem syncJ_ok {k:Nat} {s:DS} {q:JS} (h:OkS k s):OkS (k+1) (syncJ s q).1:=by
 unfold syncJ
 split
 ·exact h.more (by omega)
 ·exact syncS_ok h _
theorem wakeD_get (keep:List Int):∀ (j:Nat) (D:Fls) (i:Nat),(wakeD keep j D)[i]? =(D[i]?).map fun e=>(e.1,wakeF e.2 keep[j+i]?)
 | _,[],i=>by simp [wakeD]
 | j,e::r,0=>by simp [wakeD]
 | j,e::r,i+1=>by
  rw [wakeD,List.getElem?_cons_succ,List.getElem?_cons_succ,wakeD_get keep (j+1) r i,show j+1+i=j+(i+1) by omega]
theorem filesB_get (n0:Nat) (F:Nat→Nat) (bs:List (List UInt8)) (i:Nat):(filesB n0 F bs)[i]? =(bs[i]?).map fun b=>(Jr.nm (i+n0),(b,F i)):=by
 unfold filesB
 rw [List.getElem?_map,List.getElem?_zipIdx,Option.map_map]
 cases bs[i]? with
 | none=>rfl
 | some b=>simp
theorem wake_files (keep:List Int) (j n0:Nat) {F:Nat→Nat} {bs:List (List UInt8)} (hs:∀ (i:Nat) b,bs[i]? =some b→F i≤b.length):
  ∃ F' bs',wakeD keep j (filesB n0 F bs)=filesB n0 F' bs'∧bs'.length=bs.length∧∀ (i:Nat) b,bs[i]? =some b→∃ n,F i≤n∧n≤b.length∧bs'[i]? =some (b.take n)∧F' i=n:=by
 let G:Nat→List UInt8→Fil:=fun i b=>wakeF (b,F i) keep[j+i]?
 let bs':=bs.zipIdx.map fun x=>(G x.2 x.1).1
 let F':Nat→Nat:=fun i=>(G i (bs[i]?.getD [])).2
 have hb':∀ i,bs'[i]? =(bs[i]?).map fun b=>(G i b).1:=by
  intro i
  show (bs.zipIdx.map _)[i]? =_
  rw [List.getElem?_map,List.getElem?_zipIdx,Option.map_map]
  cases bs[i]? with
  | none=>rfl
  | some b=>simp
 refine ⟨F',bs',?_,by show (bs.zipIdx.map _).length=_;rw [List.length_map,List.length_zipIdx],fun i b hb=>?_⟩
 ·apply List.ext_getElem?
  intro i
  rw [wakeD_get,filesB_get,filesB_get,hb' i]
  cases hq:bs[i]? with
  | none=>rfl
  | some b=>
   simp only [Option.map_some]
   have:F' i=(G i b).2:=by show (G i (bs[i]?.getD [])).2=_;rw [hq];rfl
   rw [this]
 ·obtain ⟨n,h1,h2,h3⟩:=wakeF_ok (f:=(b,F i)) (hs i b hb) keep[j+i]?
  refine ⟨n,h1,h2,?_,?_⟩
  ·rw [hb' i,hb]
   show some (G i b).1=_
   rw [show G i b=(b.take n,n) from h3]
  ·show (G i (bs[i]?.getD [])).2=n
   rw [hb]
   show (G i b).2=n
   rw [show G i b=(b.take n,n) from h3]
def Bes (E:Fls):Prop:=E=[]∨∃ v:Fil,E=[(fresh,v)]∧v.1.length≤213
theorem nm_fresh:∀ i,i < 64→leB (Jr.nm i) fresh=true:=by
 have h:((List.range 64).all fun i=>leB (Jr.nm i) fresh)=true:=by decide+kernel
 intro i hi
 exact List.all_eq_true.1 h i (List.mem_range.2 hi)
theorem names_map (n0:Nat) (F:Nat→Nat) (bs:List (List UInt8)):(filesB n0 F bs).map (·.1)=bs.zipIdx.map fun x=>Jr.nm (x.2+n0):=by unfold filesB;rw [List.map_map];rfl
theorem names_pair {n0:Nat} {bs:List (List UInt8)} (h64:bs.length+n0 < 64):(bs.zipIdx.map fun x=>Jr.nm (x.2+n0)).Pairwise fun a b=>leB a b=true∧a≠b:=by
 rw [List.zipIdx_eq_zip_range',List.pairwise_map,List.pairwise_iff_getElem]
 intro i j hi hj hij
 simp only [List.getElem_zip,List.getElem_range']
 simp at hi hj
 refine ⟨nm_leB _ (by omega) _ (by omega) (by omega),fun h=>?_⟩
 have:=nm_inj (by omega) (by omega) h
 omega
theorem pair_E {n0:Nat} {F:Nat→Nat} {bs:List (List UInt8)} {E:Fls} (hE:Bes E) (h64:bs.length+n0 < 64):((filesB n0 F bs++E).map (·.1)).Pairwise fun a b=>leB a b=true∧a≠b:=by
 rw [List.map_append,names_map]
 refine List.pairwise_append.2 ⟨names_pair h64,?_,?_⟩
 ·rcases hE with rfl | ⟨v,rfl,hv⟩ <;> simp
 ·intro a ha b hb
  rcases hE with rfl | ⟨v,rfl,hv⟩
  ·simp at hb
  ·obtain rfl:b=fresh:=by simpa using hb
   obtain ⟨⟨c,i⟩,hm,rfl⟩:=List.mem_map.1 ha
   have:=(List.getElem?_eq_some_iff.1 (List.mem_zipIdx_iff_getElem?.1 hm)).1
   exact ⟨nm_fresh _ (by omega),(nm_ok _ (by omega)).2.2⟩
theorem names_E {n0:Nat} {F:Nat→Nat} {bs:List (List UInt8)} {E:Fls} (hE:Bes E) (h64:bs.length+n0 < 64):namesS (filesB n0 F bs++E)=(filesB n0 F bs++E).map (·.1):=by
 unfold namesS
 exact List.mergeSort_of_pairwise ((pair_E hE h64).imp fun h=>h.1)
theorem nodup_E {n0:Nat} {F:Nat→Nat} {bs:List (List UInt8)} {E:Fls} (hE:Bes E) (h64:bs.length+n0 < 64):((filesB n0 F bs++E).map (·.1)).Nodup:=(pair_E hE h64).imp fun h=>h.2
theorem wake_E {n0:Nat} {F:Nat→Nat} {bs:List (List UInt8)} {E:Fls} {room fuse:Int} (keep:List Int) (hE:Bes E) (h64:bs.length+n0 < 64) (hs:∀ (i:Nat) b,bs[i]? =some b→F i≤b.length):
  ∃ F' bs' E',wakeS ⟨filesB n0 F bs++E,room,fuse,true⟩ (namesS (filesB n0 F bs++E)) keep=⟨filesB n0 F' bs'++E',room,fuse,false⟩∧Bes E'∧bs'.length=bs.length∧∀ (i:Nat) b,bs[i]? =some b→∃ n,F i≤n∧n≤b.length∧bs'[i]? =some (b.take n)∧F' i=n:=by
 obtain ⟨F',bs',h1,h2,h3⟩:=wake_files keep 0 n0 hs
 refine ⟨F',bs',wakeD keep (filesB n0 F bs).length E,?_,?_,h2,h3⟩
 ·unfold wakeS
  rw [if_pos rfl,names_E hE h64]
  have:=wakeL_eq keep (filesB n0 F bs++E) [] 0 (by simpa using nodup_E hE h64)
  rw [List.nil_append,List.nil_append,wakeD_app,h1,Nat.zero_add] at this
  rw [this]
 ·rcases hE with rfl | ⟨v,rfl,hv⟩
  ·exact .inl rfl
  ·refine .inr ⟨_,rfl,Nat.le_trans ?_ hv⟩
   unfold wakeF
   split <;> exact List.length_take_le' _ _
theorem numOf_fresh:numOf fresh=0:=by decide
theorem look_in {D E:Fls} {k:List UInt8} {v:Fil} (h:lookF D k=some v):lookF (D++E) k=some v:=by
 unfold lookF at *
 rw [List.find?_append]
 cases hq:D.find? fun e=>e.1==k with
 | none=>rw [hq] at h;cases h
 | some e=>rw [hq] at h;exact h
theorem segs_E {n0:Nat} {F:Nat→Nat} {bs:List (List UInt8)} {E:Fls} (hE:Bes E) (h1:1≤n0) (h64:bs.length+n0 < 64):
  segsOf (filesB n0 F bs++E) (namesS (filesB n0 F bs++E))=bs.zipIdx.map fun x=>segOf (x.2+n0) x.1:=by
 rw [names_E hE h64,List.map_append,names_map]
 unfold segsOf
 rw [List.filterMap_append]
 have e2:(E.map (·.1)).filterMap (fun f=>if numOf f=0 then none else some (segOf (numOf f) (fileOf (filesB n0 F bs++E) f).1))=[]:=by
  rcases hE with rfl | ⟨v,rfl,hv⟩
  ·rfl
  ·simp [numOf_fresh]
 rw [e2,List.append_nil,List.filterMap_map]
 refine filterMap_all ?_
 rintro ⟨b,i⟩ hm
 have hb:=List.mem_zipIdx_iff_getElem?.1 hm
 have hi:=(List.getElem?_eq_some_iff.1 hb).1
 have hl:=look_in (E:=E) (look_filesB n0 F bs h64 i b hb)
 have hn:=(nm_ok (i+n0) (by omega)).1
 simp only [Function.comp]
 rw [hn,if_neg (by omega)]
 unfold fileOf
 rw [hl]
 rfl
theorem fresh_E {n0:Nat} {F:Nat→Nat} {bs:List (List UInt8)} {E:Fls} (hE:Bes E) (h64:bs.length+n0 < 64):fresh∈namesS (filesB n0 F bs++E)↔E≠[]:=by
 rw [names_E hE h64,List.map_append,List.mem_append]
 constructor
 ·rintro (h | h) h0
  ·obtain ⟨e,he,h2⟩:=List.mem_map.1 h
   exact filesB_fresh (by omega) e he h2
  ·subst h0;simp at h
 ·intro h
  rcases hE with rfl | ⟨v,rfl,hv⟩
  ·exact absurd rfl h
  ·right;simp
theorem remove_fresh {D:Fls} {v:Fil} {room:Int} (h:∀ e∈D,e.1≠fresh):removeS ⟨D++[(fresh,v)],room,0,false⟩ fresh=(⟨D,room,0,false⟩,0):=by
 unfold removeS
 have hl:lookF (D++[(fresh,v)]) fresh=some v:=by rw [lookF_app h];simp [lookF]
 simp only [Bool.false_eq_true,if_false,hl]
 unfold actS
 simp only [Int.lt_irrefl,if_false]
 rw [delF_app_last h]
theorem run_first {n0:Nat} {F:Nat→Nat} {bs:List (List UInt8)} {E:Fls} {room:Int} (hE:Bes E) (h64:bs.length+n0 < 64) (l:List Ac):
  runAcs ⟨filesB n0 F bs++E,room,0,false⟩ ((if fresh∈namesS (filesB n0 F bs++E) then [.rmF] else [])++l)=runAcs ⟨filesB n0 F bs,room,0,false⟩ l:=by
 by_cases h:E=[]
 ·rw [if_neg (fun hm=>(fresh_E hE h64).1 hm h),List.nil_append,h,List.append_nil]
 ·rw [if_pos ((fresh_E hE h64).2 h)]
  rcases hE with rfl | ⟨v,rfl,hv⟩
  ·exact absurd rfl h
  ·show runAcs _ (.rmF::l)=_
   rw [runAcs]
   simp only [Ac.run,remove_fresh (filesB_fresh (n0:=n0) (F:=F) (bs:=bs) (by omega)),if_true]
structure GC (st:List UInt8) (R:List Rec) (gs:List (List Rec)) (gl:List Rec):Prop where
 flat:(gs++[gl]).flatten=(0,st)::R
 ne:∀ g∈gs,g≠[]
 kind:∀ r∈R,r.1≠0
 len:∀ r∈R,r.2.length≤65536
 lst:st.length≤65536
theorem GC.first {st:List UInt8} {R:List Rec} {gs:List (List Rec)} {gl:List Rec} (h:GC st R gs gl):∃ g0 r,gs++[gl]=((0,st)::g0)::r∧(∀ c∈g0,c.1≠0)∧∀ g∈r,∀ c∈g,c.1≠0:=by
 have hf:=h.flat
 have key:∀ (g:List Rec) (r:List (List Rec)),gs++[gl]=g::r→g≠[]→∃ g0 r',gs++[gl]=((0,st)::g0)::r'∧(∀ c∈g0,c.1≠0)∧∀ g∈r',∀ c∈g,c.1≠0:=by
  intro g r hg hne
  rw [hg,List.flatten_cons] at hf
  cases g with
  | nil=>exact absurd rfl hne
  | cons c g0=>
   rw [List.cons_append] at hf
   obtain ⟨rfl,hR⟩:=by simpa using hf
   refine ⟨g0,r,hg,fun c hc=>h.kind c (by rw [← hR];simp [hc]),fun g hgm c hc=>h.kind c ?_⟩
   rw [← hR,List.mem_append]
   exact .inr (List.mem_flatten.2 ⟨g,hgm,hc⟩)
 rcases List.eq_nil_or_concat gs with hg | _
 ·refine key gl [] (by rw [hg];rfl) ?_
  rintro rfl
  rw [hg] at hf
  simp at hf
 ·by_cases hg:gs=[]
  ·refine key gl [] (by rw [hg];rfl) ?_
   rintro rfl
   rw [hg] at hf
   simp at hf
  ·obtain ⟨g,r,hgr⟩:=List.exists_cons_of_ne_nil hg
   exact key g (r++[gl]) (by rw [hgr];rfl) (h.ne g (by rw [hgr];simp))
theorem GC.lens {st:List UInt8} {R:List Rec} {gs:List (List Rec)} {gl g:List Rec} (h:GC st R gs gl) (hg:g∈gs++[gl]):∀ r∈g,r.2.length≤65536:=by
 intro r hr
 have:r∈(gs++[gl]).flatten:=List.mem_flatten.2 ⟨g,hg,hr⟩
 rw [h.flat] at this
 rcases List.mem_cons.1 this with rfl | h1
 ·exact h.lst
 ·exact h.len r h1
def segX (n0 st1 m:Nat) (x:List Rec × Nat):Seg:=⟨x.2+n0,x.1,(putL x.1).length,if x.2=m then st1 else 0⟩
theorem row_torn {st:List UInt8} {R:List Rec} {gs:List (List Rec)} {gl:List Rec} {n0 st1:Nat} (h:GC st R gs gl) (hst:st1=0∨st1=1):
  rowS ((gs++[gl]).zipIdx.map (segX n0 st1 gs.length))=some ((gs++[gl]).zipIdx.map (segX n0 st1 gs.length),0):=by
 obtain ⟨g0,r,hgs,hk0,hkr⟩:=h.first
 have hlen:(gs++[gl]).length=gs.length+1:=by simp
 have hlast:lastB ((gs++[gl]).zipIdx.map (segX n0 st1 gs.length))=some 0:=by
  rw [hgs,List.zipIdx_cons,List.map_cons]
  rw [lastB_first]
  ·rfl
  ·intro y hy
   obtain ⟨⟨g,i⟩,hm,rfl⟩:=List.mem_map.1 hy
   have hg:g∈r:=by
    have:=List.mem_zipIdx hm
    exact this.2.2▸List.getElem_mem _
   exact begins_of (hkr g hg)
 unfold rowS
 rw [hlast]
 simp only [List.drop_zero]
 rw [if_pos]
 refine (all_zip _ _).2 fun i x hx=>?_
 rw [List.getElem?_map,List.getElem?_zipIdx] at hx
 cases hq:(gs++[gl])[i]? with
 | none=>rw [hq] at hx;cases hx
 | some g=>
  rw [hq] at hx
  have hx:segX n0 st1 gs.length (g,0+i)=x:=by simpa using hx
  rw [Nat.zero_add] at hx
  subst hx
  have hil:i < gs.length+1:=by rw [← hlen];exact (List.getElem?_eq_some_iff.1 hq).1
  have hhead:(((gs++[gl]).zipIdx.map (segX n0 st1 gs.length)).head?.map (·.n)).getD 0=n0:=by
   rw [hgs,List.zipIdx_cons];simp [segX]
  rw [hhead,okSeg_eq]
  have e1:(segX n0 st1 gs.length (g,i)).n=n0+i:=by show i+n0=_;omega
  have e2:((gs++[gl]).zipIdx.map (segX n0 st1 gs.length)).length=gs.length+1:=by rw [List.length_map,List.length_zipIdx,hlen]
  have e3:(segX n0 st1 gs.length (g,i)).st=if i=gs.length then st1 else 0:=rfl
  rw [e1,e2,e3,decide_eq_true rfl]
  have e4:(decide (i+1=gs.length+1) || decide ((if i=gs.length then st1 else 0)=0))=true:=by
   by_cases hi:i=gs.length
   ·rw [decide_eq_true (by omega),Bool.true_or]
   ·rw [if_neg hi];simp
  have e5:decide ((if i=gs.length then st1 else 0)≠2)=true:=by
   by_cases hi:i=gs.length
   ·rw [if_pos hi];rcases hst with rfl | rfl <;> rfl
   ·rw [if_neg hi];rfl
  rw [e4,e5]
  simp only [Bool.true_and]
  refine (all_zip _ _).2 fun k c hc=>?_
  have hc:g[k]? =some c:=hc
  unfold okC
  by_cases hz:i+k=0
  ·simp [hz]
  ·have hc0:c.1≠0:=by
    rw [hgs] at hq
    cases i with
    | zero=>
     obtain rfl:(0,st)::g0=g:=by simpa using hq
     cases k with
     | zero=>exact absurd rfl hz
     | succ k=>
      have hc:((0,st)::g0)[k+1]? =some c:=hc
      exact hk0 c (List.mem_of_getElem? (by simpa using hc))
    | succ i=>exact hkr g (List.mem_of_getElem? (by simpa using hq)) c (List.mem_of_getElem? hc)
   simp [hc0]
theorem allR_segX (l:List (List Rec)) (n0 st1 m:Nat):allR (l.zipIdx.map (segX n0 st1 m))=l.flatten:=by
 unfold allR
 rw [List.flatMap_map]
 show l.zipIdx.flatMap (fun x=>x.1)=_
 rw [List.flatMap_def,List.zipIdx_eq_zip_range',List.map_fst_zip (by simp)]
theorem cut_last {n0:Nat} {F:Nat→Nat} {bs:List (List UInt8)} {c:List UInt8} {room:Int} {m:Nat} (h64:bs.length+n0 < 60) (hm:m≤c.length):
  cutS ⟨filesB n0 F (bs++[c]),room,0,false⟩ (Jr.nm (bs.length+n0)) (m:Nat)=(⟨filesB n0 (fun i=>if i=bs.length then min (F bs.length) m else F i) (bs++[c.take m]),room,0,false⟩,0):=by
 have hl:=lookB_last n0 F bs c (by omega)
 unfold cutS
 simp only [Bool.false_eq_true,if_false,hl]
 rw [if_neg (by omega),if_neg (by omega)]
 unfold actS
 simp only [Int.lt_irrefl,if_false]
 rw [Int.toNat_natCast,putB_last n0 F bs c (c.take m) _ (by omega)]
theorem open_torn {st:List UInt8} {R:List Rec} {gs:List (List Rec)} {gl:List Rec} {n0 st1:Nat} {F:Nat→Nat} {b:List UInt8} {E:Fls} {room limit:Int} (h:GC st R gs gl) (hE:Bes E) (h1n:1≤n0) (h64:gs.length+n0 < 50) (hl:1≤limit)
  (hsc:scan b=(gl,(putL gl).length,st1)) (hst:st1=0∨st1=1) (htk:b.take (putL gl).length=putL gl) (hle:(putL gl).length≤b.length) (hz:st1=0→(putL gl).length=b.length):
  ∃ F',openS ⟨filesB n0 F (gs.map putL++[b])++E,room,0,false⟩ (namesS (filesB n0 F (gs.map putL++[b])++E)) limit=
   (⟨filesB n0 F' ((gs++[gl]).map putL),room,0,false⟩,some ⟨limit,st,R,(List.range (gs.length+1)).map (·+n0),(putL gl).length,!gl.isEmpty,false⟩,0)∧F' gs.length=(putL gl).length∧∀ i,i < gs.length→F' i=F i:=by
 have elen:(gs.map putL++[b]).length=gs.length+1:=by simp
 have hl0:(gs.map putL).length=gs.length:=List.length_map _
 have hseg:segsOf (filesB n0 F (gs.map putL++[b])++E) (namesS (filesB n0 F (gs.map putL++[b])++E))=(gs++[gl]).zipIdx.map (segX n0 st1 gs.length):=by
  rw [segs_E hE h1n (by omega)]
  rw [List.zipIdx_append,List.map_append,List.zipIdx_append,List.map_append]
  congr 1
  ·rw [List.zipIdx_map,List.map_map]
   apply List.map_congr_left
   rintro ⟨g,i⟩ hm
   have hi:=(List.getElem?_eq_some_iff.1 (List.mem_zipIdx_iff_getElem?.1 hm)).1
   have hg:=List.mem_of_getElem? (List.mem_zipIdx_iff_getElem?.1 hm)
   show segOf (i+n0) (putL g)=⟨i+n0,g,(putL g).length,if i=gs.length then st1 else 0⟩
   have hsg:scan (putL g)=(g,(putL g).length,0):=scan_put (h.lens (List.mem_append_left _ hg)) _ (Nat.lt_succ_self _)
   unfold segOf
   rw [hsg,if_neg (by omega)]
  ·rw [hl0]
   show [segOf (0+gs.length+n0) b]=[(⟨0+gs.length+n0,gl,(putL gl).length,if 0+gs.length=gs.length then st1 else 0⟩:Seg)]
   unfold segOf
   rw [hsc,Nat.zero_add,if_pos rfl]
 have hrow:=row_torn (n0:=n0) h hst
 have hlast:((gs++[gl]).zipIdx.map (segX n0 st1 gs.length)).getLast? =some ⟨gs.length+n0,gl,(putL gl).length,st1⟩:=by
  rw [List.zipIdx_append,List.map_append]
  simp [segX]
 have hne:(gs++[gl]).zipIdx.map (segX n0 st1 gs.length)≠[]:=by
  intro h0
  rw [h0] at hlast
  cases hlast
 have hmade:madeJ limit ((gs++[gl]).zipIdx.map (segX n0 st1 gs.length))=⟨limit,st,R,(List.range (gs.length+1)).map (·+n0),(putL gl).length,!gl.isEmpty,false⟩:=by
  unfold madeJ
  rw [allR_segX,h.flat,hlast,if_neg hne]
  have:((gs++[gl]).zipIdx.map (segX n0 st1 gs.length)).map (·.n)=(List.range (gs.length+1)).map (·+n0):=by
   rw [List.map_map,List.zipIdx_eq_zip_range']
   show ((gs++[gl]).zip _).map ((fun i=>i+n0)∘Prod.snd)=_
   rw [← List.map_map,List.map_snd_zip (by simp),List.range_eq_range']
   simp
  rw [this]
  rfl
 have em:(gs++[gl]).map putL=gs.map putL++[putL gl]:=by rw [List.map_append];rfl
 have hacts:actsOf (namesS (filesB n0 F (gs.map putL++[b])++E)) ((gs++[gl]).zipIdx.map (segX n0 st1 gs.length)) ((gs++[gl]).zipIdx.map (segX n0 st1 gs.length)) 0=
   (if fresh∈namesS (filesB n0 F (gs.map putL++[b])++E) then [.rmF] else [])++((if st1=1 then [.ct (gs.length+n0) (putL gl).length] else [])++[.sy (gs.length+n0)]):=by
  unfold actsOf
  rw [if_neg hne,hlast]
  simp
 unfold openS
 rw [if_neg (by omega)]
 simp only [Bool.false_eq_true,if_false,hseg,hrow,hacts,hmade,run_first hE (show (gs.map putL++[b]).length+n0 < 64 by omega)]
 rcases hst with rfl | rfl
 ·have hb:b=putL gl:=by
   have h2:=hz rfl
   rw [h2,List.take_length] at htk
   exact htk
  have hsync:=syncB_last (n0:=n0) (F:=F) (bs:=gs.map putL) (c:=b) (room:=room) (by omega)
  rw [hl0] at hsync
  refine ⟨fun i=>if i=gs.length then b.length else F i,?_,by show (if gs.length=gs.length then b.length else _)=_;rw [if_pos rfl,hb],fun i hi=>by show (if i=gs.length then _ else F i)=F i;rw [if_neg (by omega)]⟩
  simp only [Nat.zero_ne_one,if_false,List.nil_append,runAcs,Ac.run,hsync,if_true]
  rw [em,← hb]
 ·have hcut:=cut_last (n0:=n0) (F:=F) (bs:=gs.map putL) (c:=b) (room:=room) (m:=(putL gl).length) (by omega) hle
  rw [hl0,htk] at hcut
  have hsync:=syncB_last (n0:=n0) (F:=fun i=>if i=gs.length then min (F gs.length) (putL gl).length else F i) (bs:=gs.map putL) (c:=putL gl) (room:=room) (by omega)
  rw [hl0] at hsync
  refine ⟨fun i=>if i=gs.length then (putL gl).length else if i=gs.length then min (F gs.length) (putL gl).length else F i,?_,?_,?_⟩
  ·simp only [if_true,List.cons_append,List.nil_append,runAcs,Ac.run,hcut,hsync]
   rw [em]
  ·show (if gs.length=gs.length then (putL gl).length else _)=_
   rw [if_pos rfl]
  ·intro i hi
   show (if i=gs.length then _ else (if i=gs.length then _ else F i))=F i
   rw [if_neg (by omega),if_neg (by omega)]
theorem run_rms {s:DS} (l:List Nat) (rest:List Ac) (h:(rmAll s l).2=0):runAcs s (l.map .rm++rest)=runAcs (rmAll s l).1 rest:=by
 induction l generalizing s with
 | nil=>rfl
 | cons k r ih=>
  have e:rmAll s (k::r)=if (removeS s (Jr.nm k)).2≠0 then removeS s (Jr.nm k) else rmAll (removeS s (Jr.nm k)).1 r:=rfl
  rw [e] at h ⊢
  have e2:runAcs s ((k::r).map .rm++rest)=if (removeS s (Jr.nm k)).2=0 then runAcs (removeS s (Jr.nm k)).1 (r.map .rm++rest) else removeS s (Jr.nm k):=rfl
  rw [e2]
  by_cases hk:(removeS s (Jr.nm k)).2=0
  ·have hk':¬ ((removeS s (Jr.nm k)).2≠0):=fun h=>h hk
   rw [if_neg hk'] at h ⊢
   rw [if_pos hk]
   exact ih h
  ·rw [if_pos hk] at h
   exact absurd h hk
theorem open_new2 {st:List UInt8} {n0:Nat} {F:Nat→Nat} {bs:List (List UInt8)} {room limit:Int} (h1n:1≤n0) (h64:bs.length+n0 < 50) (hl:1≤limit) (hst:st.length≤65536):
  ∃ F',openS ⟨filesB n0 F (bs++[putR (0,st)]),room,0,false⟩ (namesS (filesB n0 F (bs++[putR (0,st)]))) limit=
   (⟨filesB (bs.length+n0) F' ([[(0,st)]].map putL),room,0,false⟩,some ⟨limit,st,[],(List.range 1).map (·+(bs.length+n0)),(putL [(0,st)]).length,true,false⟩,0)∧F' 0=(putL [(0,st)]).length:=by
 have elen:(bs++[putR (0,st)]).length=bs.length+1:=by simp
 have hsc:scan (putR (0,st))=([(0,st)],(putL [(0,st)]).length,0):=by
  have:=scan_put (l:=[(0,st)]) (by simpa using hst) ((putL [(0,st)]).length+1) (by omega)
  rw [putL_one] at this ⊢
  exact this
 have hseg:segsOf (filesB n0 F (bs++[putR (0,st)])) (namesS (filesB n0 F (bs++[putR (0,st)])))=(bs.zipIdx.map fun x=>segOf (x.2+n0) x.1)++[⟨bs.length+n0,[(0,st)],(putL [(0,st)]).length,0⟩]:=by
  rw [segs_filesB n0 F _ h1n (by omega),List.zipIdx_append,List.map_append]
  congr 1
  show [segOf (0+bs.length+n0) (putR (0,st))]=_
  unfold segOf
  rw [hsc,Nat.zero_add]
 have hlen2:(bs.zipIdx.map fun x=>segOf (x.2+n0) x.1).length=bs.length:=by rw [List.length_map,List.length_zipIdx]
 have hrow:rowS ((bs.zipIdx.map fun x=>segOf (x.2+n0) x.1)++[⟨bs.length+n0,[(0,st)],(putL [(0,st)]).length,0⟩])=some ([⟨bs.length+n0,[(0,st)],(putL [(0,st)]).length,0⟩],bs.length):=by
  unfold rowS
  rw [lastB_snoc,if_pos (by rfl),hlen2]
  simp only
  rw [List.drop_left' hlen2,if_pos]
  unfold okRow
  simp [okSeg]
 have hfr:=fresh_namesB n0 F (bs++[putR (0,st)]) (by omega)
 have hacts:actsOf (namesS (filesB n0 F (bs++[putR (0,st)]))) ((bs.zipIdx.map fun x=>segOf (x.2+n0) x.1)++[⟨bs.length+n0,[(0,st)],(putL [(0,st)]).length,0⟩]) [⟨bs.length+n0,[(0,st)],(putL [(0,st)]).length,0⟩] bs.length=
   ((List.range bs.length).map (·+n0)).map .rm++[.sy (bs.length+n0)]:=by
  unfold actsOf
  rw [if_neg hfr,List.take_left' hlen2,List.map_map]
  have e:bs.zipIdx.map ((fun x=>Ac.rm x.n)∘fun x=>segOf (x.2+n0) x.1)=((List.range bs.length).map (·+n0)).map .rm:=by
   rw [List.zipIdx_eq_zip_range']
   show (bs.zip _).map ((fun i=>Ac.rm (i+n0))∘Prod.snd)=_
   rw [← List.map_map,List.map_snd_zip (by simp),List.range_eq_range',List.map_map]
   rfl
  rw [e]
  simp
 have hrm:=rmAll_files (room:=room) bs n0 F (putR (0,st),F bs.length) h1n (by omega)
 rw [← filesB_snoc] at hrm
 have hsync:=syncB_last (n0:=bs.length+n0) (F:=fun _=>F bs.length) (bs:=[]) (c:=putR (0,st)) (room:=room) (by simp;omega)
 have e0:filesB (bs.length+n0) (fun _=>F bs.length) ([]++[putR (0,st)])=[(Jr.nm (bs.length+n0),(putR (0,st),F bs.length))]:=by simp [filesB]
 have e1:([]:List (List UInt8)).length+(bs.length+n0)=bs.length+n0:=by simp
 rw [e0,e1] at hsync
 unfold openS
 rw [if_neg (by omega)]
 simp only [Bool.false_eq_true,if_false,hseg,hrow,hacts]
 rw [run_rms _ _ (by rw [hrm]),hrm]
 simp only [runAcs,Ac.run,hsync,if_true]
 refine ⟨fun i=>if i=([]:List (List UInt8)).length then (putR (0,st)).length else F bs.length,?_,?_⟩
 ·have e2:madeJ limit [⟨bs.length+n0,[(0,st)],(putL [(0,st)]).length,0⟩]=⟨limit,st,[],(List.range 1).map (·+(bs.length+n0)),(putL [(0,st)]).length,true,false⟩:=by
   unfold madeJ
   simp [allR]
  rw [e2]
  simp [putL_one]
 ·show (if 0=0 then (putR (0,st)).length else _)=_
  rw [if_pos rfl,putL_one]
abbrev PastS:=List UInt8 × List Rec
structure RW (i:Nat) (had:List PastS) (n0:Nat) (F:Nat→Nat) (gs:List (List Rec)) (g:List Rec) (c:Nat) (st:List UInt8) (R:List Rec):Prop where
 safe:∀ (j:Nat) x,gs[j]? =some x→F j=(putL x).length
 last:F gs.length=(putL (g.take c)).length
 cle:c≤g.length
 n1:1≤n0
 hi:gs.length+n0≤i+1
 flat:(gs++[g]).flatten=(0,st)::R
 ne:∀ x∈gs,x≠[]
 c1:gs=[]→1≤c
 cov:∀ k,c≤k→k≤g.length→∀ R',(gs++[g.take k]).flatten=(0,st)::R'→(st,R')∈had
 kind:∀ r∈R,r.1≠0
 len:∀ r∈R,r.2.length≤200
 lst:st.length≤200
 cnt:R.length≤i
section
variable {i:Nat} {had had':List PastS} {n0:Nat} {F:Nat→Nat} {gs:List (List Rec)} {g:List Rec} {c:Nat} {st:List UInt8} {R:List Rec}
theorem RW.mono {i':Nat} (h:RW i had n0 F gs g c st R) (hi:i≤i') (hs:∀ p∈had,p∈had'):RW i' had' n0 F gs g c st R:=
 ⟨h.safe,h.last,h.cle,h.n1,Nat.le_trans h.hi (by omega),h.flat,h.ne,h.c1,fun k h1 h2 R' h3=>hs _ (h.cov k h1 h2 R' h3),h.kind,h.len,h.lst,Nat.le_trans h.cnt hi⟩
theorem RW.here (h:RW i had n0 F gs g c st R):(st,R)∈had:=h.cov g.length h.cle (Nat.le_refl _) R (by rw [List.take_length];exact h.flat)
theorem RW.sync (h:RW i had n0 F gs g c st R):RW i had n0 (fun j=>if j=gs.length then (putL g).length else F j) gs g g.length st R:=by
 refine ⟨fun j x hj=>?_,?_,Nat.le_refl _,h.n1,h.hi,h.flat,h.ne,fun h0=>Nat.le_trans (h.c1 h0) h.cle,fun k h1 h2=>h.cov k (Nat.le_trans h.cle h1) h2,h.kind,h.len,h.lst,h.cnt⟩
 ·have:=(List.getElem?_eq_some_iff.1 hj).1
  show (if j=gs.length then _ else F j)=_
  rw [if_neg (by omega)]
  exact h.safe j x hj
 ·show (if gs.length=gs.length then (putL g).length else _)=_
  rw [if_pos rfl,List.take_length]
theorem RW.put {r:Rec} (h:RW i had n0 F gs g c st R) (hr:r.1≠0) (hl:r.2.length≤200) (hs:∀ p∈had,p∈had') (hm:(st,R++[r])∈had'):RW (i+1) had' n0 F gs (g++[r]) c st (R++[r]):=by
 have hfl:(gs++[g++[r]]).flatten=(0,st)::(R++[r]):=by
  have:=h.flat
  rw [List.flatten_append] at this ⊢
  rw [← List.cons_append,← this]
  simp
 refine ⟨h.safe,?_,?_,h.n1,Nat.le_trans h.hi (by omega),hfl,h.ne,h.c1,fun k h1 h2 R' h3=>?_,fun x hx=>?_,fun x hx=>?_,h.lst,?_⟩
 ·rw [List.take_append_of_le_length h.cle];exact h.last
 ·rw [List.length_append];exact Nat.le_trans h.cle (by omega)
 ·rw [List.length_append,List.length_singleton] at h2
  by_cases hk:k≤g.length
  ·rw [List.take_append_of_le_length hk] at h3
   exact hs _ (h.cov k h1 hk R' h3)
  ·rw [List.take_of_length_le (by simp;omega),hfl] at h3
   obtain rfl:R++[r]=R':=by simpa using h3
   exact hm
 ·rcases List.mem_append.1 hx with hx | hx
  ·exact h.kind x hx
  ·rw [List.mem_singleton.1 hx];exact hr
 ·rcases List.mem_append.1 hx with hx | hx
  ·exact h.len x hx
  ·rw [List.mem_singleton.1 hx];exact hl
 ·rw [List.length_append]
  have:=h.cnt
  simp;omega
theorem RW.turn {r:Rec} (h:RW i had n0 F gs g c st R) (hg:g≠[]) (hr:r.1≠0) (hl:r.2.length≤200) (hs:∀ p∈had,p∈had') (hm:(st,R++[r])∈had'):
  RW (i+1) had' n0 (fun j=>if j=gs.length+1 then 0 else if j=gs.length then (putL g).length else F j) (gs++[g]) [r] 0 st (R++[r]):=by
 have hfl:((gs++[g])++[[r]]).flatten=(0,st)::(R++[r]):=by
  rw [List.flatten_append,h.flat];simp
 refine ⟨fun j x hj=>?_,?_,by simp,h.n1,?_,hfl,fun x hx=>?_,fun h0=>by simp at h0,fun k h1 h2 R' h3=>?_,fun x hx=>?_,fun x hx=>?_,h.lst,?_⟩
 ·have hlt:=(List.getElem?_eq_some_iff.1 hj).1
  rw [List.length_append,List.length_singleton] at hlt
  show (if j=gs.length+1 then 0 else if j=gs.length then (putL g).length else F j)=_
  rw [if_neg (by omega)]
  by_cases hjg:j=gs.length
  ·subst hjg
   rw [if_pos rfl]
   rw [List.getElem?_append_right (Nat.le_refl _),Nat.sub_self] at hj
   obtain rfl:g=x:=by simpa using hj
   rfl
  ·rw [if_neg hjg]
   rw [List.getElem?_append_left (by omega)] at hj
   exact h.safe j x hj
 ·show (if (gs++[g]).length=gs.length+1 then 0 else _)=_
  rw [if_pos (by simp)]
  simp [putL]
 ·rw [List.length_append]
  have:=h.hi
  simp;omega
 ·rcases List.mem_append.1 hx with hx | hx
  ·exact h.ne x hx
  ·rw [List.mem_singleton.1 hx];exact hg
 ·match k,h2 with
  | 0,_=>
   rw [List.take_zero,List.flatten_append,h.flat] at h3
   obtain rfl:R=R':=by simpa using h3
   exact hs _ h.here
  | 1,_=>
   have h3:((gs++[g])++[[r]]).flatten=(0,st)::R':=h3
   rw [hfl] at h3
   obtain rfl:R++[r]=R':=by simpa using h3
   exact hm
  | k+2,h2=>simp at h2
 ·rcases List.mem_append.1 hx with hx | hx
  ·exact h.kind x hx
  ·rw [List.mem_singleton.1 hx];exact hr
 ·rcases List.mem_append.1 hx with hx | hx
  ·exact h.len x hx
  ·rw [List.mem_singleton.1 hx];exact hl
 ·rw [List.length_append]
  have:=h.cnt
  simp;omega
end
def KU (lim:Int) (i:Nat) (s:DS) (q:JS) (had:List PastS):Prop:=
 ∃ fu n0 F gs g c,s=⟨filesB n0 F ((gs++[g]).map putL),3000,fu,false⟩∧q=⟨lim,q.state,q.l,(List.range (gs.length+1)).map (·+n0),(putL g).length,!g.isEmpty,false⟩∧RW i had n0 F gs g c q.state q.l
def KX (i:Nat) (s:DS) (had:List PastS):Prop:=
 (∃ n0 F gs g c E st R,s=⟨filesB n0 F ((gs++[g]).map putL)++E,3000,0,true⟩∧Bes E∧RW i had n0 F gs g c st R)∨
 ∃ n0 F bs st,s=⟨filesB n0 F (bs++[putR (0,st)]),3000,0,true⟩∧F bs.length=(putR (0,st)).length∧(st,[])∈had∧1≤n0∧bs.length+n0≤i+1∧st.length≤200∧∀ b∈bs,b.length≤(i+1) * 213
def After (lim:Int) (i:Nat) (s:DS) (q:JS) (had:List PastS):Prop:=(s.down=false→KU lim i s q had)∧(s.down=true→KX i s had)
theorem actS_or (D:Fls) (room fu:Int) (f:Fls→Fls) (t:Bool):(∃ fu',actS ⟨D,room,fu,false⟩ f t=(⟨f D,room,fu',false⟩,0))∨actS ⟨D,room,fu,false⟩ f t=(⟨if t=true then f D else D,room,0,true⟩,100):=by
 unfold actS
 by_cases h:0 < fu
 ·rw [if_pos h]
  by_cases h1:fu - 1=0
  ·right;rw [if_pos h1]
  ·left;rw [if_neg h1];exact ⟨_,rfl⟩
 ·left
  rw [if_neg h]
  exact ⟨_,rfl⟩
theorem append_new_or {n0:Nat} {F:Nat→Nat} {bs:List (List UInt8)} {b:List UInt8} {room fu:Int} (h64:bs.length+n0 < 60) (hb:b.length≤1048576):
  appendS ⟨filesB n0 F bs,room,fu,false⟩ (Jr.nm (bs.length+n0)) b=(⟨filesB n0 F bs,room,fu,false⟩,6)∨
  (∃ fu',appendS ⟨filesB n0 F bs,room,fu,false⟩ (Jr.nm (bs.length+n0)) b=(⟨filesB n0 (fun i=>if i=bs.length then 0 else F i) (bs++[b]),room,fu',false⟩,0))∨
  appendS ⟨filesB n0 F bs,room,fu,false⟩ (Jr.nm (bs.length+n0)) b=(⟨filesB n0 (fun i=>if i=bs.length then 0 else F i) (bs++[b]),room,0,true⟩,100):=by
 have hl:=lookB_none n0 F bs (n:=bs.length+n0) (Nat.le_refl _) (by omega)
 have hfo:fileOf (filesB n0 F bs) (Jr.nm (bs.length+n0))=([],0):=by unfold fileOf;rw [hl];rfl
 have hm:=(nm_ok (bs.length+n0) (by omega)).2.1
 unfold appendS
 simp only [Bool.false_eq_true,if_false,hm,usedB_files,hfo,List.length_nil]
 rw [if_neg (by simp),if_neg (by omega)]
 by_cases hr:room - (bs.flatten.length:Int) < (b.length:Int)
 ·left;rw [if_pos hr]
 ·right
  rw [if_neg hr]
  have e:=putB_new n0 F bs b 0 (by omega)
  rw [List.nil_append]
  rcases actS_or (filesB n0 F bs) room fu (fun D=>putF D (Jr.nm (bs.length+n0)) (b,0)) true with ⟨fu',h⟩ | h
  ·left;rw [e] at h;exact ⟨fu',h⟩
  ·right;rw [if_pos rfl,e] at h;exact h
theorem append_last_or {n0:Nat} {F:Nat→Nat} {bs:List (List UInt8)} {c b:List UInt8} {room fu:Int} (h64:bs.length+n0 < 60) (hb:c.length+b.length≤1048576):
  appendS ⟨filesB n0 F (bs++[c]),room,fu,false⟩ (Jr.nm (bs.length+n0)) b=(⟨filesB n0 F (bs++[c]),room,fu,false⟩,6)∨
  (∃ fu',appendS ⟨filesB n0 F (bs++[c]),room,fu,false⟩ (Jr.nm (bs.length+n0)) b=(⟨filesB n0 F (bs++[c++b]),room,fu',false⟩,0))∨
  appendS ⟨filesB n0 F (bs++[c]),room,fu,false⟩ (Jr.nm (bs.length+n0)) b=(⟨filesB n0 F (bs++[c++b]),room,0,true⟩,100):=by
 have hl:=lookB_last n0 F bs c (by omega)
 have hfo:fileOf (filesB n0 F (bs++[c])) (Jr.nm (bs.length+n0))=(c,F bs.length):=by unfold fileOf;rw [hl];rfl
 have hm:=(nm_ok (bs.length+n0) (by omega)).2.1
 unfold appendS
 simp only [Bool.false_eq_true,if_false,hm,usedB_files,hfo]
 rw [if_neg (by simp),if_neg (by omega)]
 by_cases hr:room - ((bs++[c]).flatten.length:Int) < (b.length:Int)
 ·left;rw [if_pos hr]
 ·right
  rw [if_neg hr]
  have e:putF (filesB n0 F (bs++[c])) (Jr.nm (bs.length+n0)) (c++b,F bs.length)=filesB n0 F (bs++[c++b]):=by
   rw [putB_last n0 F bs c (c++b) _ (by omega)]
   exact filesB_congr fun i _=>by split <;> simp_all
  rcases actS_or (filesB n0 F (bs++[c])) room fu (fun D=>putF D (Jr.nm (bs.length+n0)) (c++b,F bs.length)) true with ⟨fu',h⟩ | h
  ·left;rw [e] at h;exact ⟨fu',h⟩
  ·right;rw [if_pos rfl,e] at h;exact h
theorem sync_last_or {n0:Nat} {F:Nat→Nat} {bs:List (List UInt8)} {c:List UInt8} {room fu:Int} (h64:bs.length+n0 < 60):
  (∃ fu',syncS ⟨filesB n0 F (bs++[c]),room,fu,false⟩ (Jr.nm (bs.length+n0))=(⟨filesB n0 (fun i=>if i=bs.length then c.length else F i) (bs++[c]),room,fu',false⟩,0))∨
  syncS ⟨filesB n0 F (bs++[c]),room,fu,false⟩ (Jr.nm (bs.length+n0))=(⟨filesB n0 F (bs++[c]),room,0,true⟩,100):=by
 have hl:=lookB_last n0 F bs c (by omega)
 unfold syncS
 simp only [Bool.false_eq_true,if_false,hl]
 have e:=putB_last n0 F bs c c c.length (by omega)
 rcases actS_or (filesB n0 F (bs++[c])) room fu (fun D=>putF D (Jr.nm (bs.length+n0)) (c,c.length)) false with ⟨fu',h⟩ | h
 ·left;rw [e] at h;exact ⟨fu',h⟩
 ·right;exact h
theorem doneJ_6 (q:JS) (h:q.broken=false):doneJ q 6=q:=by
 obtain ⟨a,b,c,d,e,f,g⟩:=q
 simp only at h
 subst h
 rfl
section
variable {lim:Int} {i:Nat} {s:DS} {q:JS} {had:List PastS}
theorem append_k {r:Rec} (h:KU lim i s q had) (hi:i < 45) (hr:r.1≠0) (hl:r.2.length≤200):
  After lim (i+1) (appendJ s q r).1 (appendJ s q r).2.1 (had++[(q.state,q.l++[r])]++[((appendJ s q r).2.1.state,(appendJ s q r).2.1.l)]):=by
 obtain ⟨fu,n0,F,gs,g,c,hs,hq,hw⟩:=h
 generalize hst:q.state=st at hq hw ⊢
 generalize hRl:q.l=R at hq hw ⊢
 subst hs hq
 clear hst hRl
 have hpr:=putR_length r
 have hhi:=hw.hi
 have em:(gs++[g]).map putL=gs.map putL++[putL g]:=by rw [List.map_append];rfl
 have el:(gs.map putL).length=gs.length:=List.length_map _
 have hgl:(putL g).length≤50 * 213:=by
  have h1:(putL g).length≤g.length * (13+200):=putL_len g fun x hx=>by
   have:x∈(gs++[g]).flatten:=List.mem_flatten.2 ⟨g,by simp,hx⟩
   rw [hw.flat] at this
   rcases List.mem_cons.1 this with rfl | h
   ·exact hw.lst
   ·exact hw.len x h
  have h2:g.length≤R.length+1:=by
   have:=congrArg List.length hw.flat
   rw [List.length_flatten,List.map_append,List.sum_append] at this
   simp at this
   omega
  have:=hw.cnt
  have h3:g.length * (13+200)≤50 * 213:=Nat.mul_le_mul (by omega) (by omega)
  omega
 unfold appendJ
 rw [if_neg hr]
 simp only [Bool.false_eq_true,if_false,row_lastB,Option.getD_some]
 have inl:∀ x,∀ p∈had,p∈had++[(st,R++[r])]++[x]:=fun x p hp=>by simp [hp]
 have inm:∀ x,(st,R++[r])∈had++[(st,R++[r])]++[x]:=fun x=>by simp
 by_cases ht:(!g.isEmpty)=true∧lim - ((putL g).length:Int) < ((putR r).length:Int)
 ·rw [if_pos ht,if_neg (by omega)]
  have hg:g≠[]:=by rintro rfl;simp at ht
  have h1:=sync_last_or (n0:=n0) (F:=F) (bs:=gs.map putL) (c:=putL g) (room:=3000) (fu:=fu) (by omega)
  rw [el,← em] at h1
  rcases h1 with ⟨fu1,h1⟩ | h1
  ·rw [h1]
   simp only [ne_eq,not_true_eq_false,if_false]
   have h2:=append_new_or (n0:=n0) (F:=fun j=>if j=gs.length then (putL g).length else F j) (bs:=(gs++[g]).map putL) (b:=putR r) (room:=3000) (fu:=fu1) (by rw [List.length_map];simp;omega) (by omega)
   rw [show ((gs++[g]).map putL).length+n0=gs.length+n0+1 by rw [List.length_map];simp;omega,show ((gs++[g]).map putL).length=gs.length+1 by rw [List.length_map];simp] at h2
   have e2:(gs++[g]).map putL++[putR r]=(gs++[g]++[[r]]).map putL:=by rw [List.map_append (l₁:=gs++[g]),List.map_singleton,putL_one]
   rw [e2] at h2
   rcases h2 with h2 | ⟨fu2,h2⟩ | h2
   ·rw [h2]
    rw [if_pos (by simp),doneJ_6 _ rfl]
    exact ⟨fun _=>⟨fu1,n0,_,gs,g,g.length,rfl,rfl,hw.sync.mono (by omega) (inl _)⟩,fun h=>by cases h⟩
   ·rw [h2]
    simp only [not_true_eq_false,if_false]
    refine ⟨fun _=>⟨fu2,n0,_,gs++[g],[r],0,rfl,?_,hw.turn hg hr hl (inl _) (inm _)⟩,fun h=>by cases h⟩
    rw [putL_one,List.length_append,row_snocB]
    rfl
   ·rw [h2]
    rw [if_pos (by simp)]
    exact ⟨fun h=>by (have h:true=false:=h;cases h),fun _=>.inl ⟨n0,_,gs++[g],[r],0,[],st,R++[r],by rw [List.append_nil],.inl rfl,hw.turn hg hr hl (inl _) (inm _)⟩⟩
  ·rw [h1]
   rw [if_pos (by simp)]
   exact ⟨fun h=>by (have h:true=false:=h;cases h),fun _=>.inl ⟨n0,_,gs,g,c,[],st,R,by rw [List.append_nil],.inl rfl,hw.mono (by omega) (inl _)⟩⟩
 ·rw [if_neg ht]
  have h1:=append_last_or (n0:=n0) (F:=F) (bs:=gs.map putL) (c:=putL g) (b:=putR r) (room:=3000) (fu:=fu) (by omega) (by omega)
  have e2:gs.map putL++[putL g++putR r]=(gs++[g++[r]]).map putL:=by rw [List.map_append,List.map_singleton,putL_append,putL_one]
  rw [el,← em,e2] at h1
  rcases h1 with h1 | ⟨fu1,h1⟩ | h1
  ·rw [h1]
   rw [if_pos (by simp),doneJ_6 _ rfl]
   exact ⟨fun _=>⟨fu,n0,F,gs,g,c,rfl,rfl,hw.mono (by omega) (inl _)⟩,fun h=>by cases h⟩
  ·rw [h1]
   simp only [ne_eq,not_true_eq_false,if_false]
   refine ⟨fun _=>⟨fu1,n0,F,gs,g++[r],c,rfl,?_,hw.put hr hl (inl _) (inm _)⟩,fun h=>by cases h⟩
   rw [putL_append,putL_one,List.length_append]
   simp
  ·rw [h1]
   rw [if_pos (by simp)]
   exact ⟨fun h=>by (have h:true=false:=h;cases h),fun _=>.inl ⟨n0,_,gs,g++[r],c,[],st,R++[r],by rw [List.append_nil],.inl rfl,hw.put hr hl (inl _) (inm _)⟩⟩
theorem sync_k (h:KU lim i s q had) (hi:i < 45):After lim (i+1) (syncJ s q).1 (syncJ s q).2.1 (if (syncJ s q).2.2=0 then [((syncJ s q).2.1.state,(syncJ s q).2.1.l)] else had++[((syncJ s q).2.1.state,(syncJ s q).2.1.l)]):=by
 obtain ⟨fu,n0,F,gs,g,c,hs,hq,hw⟩:=h
 generalize hst:q.state=st at hq hw ⊢
 generalize hRl:q.l=R at hq hw ⊢
 subst hs hq
 clear hst hRl
 have hhi:=hw.hi
 have em:(gs++[g]).map putL=gs.map putL++[putL g]:=by rw [List.map_append];rfl
 have el:(gs.map putL).length=gs.length:=List.length_map _
 have h1:=sync_last_or (n0:=n0) (F:=F) (bs:=gs.map putL) (c:=putL g) (room:=3000) (fu:=fu) (by omega)
 rw [el,← em] at h1
 unfold syncJ
 simp only [Bool.false_eq_true,if_false,row_lastB,Option.getD_some]
 rcases h1 with ⟨fu1,h1⟩ | h1
 ·rw [h1]
  simp only [if_true]
  refine ⟨fun _=>⟨fu1,n0,_,gs,g,g.length,rfl,rfl,?_⟩,fun h=>by cases h⟩
  have hs:=hw.sync.mono (i':=i+1) (had':=had) (by omega) (fun p hp=>hp)
  refine ⟨hs.safe,hs.last,hs.cle,hs.n1,hs.hi,hs.flat,hs.ne,hs.c1,fun k h1 h2 R' h3=>?_,hs.kind,hs.len,hs.lst,hs.cnt⟩
  have hk:k=g.length:=by omega
  subst hk
  rw [List.take_length] at h3
  have h4:(0,st)::R=(0,st)::R':=hs.flat.symm.trans h3
  obtain rfl:R=R':=by simpa using h4
  exact List.mem_singleton.2 rfl
 ·rw [h1]
  rw [if_neg (by simp)]
  exact ⟨fun h=>by (have h:true=false:=h;cases h),fun _=>.inl ⟨n0,_,gs,g,c,[],st,R,by rw [List.append_nil],.inl rfl,hw.mono (by omega) (fun p hp=>by simp [hp])⟩⟩
theorem fuse_k (n:Int) (h:KU lim i s q had):After lim (i+1) (fuseS s n) q (had++[(q.state,q.l)]):=by
 obtain ⟨fu,n0,F,gs,g,c,rfl,hq,hw⟩:=h
 exact ⟨fun _=>⟨max n 0,n0,F,gs,g,c,rfl,hq,hw.mono (by omega) (fun p hp=>by simp [hp])⟩,fun h=>by cases h⟩
theorem crash_k (h:KU lim i s q had):After lim (i+1) (crashS s) q (had++[(q.state,q.l)]):=by
 obtain ⟨fu,n0,F,gs,g,c,rfl,hq,hw⟩:=h
 exact ⟨fun h=>by (have h:true=false:=h;cases h),fun _=>.inl ⟨n0,F,gs,g,c,[],_,_,by rw [List.append_nil];rfl,.inl rfl,hw.mono (by omega) (fun p hp=>by simp [hp])⟩⟩
end
theorem rmAll_or {room:Int}:∀ (bs:List (List UInt8)) (n0:Nat) (F:Nat→Nat) (v:Fil) (fu:Int),1≤n0→bs.length+n0 < 60→
  (∃ fu',rmAll ⟨filesB n0 F bs++[(Jr.nm (bs.length+n0),v)],room,fu,false⟩ ((List.range bs.length).map (·+n0))=(⟨[(Jr.nm (bs.length+n0),v)],room,fu',false⟩,0))∨
  ∃ k F',k≤bs.length∧rmAll ⟨filesB n0 F bs++[(Jr.nm (bs.length+n0),v)],room,fu,false⟩ ((List.range bs.length).map (·+n0))=(⟨filesB (n0+k) F' (bs.drop k)++[(Jr.nm (bs.length+n0),v)],room,0,true⟩,100)
 | [],n0,F,v,fu,_,_=>.inl ⟨fu,by simp [filesB,rmAll]⟩
 | b::r,n0,F,v,fu,h1,h64=>by
  have h64:r.length+1+n0 < 60:=h64
  have e1:filesB n0 F (b::r)=(Jr.nm n0,(b,F 0))::filesB (n0+1) (fun i=>F (i+1)) r:=by
   unfold filesB
   rw [List.zipIdx_cons',List.map_cons,List.map_map]
   simp only [Nat.zero_add,Function.comp_def]
   congr 1
   apply List.map_congr_left
   intro x _
   show (Jr.nm (x.2+1+n0),(x.1,F (x.2+1)))=(Jr.nm (x.2+(n0+1)),(x.1,F (x.2+1)))
   rw [show x.2+1+n0=x.2+(n0+1) by omega]
  have e2:(List.range (b::r).length).map (·+n0)=n0::(List.range r.length).map (·+(n0+1)):=by
   rw [List.length_cons,List.range_succ_eq_map,List.map_cons,List.map_map]
   simp only [Nat.zero_add]
   congr 1
   apply List.map_congr_left
   intro x _
   show x+1+n0=x+(n0+1)
   omega
  have hne:∀ e∈filesB (n0+1) (fun i=>F (i+1)) r++[(Jr.nm (r.length+(n0+1)),v)],e.1≠Jr.nm n0:=by
   intro e he h
   rcases List.mem_append.1 he with he | he
   ·obtain ⟨i,c,hi,rfl⟩:=filesB_mem he
    have:=(List.getElem?_eq_some_iff.1 hi).1
    have:=nm_inj (by omega) (by omega) h
    omega
   ·rw [List.mem_singleton.1 he] at h
    have:=nm_inj (by omega) (by omega) h
    omega
  have e3:(b::r).length+n0=r.length+(n0+1):=by rw [List.length_cons];omega
  have hrm:(∃ fu',removeS ⟨(Jr.nm n0,(b,F 0))::filesB (n0+1) (fun i=>F (i+1)) r++[(Jr.nm (r.length+(n0+1)),v)],room,fu,false⟩ (Jr.nm n0)=(⟨filesB (n0+1) (fun i=>F (i+1)) r++[(Jr.nm (r.length+(n0+1)),v)],room,fu',false⟩,0))∨
    removeS ⟨(Jr.nm n0,(b,F 0))::filesB (n0+1) (fun i=>F (i+1)) r++[(Jr.nm (r.length+(n0+1)),v)],room,fu,false⟩ (Jr.nm n0)=(⟨(Jr.nm n0,(b,F 0))::filesB (n0+1) (fun i=>F (i+1)) r++[(Jr.nm (r.length+(n0+1)),v)],room,0,true⟩,100):=by
   unfold removeS
   have hl:lookF ((Jr.nm n0,(b,F 0))::filesB (n0+1) (fun i=>F (i+1)) r++[(Jr.nm (r.length+(n0+1)),v)]) (Jr.nm n0)=some (b,F 0):=by simp [lookF]
   simp only [Bool.false_eq_true,if_false,hl]
   rcases actS_or ((Jr.nm n0,(b,F 0))::filesB (n0+1) (fun i=>F (i+1)) r++[(Jr.nm (r.length+(n0+1)),v)]) room fu (fun D=>delF D (Jr.nm n0)) false with ⟨fu',h⟩ | h
   ·left
    rw [List.cons_append,delF_first hne] at h
    exact ⟨fu',h⟩
   ·right;exact h
  rw [e1,e2,e3]
  rcases hrm with ⟨fu',hrm⟩ | hrm
  ·rcases rmAll_or (room:=room) r (n0+1) (fun i=>F (i+1)) v fu' (by omega) (by omega) with ⟨fu2,h⟩ | ⟨k,F',hk,h⟩
   ·left
    refine ⟨fu2,?_⟩
    unfold rmAll
    rw [hrm]
    simp only [ne_eq,not_true_eq_false,if_false]
    exact h
   ·right
    refine ⟨k+1,F',by simpa using hk,?_⟩
    unfold rmAll
    rw [hrm]
    simp only [ne_eq,not_true_eq_false,if_false]
    rw [h,List.drop_succ_cons,show n0+1+k=n0+(k+1) by omega]
  ·right
   refine ⟨0,F,Nat.zero_le _,?_⟩
   unfold rmAll
   rw [hrm,if_pos (by simp)]
   show _=((⟨filesB n0 F (b::r)++[(Jr.nm (r.length+(n0+1)),v)],room,0,true⟩:DS),(100:Int))
   rw [e1]
theorem tot_len {i:Nat} {had:List PastS} {n0:Nat} {F:Nat→Nat} {gs:List (List Rec)} {g:List Rec} {c:Nat} {st:List UInt8} {R:List Rec} (h:RW i had n0 F gs g c st R):(putL ((0,st)::R)).length≤(i+1) * 213:=by
 have h1:=putL_len ((0,st)::R) (n:=200) (fun x hx=>by
  rcases List.mem_cons.1 hx with rfl | hx
  ·exact h.lst
  ·exact h.len x hx)
 have h2:((0,st)::R:List Rec).length * (13+200)≤(i+1) * 213:=Nat.mul_le_mul (by have:=h.cnt;rw [List.length_cons];omega) (by omega)
 omega
theorem grp_len {i:Nat} {had:List PastS} {n0:Nat} {F:Nat→Nat} {gs:List (List Rec)} {g x:List Rec} {c:Nat} {st:List UInt8} {R:List Rec} (h:RW i had n0 F gs g c st R) (hx:x∈gs++[g]):(putL x).length≤(i+1) * 213:=by
 refine Nat.le_trans ?_ (tot_len h)
 obtain ⟨a,b,hab⟩:=List.append_of_mem hx
 rw [← h.flat,hab,List.flatten_append,List.flatten_cons,putL_append,putL_append,List.length_append,List.length_append]
 omega
theorem RW.alone {i n:Nat} {F:Nat→Nat} {st:List UInt8} (hF:F 0=(putL [(0,st)]).length) (hn:1≤n) (hi:n≤i+1) (hst:st.length≤200):RW i [(st,[])] n F [] [(0,st)] 1 st []:=by
 refine ⟨by simp,hF,Nat.le_refl _,hn,by simpa using hi,rfl,by simp,fun _=>Nat.le_refl _,fun k h1 h2 R' h3=>?_,by simp,by simp,hst,by simp⟩
 have hk:k=1:=Nat.le_antisymm h2 h1
 subst hk
 have h3:[((0:UInt8),st)]=(0,st)::R':=h3
 obtain rfl:[]=R':=by simpa using h3
 exact List.mem_singleton.2 rfl
section
variable {lim:Int} {i:Nat} {s:DS} {q:JS} {had:List PastS}
theorem check_k {st':List UInt8} (h:KU lim i s q had) (hi:i < 45) (hl:st'.length≤200):
  After lim (i+1) (checkpointJ s (namesS s.D) q st').1 (checkpointJ s (namesS s.D) q st').2.1
   (if (checkpointJ s (namesS s.D) q st').2.2=0 then [((checkpointJ s (namesS s.D) q st').2.1.state,(checkpointJ s (namesS s.D) q st').2.1.l)] else had++[(st',[])]++[((checkpointJ s (namesS s.D) q st').2.1.state,(checkpointJ s (namesS s.D) q st').2.1.l)]):=by
 obtain ⟨fu,n0,F,gs,g,c,hs,hq,hw⟩:=h
 generalize hst:q.state=st at hq hw ⊢
 generalize hRl:q.l=R at hq hw ⊢
 subst hs hq
 clear hst hRl
 have hpr:(putR (0,st')).length=13+st'.length:=putR_length (0,st')
 have hhi:=hw.hi
 have h1n:=hw.n1
 have el:((gs++[g]).map putL).length=gs.length+1:=by rw [List.length_map,List.length_append];rfl
 have hbl:∀ b∈(gs++[g]).map putL,b.length≤(i+1) * 213:=fun b hb=>by
  obtain ⟨x,hx,rfl⟩:=List.mem_map.1 hb
  exact grp_len hw hx
 have inl:∀ x y,∀ p∈had,p∈had++[x]++[y]:=fun x y p hp=>by simp [hp]
 have hmono:(i+1) * 213≤(i+1+1) * 213:=Nat.mul_le_mul_right _ (by omega)
 have hmf:mayS fresh=true:=by decide
 have hm1:mayS (Jr.nm (gs.length+n0+1))=true:=(nm_ok _ (by omega)).2.1
 have hfr:=fresh_namesB n0 F ((gs++[g]).map putL) (by omega)
 have hnf:=filesB_fresh (n0:=n0) (F:=F) (bs:=(gs++[g]).map putL) (by omega)
 have hnn:∀ e∈filesB n0 F ((gs++[g]).map putL),e.1≠Jr.nm (gs.length+n0+1):=filesB_ne (by omega) (by omega)
 have h1:appendS ⟨filesB n0 F ((gs++[g]).map putL),3000,fu,false⟩ fresh (putR (0,st'))=(⟨filesB n0 F ((gs++[g]).map putL),3000,fu,false⟩,6)∨
   (∃ fu',appendS ⟨filesB n0 F ((gs++[g]).map putL),3000,fu,false⟩ fresh (putR (0,st'))=(⟨filesB n0 F ((gs++[g]).map putL)++[(fresh,(putR (0,st'),0))],3000,fu',false⟩,0))∨
   appendS ⟨filesB n0 F ((gs++[g]).map putL),3000,fu,false⟩ fresh (putR (0,st'))=(⟨filesB n0 F ((gs++[g]).map putL)++[(fresh,(putR (0,st'),0))],3000,0,true⟩,100):=by
  have hlk:lookF (filesB n0 F ((gs++[g]).map putL)) fresh=none:=by
   have:=lookF_app hnf []
   rw [List.append_nil] at this
   rw [this];rfl
  have hfo:fileOf (filesB n0 F ((gs++[g]).map putL)) fresh=([],0):=by unfold fileOf;rw [hlk];rfl
  unfold appendS
  simp only [Bool.false_eq_true,if_false,hmf,hfo,List.length_nil]
  rw [if_neg (by simp),if_neg (by omega)]
  split
  ·left;rfl
  ·right
   have e:=putF_app hnf (putR (0,st'),0) []
   rw [List.append_nil] at e
   have e:putF (filesB n0 F ((gs++[g]).map putL)) fresh (putR (0,st'),0)=filesB n0 F ((gs++[g]).map putL)++[(fresh,(putR (0,st'),0))]:=e
   rw [List.nil_append]
   rcases actS_or (filesB n0 F ((gs++[g]).map putL)) 3000 fu (fun D=>putF D fresh (putR (0,st'),0)) true with ⟨fu',h⟩ | h
   ·left;rw [e] at h;exact ⟨fu',h⟩
   ·right;rw [if_pos rfl,e] at h;exact h
 have h2:∀ fu,(∃ fu',syncS ⟨filesB n0 F ((gs++[g]).map putL)++[(fresh,(putR (0,st'),0))],3000,fu,false⟩ fresh=(⟨filesB n0 F ((gs++[g]).map putL)++[(fresh,(putR (0,st'),(putR (0,st')).length))],3000,fu',false⟩,0))∨
   syncS ⟨filesB n0 F ((gs++[g]).map putL)++[(fresh,(putR (0,st'),0))],3000,fu,false⟩ fresh=(⟨filesB n0 F ((gs++[g]).map putL)++[(fresh,(putR (0,st'),0))],3000,0,true⟩,100):=by
  intro fu
  unfold syncS
  have hl:lookF (filesB n0 F ((gs++[g]).map putL)++[(fresh,(putR (0,st'),0))]) fresh=some (putR (0,st'),0):=by rw [lookF_app hnf];simp [lookF]
  simp only [Bool.false_eq_true,if_false,hl]
  have e:putF (filesB n0 F ((gs++[g]).map putL)++[(fresh,(putR (0,st'),0))]) fresh (putR (0,st'),(putR (0,st')).length)=filesB n0 F ((gs++[g]).map putL)++[(fresh,(putR (0,st'),(putR (0,st')).length))]:=by
   rw [putF_app hnf];simp [putF]
  rcases actS_or (filesB n0 F ((gs++[g]).map putL)++[(fresh,(putR (0,st'),0))]) 3000 fu (fun D=>putF D fresh (putR (0,st'),(putR (0,st')).length)) false with ⟨fu',h⟩ | h
  ·left;rw [e] at h;exact ⟨fu',h⟩
  ·right;exact h
 have h3:∀ fu,(∃ fu',renameS ⟨filesB n0 F ((gs++[g]).map putL)++[(fresh,(putR (0,st'),(putR (0,st')).length))],3000,fu,false⟩ fresh (Jr.nm (gs.length+n0+1))=(⟨filesB n0 F ((gs++[g]).map putL)++[(Jr.nm (gs.length+n0+1),(putR (0,st'),(putR (0,st')).length))],3000,fu',false⟩,0))∨
   renameS ⟨filesB n0 F ((gs++[g]).map putL)++[(fresh,(putR (0,st'),(putR (0,st')).length))],3000,fu,false⟩ fresh (Jr.nm (gs.length+n0+1))=(⟨filesB n0 F ((gs++[g]).map putL)++[(fresh,(putR (0,st'),(putR (0,st')).length))],3000,0,true⟩,100):=by
  intro fu
  unfold renameS
  have hl:lookF (filesB n0 F ((gs++[g]).map putL)++[(fresh,(putR (0,st'),(putR (0,st')).length))]) fresh=some (putR (0,st'),(putR (0,st')).length):=by rw [lookF_app hnf];simp [lookF]
  simp only [Bool.false_eq_true,if_false,hl,hmf,hm1,Bool.and_self]
  rw [if_neg (by simp)]
  have e:putF (delF (filesB n0 F ((gs++[g]).map putL)++[(fresh,(putR (0,st'),(putR (0,st')).length))]) fresh) (Jr.nm (gs.length+n0+1)) (putR (0,st'),(putR (0,st')).length)=filesB n0 F ((gs++[g]).map putL)++[(Jr.nm (gs.length+n0+1),(putR (0,st'),(putR (0,st')).length))]:=by
   rw [delF_app_last hnf]
   have:=putF_app hnn (putR (0,st'),(putR (0,st')).length) []
   rw [List.append_nil] at this
   rw [this]
   rfl
  rcases actS_or (filesB n0 F ((gs++[g]).map putL)++[(fresh,(putR (0,st'),(putR (0,st')).length))]) 3000 fu (fun D=>putF (delF D fresh) (Jr.nm (gs.length+n0+1)) (putR (0,st'),(putR (0,st')).length)) false with ⟨fu',h⟩ | h
  ·left;rw [e] at h;exact ⟨fu',h⟩
  ·right;exact h
 have h4:=fun fu=>rmAll_or (room:=3000) ((gs++[g]).map putL) n0 F (putR (0,st'),(putR (0,st')).length) fu h1n (by omega)
 rw [show ((gs++[g]).map putL).length+n0=gs.length+n0+1 by omega,el] at h4
 have hbes:∀ n,Bes [(fresh,(putR (0,st'),n))]:=fun n=>.inr ⟨_,rfl,by show (putR (0,st')).length≤213;omega⟩
 unfold checkpointJ
 simp only [Bool.false_eq_true,if_false,row_lastB,Option.getD_some]
 rw [if_neg (by omega),if_neg (by omega),if_neg hfr]
 simp only [ne_eq,not_true_eq_false,if_false]
 rcases h1 with h1 | ⟨fu1,h1⟩ | h1
 ·rw [h1,if_pos (by simp),doneJ_6 _ rfl,if_neg (by simp)]
  exact ⟨fun _=>⟨fu,n0,F,gs,g,c,rfl,rfl,hw.mono (by omega) (inl _ _)⟩,fun h=>by cases h⟩
 ·rw [h1,if_neg (by simp)]
  simp only
  rcases h2 fu1 with ⟨fu2,h2⟩ | h2
  ·rw [h2,if_neg (by simp)]
   simp only
   rcases h3 fu2 with ⟨fu3,h3⟩ | h3
   ·rw [h3,if_neg (by simp)]
    simp only
    rcases h4 fu3 with ⟨fu4,h4⟩ | ⟨k,F',hk,h4⟩
    ·rw [h4,if_neg (by simp),if_pos rfl]
     refine ⟨fun _=>⟨fu4,gs.length+n0+1,fun _=>(putR (0,st')).length,[],[(0,st')],1,?_,?_,RW.alone ?_ (by omega) (by omega) hl⟩,fun h=>by cases h⟩
     ·simp [filesB,putL_one]
     ·simp [putL_one]
     ·rw [putL_one]
    ·rw [h4,if_pos (by simp),if_neg (by simp)]
     refine ⟨fun h=>by (have h:true=false:=h;cases h),fun _=>.inr ⟨n0+k,fun j=>if j=(((gs++[g]).map putL).drop k).length then (putR (0,st')).length else F' j,((gs++[g]).map putL).drop k,st',?_,if_pos rfl,by simp,by omega,?_,hl,fun b hb=>Nat.le_trans (hbl b (List.mem_of_mem_drop hb)) hmono⟩⟩
     ·have hdl:(((gs++[g]).map putL).drop k).length+(n0+k)=gs.length+n0+1:=by rw [List.length_drop,el];omega
      have hc:filesB (n0+k) (fun j=>if j=(((gs++[g]).map putL).drop k).length then (putR (0,st')).length else F' j) (((gs++[g]).map putL).drop k)=filesB (n0+k) F' (((gs++[g]).map putL).drop k):=filesB_congr fun j hj=>by
       show (if j=_ then _ else F' j)=F' j
       rw [if_neg (by omega)]
      rw [filesB_snoc,hdl,if_pos rfl,hc]
     ·rw [List.length_drop,el];omega
   ·rw [h3,if_pos (by simp),if_neg (by simp)]
    exact ⟨fun h=>by (have h:true=false:=h;cases h),fun _=>.inl ⟨n0,F,gs,g,c,_,st,R,rfl,hbes _,hw.mono (by omega) (inl _ _)⟩⟩
  ·rw [h2,if_pos (by simp),if_neg (by simp)]
   exact ⟨fun h=>by (have h:true=false:=h;cases h),fun _=>.inl ⟨n0,F,gs,g,c,_,st,R,rfl,hbes _,hw.mono (by omega) (inl _ _)⟩⟩
 ·rw [h1,if_pos (by simp),if_neg (by simp)]
  exact ⟨fun h=>by (have h:true=false:=h;cases h),fun _=>.inl ⟨n0,F,gs,g,c,_,st,R,rfl,hbes _,hw.mono (by omega) (inl _ _)⟩⟩
end
structure FX (hi L:Nat) (D:Fls):Prop where
 names:∀ f∈namesS D,f=fresh∨∃ n,1≤n∧n≤hi∧f=Jr.nm n
 segs:∀ x∈segsOf D (namesS D),1≤x.n∧x.n≤hi
 few:D.length≤hi+1
 lens:∀ f∈D,f.2.1.length≤L
theorem fx_of {n0:Nat} {F:Nat→Nat} {bs:List (List UInt8)} {E:Fls} {hi L:Nat} (hE:Bes E) (h1:1≤n0) (hh:bs.length+n0≤hi+1) (h45:hi < 60) (hb:∀ b∈bs,b.length≤L) (hL:213≤L):FX hi L (filesB n0 F bs++E):=by
 refine ⟨fun f hf=>?_,fun x hx=>?_,?_,fun f hf=>?_⟩
 ·rw [names_E hE (by omega),List.map_append] at hf
  rcases List.mem_append.1 hf with hf | hf
  ·right
   rw [names_map] at hf
   obtain ⟨⟨b,i⟩,hm,rfl⟩:=List.mem_map.1 hf
   have:=(List.getElem?_eq_some_iff.1 (List.mem_zipIdx_iff_getElem?.1 hm)).1
   exact ⟨i+n0,by omega,by omega,rfl⟩
  ·left
   rcases hE with rfl | ⟨v,rfl,hv⟩
   ·simp at hf
   ·simpa using hf
 ·rw [segs_E hE h1 (by omega)] at hx
  obtain ⟨⟨b,i⟩,hm,rfl⟩:=List.mem_map.1 hx
  have:=(List.getElem?_eq_some_iff.1 (List.mem_zipIdx_iff_getElem?.1 hm)).1
  show 1≤i+n0∧i+n0≤hi
  omega
 ·rw [List.length_append,filesB_len]
  rcases hE with rfl | ⟨v,rfl,hv⟩
  ·simp;omega
  ·simp;omega
 ·rcases List.mem_append.1 hf with hf | hf
  ·obtain ⟨i,b,hi',rfl⟩:=filesB_mem hf
   exact hb b (List.mem_of_getElem? hi')
  ·rcases hE with rfl | ⟨v,rfl,hv⟩
   ·simp at hf
   ·rw [List.mem_singleton.1 hf]
    exact Nat.le_trans hv hL
theorem safe_get {n0:Nat} {F:Nat→Nat} {bs:List (List UInt8)} {E:Fls} (h:∀ f∈filesB n0 F bs++E,f.2.2≤f.2.1.length):∀ (i:Nat) b,bs[i]? =some b→F i≤b.length:=by
 intro i b hb
 have:(Jr.nm (i+n0),(b,F i))∈filesB n0 F bs++E:=List.mem_append_left _ (List.mem_map.2 ⟨(b,i),List.mem_zipIdx_iff_getElem?.2 hb,rfl⟩)
 exact h _ this
theorem flat_pref {gs:List (List Rec)} {g:List Rec} {k:Nat} {x:Rec} {R:List Rec} (h:(gs++[g]).flatten=x::R) (hne:(gs++[g.take k]).flatten≠[]):∃ R',(gs++[g.take k]).flatten=x::R'∧R'.length≤R.length∧∀ y∈R',y∈R:=by
 have e:(gs++[g]).flatten=(gs++[g.take k]).flatten++g.drop k:=by
  rw [List.flatten_append,List.flatten_append]
  simp
 rw [e] at h
 cases hq:(gs++[g.take k]).flatten with
 | nil=>exact absurd hq hne
 | cons y R'=>
  rw [hq,List.cons_append] at h
  obtain ⟨rfl,h2⟩:=by simpa using h
  refine ⟨R',rfl,?_,fun z hz=>?_⟩
  ·rw [← h2,List.length_append];omega
  ·rw [← h2];exact List.mem_append_left _ hz
theorem wake_k {i:Nat} {s:DS} {had:List PastS} {lim:Int} (keep:List Int) (h:KX i s had) (hs:∀ f∈s.D,f.2.2≤f.2.1.length) (hi:i < 45) (hl:1≤lim):
  FX (i+1) ((i+1) * 213) (wakeS s (namesS s.D) keep).D∧∃ s3 q3,openS (wakeS s (namesS s.D) keep) (namesS (wakeS s (namesS s.D) keep).D) lim=(s3,some q3,0)∧KU lim i s3 q3 [(q3.state,q3.l)]∧(q3.state,q3.l)∈had:=by
 have h213:213≤(i+1) * 213:=Nat.le_mul_of_pos_left _ (by omega)
 rcases h with ⟨n0,F,gs,g,c,E,st,R,rfl,hE,hw⟩ | ⟨n0,F,bs,st,rfl,hF,hmem,h1n,hbi,hst,hbl⟩
 ·have hsg:=safe_get hs
  have elen:((gs++[g]).map putL).length=gs.length+1:=by simp
  have hhi:=hw.hi
  have h1n:=hw.n1
  obtain ⟨F',bs',E',e1,hE',hbl,hb'⟩:=wake_E (room:=3000) (fuse:=0) keep hE (show ((gs++[g]).map putL).length+n0 < 64 by omega) hsg
  show FX _ _ (wakeS ⟨filesB n0 F ((gs++[g]).map putL)++E,3000,0,true⟩ (namesS (filesB n0 F ((gs++[g]).map putL)++E)) keep).D∧∃ s3 q3,openS (wakeS ⟨filesB n0 F ((gs++[g]).map putL)++E,3000,0,true⟩ (namesS (filesB n0 F ((gs++[g]).map putL)++E)) keep) (namesS (wakeS ⟨filesB n0 F ((gs++[g]).map putL)++E,3000,0,true⟩ (namesS (filesB n0 F ((gs++[g]).map putL)++E)) keep).D) lim=_∧_
  rw [e1]
  show FX _ _ (filesB n0 F' bs'++E')∧∃ s3 q3,openS ⟨filesB n0 F' bs'++E',3000,0,false⟩ (namesS (filesB n0 F' bs'++E')) lim=_∧_
  obtain ⟨n,hn1,hn2,hn3,hn4⟩:=hb' gs.length (putL g) (by rw [List.getElem?_map,List.getElem?_append_right (Nat.le_refl _),Nat.sub_self];rfl)
  have hfull:∀ (j:Nat) x,gs[j]? =some x→bs'[j]? =some (putL x)∧F' j=(putL x).length:=by
   intro j x hj
   have hjl:=(List.getElem?_eq_some_iff.1 hj).1
   obtain ⟨m,hm1,hm2,hm3,hm4⟩:=hb' j (putL x) (by rw [List.getElem?_map,List.getElem?_append_left hjl,hj];rfl)
   rw [hw.safe j x hj] at hm1
   have:m=(putL x).length:=by omega
   subst this
   rw [List.take_length] at hm3
   exact ⟨hm3,hm4⟩
  have ebs:bs'=gs.map putL++[(putL g).take n]:=by
   apply List.ext_getElem?
   intro j
   by_cases hj:j < gs.length
   ·obtain ⟨x,hx⟩:∃ x,gs[j]? =some x:=⟨_,List.getElem?_eq_getElem hj⟩
    rw [(hfull j x hx).1,List.getElem?_append_left (by rw [List.length_map];exact hj),List.getElem?_map,hx]
    rfl
   ·by_cases hj2:j=gs.length
    ·subst hj2
     rw [hn3,List.getElem?_append_right (by rw [List.length_map];exact Nat.le_refl _),List.length_map,Nat.sub_self]
     rfl
    ·rw [List.getElem?_eq_none (by rw [hbl,elen];omega),List.getElem?_eq_none (by simp;omega)]
  have hlen200:∀ r∈g,r.2.length≤65536:=fun r hr=>by
   have:r∈(gs++[g]).flatten:=List.mem_flatten.2 ⟨g,by simp,hr⟩
   rw [hw.flat] at this
   rcases List.mem_cons.1 this with rfl | h
   ·have:=hw.lst
    show st.length≤65536
    omega
   ·have:=hw.len r h;omega
  obtain ⟨k,st1,hk,hst1,hsc,hple,hz,hmx⟩:=scan_prefix hlen200 n hn2 (n+1) (by omega)
  have hbn:((putL g).take n).length=n:=by rw [List.length_take];omega
  rw [hw.last] at hn1
  have hck:c≤k:=hmx c hw.cle hn1
  have hne:(gs++[g.take k]).flatten≠[]:=by
   intro h0
   by_cases hg0:gs=[]
   ·subst hg0
    have hc1:=hw.c1 rfl
    have h0:g.take k=[]:=by simpa using h0
    have:g=[]∨k=0:=by
     rcases List.take_eq_nil_iff.1 h0 with h | h
     ·exact .inr h
     ·exact .inl h
    rcases this with h | h
    ·have:=hw.cle;rw [h] at this;simp at this;omega
    ·omega
   ·obtain ⟨a,r,rfl⟩:=List.exists_cons_of_ne_nil hg0
    have:=hw.ne a (by simp)
    rw [List.cons_append,List.flatten_cons] at h0
    exact this (List.append_eq_nil_iff.1 h0).1
  obtain ⟨R',hR',hRl,hRm⟩:=flat_pref hw.flat hne
  have hGC:GC st R' gs (g.take k):=⟨hR',hw.ne,fun r hr=>hw.kind r (hRm r hr),fun r hr=>by have:=hw.len r (hRm r hr);omega,by have:=hw.lst;omega⟩
  have hpt:(putL g).take (putL (g.take k)).length=putL (g.take k):=by
   have:putL g=putL (g.take k)++putL (g.drop k):=by rw [← putL_append,List.take_append_drop]
   conv=>lhs;rw [this]
   rw [List.take_left]
  obtain ⟨F2,ho,hF1,hF2⟩:=open_torn (F:=F') (room:=3000) (limit:=lim) hGC hE' h1n (show gs.length+n0 < 50 by omega) hl (b:=(putL g).take n) (st1:=st1) (by unfold scan;rw [hbn];exact hsc) hst1 (by rw [List.take_take,Nat.min_eq_left hple];exact hpt) (by rw [hbn];exact hple) (fun h=>by rw [hbn];exact hz h)
  rw [ebs]
  refine ⟨fx_of hE' h1n (by simp;omega) (by omega) (fun b hb=>?_) h213,_,_,ho,?_,hw.cov k hck hk R' hR'⟩
  ·rcases List.mem_append.1 hb with hb | hb
   ·obtain ⟨x,hx,rfl⟩:=List.mem_map.1 hb
    exact grp_len hw (by simp [hx])
   ·rw [List.mem_singleton.1 hb,hbn]
    exact Nat.le_trans hn2 (grp_len hw (by simp))
  ·refine ⟨0,n0,F2,gs,g.take k,(g.take k).length,rfl,rfl,?_⟩
   refine ⟨fun j x hj=>?_,?_,Nat.le_refl _,h1n,hw.hi,hR',hw.ne,fun h0=>?_,fun k2 h1 h2 R2 h3=>?_,hGC.kind,fun r hr=>hw.len r (hRm r hr),hw.lst,Nat.le_trans hRl hw.cnt⟩
   ·rw [hF2 j (List.getElem?_eq_some_iff.1 hj).1]
    exact (hfull j x hj).2
   ·rw [hF1,List.take_length]
   ·have:=hw.c1 h0
    rw [List.length_take]
    omega
   ·have hk2:k2=(g.take k).length:=by omega
    subst hk2
    rw [List.take_length] at h3
    have h4:(0,st)::R'=(0,st)::R2:=hR'.symm.trans h3
    obtain rfl:R'=R2:=by simpa using h4
    exact List.mem_singleton.2 rfl
 ·have hsg:=safe_get (E:=[]) (by rw [List.append_nil];exact hs)
  have elen:(bs++[putR (0,st)]).length=bs.length+1:=by simp
  obtain ⟨F',bs',E',e1,hE',hbl',hb'⟩:=wake_E (room:=3000) (fuse:=0) (E:=[]) keep (.inl rfl) (show (bs++[putR (0,st)]).length+n0 < 64 by omega) hsg
  have hE0:E'=[]∨E'≠[]:=Classical.em _
  rw [List.append_nil] at e1
  have hE'2:E'=[]:=by
   have h1:(wakeS ⟨filesB n0 F (bs++[putR (0,st)]),3000,0,true⟩ (namesS (filesB n0 F (bs++[putR (0,st)]))) keep).D.length=bs.length+1:=by
    unfold wakeS
    rw [if_pos rfl]
    have h2:=names_E (F:=F) (bs:=bs++[putR (0,st)]) (n0:=n0) (.inl rfl:Bes []) (by omega)
    rw [List.append_nil] at h2
    rw [h2]
    have:=wakeL_eq keep (filesB n0 F (bs++[putR (0,st)])) [] 0 (by have:=nodup_E (F:=F) (bs:=bs++[putR (0,st)]) (n0:=n0) (.inl rfl:Bes []) (by omega);simpa using this)
    rw [List.nil_append,List.nil_append] at this
    show (wakeL (filesB n0 F (bs++[putR (0,st)])) keep _ 0).length=_
    rw [this,wakeD_len,filesB_len,elen]
   rw [e1] at h1
   have h1:(filesB n0 F' bs'++E').length=bs.length+1:=h1
   rw [List.length_append,filesB_len,hbl',elen] at h1
   exact List.length_eq_zero_iff.1 (by omega)
  rw [hE'2,List.append_nil] at e1
  show FX _ _ (wakeS ⟨filesB n0 F (bs++[putR (0,st)]),3000,0,true⟩ (namesS (filesB n0 F (bs++[putR (0,st)]))) keep).D∧∃ s3 q3,openS (wakeS ⟨filesB n0 F (bs++[putR (0,st)]),3000,0,true⟩ (namesS (filesB n0 F (bs++[putR (0,st)]))) keep) (namesS (wakeS ⟨filesB n0 F (bs++[putR (0,st)]),3000,0,true⟩ (namesS (filesB n0 F (bs++[putR (0,st)]))) keep).D) lim=_∧_
  rw [e1]
  show FX _ _ (filesB n0 F' bs')∧∃ s3 q3,openS ⟨filesB n0 F' bs',3000,0,false⟩ (namesS (filesB n0 F' bs')) lim=_∧_
  obtain ⟨n,hn1,hn2,hn3,hn4⟩:=hb' bs.length (putR (0,st)) (by rw [List.getElem?_append_right (Nat.le_refl _),Nat.sub_self];rfl)
  rw [hF] at hn1
  have hnn:n=(putR (0,st)).length:=by omega
  subst hnn
  rw [List.take_length] at hn3
  have hpr:=putR_length (0,st)
  have ebs:bs'=bs'.take bs.length++[putR (0,st)]:=by
   have h1:=(List.take_append_drop bs.length bs').symm
   have h2:bs'.drop bs.length=[putR (0,st)]:=by
    rw [List.drop_eq_getElem_cons (by rw [hbl',elen];omega)]
    have h3:=List.getElem?_eq_some_iff.1 hn3
    obtain ⟨hlt,h3⟩:=h3
    rw [h3,List.drop_of_length_le (by rw [hbl',elen];omega)]
   rw [h2] at h1
   exact h1
  have htl:(bs'.take bs.length).length=bs.length:=by rw [List.length_take,hbl',elen];omega
  have hlens:∀ b∈bs',b.length≤(i+1) * 213:=by
   intro b hb
   obtain ⟨j,hj⟩:=List.mem_iff_getElem?.1 hb
   have hjl:=(List.getElem?_eq_some_iff.1 hj).1
   rw [hbl'] at hjl
   obtain ⟨b0,hb0⟩:∃ b0,(bs++[putR (0,st)])[j]? =some b0:=⟨_,List.getElem?_eq_getElem hjl⟩
   obtain ⟨m,_,hm2,hm3,_⟩:=hb' j b0 hb0
   rw [hj] at hm3
   obtain rfl:b=b0.take m:=by simpa using hm3
   have hb0l:b0.length≤(i+1) * 213:=by
    rcases List.mem_append.1 (List.mem_of_getElem? hb0) with h | h
    ·exact hbl b0 h
    ·rw [List.mem_singleton.1 h,hpr]
     show 13+st.length≤_
     omega
   exact Nat.le_trans (List.length_take_le' _ _) hb0l
  obtain ⟨F2,ho,hF2⟩:=open_new2 (F:=F') (bs:=bs'.take bs.length) (room:=3000) (limit:=lim) (st:=st) h1n (by rw [htl];omega) hl (by omega)
  rw [← ebs,htl] at ho
  have hfx:=fx_of (F:=F') (n0:=n0) (bs:=bs') (E:=[]) (hi:=i+1) (.inl rfl) h1n (by rw [hbl',elen];omega) (by omega) hlens h213
  rw [List.append_nil] at hfx
  exact ⟨hfx,_,_,ho,⟨0,bs.length+n0,F2,[],[(0,st)],1,rfl,rfl,RW.alone hF2 (by omega) (by omega) hst⟩,hmem⟩
theorem KU.facts {lim:Int} {i:Nat} {s:DS} {q:JS} {had:List PastS} (h:KU lim i s q had) (hi:i≤45):∃ n,q.row.getLast? =some n∧1≤n∧n≤i+1∧q.row.length≤i+1∧q.l.length≤i∧q.size≤10000∧q.limit=lim∧s.down=false∧(∀ x∈q.row,1≤x∧x≤i+1)∧s.D.length≤i+1∧(q.state,q.l)∈had∧(∀ r∈q.l,r.2.length≤200)∧∃ fu n0 F bs,s=⟨filesB n0 F bs,3000,fu,false⟩∧bs.length+n0≤i+2∧1≤n0:=by
 obtain ⟨fu,n0,F,gs,g,c,hs,hq,hw⟩:=h
 have hhi:=hw.hi
 have h1n:=hw.n1
 have hg:=grp_len (x:=g) hw (by simp)
 have h213:(i+1) * 213≤46 * 213:=Nat.mul_le_mul_right _ (by omega)
 have hrow:q.row=(List.range (gs.length+1)).map (·+n0):=by rw [hq]
 have hsz:q.size=(putL g).length:=by rw [hq]
 have hlm:q.limit=lim:=by rw [hq]
 refine ⟨gs.length+n0,by rw [hrow];exact row_lastB _ _,by omega,hhi,by rw [hrow];simp;omega,hw.cnt,by rw [hsz];omega,hlm,by rw [hs],?_,by rw [hs];show (filesB _ _ _).length≤_;rw [filesB_len,List.length_map];simp;omega,hw.here,hw.len,fu,n0,F,_,hs,by rw [List.length_map];simp;omega,h1n⟩
 intro x hx
 rw [hrow] at hx
 obtain ⟨j,hj,rfl⟩:=List.mem_map.1 hx
 have:=List.mem_range.1 hj
 show 1≤j+n0∧j+n0≤_
 omega
theorem KX.few {i:Nat} {s:DS} {had:List PastS} (h:KX i s had):s.D.length≤i+2:=by
 rcases h with ⟨n0,F,gs,g,c,E,st,R,rfl,hE,hw⟩ | ⟨n0,F,bs,st,rfl,hF,hmem,h1n,hbi,hst,hbl⟩
 ·have hhi:=hw.hi
  have h1n:=hw.n1
  show (filesB _ _ _++E).length≤_
  rw [List.length_append,filesB_len,List.length_map]
  rcases hE with rfl | ⟨v,rfl,hv⟩ <;> simp <;> omega
 ·show (filesB _ _ _).length≤_
  rw [filesB_len]
  simp
  omega
theorem After.few {lim:Int} {i:Nat} {s:DS} {q:JS} {had:List PastS} (h:After lim i s q had) (hi:i≤45):s.D.length≤i+2:=by
 cases hd:s.down with
 | false=>
  obtain ⟨n,_,_,_,_,_,_,_,_,_,h2,_⟩:=(h.1 hd).facts hi
  omega
 | true=>exact (h.2 hd).few
theorem okS_few2 {k h n:Nat} {s:DS} (ok:OkS k s) (hf:s.D.length≤h) (hn:h≤n):OkS n s:=⟨Nat.le_trans hf hn,ok.len,ok.safe,ok.r0,ok.r1,ok.f1⟩
theorem runAcs_ok:∀ (l:List Ac) {k:Nat} {s:DS},OkS k s→OkS (k+l.length) (runAcs s l).1
 | [],k,s,h=>h
 | a::r,k,s,h=>by
  rw [runAcs_cons]
  split
  ·exact (runAcs_ok r (Ac.run_ok h a)).more (by simp;omega)
  ·exact (Ac.run_ok h a).more (by simp)
theorem openS_ok {k:Nat} {s:DS} {names:List (List UInt8)} {lim:Int} (h:OkS k s):∃ n,OkS n (openS s names lim).1:=by
 unfold openS
 split
 ·exact ⟨_,h⟩
 ·split
  ·exact ⟨_,h⟩
  ·split
   ·exact ⟨_,h⟩
   ·simp only
    split
    ·exact ⟨_,runAcs_ok _ h⟩
    ·exact ⟨_,runAcs_ok _ h⟩
theorem wakeL_safe (keep:List Int):∀ (l:List (List UInt8)) (D:Fls) (i:Nat),(∀ f∈D,f.2.2≤f.2.1.length)→∀ f∈wakeL D keep l i,f.2.2≤f.2.1.length
 | [],D,i,h=>h
 | p::r,D,i,h=>by
  rw [wakeL]
  refine wakeL_safe keep r _ (i+1) fun f hf=>?_
  rcases putF_mem hf with rfl | h1
  ·have hfo:(fileOf D p).2≤(fileOf D p).1.length:=by
    unfold fileOf
    cases hl:lookF D p with
    | none=>exact Nat.le_refl _
    | some v=>exact h _ (lookF_mem hl)
   obtain ⟨n,h1,h2,h3⟩:=wakeF_ok hfo keep[i]?
   show (wakeF (fileOf D p) keep[i]?).2≤(wakeF (fileOf D p) keep[i]?).1.length
   rw [h3]
   show n≤((fileOf D p).1.take n).length
   rw [List.length_take]
   omega
  ·exact h f h1
theorem wakeS_ok {k hi L:Nat} {s:DS} {keep:List Int} (h:OkS k s) (hx:FX hi L (wakeS s (namesS s.D) keep).D) (hL:L≤1048576):OkS (hi+1) (wakeS s (namesS s.D) keep):=by
 refine ⟨hx.few,fun f hf=>Nat.le_trans (hx.lens f hf) hL,?_,?_,?_,?_⟩
 ·unfold wakeS
  split
  ·exact wakeL_safe keep _ _ _ h.safe
  ·exact h.safe
 ·unfold wakeS;split <;> exact h.r0
 ·unfold wakeS;split <;> exact h.r1
 ·unfold wakeS;split <;> exact h.f1
theorem fuseS_ok {k:Nat} {s:DS} {n:Int} (h:OkS k s) (hn:n < 9223372036854775808):OkS k (fuseS s n):=by
 unfold fuseS
 split
 ·exact h
 ·exact ⟨h.few,h.len,h.safe,h.r0,h.r1,by show max n 0 < _;omega⟩
theorem crashS_ok {k:Nat} {s:DS} (h:OkS k s):OkS k (crashS s):=⟨h.few,h.len,h.safe,h.r0,h.r1,by show (0:Int) < _;decide⟩
theorem syncJ_l (s:DS) (q:JS):(syncJ s q).2.1.l=q.l:=by
 unfold syncJ
 split <;> rfl
theorem appendJ_l (s:DS) (q:JS) (r:Rec):(appendJ s q r).2.1.l.length≤q.l.length+1:=by
 unfold appendJ
 split
 ·simp
 ·split
  ·simp
  ·simp only
   split
   ·split
    ·simp
    ·split
     ·simp [doneJ]
     ·split
      ·simp [doneJ]
      ·simp
   ·split
    ·simp [doneJ]
    ·simp
theorem checkpointJ_l (s:DS) (q:JS) (names:List (List UInt8)) (st:List UInt8):(checkpointJ s names q st).2.1.l.length≤q.l.length:=by
 unfold checkpointJ
 split
 ·simp
 ·split
  ·simp
  ·simp only
   split
   ·simp
   ·generalize (if fresh∈names then removeS s fresh else (s,0))=x0
    generalize appendS x0.1 fresh (putR (0,st))=x1
    generalize syncS x1.1 fresh=x2
    generalize renameS x2.1 fresh (Jr.nm (q.row.getLast?.getD 0+1))=x3
    generalize rmAll x3.1 q.row=x4
    split
    ·simp [doneJ]
    ·split
     ·simp [doneJ]
     ·split
      ·simp [doneJ]
      ·split
       ·simp [doneJ]
       ·split
        ·simp [doneJ]
        ·simp
theorem open_new_k {limit:Int} (hl:1≤limit):∃ s q,openS ⟨[],3000,0,false⟩ (namesS []) limit=(s,some q,0)∧KU limit 0 s q [([],[])]∧OkS 5 s:=by
 obtain ⟨s,q,h1,h2,h3⟩:=open_new_ok (room:=3000) (limit:=limit) (by decide) (by decide) hl
 refine ⟨s,q,h1,?_,h3⟩
 have hn:namesS []=[]:=by unfold namesS;simp
 have hseg:segsOf [] []=[]:=rfl
 have hrow:rowS []=some ([],0):=rfl
 have hacts:actsOf [] [] [] 0=[.ap0,.syF,.rn1]:=by unfold actsOf;simp
 have hb0:begin0.length=13:=putR_length _
 have hmf:mayS fresh=true:=by decide
 have hm1:mayS (Jr.nm 1)=true:=(nm_ok 1 (by omega)).2.1
 have e1:appendS ⟨[],3000,0,false⟩ fresh begin0=(⟨[(fresh,(begin0,0))],3000,0,false⟩,0):=by
  unfold appendS
  have hfo:fileOf [] fresh=([],0):=rfl
  have hu:usedF []=0:=rfl
  simp only [Bool.false_eq_true,if_false,hmf,hfo,hu,List.length_nil,hb0]
  rw [if_neg (by simp),if_neg (by omega),if_neg (by omega)]
  unfold actS
  simp only [Int.lt_irrefl,if_false]
  rfl
 have e2:syncS ⟨[(fresh,(begin0,0))],3000,0,false⟩ fresh=(⟨[(fresh,(begin0,13))],3000,0,false⟩,0):=by
  unfold syncS
  have hl:lookF [(fresh,(begin0,0))] fresh=some (begin0,0):=by simp [lookF]
  simp only [Bool.false_eq_true,if_false,hl]
  unfold actS
  simp only [Int.lt_irrefl,if_false,hb0]
  simp [putF]
 have e3:renameS ⟨[(fresh,(begin0,13))],3000,0,false⟩ fresh (Jr.nm 1)=(⟨[(Jr.nm 1,(begin0,13))],3000,0,false⟩,0):=by
  unfold renameS
  have hl:lookF [(fresh,(begin0,13))] fresh=some (begin0,13):=by simp [lookF]
  simp only [Bool.false_eq_true,if_false,hl,hmf,hm1,Bool.and_self]
  rw [if_neg (by simp)]
  unfold actS
  simp only [Int.lt_irrefl,if_false]
  simp [delF,putF]
 have hrun:runAcs ⟨[],3000,0,false⟩ [.ap0,.syF,.rn1]=(⟨[(Jr.nm 1,(begin0,13))],3000,0,false⟩,0):=by
  simp only [runAcs,Ac.run,e1,e2,e3,if_true]
 have ho:openS ⟨[],3000,0,false⟩ (namesS []) limit=(⟨[(Jr.nm 1,(begin0,13))],3000,0,false⟩,some (madeJ limit []),0):=by
  unfold openS
  rw [if_neg (by omega),hn]
  simp only [Bool.false_eq_true,if_false,hseg,hrow,hacts,hrun,if_true]
 rw [ho] at h1
 simp only [Prod.mk.injEq,Option.some.injEq,and_true] at h1
 obtain ⟨rfl,rfl⟩:=h1
 refine ⟨0,1,fun _=>13,[],[(0,[])],1,?_,?_,?_⟩
 ·simp [filesB,putL_one,begin0]
 ·unfold madeJ
  simp [allR,putL_one,putR_length]
 ·exact RW.alone (by rw [putL_one,putR_length];rfl) (by omega) (by omega) (by simp)
end Go.Proofs.YtbchfeibhoobeaaGreatDoor
namespace Go.Proofs.YtbchfeibhoobeaaGreatDoor
open Go.Abs Go.Jr
noncomputable def kEnd (W0:World) (m0:Inj Tp) (S:Nat→List Value→AW→Prop) (Q:Value→AW→Prop) (d:Nat→Value) (t5 h:Value) (A:AW):Prop:=
 Wc Tp theX W0 m0 23 [(d 5)] A fun t66 At66=>pureW (unA Tp .not t66) fun t67=>forkW t67 (pureW (binA Tp .add 3 (.tmp 41) (.const (.int .i64 1)) (d 9) (.int .i64 1)) fun t68=>cutW (T5 0) (T5 0) (S 0 [(d 0),(d 1),(d 5),(d 6),h,t68] At66)) (pureW (fieldAddrA Tp 48 t5 3) fun t69=>pureW (loadP Tp At66 46 t69) fun t70=>Wc Tp theX W0 m0 24 [(d 5),t70] At66 fun t71 At71=>bothW (convertA Tp At71 5 3 (d 0)) fun t72 At72=>pureW (binA Tp .add 3 (.const (.int .i64 14)) (.tmp 133) (.int .i64 14) t72) fun t73=>Wc Tp theX W0 m0 8 [(d 5),t73] At72 fun t74 At74=>pureW (extractP t74 0) fun t75=>pureW (extractP t74 1) fun t76=>pureW (binA Tp .neq 30 (.tmp 138) (.const (.int .i64 0)) t76 (.int .i64 0)) fun t77=>forkW t77 (Q (.bool false) At74) (pureW (binA Tp .eql 29 (.tmp 141) (.const (.pointer none)) t75 (.pointer none)) fun t78=>forkW t78 (Q (.bool false) At74) (cutW (T5 3) (T5 3) (S 3 [(d 0),(d 1),(d 5),t75,h,(d 9),(.bool false),(.int .i64 0)] At74))))
noncomputable def kAdd (W0:World) (m0:Inj Tp) (S:Nat→List Value→AW→Prop) (Q:Value→AW→Prop) (d:Nat→Value) (t5 t13 h:Value) (A:AW):Prop:=
 pureW (loadP Tp A 58 t13) fun t63=>bothW (buildSliceA Tp A 59 1 [(0,t63)]) fun t64 At64=>bothW (appendA Tp At64 59 59 h t64) fun t65 At65=>kEnd W0 m0 S Q d t5 t65 At65
noncomputable def kNow (W0:World) (m0:Inj Tp) (d:Nat→Value) (t13:Value) (K:AW→Prop) (A:AW):Prop:=
 Wc Tp theX W0 m0 17 [(d 6)] A fun t0 At0=>Wc Tp theX W0 m0 18 [(d 6)] At0 fun t1 At1=>pureW (buildA Tp 58 [(0,t0),(1,t1)]) fun t2=>effW (storeP Tp At1 58 t13 t2) fun At3=>K At3
noncomputable def kApp (W0:World) (m0:Inj Tp) (S:Nat→List Value→AW→Prop) (Q:Value→AW→Prop) (d:Nat→Value) (t5 t13:Value) (A:AW):Prop:=
 pureW (fieldAddrA Tp 58 t13 0) fun t24=>pureW (loadP Tp A 9 t24) fun t25=>pureW (fieldAddrA Tp 58 t13 1) fun t26=>pureW (loadP Tp A 22 t26) fun t27=>pureW (fieldAddrA Tp 48 t5 1) fun t28=>pureW (loadP Tp A 35 t28) fun t29=>bothW (buildSliceA Tp A 22 1 [(0,t29)]) fun t30 At30=>freshW (freshOf Tp (evalT (Tm.fill ⟨1,.nil⟩ 0 [t29])) (.buildSlice 22 1 #[(0,.tmp 0)])) At30 t30 (pureW (loadP Tp At30 35 t28) fun t31=>eqW t31 t29 (pureW (fieldAddrA Tp 48 t5 1) fun t32=>eqW t32 t28 (pureW (loadP Tp At30 22 t26) fun t33=>eqW t33 t27 (pureW (fieldAddrA Tp 58 t13 1) fun t34=>eqW t34 t26 (pureW (loadP Tp At30 9 t24) fun t35=>eqW t35 t25 (pureW (fieldAddrA Tp 58 t13 0) fun t36=>eqW t36 t24 (eqW (.slice none 0 0) (.slice none 0 0) (bothW (appendA Tp At30 22 22 (.slice none 0 0) t27) fun t37 At37=>freshW (freshOf Tp (evalT (Tm.fill ⟨1,.nil⟩ 0 [t29])) (.buildSlice 22 1 #[(0,.tmp 0)])) At37 t30 (pureW (loadP Tp At37 35 t28) fun t38=>eqW t38 t29 (pureW (fieldAddrA Tp 48 t5 1) fun t39=>eqW t39 t28 (pureW (loadP Tp At37 9 t24) fun t40=>eqW t40 t25 (pureW (fieldAddrA Tp 58 t13 0) fun t41=>eqW t41 t24 (eqW (.slice none 0 0) (.slice none 0 0) (bothW (appendA Tp At37 22 22 t37 t30) fun t42 At42=>pureW (loadP Tp At42 9 t24) fun t43=>eqW t43 t25 (pureW (fieldAddrA Tp 58 t13 0) fun t44=>eqW t44 t24 (eqW (.slice none 0 0) (.slice none 0 0) (pureW (buildA Tp 58 [(0,t25),(1,t42)]) fun t45=>bothW (buildSliceA Tp At42 59 1 [(0,t45)]) fun t46 At46=>freshW (freshOf Tp (evalT (Tm.fill ⟨1,.nil⟩ 0 [t45])) (.buildSlice 59 1 #[(0,.tmp 0)])) At46 t46 (pureW (buildA Tp 58 [(0,t25),(1,t42)]) fun t47=>eqW t47 t45 (freshW (freshOf Tp (evalT (Tm.fill ⟨1,.nil⟩ 0 [t29])) (.buildSlice 22 1 #[(0,.tmp 0)])) At46 t30 (pureW (loadP Tp At46 35 t28) fun t48=>eqW t48 t29 (pureW (fieldAddrA Tp 48 t5 1) fun t49=>eqW t49 t28 (pureW (loadP Tp At46 22 t26) fun t50=>eqW t50 t27 (pureW (fieldAddrA Tp 58 t13 1) fun t51=>eqW t51 t26 (pureW (loadP Tp At46 9 t24) fun t52=>eqW t52 t25 (pureW (fieldAddrA Tp 58 t13 0) fun t53=>eqW t53 t24 (eqW (.slice none 0 0) (.slice none 0 0) (bothW (appendA Tp At46 59 59 (.slice none 0 0) t46) fun t54 At54=>pureW (fieldAddrA Tp 48 t5 1) fun t55=>pureW (loadP Tp At54 35 t55) fun t56=>Wc Tp theX W0 m0 10 [(d 6),t56] At54 fun t57 At57=>bothW (appendA Tp At57 59 59 (d 8) t54) fun t58 At58=>kNow W0 m0 d t13 (fun At62=>kAdd W0 m0 S Q d t5 t13 t58 At62) At58)))))))))))))))))))))))))))
theorem l5_0f (W0:World) (m0:Inj Tp) (S:Nat→List Value→AW→Prop) (Q:Value→AW→Prop) (d:Nat→Value) (A:AW):gL W0 m0 S Q 5 180 T5 L5 d 0 A=(pureW (lenA Tp A 45 (d 1)) fun t0=>pureW (binA Tp .lss 3 (.tmp 33) (.tmp 35) (d 9) t0) fun t1=>forkW t1 (pureW (binA Tp .lss 3 (.tmp 38) (.const (.int .i64 40)) (d 9) (.int .i64 40)) fun t2=>forkW t2 (pureW (indexAddrA Tp 45 (d 1) (d 9)) fun t3=>pureW (loadP Tp A 48 t3) fun t4=>bothW (allocP Tp A 48) fun t5 At5=>effW (storeP Tp At5 48 t5 t4) fun At6=>pureW (loadP Tp At6 48 t5) fun t7=>Wc Tp theX W0 m0 14 [t7] At6 fun t8 At8=>forkW t8 (knW Tp W0 m0 9 [] At8 fun t9 At9=>Q t9 At9) (Wc Tp theX W0 m0 17 [(d 6)] At8 fun t10 At10=>Wc Tp theX W0 m0 18 [(d 6)] At10 fun t11 At11=>pureW (buildA Tp 58 [(0,t10),(1,t11)]) fun t12=>bothW (allocP Tp At11 58) fun t13 At13=>effW (storeP Tp At13 58 t13 t12) fun At14=>pureW (fieldAddrA Tp 48 t5 0) fun t15=>pureW (loadP Tp At14 5 t15) fun t16=>pureW (binA Tp .rem 5 (.tmp 56) (.const (.int .u8 7)) t16 (.int .u8 7)) fun t17=>pureW (binA Tp .eql 5 (.tmp 57) (.const (.int .u8 0)) t17 (.int .u8 0)) fun t18=>forkW t18 (pureW (fieldAddrA Tp 48 t5 1) fun t19=>pureW (fieldAddrA Tp 35 t19 0) fun t20=>pureW (loadP Tp At14 5 t20) fun t21=>pureW (binA Tp .eql 5 (.tmp 65) (.const (.int .u8 0)) t21 (.int .u8 0)) fun t22=>forkW t22 (pureW (binA Tp .add 3 (.tmp 41) (.const (.int .i64 1)) (d 9) (.int .i64 1)) fun t23=>cutW (T5 0) (T5 0) (S 0 [(d 0),(d 1),(d 5),(d 6),(d 8),t23] At14)) (kApp W0 m0 S Q d t5 t13 At14)) (pureW (binA Tp .eql 5 (.tmp 57) (.const (.int .u8 1)) t17 (.int .u8 1)) fun t79=>forkW t79 (pureW (fieldAddrA Tp 48 t5 1) fun t80=>pureW (fieldAddrA Tp 35 t80 0) fun t81=>pureW (loadP Tp At14 5 t81) fun t82=>pureW (binA Tp .eql 5 (.tmp 65) (.const (.int .u8 0)) t82 (.int .u8 0)) fun t83=>forkW t83 (pureW (binA Tp .add 3 (.tmp 41) (.const (.int .i64 1)) (d 9) (.int .i64 1)) fun t84=>cutW (T5 0) (T5 0) (S 0 [(d 0),(d 1),(d 5),(d 6),(d 8),t84] At14)) (kApp W0 m0 S Q d t5 t13 At14)) (pureW (binA Tp .eql 5 (.tmp 57) (.const (.int .u8 2)) t17 (.int .u8 2)) fun t140=>forkW t140 (Wc Tp theX W0 m0 15 [(d 6)] At14 fun t141 At141=>pureW (binA Tp .eql 30 (.tmp 87) (.const (.int .i64 0)) t141 (.int .i64 0)) fun t142=>bothW (appendA Tp At141 59 59 (d 8) (.slice none 0 0)) fun t143 At143=>kNow W0 m0 d t13 (fun At147=>forkW t142 (kAdd W0 m0 S Q d t5 t13 (.slice none 0 0) At147) (kAdd W0 m0 S Q d t5 t13 t143 At147)) At143) (pureW (binA Tp .eql 5 (.tmp 57) (.const (.int .u8 3)) t17 (.int .u8 3)) fun t180=>forkW t180 (pureW (fieldAddrA Tp 48 t5 1) fun t181=>pureW (fieldAddrA Tp 35 t181 1) fun t182=>pureW (loadP Tp At14 9 t182) fun t183=>pureW (buildA Tp 58 [(0,t183)]) fun t184=>bothW (buildSliceA Tp At14 59 1 [(0,t184)]) fun t185 At185=>bothW (appendA Tp At185 59 59 (.slice none 0 0) t185) fun t186 At186=>pureW (fieldAddrA Tp 48 t5 1) fun t187=>pureW (fieldAddrA Tp 35 t187 1) fun t188=>pureW (loadP Tp At186 9 t188) fun t189=>Wc Tp theX W0 m0 16 [(d 6),t189] At186 fun t190 At190=>pureW (binA Tp .eql 30 (.tmp 102) (.const (.int .i64 0)) t190 (.int .i64 0)) fun t191=>bothW (appendA Tp At190 59 59 (d 8) t186) fun t192 At192=>kNow W0 m0 d t13 (fun At196=>forkW t191 (kAdd W0 m0 S Q d t5 t13 (.slice none 0 0) At196) (kAdd W0 m0 S Q d t5 t13 t192 At196)) At192) (pureW (binA Tp .eql 5 (.tmp 57) (.const (.int .u8 4)) t17 (.int .u8 4)) fun t229=>forkW t229 (pureW (fieldAddrA Tp 48 t5 2) fun t230=>pureW (loadP Tp At14 3 t230) fun t231=>Wc Tp theX W0 m0 21 [(d 5),t231] At14 fun t232 At232=>bothW (appendA Tp At232 59 59 (d 8) (.slice none 0 0)) fun t233 At233=>kNow W0 m0 d t13 (fun At237=>kAdd W0 m0 S Q d t5 t13 t233 At237) At233) (Wc Tp theX W0 m0 22 [(d 5)] At14 fun t254 At254=>bothW (appendA Tp At254 59 59 (d 8) (.slice none 0 0)) fun t255 At255=>kNow W0 m0 d t13 (fun At259=>kAdd W0 m0 S Q d t5 t13 t255 At259) At255))))))) (knW Tp W0 m0 9 [] A fun t276 At276=>Q t276 At276)) (knW Tp W0 m0 9 [] A fun t277 At277=>Q t277 At277)):=by kernel_rfl
structure PV where
 st:ByteArray
 o:Option Addr
 len:Nat
 cap:Nat
def fP (x:PV):List Value:=[.string x.st,.slice x.o x.len x.cap]
theorem etP:ET Tp 59 58 1 fP where
 us:=by kernel_rfl
 sz:=by kernel_rfl
 ag:=by kernel_rfl
 by':=⟨40,by kernel_rfl,by decide⟩
 hz:=by kernel_rfl
 len:=fun _=>rfl
 one:=fun _=>rfl
 noT:=fun _=>rfl
theorem zP:zeroT Tp 58=some (.agg ⟨[.string ⟨⟨[]⟩⟩,.slice none 0 0]⟩):=by kernel_rfl
theorem ba58 (s:ByteArray) (o:Option Addr) (n c:Nat):buildA Tp 58 [(0,.string s),(1,.slice o n c)]=some (.agg ⟨[.string s,.slice o n c]⟩):=by kernel_rfl
theorem ba58s (s:ByteArray):buildA Tp 58 [(0,.string s)]=some (.agg ⟨[.string s,.slice none 0 0]⟩):=by kernel_rfl
theorem ba58n:buildA Tp 58 []=some (.agg ⟨[.string ⟨⟨[]⟩⟩,.slice none 0 0]⟩):=by kernel_rfl
theorem bs59 (A:AW) (s:ByteArray) (o:Option Addr) (a b:Nat):buildSliceA Tp A 59 1 [(0,.agg ⟨[.string s,.slice o a b]⟩)]=(match A.newRow [.string s,.slice o a b] 58 with | some (a,w')=>.ok (.slice (some a) 1 1) w' | none=>.fail "buildSlice new"):=by kernel_rfl
theorem bs59' {A:AW} {x:PV} {K:Value→AW→Prop} (hf:Fine A) (h:A.next < maxId) (hk:∀ A',Made A A' (fP x) 58→K (.slice (some ⟨A.next,0,none⟩) 1 1) A'):bothW (buildSliceA Tp A 59 1 [(0,.agg ⟨fP x⟩)]) K:=by
 unfold fP
 rw [bs59]
 unfold AW.newRow AW.new
 simp only [show ([Value.string x.st,.slice x.o x.len x.cap].all oneCell)=true from rfl,cond_true,blt_true.2 h]
 exact bothW_ok.2 (hk (A.push (.row (fP x) 58 A.next 0 false)) ⟨AW.push_ext _ h,rfl,by rw [AW.push_get _ h,if_pos rfl],hf.alone (Nat.le_refl _),hf.push _ h⟩)
theorem fresh59 (s:ByteArray) (o:Option Addr) (n c:Nat):freshOf Tp (evalT (Tm.fill ⟨1,.nil⟩ 0 [.agg ⟨[.string s,.slice o n c]⟩])) (.buildSlice 59 1 #[(0,.tmp 0)])=some (.slice [.string s,.slice o n c] 58 1):=by kernel_rfl
abbrev PR:=PV × List RV
def toP (x:PR):PastS:=(x.1.st.data.toList,x.2.map toR)
def PR.sl (x:PR):Value:=.slice x.1.o x.1.len x.1.cap
def HV (A:AW) (S:List Nat) (hv:Value) (hl:List PR) (Fh:List Nat):Prop:=
 OwnF 58 1 fP A hv (hl.map (·.1)) Fh∧(∀ y∈Fh,y∉S)∧∀ x∈hl,∃ F,RdE 1 fR A x.sl x.2 F∧∀ y∈F,y∉S∧y∉Fh
theorem HV.nil (A:AW) (S:List Nat):HV A S (.slice none 0 0) [] []:=⟨OwnF.nil A,by simp,by simp⟩
theorem HV.step {A A':AW} {S S' S'':List Nat} {hv:Value} {hl:List PR} {Fh:List Nat} (h:HV A S hv hl Fh) (k:Keeps A A' S') (h1:∀ y∈S',y∈S∨A.next≤y) (h2:∀ y∈S'',y∈S∨A.next≤y):HV A' S'' hv hl Fh:=by
 obtain ⟨a,b,c⟩:=h
 have hFl:=a.lt
 have key:∀ T:List Nat,(∀ y∈T,y∈S∨A.next≤y)→∀ y,y < A.next→y∉S→y∉T:=fun T hT y hy hn hm=>(hT y hm).elim hn fun h=>by omega
 refine ⟨a.keeps k fun y hy=>key S' h1 y (hFl y hy) (b y hy),fun y hy=>key S'' h2 y (hFl y hy) (b y hy),fun x hx=>?_⟩
 obtain ⟨F,r,hF⟩:=c x hx
 have hfm:=r.fam
 exact ⟨F,r.keeps k fun y hy=>key S' h1 y (hfm y hy) (hF y hy).1,fun y hy=>⟨key S'' h2 y (hfm y hy) (hF y hy).1,(hF y hy).2⟩⟩
theorem HV.push {A:AW} {S:List Nat} {hv:Value} {hl:List PR} {Fh F:List Nat} {x:PR} {q:Nat} {K:Value→AW→Prop} (h:HV A S hv hl Fh) (hq:Go.Abs.Row1 A q (fP x.1) 58) (hx:RdE 1 fR A x.sl x.2 F) (hF:∀ y∈F,y∉S∧y∉Fh) (hS:∀ y∈S,y < A.next) (hf:Fine A) (hA:A.next < maxId) (hl2:hl.length < 1000000)
  (hk:∀ v' A' Fh',HV A' S v' (hl++[x]) Fh'→Keeps A A' Fh→(∀ y∈Fh',y∈Fh∨y=A.next)→A'.next≤A.next+1→Fine A'→K v' A'):bothW (appendA Tp A 59 59 hv (.slice (some ⟨q,0,none⟩) 1 1)) K:=by
 obtain ⟨a,b,c⟩:=h
 refine a.append etP (p:=x.1) hq hf hA (by rw [List.length_map];exact hl2) fun v' A' Fh' o k hFh n f=>?_
 have hFS:∀ y∈Fh',y∉S:=fun y hy hm=>(hFh y hy).elim (fun h=>b y h hm) fun h=>by have:=hS y hm;omega
 refine hk v' A' Fh' ⟨by rw [List.map_append];exact o,hFS,fun z hz=>?_⟩ k hFh n f
 have key:∀ (z:PR) (F:List Nat),RdE 1 fR A z.sl z.2 F→(∀ y∈F,y∉S∧y∉Fh)→∃ F,RdE 1 fR A' z.sl z.2 F∧∀ y∈F,y∉S∧y∉Fh':=fun z F r hF=>
  ⟨F,r.keeps k fun y hy=>(hF y hy).2,fun y hy=>⟨(hF y hy).1,fun hm=>(hFh y hm).elim (hF y hy).2 fun h=>by have:=r.fam y hy;omega⟩⟩
 rcases List.mem_append.1 hz with hz | hz
 ·obtain ⟨F,r,hF⟩:=c z hz
  exact key z F r hF
 ·rw [List.mem_singleton.1 hz]
  exact key x F hx hF
theorem HV.pushL {A:AW} {S:List Nat} {hv tv:Value} {hl tl:List PR} {Fh Ft:List Nat} {K:Value→AW→Prop} (h:HV A S hv hl Fh) (ht:HV A (Fh++S) tv tl Ft) (hS:∀ y∈S,y < A.next) (hf:Fine A) (hA:A.next < maxId) (hl2:hl.length < 1000000) (tl2:tl.length < 1000000)
  (hk:∀ v' A' Fh',HV A' S v' (hl++tl) Fh'→Keeps A A' Fh→(∀ y∈Fh',y∈Fh∨y=A.next)→A'.next≤A.next+1→Fine A'→K v' A'):bothW (appendA Tp A 59 59 hv tv) K:=by
 obtain ⟨a,b,c⟩:=h
 obtain ⟨a2,b2,c2⟩:=ht
 refine a.appendL etP (a2.rd etP.len) hf hA (by rw [List.length_map];exact hl2) (by rw [List.length_map];exact tl2) fun v' A' Fh' o k hFh n f=>?_
 have hFS:∀ y∈Fh',y∉S:=fun y hy hm=>(hFh y hy).elim (fun h=>b y h hm) fun h=>by have:=hS y hm;omega
 refine hk v' A' Fh' ⟨by rw [List.map_append];exact o,hFS,fun z hz=>?_⟩ k hFh n f
 have key:∀ (z:PR) (F:List Nat),RdE 1 fR A z.sl z.2 F→(∀ y∈F,y∉S∧y∉Fh)→∃ F,RdE 1 fR A' z.sl z.2 F∧∀ y∈F,y∉S∧y∉Fh':=fun z F r hF=>
  ⟨F,r.keeps k fun y hy=>(hF y hy).2,fun y hy=>⟨(hF y hy).1,fun hm=>(hFh y hm).elim (hF y hy).2 fun h=>by have:=r.fam y hy;omega⟩⟩
 rcases List.mem_append.1 hz with hz | hz
 ·obtain ⟨F,r,hF⟩:=c z hz
  exact key z F r hF
 ·obtain ⟨F,r,hF⟩:=c2 z hz
  exact key z F r fun y hy=>⟨fun hm=>(hF y hy).1 (List.mem_append_right _ hm),fun hm=>(hF y hy).1 (List.mem_append_left _ hm)⟩
structure MI (A0 A:AW) (t5 t13:Nat) (p:AV) (j d mp:Nat) (q:JS) (s:DS) (Fl Fr:List Nat) (hv:Value) (hl:List PR) (Fh:List Nat):Prop where
 jd:JD A j d mp q s Fl Fr
 had:HV A (t13::j::d::mp::(Fl++Fr)) hv hl Fh
 act:Go.Abs.Row1 A t5 (fA p) 48
 t5n:t5∉t13::j::d::mp::(Fl++Fr)∧t5∉Fh
 t13n:t13∉j::d::mp::(Fl++Fr)
 t13l:t13 < A.next
 lo:∀ y∈t13::t5::j::d::mp::(Fl++Fr),A0.next≤y
 loh:∀ y∈Fh,A0.next≤y
 kp:Keeps A0 A []
 fine:Fine A
section
variable {A0 A A':AW} {t5 t13:Nat} {p:AV} {j d mp:Nat} {q q':JS} {s s':DS} {Fl Fr Fl' Fr':List Nat} {hv:Value} {hl:List PR} {Fh:List Nat}
theorem MI.lt (m:MI A0 A t5 t13 p j d mp q s Fl Fr hv hl Fh):∀ y∈t13::j::d::mp::(Fl++Fr),y < A.next:=by
 intro y hy
 rcases List.mem_cons.1 hy with rfl | hy
 ·exact m.t13l
 ·rcases List.mem_cons.1 hy with rfl | hy
  ·exact m.jd.jn.lt
  ·rcases List.mem_cons.1 hy with rfl | hy
   ·exact m.jd.dk.lt.1
   ·rcases List.mem_cons.1 hy with rfl | hy
    ·exact m.jd.dk.lt.2
    ·obtain ⟨_,_,_,_,a,_,b⟩:=m.jd.jn
     rcases List.mem_append.1 hy with h | h
     ·exact a.lt y h
     ·exact b.lt y h
theorem MI.grow (m:MI A0 A t5 t13 p j d mp q s Fl Fr hv hl Fh) (k:Keeps A A' []) (f:Fine A'):MI A0 A' t5 t13 p j d mp q s Fl Fr hv hl Fh:=
 ⟨m.jd.keeps k (by simp) (by simp) (by simp) (by simp) (by simp),m.had.step k (by simp) (fun y hy=>.inl hy),m.act.keeps k (by simp),m.t5n,m.t13n,Nat.lt_of_lt_of_le m.t13l k.next,m.lo,m.loh,m.kp.trans k (by simp),f⟩
theorem MI.acted (m:MI A0 A t5 t13 p j d mp q s Fl Fr hv hl Fh) (h:JD A' j d mp q' s' Fl' Fr') (h1:∀ y∈Fl',y∈Fl∨A.next≤y) (h2:∀ y∈Fr',y∈Fr∨A.next≤y) (k:Keeps A A' (j::d::mp::(Fl++Fr))) (f:Fine A'):MI A0 A' t5 t13 p j d mp q' s' Fl' Fr' hv hl Fh:=by
 have sub:∀ y∈j::d::mp::(Fl'++Fr'),y∈j::d::mp::(Fl++Fr)∨A.next≤y:=by
  intro y hy
  simp only [List.mem_cons,List.mem_append] at hy ⊢
  rcases hy with h | h | h | h | h
  ·exact .inl (.inl h)
  ·exact .inl (.inr (.inl h))
  ·exact .inl (.inr (.inr (.inl h)))
  ·exact (h1 y h).imp (fun h=>.inr (.inr (.inr (.inl h)))) id
  ·exact (h2 y h).imp (fun h=>.inr (.inr (.inr (.inr h)))) id
 have h5:=m.act.lt
 have h13:=m.t13l
 have hkn:=k.next
 have hA0:=m.kp.next
 refine ⟨h,m.had.step k (fun y hy=>.inl (List.mem_cons_of_mem _ hy)) (fun y hy=>?_),m.act.keeps k (fun hm=>m.t5n.1 (List.mem_cons_of_mem _ hm)),⟨fun hm=>?_,m.t5n.2⟩,fun hm=>?_,by omega,fun y hy=>?_,m.loh,m.kp.trans k (fun y hy=>.inr ?_),f⟩
 ·rcases List.mem_cons.1 hy with rfl | hy
  ·exact .inl (by simp)
  ·exact (sub y hy).imp (fun h=>List.mem_cons_of_mem _ h) id
 ·rcases List.mem_cons.1 hm with h | hm
  ·exact m.t5n.1 (by simp [h])
  ·rcases sub _ hm with h | h
   ·exact m.t5n.1 (List.mem_cons_of_mem _ h)
   ·omega
 ·rcases sub _ hm with h | h
  ·exact m.t13n h
  ·omega
 ·rcases List.mem_cons.1 hy with rfl | hy
  ·exact m.lo _ (by simp)
  ·rcases List.mem_cons.1 hy with rfl | hy
   ·exact m.lo _ (by simp)
   ·rcases sub y hy with h | h
    ·exact m.lo y (List.mem_cons_of_mem _ (List.mem_cons_of_mem _ h))
    ·omega
 ·exact m.lo y (List.mem_cons_of_mem _ (List.mem_cons_of_mem _ hy))
theorem MI.none (m:MI A0 A t5 t13 p j d mp q s Fl Fr hv hl Fh):MI A0 A t5 t13 p j d mp q s Fl Fr (.slice none 0 0) [] []:=
 ⟨m.jd,HV.nil _ _,m.act,⟨m.t5n.1,by simp⟩,m.t13n,m.t13l,m.lo,by simp,m.kp,m.fine⟩
theorem MI.had' {hv':Value} {hl':List PR} {Fh':List Nat} (m:MI A0 A t5 t13 p j d mp q s Fl Fr hv hl Fh) (h:HV A' (t13::j::d::mp::(Fl++Fr)) hv' hl' Fh') (k:Keeps A A' Fh) (hF:∀ y∈Fh',y∈Fh∨y=A.next) (f:Fine A'):MI A0 A' t5 t13 p j d mp q s Fl Fr hv' hl' Fh':=by
 have hb:=m.had.2.1
 have h5:=m.act.lt
 have hA0:=m.kp.next
 have hn:∀ y∈t13::j::d::mp::(Fl++Fr),y∉Fh:=fun y hy hm=>hb y hm hy
 refine ⟨m.jd.keeps k (hn _ (by simp)) (hn _ (by simp)) (hn _ (by simp)) (fun y hy=>hn _ (by simp [hy])) (fun y hy=>hn _ (by simp [hy])),h,m.act.keeps k m.t5n.2,⟨m.t5n.1,fun hm=>(hF _ hm).elim m.t5n.2 fun h=>by omega⟩,m.t13n,Nat.lt_of_lt_of_le m.t13l k.next,m.lo,fun y hy=>(hF y hy).elim (m.loh y) fun h=>by omega,m.kp.trans k fun y hy=>.inr (m.loh y hy),f⟩
end
section
variable {W0:World} {m0:Inj Tp}
theorem kNow_ok {A0 A:AW} {t5 t13:Nat} {p:AV} {j d mp:Nat} {q:JS} {s:DS} {Fl Fr:List Nat} {hv:Value} {hl:List PR} {Fh:List Nat} {v1 v2:Value} {dd:Nat→Value} {K:AW→Prop} (m:MI A0 A t5 t13 p j d mp q s Fl Fr hv hl Fh) (ht:Go.Abs.Row1 A t13 [v1,v2] 58) (h6:dd 6=ptr j) (hA:A.next < 800000000000) (hql:q.l.length < 1000000)
  (hk:∀ A' (x:PR) F,toP x=(q.state,q.l)→MI A0 A' t5 t13 p j d mp q s Fl Fr hv hl Fh→Go.Abs.Row1 A' t13 (fP x.1) 58→RdE 1 fR A' x.sl x.2 F→(∀ y∈F,A.next≤y)→A'.next≤A.next+5→K A'):kNow W0 m0 dd (ptr t13) K A:=by
 have hmax:maxId=1099511627776:=rfl
 unfold kNow
 rw [h6]
 refine wc17 m.jd.jn ?_
 refine wc18 m.jd.jn m.fine (by omega) hql fun A1 v R F e1 o1 hF g1=>?_
 have n1:=g1.next
 have l1:=g1.le
 have m1:=m.grow g1.keeps g1.fine
 have t1:=ht.keeps g1.keeps (by simp)
 obtain ⟨o,c,hv'⟩:=o1.slice
 subst hv'
 simp only [ba58,pureW_some]
 refine t1.store g1.fine (by omega) (st_58 _ _ _) rfl (by show 0+2≤2;omega) rfl fun A2 t2 k2 n2 f2=>?_
 have t2:Go.Abs.Row1 A2 t13 [.string ⟨⟨q.state⟩⟩,.slice o R.length c] 58:=t2
 have k2:Keeps A1 A2 [t13]:=k2
 have h13:=m.t13l
 have o2:=o1.keeps k2 (fun y hy=>by have:=hF y hy;simp;omega)
 have hnn:t13∉Fh:=fun hm=>m.had.2.1 _ hm (by simp)
 refine hk A2 (⟨⟨⟨q.state⟩⟩,o,R.length,c⟩,R) F (by show (q.state,R.map toR)=_;rw [e1]) ?_ t2 (o2.rd etR.len) hF (by omega)
 have hn:∀ y∈j::d::mp::(Fl++Fr),y∉[t13]:=fun y hy hm=>m.t13n (by rw [← List.mem_singleton.1 hm];exact hy)
 exact ⟨m1.jd.keeps k2 (hn _ (by simp)) (hn _ (by simp)) (hn _ (by simp)) (fun y hy=>hn _ (by simp [hy])) (fun y hy=>hn _ (by simp [hy])),m1.had.step k2 (fun y hy=>.inl (by simp [List.mem_singleton.1 hy])) (fun y hy=>.inl hy),m1.act.keeps k2 (fun hm=>m.t5n.1 (by rw [List.mem_singleton.1 hm];simp)),m.t5n,m.t13n,Nat.lt_of_lt_of_le m1.t13l k2.next,m.lo,m.loh,m1.kp.trans k2 (fun y hy=>.inr (m.lo y (by rw [List.mem_singleton.1 hy];simp))),f2⟩
end
structure KM (A0 A:AW) (d mp j:Nat) (q:JS) (s:DS) (Fl Fr:List Nat) (hv:Value) (hl:List PR) (Fh:List Nat):Prop where
 jd:JD A j d mp q s Fl Fr
 had:HV A (j::d::mp::(Fl++Fr)) hv hl Fh
 lo:∀ y∈j::d::mp::(Fl++Fr),A0.next≤y
 loh:∀ y∈Fh,A0.next≤y
 ok:OkS 60 s
 kp:Keeps A0 A []
 fine:Fine A
def KL (A0:AW) (x:Value) (n lim:Nat) (g id:Nat) (vals:List Value) (A:AW):Prop:=
 (id=0∧∃ (i d mp j:Nat) (q:JS) (s:DS) (Fl Fr:List Nat) (hv:Value) (hl:List PR) (Fh:List Nat),vals=[.int .u8 (lim:Int),x,ptr d,ptr j,hv,.int .i64 (i:Int)]∧i≤40∧i≤n∧g=(41 - i) * 1000∧hl.length≤3 * i+3∧
  KM A0 A d mp j q s Fl Fr hv hl Fh∧KU (14+(lim:Int)) i s q (hl.map toP)∧A.next≤A0.next+3300000+21100000 * i)∨
 (id=3∧∃ (i k d mp j:Nat) (fnd:Bool) (q:JS) (s:DS) (Fl Fr:List Nat) (hv:Value) (hl:List PR) (Fh:List Nat),vals=[.int .u8 (lim:Int),x,ptr d,ptr j,hv,.int .i64 (i:Int),.bool fnd,.int .i64 (k:Int)]∧i < 40∧i < n∧k≤hl.length∧g+1+k=(41 - i) * 1000∧hl.length≤3 * i+6∧
  KM A0 A d mp j q s Fl Fr hv hl Fh∧KU (14+(lim:Int)) (i+1) s q [(q.state,q.l)]∧(fnd=true∨(q.state,q.l)∈(hl.drop k).map toP)∧A.next≤A0.next+3300000+21100000 * i+21050000+10 * k)
section
variable {W0:World} {m0:Inj Tp}
theorem kEnd_ok {A0 A:AW} {t5 t13 i n lim k:Nat} {p:AV} {j d mp:Nat} {q:JS} {s:DS} {Fl Fr:List Nat} {x hv:Value} {hl:List PR} {Fh:List Nat} {dd:Nat→Value} {Q:Value→AW→Prop} (hN:NumsK W0 m0 48) (hfr:NumK W0 m0 fresh) (hg0:Glb A0) (hA0:A0.next < 400000000000) (hlim:lim < 256)
  (h0:dd 0=.int .u8 (lim:Int)) (h1:dd 1=x) (h5:dd 5=ptr d) (h6:dd 6=ptr j) (h9:dd 9=.int .i64 (i:Int)) (hi:i < 40) (hin:i < n)
  (m:MI A0 A t5 t13 p j d mp q s Fl Fr hv hl Fh) (ha:After (14+(lim:Int)) (i+1) s q (hl.map toP)) (hok:OkS k s) (hkeep:∃ kl F,RdE 0 fZ A0 (.slice p.o p.len p.cap) kl F) (hll:hl.length≤3 * i+6) (hnx:A.next≤A0.next+3300000+21100000 * i+10000):
  kEnd W0 m0 (fun id v A''=>∃ g2,g2 < (41 - i) * 1000∧KL A0 x n lim g2 id v A'') Q dd (ptr t5) hv A:=by
 have hmax:maxId=1099511627776:=rfl
 have hglt:=hg0.lt
 have hlt:=m.lt
 unfold kEnd
 rw [h0,h1,h5,h6,h9]
 refine wc23 m.jd.dk ?_
 simp only [un_not,pureW_some]
 have hHV:HV A (j::d::mp::(Fl++Fr)) hv hl Fh:=m.had.step (.refl A []) (by simp) (fun y hy=>.inl (List.mem_cons_of_mem _ hy))
 have hlo:∀ y∈j::d::mp::(Fl++Fr),A0.next≤y:=fun y hy=>m.lo y (List.mem_cons_of_mem _ (List.mem_cons_of_mem _ hy))
 have ok60:OkS 60 s:=okS_few2 hok (ha.few (by omega)) (by omega)
 refine forkW_bool.2 ⟨fun hd=>?_,fun hd=>?_⟩
 ·have hd:s.down=false:=by simpa using hd
  simp only [bin_add,pureW_some]
  rw [wrap_i64 (by omega) (by omega)]
  refine cutW_self.2 ⟨(41 - (i+1)) * 1000,by omega,.inl ⟨rfl,i+1,d,mp,j,q,s,Fl,Fr,hv,hl,Fh,rfl,by omega,by omega,rfl,by omega,⟨m.jd,hHV,hlo,m.loh,ok60,m.kp,m.fine⟩,ha.1 hd,by omega⟩⟩
 ·have hd:s.down=true:=by simpa using hd
  have hkx:=ha.2 hd
  obtain ⟨kl,Fk,hkr⟩:=hkeep
  have hact:Go.Abs.Row1 A t5 [.int .u8 p.what.toNat,.int .u8 p.r.1.toNat,.string p.r.2,.int .i64 p.n,.slice p.o p.len p.cap,.string p.file] 48:=m.act
  have hfk:=hkr.fam
  have hdlo:=hlo d (by simp)
  have hmlo:=hlo mp (by simp)
  have hdl:=hlt d (by simp)
  have hml:=hlt mp (by simp)
  have hkr':=hkr.keeps m.kp (by simp)
  simp only [ptr,fa_48_3,ld_46,cell_row hact.row,cellOf,isTuple,cond_false,pureW_some,Nat.zero_add]
  obtain ⟨hfx,s3,q3,ho3,hku,hmem⟩:=wake_k (lim:=14+(lim:Int)) kl hkx ok60.safe (by omega) (by omega)
  refine wc24 m.jd.dk hd (ok60.d (by omega)) hkr' (fun y hy=>by have:=hfk y hy;omega) m.fine (by omega) fun A1 d1 k1 n1 f1=>?_
  have hfew:=ok60.few
  have le1:=k1.next
  have okw:=wakeS_ok (keep:=kl) ok60 hfx (by omega)
  have hHV1:=hHV.step (S'':=j::d::mp::(Fl++Fr)) k1 (fun y hy=>.inl (by simp only [List.mem_cons,List.not_mem_nil,or_false] at hy ⊢;rcases hy with rfl | rfl <;> simp)) (fun y hy=>.inl hy)
  have K1:Keeps A0 A1 []:=m.kp.trans k1 fun y hy=>.inr (by simp only [List.mem_cons,List.not_mem_nil,or_false] at hy;omega)
  simp only [cv_5_3,bothW_ok,bin_add]
  rw [wrap_i64 (n:=(lim:Int)) (by omega) (by omega),wrap_i64 (n:=14+(lim:Int)) (by omega) (by omega)]
  simp only [pureW_some]
  have h213:(i+1+1) * 213≤41 * 213:=Nat.mul_le_mul_right _ (by omega)
  have hLf:∀ f∈(wakeS s (namesS s.D) kl).D,f.2.1.length≤8733:=fun f hf=>by have:=hfx.lens f hf;omega
  refine wc8 (k:=i+1+1+1) (L:=8733) d1 (hg0.keeps K1 (by simp)) okw (by omega) hLf (by omega) (Nat.lt_of_le_of_lt (Nat.mul_le_mul_right 8733 (show i+1+1+1≤42 by omega)) (by decide)) f1 (by omega) ⟨by omega,by omega⟩ (fun f hf=>?_) (fun a ha'=>?_) (fun e A2 s' ho _ _ _ _=>by have:=ho.symm.trans ho3;simp at this) fun A2 s' q' j2 Fl2 Fr2 ho hjd2 hj2 hFl2 hFr2 k2 n2 f2=>?_
  ·rcases hfx.names f hf with rfl | ⟨a,ha1,ha2,rfl⟩
   ·exact hfr
   ·exact (hN a ha1 (by omega)).1
  ·rcases ha' with rfl | ⟨y,hy,rfl⟩
   ·exact (hN 1 (by omega) (by omega)).2
   ·have:=hfx.segs y hy
    exact (hN y.n this.1 (by omega)).2
  ·obtain ⟨rfl,rfl⟩:s'=s3∧q'=q3:=by
    have:=ho.symm.trans ho3
    simp only [Prod.mk.injEq,Option.some.injEq] at this
    exact ⟨this.1,this.2.1⟩
   simp only [exL_two0,exL_two1,pureW_some,bin_neq,ptr,pe29]
   refine forkW_bne.2 ⟨fun h=>by simp at h,fun _=>forkW_bool.2 ⟨fun h=>by simp at h,fun _=>?_⟩⟩
   have hS2:∀ y∈[d,mp],A0.next≤y:=fun y hy=>by simp only [List.mem_cons,List.not_mem_nil,or_false] at hy;omega
   have hHV2:=hHV1.step (S'':=j2::d::mp::(Fl2++Fr2)) k2 (fun y hy=>.inl (by simp only [List.mem_cons,List.not_mem_nil,or_false] at hy ⊢;rcases hy with rfl | rfl <;> simp)) (fun y hy=>by
    simp only [List.mem_cons,List.mem_append] at hy ⊢
    rcases hy with h | h | h | h | h
    ·exact .inr (by omega)
    ·exact .inl (.inr (.inl h))
    ·exact .inl (.inr (.inr (.inl h)))
    ·exact .inr (hFl2 y h)
    ·exact .inr (hFr2 y h))
   have hok3:OkS 60 s':=by
    obtain ⟨nn,h3⟩:=openS_ok (names:=namesS (wakeS s (namesS s.D) kl).D) (lim:=14+(lim:Int)) okw
    rw [ho] at h3
    obtain ⟨_,_,_,_,_,_,_,_,_,_,h4,_⟩:=hku.facts (by omega)
    exact okS_few2 h3 h4 (by omega)
   refine cutW_self.2 ⟨(41 - i) * 1000 - 1,by omega,.inr ⟨rfl,i,0,d,mp,j2,false,q',s',Fl2,Fr2,hv,hl,Fh,rfl,hi,hin,Nat.zero_le _,by omega,hll,⟨hjd2,hHV2,fun y hy=>?_,m.loh,hok3,K1.trans k2 fun y hy=>.inr (hS2 y hy),f2⟩,hku,.inr (by rw [List.drop_zero];exact hmem),by omega⟩⟩
   simp only [List.mem_cons,List.mem_append] at hy
   rcases hy with h | h | h | h | h
   ·omega
   ·omega
   ·omega
   ·have:=hFl2 y h;omega
   ·have:=hFr2 y h;omega
theorem kAdd_ok {A0 A:AW} {t5 t13 i n lim k:Nat} {p:AV} {j d mp:Nat} {q:JS} {s:DS} {Fl Fr F:List Nat} {x hv:Value} {hl:List PR} {Fh:List Nat} {y0:PR} {dd:Nat→Value} {Q:Value→AW→Prop} (hN:NumsK W0 m0 48) (hfr:NumK W0 m0 fresh) (hg0:Glb A0) (hA0:A0.next < 400000000000) (hlim:lim < 256)
  (h0:dd 0=.int .u8 (lim:Int)) (h1:dd 1=x) (h5:dd 5=ptr d) (h6:dd 6=ptr j) (h9:dd 9=.int .i64 (i:Int)) (hi:i < 40) (hin:i < n)
  (m:MI A0 A t5 t13 p j d mp q s Fl Fr hv hl Fh) (ht:Go.Abs.Row1 A t13 (fP y0.1) 58) (hx:RdE 1 fR A y0.sl y0.2 F) (hF:∀ y∈F,y∉t13::j::d::mp::(Fl++Fr)∧y∉Fh) (ha:After (14+(lim:Int)) (i+1) s q ((hl++[y0]).map toP)) (hok:OkS k s) (hkeep:∃ kl F,RdE 0 fZ A0 (.slice p.o p.len p.cap) kl F) (hll:hl.length+1≤3 * i+6) (hnx:A.next≤A0.next+3300000+21100000 * i+9000):
  kAdd W0 m0 (fun id v A''=>∃ g2,g2 < (41 - i) * 1000∧KL A0 x n lim g2 id v A'') Q dd (ptr t5) (ptr t13) hv A:=by
 have hmax:maxId=1099511627776:=rfl
 have hglt:=hg0.lt
 unfold kAdd
 have hc:A.cells? ⟨t13,0,none⟩ 2=some (fP y0.1):=by rw [cells_row ht.row];rfl
 simp only [ptr,ld_58,hc,pureW_some]
 refine bs59' m.fine (by omega) fun A1 m1=>?_
 have n1:=m1.next
 have k1:=m1.keeps m.fine
 have M1:=m.grow k1 m1.fine
 refine M1.had.push m1.row1 (hx.keeps k1 (by simp)) hF (fun y hy=>M1.lt y hy) m1.fine (by omega) (by omega) fun v2 A2 Fh2 hv2 k2 hFh n2 f2=>?_
 have M2:=M1.had' hv2 k2 hFh f2
 exact kEnd_ok hN hfr hg0 hA0 hlim h0 h1 h5 h6 h9 hi hin M2 ha hok hkeep (by rw [List.length_append];simp;omega) (by omega)
end
theorem same_slice {n:Nat} {o:Option Addr} (h:o=none∨∃ b,o=some ⟨b,0,none⟩) (a b:Nat):sameV (n+1) (.slice o a b) (.slice o a b)=true:=by
 rcases h with rfl | ⟨x,rfl⟩
 ·simp [sameV]
 ·simp [sameV,Go.Abs.sameAddr]
theorem own_spot {A:AW} {l:List RV} {v:Value} {F:List Nat} (h:OwnF 35 1 fR A v l F):∃ o c,v=.slice o l.length c∧(o=none∨∃ b,o=some ⟨b,0,none⟩):=by
 obtain ⟨o,c,hv⟩:=h.slice
 refine ⟨o,c,hv,?_⟩
 rcases h with h | ⟨b,h1,_⟩
 ·rcases h with ⟨h1,_⟩ | ⟨b,f,h1,_⟩
  ·rw [hv] at h1
   simp only [Value.slice.injEq] at h1
   exact .inl h1.1
  ·rw [hv] at h1
   simp only [Value.slice.injEq] at h1
   exact .inr ⟨b,h1.1⟩
 ·rw [hv] at h1
  simp only [Value.slice.injEq] at h1
  exact .inr ⟨b,h1.1⟩
theorem Glb.of {A A':AW} (h:Glb A) (k:Keeps A A' []):Glb A':=h.keeps k (by simp)
section
variable {W0:World} {m0:Inj Tp}
variable {A0 A:AW} {t5 t13 i n lim k:Nat} {p:AV} {j d mp:Nat} {q:JS} {s:DS} {Fl Fr:List Nat} {x hv:Value} {hl:List PR} {Fh:List Nat} {dd:Nat→Value} {Q:Value→AW→Prop} {v1 v2:Value}
theorem kDo_ok (hN:NumsK W0 m0 48) (hfr:NumK W0 m0 fresh) (hg0:Glb A0) (hA0:A0.next < 400000000000) (hlim:lim < 256)
  (h0:dd 0=.int .u8 (lim:Int)) (h1:dd 1=x) (h5:dd 5=ptr d) (h6:dd 6=ptr j) (h9:dd 9=.int .i64 (i:Int)) (hi:i < 40) (hin:i < n)
  (m:MI A0 A t5 t13 p j d mp q s Fl Fr hv hl Fh) (ht:Go.Abs.Row1 A t13 [v1,v2] 58) (hql:q.l.length < 1000000) (ha:After (14+(lim:Int)) (i+1) s q (hl.map toP++[(q.state,q.l)])) (hok:OkS k s) (hkeep:∃ kl F,RdE 0 fZ A0 (.slice p.o p.len p.cap) kl F) (hll:hl.length+1≤3 * i+6) (hnx:A.next≤A0.next+3300000+21100000 * i+8000):
  kNow W0 m0 dd (ptr t13) (fun At=>kAdd W0 m0 (fun id v A''=>∃ g2,g2 < (41 - i) * 1000∧KL A0 x n lim g2 id v A'') Q dd (ptr t5) (ptr t13) hv At) A:=by
 have hlt:=m.lt
 have hhl:=m.had.1.lt
 refine kNow_ok m ht h6 (by omega) hql fun A1 y F hy m1 t1 hr hF hn=>?_
 refine kAdd_ok hN hfr hg0 hA0 hlim h0 h1 h5 h6 h9 hi hin m1 t1 hr (fun z hz=>⟨fun hm=>by have:=hlt z hm;have:=hF z hz;omega,fun hm=>by have:=hhl z hm;have:=hF z hz;omega⟩) ?_ hok hkeep hll (by omega)
 rw [List.map_append,List.map_singleton,hy]
 exact ha
theorem kDo2_ok {b:Bool} (hN:NumsK W0 m0 48) (hfr:NumK W0 m0 fresh) (hg0:Glb A0) (hA0:A0.next < 400000000000) (hlim:lim < 256)
  (h0:dd 0=.int .u8 (lim:Int)) (h1:dd 1=x) (h5:dd 5=ptr d) (h6:dd 6=ptr j) (h9:dd 9=.int .i64 (i:Int)) (hi:i < 40) (hin:i < n)
  (m:MI A0 A t5 t13 p j d mp q s Fl Fr hv hl Fh) (ht:Go.Abs.Row1 A t13 [v1,v2] 58) (hql:q.l.length < 1000000) (ha:After (14+(lim:Int)) (i+1) s q (if b=true then [(q.state,q.l)] else hl.map toP++[(q.state,q.l)])) (hok:OkS k s) (hkeep:∃ kl F,RdE 0 fZ A0 (.slice p.o p.len p.cap) kl F) (hll:hl.length+1≤3 * i+6) (hnx:A.next≤A0.next+3300000+21100000 * i+8000):
  kNow W0 m0 dd (ptr t13) (fun At=>forkW (.bool b) (kAdd W0 m0 (fun id v A''=>∃ g2,g2 < (41 - i) * 1000∧KL A0 x n lim g2 id v A'') Q dd (ptr t5) (ptr t13) (.slice none 0 0) At) (kAdd W0 m0 (fun id v A''=>∃ g2,g2 < (41 - i) * 1000∧KL A0 x n lim g2 id v A'') Q dd (ptr t5) (ptr t13) hv At)) A:=by
 have hlt:=m.lt
 have hhl:=m.had.1.lt
 refine kNow_ok m ht h6 (by omega) hql fun A1 y F hy m1 t1 hr hF hn=>forkW_bool.2 ⟨fun hb=>?_,fun hb=>?_⟩
 ·rw [if_pos hb] at ha
  refine kAdd_ok hN hfr hg0 hA0 hlim h0 h1 h5 h6 h9 hi hin m1.none t1 hr (fun z hz=>⟨fun hm=>by have:=hlt z hm;have:=hF z hz;omega,by simp⟩) ?_ hok hkeep (by simp) (by omega)
  rw [List.nil_append,List.map_singleton,hy]
  exact ha
 ·rw [if_neg (by rw [hb];simp)] at ha
  refine kAdd_ok hN hfr hg0 hA0 hlim h0 h1 h5 h6 h9 hi hin m1 t1 hr (fun z hz=>⟨fun hm=>by have:=hlt z hm;have:=hF z hz;omega,fun hm=>by have:=hhl z hm;have:=hF z hz;omega⟩) ?_ hok hkeep hll (by omega)
  rw [List.map_append,List.map_singleton,hy]
  exact ha
theorem kApp_ok {y0:PR} {F0:List Nat} (hN:NumsK W0 m0 48) (hfr:NumK W0 m0 fresh) (hg0:Glb A0) (hA0:A0.next < 400000000000) (hlim:lim < 256)
  (h0:dd 0=.int .u8 (lim:Int)) (h1:dd 1=x) (h5:dd 5=ptr d) (h6:dd 6=ptr j) (h8:dd 8=hv) (h9:dd 9=.int .i64 (i:Int)) (hi:i < 40) (hin:i < n)
  (m:MI A0 A t5 t13 p j d mp q s Fl Fr hv hl Fh) (ht:Go.Abs.Row1 A t13 (fP y0.1) 58) (hy0:toP y0=(q.state,q.l)) (hr0:RdE 1 fR A y0.sl y0.2 F0) (hku:KU (14+(lim:Int)) i s q (hl.map toP)) (hok:OkS 60 s) (hr1:(toR p.r).1≠0) (hr2:p.r.2.data.toList.length≤200) (hkeep:∃ kl F,RdE 0 fZ A0 (.slice p.o p.len p.cap) kl F) (hll:hl.length≤3 * i+3) (hnx:A.next≤A0.next+3300000+21100000 * i+100):
  kApp W0 m0 (fun id v A''=>∃ g2,g2 < (41 - i) * 1000∧KL A0 x n lim g2 id v A'') Q dd (ptr t5) (ptr t13) A:=by
 have hmax:maxId=1099511627776:=rfl
 have hglt:=hg0.lt
 have hlt:=m.lt
 have hhl:=m.had.1.lt
 have h5l:=m.act.lt
 have ht:Go.Abs.Row1 A t13 [.string y0.1.st,.slice y0.1.o y0.1.len y0.1.cap] 58:=ht
 have hact:Go.Abs.Row1 A t5 [.int .u8 p.what.toNat,.int .u8 p.r.1.toNat,.string p.r.2,.int .i64 p.n,.slice p.o p.len p.cap,.string p.file] 48:=m.act
 have hcell:∀ B,Go.Abs.Row1 B t5 [.int .u8 p.what.toNat,.int .u8 p.r.1.toNat,.string p.r.2,.int .i64 p.n,.slice p.o p.len p.cap,.string p.file] 48→B.cells? ⟨t5,1,none⟩ 2=some [.int .u8 (p.r.1.toNat:Int),.string p.r.2]:=fun B hB=>by rw [cells_row hB.row];rfl
 obtain ⟨nl,hn1,hn2,hn3,hn4,hn5,hn6,hn7,hn8,hn9,hn10,hn11,hn12,_⟩:=hku.facts (by omega)
 unfold kApp
 simp only [ptr,fa_58_0,fa_58_1,fa_48_1,ld_9,ld_22,ld_35,hcell A hact,cell_row ht.row,cellOf,isTuple,cond_false,pureW_some,Nat.zero_add]
 refine bs22' (c:=p.r.1) (s:=p.r.2) m.fine (by omega) fun A1 m1=>?_
 have n1:=m1.next
 have k1:=m1.keeps m.fine
 have act1:=hact.keeps k1 (by simp)
 have t1:=ht.keeps k1 (by simp)
 refine ⟨⟨_,fresh22 _ _,?_⟩,?_⟩
 ·have:=m1.row
  simp only [stillFresh,rowHas,this,fR,sameL,same_int,same_string,Bool.and_self,Option.isNone_none,Nat.beq_refl]
 simp only [hcell A1 act1,cell_row t1.row,cellOf,isTuple,cond_false,pureW_some,eqW_self]
 have hr01:=hr0.keeps k1 (by simp)
 refine (OwnF.nil A1:OwnF 35 1 fR A1 (.slice none 0 0) ([]:List RV) []).appendL etR hr01 m1.fine (by omega) (by simp) ?_ fun v2 A2 F2 o2 k2 hF2 n2 f2=>?_
 ·have:=congrArg (fun z:PastS=>z.2.length) hy0
  have:y0.2.length=q.l.length:=by simpa [toP] using this
  omega
 rw [List.nil_append] at o2
 have hy0l:y0.2.length=q.l.length:=by
  have:=congrArg (fun z:PastS=>z.2.length) hy0
  simpa [toP] using this
 have hF2':∀ y∈F2,A1.next≤y:=fun y hy=>(hF2 y hy).elim (fun h=>by cases h) fun h=>by omega
 have le2:=k2.next
 have act2:=act1.keeps k2 (by simp)
 have t2:=t1.keeps k2 (by simp)
 have r2:=m1.row1.keeps k2 (by simp)
 refine ⟨⟨_,fresh22 _ _,?_⟩,?_⟩
 ·have:=r2.row
  simp only [stillFresh,rowHas,this,fR,sameL,same_int,same_string,Bool.and_self,Option.isNone_none,Nat.beq_refl]
 simp only [hcell A2 act2,cell_row t2.row,cellOf,isTuple,cond_false,pureW_some,eqW_self]
 refine o2.append etR (p:=(p.r.1,p.r.2)) r2 f2 (by omega) (by omega) fun v3 A3 F3 o3 k3 hF3 n3 f3=>?_
 have le3:=k3.next
 have hF3':∀ y∈F3,A1.next≤y:=fun y hy=>(hF3 y hy).elim (hF2' y) fun h=>by omega
 have nF2:∀ y,y < A1.next→y∉F2:=fun y hy hm=>by have:=hF2' y hm;omega
 have h13:=m.t13l
 have act3:=act2.keeps k3 (nF2 _ (by omega))
 have t3:=t2.keeps k3 (nF2 _ (by omega))
 have r3:=r2.keeps k3 (nF2 _ (by omega))
 obtain ⟨o,c,hv3,ho3⟩:=own_spot o3
 subst hv3
 simp only [cell_row t3.row,cellOf,isTuple,cond_false,pureW_some,eqW_self,ba58]
 refine bs59' (x:=⟨y0.1.st,o,(y0.2++[(p.r.1,p.r.2)]).length,c⟩) f3 (by omega) fun A4 m4=>?_
 have n4:=m4.next
 have k4:=m4.keeps f3
 have act4:=act3.keeps k4 (by simp)
 have t4:=t3.keeps k4 (by simp)
 have r4:=r3.keeps k4 (by simp)
 have o4:=o3.keeps k4 (by simp)
 refine ⟨⟨_,fresh59 _ _ _ _,?_⟩,?_⟩
 ·have:=m4.row
  simp only [stillFresh,rowHas,this,fP,sameL,same_slice ho3,same_string,Bool.and_self,Option.isNone_none,Nat.beq_refl]
 refine ⟨⟨_,fresh22 _ _,?_⟩,?_⟩
 ·have:=r4.row
  simp only [stillFresh,rowHas,this,fR,sameL,same_int,same_string,Bool.and_self,Option.isNone_none,Nat.beq_refl]
 simp only [hcell A4 act4,cell_row t4.row,cellOf,isTuple,cond_false,pureW_some,eqW_self]
 have hS4:∀ y∈Fh++(t13::j::d::mp::(Fl++Fr)),y < A.next:=fun y hy=>(List.mem_append.1 hy).elim (hhl y) (hlt y)
 refine (HV.nil A4 (Fh++(t13::j::d::mp::(Fl++Fr)))).push (x:=(⟨y0.1.st,o,(y0.2++[(p.r.1,p.r.2)]).length,c⟩,y0.2++[(p.r.1,p.r.2)])) m4.row1 (o4.rd etR.len) (fun y hy=>⟨fun hm=>by have:=hS4 y hm;have:=hF3' y hy;omega,by simp⟩) (fun y hy=>by have:=hS4 y hy;omega) m4.fine (by omega) (by simp) fun v5 A5 Ft hv5 k5 hFt n5 f5=>?_
 have le5:=k5.next
 have act5:=act4.keeps k5 (by simp)
 have t5':=t4.keeps k5 (by simp)
 have K35:Keeps A A5 []:=(((k1.trans k2 (by simp)).trans k3 (fun y hy=>.inr (by have:=hF2' y hy;omega))).trans k4 (by simp)).trans k5 (by simp)
 have m5:=m.grow K35 f5
 simp only [hcell A5 act5,pureW_some]
 have hrr:(.agg ⟨[.int .u8 (p.r.1.toNat:Int),.string p.r.2]⟩:Value)=.agg ⟨fR p.r⟩:=rfl
 rw [hrr,h6,h8]
 refine wc10 (n:=nl) (k:=60) (r:=p.r) m5.jd (hg0.of m5.kp) hok (by omega) f5 (by omega) ⟨by have:=m.lo j (by simp);omega,by have:=m.lo d (by simp);omega,by have:=m.lo mp (by simp);omega⟩ (by omega) (by omega) (by omega) hn1 (by omega) (by omega) (by rw [hn7];omega) (by rw [hn7];omega) (hN nl hn2 (by omega)).2 (fun _=>(hN (nl+1) (by omega) (by omega)).2) fun A6 Fl6 Fr6 jd6 hFl6 hFr6 k6 n6 f6=>?_
 have m6:=m5.acted jd6 hFl6 hFr6 k6 f6
 have le6:=k6.next
 have hv6:HV A6 (Fh++(t13::j::d::mp::(Fl6++Fr6))) v5 [(⟨y0.1.st,o,(y0.2++[(p.r.1,p.r.2)]).length,c⟩,y0.2++[(p.r.1,p.r.2)])] Ft:=by
  refine hv5.step k6 (fun y hy=>.inl (by simp [List.mem_append] at hy ⊢;rcases hy with h | h | h | h | h <;> simp [h])) fun y hy=>?_
  rcases List.mem_append.1 hy with h | h
  ·exact .inl (List.mem_append_left _ h)
  ·simp only [List.mem_cons,List.mem_append] at h ⊢
   rcases h with h | h | h | h | h | h
   ·exact .inl (.inr (.inl h))
   ·exact .inl (.inr (.inr (.inl h)))
   ·exact .inl (.inr (.inr (.inr (.inl h))))
   ·exact .inl (.inr (.inr (.inr (.inr (.inl h)))))
   ·exact (hFl6 y h).imp (fun h=>.inr (.inr (.inr (.inr (.inr (.inl h)))))) id
   ·exact (hFr6 y h).imp (fun h=>.inr (.inr (.inr (.inr (.inr (.inr h)))))) id
 have t6:=t5'.keeps k6 m.t13n
 have hafter:=append_k (r:=toR p.r) hku (by omega) hr1 hr2
 have hok7:=appendJ_ok (q:=q) (r:=toR p.r) hok
 have hql:=appendJ_l s q (toR p.r)
 generalize appendJ s q (toR p.r)=out at jd6 hafter hok7 hql m6
 refine m6.had.pushL hv6 (fun y hy=>m6.lt y hy) f6 (by omega) (by omega) (by simp) fun v7 A7 Fh7 hv7 k7 hFh7 n7 f7=>?_
 have m7:=m6.had' hv7 k7 hFh7 f7
 have t7:=t6.keeps k7 (fun hm=>m6.had.2.1 _ hm (by simp))
 refine kDo_ok hN hfr hg0 hA0 hlim h0 h1 h5 h6 h9 hi hin m7 t7 (by omega) ?_ hok7 hkeep (by rw [List.length_append];simp;omega) (by omega)
 have e:(hl++[((⟨y0.1.st,o,(y0.2++[(p.r.1,p.r.2)]).length,c⟩,y0.2++[(p.r.1,p.r.2)]):PR)]).map toP=hl.map toP++[(q.state,q.l++[toR p.r])]:=by
  rw [List.map_append,List.map_singleton]
  congr 2
  show (y0.1.st.data.toList,(y0.2++[(p.r.1,p.r.2)]).map toR)=_
  obtain ⟨e1,e2⟩:=Prod.mk.inj (show (y0.1.st.data.toList,y0.2.map toR)=(q.state,q.l) from hy0)
  rw [e1,List.map_append,e2]
  rfl
 rw [e]
 exact hafter
end
end Go.Proofs.YtbchfeibhoobeaaGreatDoor
namespace Go.Proofs.YtbchfeibhoobeaaGreatDoor
open Go.Abs Go.Jr Go.Crc
theorem bin_remI {P:Program} {t:TypeId} {xo yo:Operand} {k:IntKind} {a b:Int} (hb:b≠0):binA P .rem t xo yo (.int k a) (.int k b)=some (.int k (a.tmod b)):=by simp [binA,binOp,Op.intDiv,hb,quiet,closedO,closedV,pure]
theorem rem7 {t:TypeId} {xo yo:Operand} (a:UInt8):binA Tp .rem t xo yo (.int .u8 (a.toNat:Int)) (.int .u8 7)=some (.int .u8 ((a.toNat % 7:Nat):Int)):=bin_remI (by decide)
theorem toR_inj {a b:List RV} (h:a.map toR=b.map toR):a=b:=by
 induction a generalizing b with
 | nil=>cases b with | nil=>rfl | cons y r=>simp at h
 | cons x l ih=>
  cases b with
  | nil=>simp at h
  | cons y r=>
   rw [List.map_cons,List.map_cons] at h
   obtain ⟨h1,h2⟩:=List.cons.inj h
   obtain ⟨a1,a2⟩:=x
   obtain ⟨b1,b2⟩:=y
   have h1:(a1,a2.data.toList)=(b1,b2.data.toList):=h1
   obtain ⟨h3,h4⟩:=Prod.mk.inj h1
   rw [ih h2,h3,ba_eqJ h4]
section
variable {W0:World} {m0:Inj Tp}
end
end Go.Proofs.YtbchfeibhoobeaaGreatDoor
namespace Go.Proofs.YtbchfeibhoobeaaGreatDoor
open Go.Abs Go.Jr
theorem KU.more {lim:Int} {i i':Nat} {s:DS} {q:JS} {had:List PastS} (h:KU lim i s q had) (hi:i≤i'):KU lim i' s q had:=by
 obtain ⟨fu,n0,F,gs,g,c,hs,hq,hw⟩:=h
 exact ⟨fu,n0,F,gs,g,c,hs,hq,hw.mono hi fun p hp=>hp⟩
def OkP (A0:AW) (p:AV):Prop:=(∃ kl F,RdE 0 fZ A0 (.slice p.o p.len p.cap) kl F)∧p.n < 9223372036854775808
section
variable {W0:World} {m0:Inj Tp}
theorem keep0 {A0 A':AW} {x:Value} {l:List AV} {F:List Nat} {n lim g:Nat} {vals:List Value} {dd:Nat→Value} (hhd:KC.Holds Tp W0 m0 ⟨9,[],[.bool true]⟩) (hN:NumsK W0 m0 48) (hfr:NumK W0 m0 fresh) (hg0:Glb A0) (hA:A0.next < 400000000000) (hlim:lim < 256) (hx:RdA A0 x n l F) (hln:l.length=min n 40) (hop:∀ p∈l,OkP A0 p)
  (h:KL A0 x n lim g 0 vals A') (hd':(L5 0).map dd=vals):
  gL W0 m0 (fun id v A''=>∃ g2,g2 < g∧KL A0 x n lim g2 id v A'') (fun v _=>v=.bool true) 5 180 T5 L5 dd 0 A':=by
 have hmax:maxId=1099511627776:=rfl
 have hglt:=hg0.lt
 rcases h with ⟨_,i,d,mp,j,q,s,Fl,Fr,hv,hl,Fh,rfl,hi,hin,rfl,hll,hkm,hku,hnx⟩ | ⟨h,_⟩
 rotate_left
 ·cases h
 have hxr:=hx.keeps hkm.kp (by simp)
 have hjd:=hkm.jd
 have hjA:=hjd.jn.lt
 have hdA:=hjd.dk.lt
 have hFlA:∀ y∈Fl,y < A'.next:=by obtain ⟨_,_,_,_,a,_,_⟩:=hjd.jn;exact a.lt
 have hFrA:∀ y∈Fr,y < A'.next:=by obtain ⟨_,_,_,_,_,_,a⟩:=hjd.jn;exact a.lt
 have hFhA:=hkm.had.1.lt
 have hSA:∀ y∈j::d::mp::(Fl++Fr),y < A'.next:=fun y hy=>by
  simp only [List.mem_cons,List.mem_append] at hy
  rcases hy with h | h | h | h | h
  ·omega
  ·omega
  ·omega
  ·exact hFlA y h
  ·exact hFrA y h
 obtain ⟨nl,hn1,hn2,hn3,hn4,hn5,hn6,hn7,hn8,hn9,hn10,hn11,hn12,_⟩:=hku.facts (by omega)
 rw [l5_0f]
 simp only [L5,List.map_cons,List.map_nil,List.cons.injEq,and_true] at hd'
 obtain ⟨h0,h1,h5,h6,h8,h9⟩:=hd'
 rw [h1,h6,h9]
 simp only [hxr.len,bin_lss,pureW_some,forkW_dec]
 refine ⟨fun hlt=>⟨fun hlt2=>?_,fun _=>knOne (by decide) hhd rfl rfl⟩,fun _=>knOne (by decide) hhd rfl rfl⟩
 have hlt:i < n:=by omega
 have hlt2:i < 40:=by omega
 obtain ⟨p,hp⟩:∃ p,l[i]? =some p:=⟨_,List.getElem?_eq_getElem (by omega)⟩
 obtain ⟨hkeep,hpn⟩:=hop p (List.mem_of_getElem? hp)
 obtain ⟨r,o,a1,a2,a3⟩:=hxr.at hp
 simp only [a1,pureW_some,a3]
 refine allocP_made zA hkm.fine (by omega) rfl fun A1 m1=>?_
 have n1:=m1.next
 refine m1.row1.store m1.fine (by omega) (st_48 _ _ _) rfl (by show 0+6≤6;omega) rfl fun A2 r2 k2 n2 f2=>?_
 have r2:Go.Abs.Row1 A2 A'.next (fA p) 48:=r2
 have g2:Grow A' A2 1:=(Grow.made m1 hkm.fine).own k2 (by simp) (m:=0) (by omega) f2
 have hc6:A2.cells? ⟨A'.next,0,none⟩ 6=some (fA p):=by rw [cells_row r2.row];rfl
 simp only [ld_48,hc6,pureW_some]
 refine wc14 f2 (by omega) fun A3 g3=>?_
 have g3':=g2.trans g3
 have n3:=g3'.next
 have le3:=g3'.le
 have le23:=g3.le
 have r3:=r2.keeps g3.keeps (by simp)
 refine forkW_bool.2 ⟨fun _=>knOne (by decide) hhd rfl rfl,fun hb=>?_⟩
 have hsm:p.r.2.data.toList.length≤200:=by
  unfold big at hb
  simp only [Bool.or_eq_false_iff,decide_eq_false_iff_not] at hb
  omega
 have hjd3:=hjd.keeps g3'.keeps (by simp) (by simp) (by simp) (by simp) (by simp)
 refine wc17 hjd3.jn ?_
 refine wc18 hjd3.jn g3'.fine (by omega) (by omega) fun A4 v4 R4 F4 e4 o4 hF4 g4=>?_
 have n4:=g4.next
 have le4:=g4.le
 obtain ⟨ov,cv,hv4⟩:=o4.slice
 subst hv4
 simp only [ba58,pureW_some]
 refine allocP_made zP g4.fine (by omega) rfl fun A5 m5=>?_
 have n5:=m5.next
 have k5:=m5.keeps g4.fine
 refine m5.row1.store m5.fine (by omega) (st_58 _ _ _) rfl (by show 0+2≤2;omega) rfl fun A6 t6 k6 n6 f6=>?_
 have t6:Go.Abs.Row1 A6 A4.next [.string ⟨⟨q.state⟩⟩,.slice ov R4.length cv] 58:=t6
 have k6:Keeps A5 A6 [A4.next]:=k6
 have K6:Keeps A' A6 []:=((g3'.keeps.trans g4.keeps (by simp)).trans k5 (by simp)).trans k6 (fun y hy=>.inr (by have:=List.mem_singleton.1 hy;omega))
 have K36:Keeps A3 A6 []:=(g4.keeps.trans k5 (by simp)).trans k6 (fun y hy=>.inr (by have:=List.mem_singleton.1 hy;omega))
 have K46:Keeps A4 A6 []:=k5.trans k6 (fun y hy=>.inr (by have:=List.mem_singleton.1 hy;omega))
 have hA0:=hkm.kp.next
 have m:MI A0 A6 A'.next A4.next p j d mp q s Fl Fr hv hl Fh:=by
  refine ⟨hjd.keeps K6 (by simp) (by simp) (by simp) (by simp) (by simp),hkm.had.step K6 (by simp) (fun y hy=>?_),r3.keeps K36 (by simp),⟨fun hm=>?_,fun hm=>?_⟩,fun hm=>?_,by omega,fun y hy=>?_,hkm.loh,hkm.kp.trans K6 (by simp),f6⟩
  ·rcases List.mem_cons.1 hy with rfl | hy
   ·exact .inr (by omega)
   ·exact .inl hy
  ·rcases List.mem_cons.1 hm with h | hm
   ·omega
   ·have:=hSA _ hm;omega
  ·have:=hFhA _ hm;omega
  ·have:=hSA _ hm;omega
  ·rcases List.mem_cons.1 hy with rfl | hy
   ·omega
   ·rcases List.mem_cons.1 hy with rfl | hy
    ·omega
    ·exact hkm.lo y hy
 have hr6:=(o4.keeps K46 (by simp)).rd etR.len
 have hnx6:A6.next≤A0.next+3300000+21100000 * i+50:=by omega
 have ract:Go.Abs.Row1 A6 A'.next [.int .u8 p.what.toNat,.int .u8 p.r.1.toNat,.string p.r.2,.int .i64 p.n,.slice p.o p.len p.cap,.string p.file] 48:=m.act
 have hkp6:Keeps A0 A6 []:=m.kp
 have app:forkW (.bool (((p.r.1.toNat:Int))==0)) (cutW (T5 0) (T5 0) (∃ g2,g2 < (41 - i) * 1000∧KL A0 x n lim g2 0 [dd 0,x,dd 5,ptr j,dd 8,.int .i64 (IntKind.i64.wrap ((i:Int)+1))] A6))
   (kApp W0 m0 (fun id v A''=>∃ g2,g2 < (41 - i) * 1000∧KL A0 x n lim g2 id v A'') (fun v _=>v=.bool true) dd (ptr A'.next) (ptr A4.next) A6):=by
  refine forkW_beq.2 ⟨fun hz=>?_,fun hz=>?_⟩
  ·rw [wrap_i64 (by omega) (by omega),h0,h5,h8]
   refine cutW_self.2 ⟨(41 - (i+1)) * 1000,by omega,.inl ⟨rfl,i+1,d,mp,j,q,s,Fl,Fr,hv,hl,Fh,rfl,by omega,by omega,rfl,by omega,⟨m.jd,hkm.had.step K6 (by simp) (fun y hy=>.inl hy),hkm.lo,hkm.loh,hkm.ok,m.kp,f6⟩,hku.more (by omega),by omega⟩⟩
  ·refine kApp_ok (y0:=(⟨⟨⟨q.state⟩⟩,ov,R4.length,cv⟩,R4)) hN hfr hg0 hA hlim h0 h1 h5 h6 h8 h9 hlt2 hlt m t6 (by show (q.state,R4.map toR)=_;rw [e4]) hr6 hku hkm.ok (fun h=>hz ?_) hsm hkeep hll (by omega)
   have h:p.r.1=0:=h
   rw [h];rfl
 have hpt:∀ b:Nat,(.pointer (some ⟨b,0,none⟩):Value)=ptr b:=fun _=>rfl
 simp only [fa_48_0,fa_48_1,fa_48_2,fa_35_0,fa_35_1,ld_3,ld_5,ld_9,cell_row ract.row,cellOf,isTuple,cond_false,pureW_some,rem7,bin_eql,bin_add,Nat.zero_add]
 rw [hpt,hpt]
 refine forkW_beq.2 ⟨fun _=>app,fun w0=>forkW_beq.2 ⟨fun _=>app,fun w1=>forkW_beq.2 ⟨fun w2=>?_,fun w2=>forkW_beq.2 ⟨fun w3=>?_,fun w3=>forkW_beq.2 ⟨fun w4=>?_,fun w4=>?_⟩⟩⟩⟩⟩
 ·
  rw [h8]
  refine wc15 (k:=60) m.jd hkm.ok f6 (by omega) (by omega) hn1 (hN nl hn2 (by omega)).2 fun A7 jd7 k7 n7 f7=>?_
  have hafter:=sync_k hku (by omega)
  have hok7:=syncJ_ok (q:=q) hkm.ok
  have hql:=syncJ_l s q
  have m7:=m.acted jd7 (fun y hy=>.inl hy) (fun y hy=>.inl hy) (k7.more (fun y hy=>.inl (by simp only [List.mem_cons,List.not_mem_nil,or_false] at hy ⊢;rcases hy with h | h | h <;> simp [h]))) f7
  have t7:=t6.keeps k7 (fun hm=>m.t13n (by simp only [List.mem_cons,List.not_mem_nil,or_false] at hm ⊢;rcases hm with h | h | h <;> simp [h]))
  generalize syncJ s q=out at jd7 hafter hok7 hql m7 ⊢
  simp only [bin_eql,pureW_some]
  refine m7.had.pushL (HV.nil A7 _) (fun y hy=>m7.lt y hy) f7 (by omega) (by omega) (by simp) fun v8 A8 Fh8 hv8 k8 hFh8 n8 f8=>?_
  have m8:=m7.had' hv8 k8 hFh8 f8
  have t8:=t7.keeps k8 (fun hm=>m7.had.2.1 _ hm (by simp))
  refine kDo2_ok hN hfr hg0 hA hlim h0 h1 h5 h6 h9 hlt2 hlt m8 t8 (by rw [hql];omega) ?_ hok7 hkeep (by simp;omega) (by omega)
  rw [List.append_nil]
  simp only [beq_iff_eq]
  exact hafter
 ·
  simp only [ba58s,pureW_some]
  refine bs59' (x:=⟨p.r.2,none,0,0⟩) f6 (by omega) fun A7 m7=>?_
  have n7:=m7.next
  have k7:=m7.keeps f6
  have hS7:∀ y∈Fh++(A4.next::j::d::mp::(Fl++Fr)),y < A6.next:=fun y hy=>(List.mem_append.1 hy).elim (fun h=>Nat.lt_of_lt_of_le (hFhA y h) K6.next) (m.lt y)
  refine (HV.nil A7 (Fh++(A4.next::j::d::mp::(Fl++Fr)))).push (x:=(⟨p.r.2,none,0,0⟩,[])) (F:=[]) m7.row1 (RdE.nil _ _ _) (by simp) (fun y hy=>by have:=hS7 y hy;omega) m7.fine (by omega) (by simp) fun v8 A8 Ft hv8 k8 hFt n8 f8=>?_
  have K8:Keeps A6 A8 []:=k7.trans k8 (by simp)
  have m8:=m.grow K8 f8
  have ract8:=ract.keeps K8 (by simp)
  have t8:=t6.keeps K8 (by simp)
  simp only [cell_row ract8.row,cellOf,isTuple,cond_false,pureW_some]
  rw [h8]
  refine wc16 (n:=nl) (k:=60) (st:=p.r.2) m8.jd (hg0.of m8.kp) hkm.ok (by omega) f8 (by omega) ⟨by have:=hkm.lo j (by simp);omega,by have:=hkm.lo d (by simp);omega,by have:=hkm.lo mp (by simp);omega⟩ (by omega) hn1 (by omega) (hN (nl+1) (by omega) (by omega)).2 (fun y hy=>(hN y (hn9 y hy).1 (by have:=(hn9 y hy).2;omega)).2) fun A9 Fl9 Fr9 jd9 hFl9 hFr9 k9 n9 f9=>?_
  have m9:=m8.acted jd9 hFl9 hFr9 k9 f9
  have t9:=t8.keeps k9 m.t13n
  have hafter:=check_k (st':=p.r.2.data.toList) hku (by omega) hsm
  have hok9:=checkpointJ_ok (q:=q) (names:=namesS s.D) (st:=p.r.2.data.toList) hkm.ok
  have hql:=checkpointJ_l s q (namesS s.D) p.r.2.data.toList
  have hv9:HV A9 (Fh++(A4.next::j::d::mp::(Fl9++Fr9))) v8 [(⟨p.r.2,none,0,0⟩,[])] Ft:=by
   refine hv8.step k9 (fun y hy=>.inl (by simp only [List.mem_cons,List.mem_append] at hy ⊢;rcases hy with h | h | h | h | h <;> simp [h])) fun y hy=>?_
   rcases List.mem_append.1 hy with h | h
   ·exact .inl (List.mem_append_left _ h)
   ·simp only [List.mem_cons,List.mem_append] at h ⊢
    rcases h with h | h | h | h | h | h
    ·exact .inl (.inr (.inl h))
    ·exact .inl (.inr (.inr (.inl h)))
    ·exact .inl (.inr (.inr (.inr (.inl h))))
    ·exact .inl (.inr (.inr (.inr (.inr (.inl h)))))
    ·exact (hFl9 y h).imp (fun h=>.inr (.inr (.inr (.inr (.inr (.inl h)))))) id
    ·exact (hFr9 y h).imp (fun h=>.inr (.inr (.inr (.inr (.inr (.inr h)))))) id
  generalize checkpointJ s (namesS s.D) q p.r.2.data.toList=out at jd9 hafter hok9 hql m9 ⊢
  simp only [bin_eql,pureW_some]
  refine m9.had.pushL hv9 (fun y hy=>m9.lt y hy) f9 (by omega) (by omega) (by simp) fun v10 A10 Fh10 hv10 k10 hFh10 n10 f10=>?_
  have m10:=m9.had' hv10 k10 hFh10 f10
  have t10:=t9.keeps k10 (fun hm=>m9.had.2.1 _ hm (by simp))
  refine kDo2_ok hN hfr hg0 hA hlim h0 h1 h5 h6 h9 hlt2 hlt m10 t10 (by omega) ?_ hok9 hkeep (by rw [List.length_append];simp;omega) (by omega)
  simp only [beq_iff_eq]
  have e:(hl++[((⟨p.r.2,none,0,0⟩,[]):PR)]).map toP=hl.map toP++[(p.r.2.data.toList,[])]:=by rw [List.map_append];rfl
  rw [e]
  exact hafter
 ·
  rw [h5,h8]
  refine wc21 m.jd.dk f6 (by omega) fun A7 d7 k7 n7 f7=>?_
  have k7':Keeps A6 A7 [d,mp]:=k7.more (fun y hy=>.inl (by simp [List.mem_singleton.1 hy]))
  have jd7:=m.jd.disk k7' d7
  have m7:=m.acted jd7 (fun y hy=>.inl hy) (fun y hy=>.inl hy) (k7.more (fun y hy=>.inl (by simp [List.mem_singleton.1 hy]))) f7
  have t7:=t6.keeps k7 (fun hm=>m.t13n (by simp [List.mem_singleton.1 hm]))
  refine m7.had.pushL (HV.nil A7 _) (fun y hy=>m7.lt y hy) f7 (by omega) (by omega) (by simp) fun v8 A8 Fh8 hv8 k8 hFh8 n8 f8=>?_
  have m8:=m7.had' hv8 k8 hFh8 f8
  have t8:=t7.keeps k8 (fun hm=>m7.had.2.1 _ hm (by simp))
  refine kDo_ok hN hfr hg0 hA hlim h0 h1 h5 h6 h9 hlt2 hlt m8 t8 (by omega) ?_ (fuseS_ok hkm.ok hpn) hkeep (by simp;omega) (by omega)
  rw [List.append_nil]
  exact fuse_k p.n hku
 ·
  rw [h5,h8]
  refine wc22 m.jd.dk f6 (by omega) fun A7 d7 k7 n7 f7=>?_
  have k7':Keeps A6 A7 [d,mp]:=k7.more (fun y hy=>.inl (by simp [List.mem_singleton.1 hy]))
  have jd7:=m.jd.disk k7' d7
  have m7:=m.acted jd7 (fun y hy=>.inl hy) (fun y hy=>.inl hy) (k7.more (fun y hy=>.inl (by simp [List.mem_singleton.1 hy]))) f7
  have t7:=t6.keeps k7 (fun hm=>m.t13n (by simp [List.mem_singleton.1 hm]))
  refine m7.had.pushL (HV.nil A7 _) (fun y hy=>m7.lt y hy) f7 (by omega) (by omega) (by simp) fun v8 A8 Fh8 hv8 k8 hFh8 n8 f8=>?_
  have m8:=m7.had' hv8 k8 hFh8 f8
  have t8:=t7.keeps k8 (fun hm=>m7.had.2.1 _ hm (by simp))
  refine kDo_ok hN hfr hg0 hA hlim h0 h1 h5 h6 h9 hlt2 hlt m8 t8 (by omega) ?_ (crashS_ok hkm.ok) hkeep (by simp;omega) (by omega)
  rw [List.append_nil]
  exact crash_k hku
end
theorem own_one {A:AW} {b:Nat} {x:PV} (h:Go.Abs.Row1 A b (fP x) 58):OwnF 58 1 fP A (.slice (some ⟨b,0,none⟩) 1 1) [x] [b]:=.inr ⟨b,rfl,by simp,by simpa [flat] using h,rfl⟩
section
variable {W0:World} {m0:Inj Tp}
theorem keep3 {A0 A':AW} {x:Value} {n lim g:Nat} {vals:List Value} {dd:Nat→Value} (hA:A0.next < 400000000000) (h:KL A0 x n lim g 3 vals A') (hd':(L5 3).map dd=vals):
  gL W0 m0 (fun id v A''=>∃ g2,g2 < g∧KL A0 x n lim g2 id v A'') (fun v _=>v=.bool true) 5 180 T5 L5 dd 3 A':=by
 have hmax:maxId=1099511627776:=rfl
 rcases h with ⟨h,_⟩ | ⟨_,i,k,d,mp,j,fnd,q,s,Fl,Fr,hv,hl,Fh,rfl,hi,hin,hk,hg,hll,hkm,hku,hfd,hnx⟩
 ·cases h
 have hjd:=hkm.jd
 have hrd:=hkm.had.1.rd etP.len
 have hFhA:=hkm.had.1.lt
 have hA0:=hkm.kp.next
 have hjA:=hjd.jn.lt
 have hdA:=hjd.dk.lt
 have hSA:∀ y∈j::d::mp::(Fl++Fr),y < A'.next:=fun y hy=>by
  obtain ⟨_,_,_,_,a,_,b⟩:=hjd.jn
  simp only [List.mem_cons,List.mem_append] at hy
  rcases hy with h | h | h | h | h
  ·omega
  ·omega
  ·omega
  ·exact a.lt y h
  ·exact b.lt y h
 obtain ⟨nl,hn1,hn2,hn3,hn4,hn5,hn6,hn7,hn8,hn9,hn10,hn11,hn12,_⟩:=hku.facts (by omega)
 rw [l5_3]
 simp only [L5,List.map_cons,List.map_nil,List.cons.injEq,and_true] at hd'
 obtain ⟨h0,h1,h5,h6,h8,h9,h14,h15⟩:=hd'
 simp only [h0,h1,h5,h6,h8,h9,h14,h15,hrd.len etP,List.length_map,bin_lss,pureW_some,forkW_dec,eqW_self,bin_add]
 have next:∀ (b:Bool) (A2:AW),Keeps A' A2 []→A2.next≤A'.next+5→Fine A2→k < hl.length→(b=true∨(q.state,q.l)∈(hl.drop (k+1)).map toP)→
   cutW (T5 3) (T5 3) (∃ g2,g2 < g∧KL A0 x n lim g2 3 [.int .u8 (lim:Int),x,ptr d,ptr j,hv,.int .i64 (i:Int),.bool b,.int .i64 (IntKind.i64.wrap ((k:Int)+1))] A2):=by
  intro b A2 k2 n2 f2 hlt hb
  rw [wrap_i64 (by omega) (by omega)]
  exact cutW_self.2 ⟨g - 1,by omega,.inr ⟨rfl,i,k+1,d,mp,j,b,q,s,Fl,Fr,hv,hl,Fh,rfl,hi,hin,by omega,by omega,hll,⟨hjd.keeps k2 (by simp) (by simp) (by simp) (by simp) (by simp),hkm.had.step k2 (by simp) (fun y hy=>.inl hy),hkm.lo,hkm.loh,hkm.ok,hkm.kp.trans k2 (by simp),f2⟩,hku,hb,by omega⟩⟩
 refine ⟨fun hlt=>?_,fun hge=>?_⟩
 ·have hlt:k < hl.length:=by omega
  refine forkW_bool.2 ⟨fun hb=>next true A' (.refl _ _) (by omega) hkm.fine hlt (.inl rfl),fun hb=>?_⟩
  have hmem:(q.state,q.l)∈(hl.drop k).map toP:=by
   rcases hfd with h | h
   ·rw [hb] at h;cases h
   ·exact h
  obtain ⟨y,hy⟩:∃ y,hl[k]? =some y:=⟨_,List.getElem?_eq_getElem hlt⟩
  have hdrop:hl.drop k=y::hl.drop (k+1):=drop_get hy
  rw [hdrop,List.map_cons] at hmem
  have hyl:=List.mem_of_getElem? hy
  obtain ⟨F,hr,hF⟩:=hkm.had.2.2 y hyl
  have hy1:(hl.map (·.1))[k]? =some y.1:=by rw [List.getElem?_map,hy];rfl
  obtain ⟨r,o,a1,a2,a3⟩:=hrd.at etP hy1
  have hc0:A'.cell? ⟨r,o,none⟩=some (.string y.1.st):=cell_of a2 (k:=0) rfl
  have hc1:A'.cell? ⟨r,o+1,none⟩=some y.sl:=cell_of a2 (k:=1) rfl
  simp only [a1,pureW_some,fa_58_0,fa_58_1,ld_9,ld_22,hc0,hc1]
  refine wc17 hjd.jn ?_
  simp only [a1,hc0,hc1,pureW_some,eqW_self,streq9,fa_58_0,fa_58_1]
  refine forkW_bool.2 ⟨fun hs=>?_,fun hs=>?_⟩
  ·have hs:y.1.st.data.toList=q.state:=beq_iff_eq.1 hs
   refine wc18 hjd.jn hkm.fine (by omega) (by omega) fun A2 v2 R2 F2 e2 o2 hF2 g2=>?_
   have n2:=g2.next
   have hrd2:=hrd.keeps g2.keeps (by simp)
   obtain ⟨r',o',b1,b2,b3⟩:=hrd2.at etP hy1
   rw [a1] at b1
   simp only [Option.some.injEq,Value.pointer.injEq,Addr.mk.injEq] at b1
   obtain ⟨rfl,rfl,_⟩:=b1
   have hc1':A2.cell? ⟨r,o+1,none⟩=some y.sl:=cell_of b2 (k:=1) rfl
   simp only [hc1',pureW_some,eqW_self]
   have hR2l:R2.length≤41:=by
    have:=congrArg List.length e2
    rw [List.length_map] at this
    omega
   refine wc20 (hr.keeps g2.keeps (by simp)) (o2.rd etR.len) (by omega) fun b hb=>?_
   refine next b A2 g2.keeps (by omega) g2.fine hlt ?_
   cases hbb:b with
   | true=>exact .inl rfl
   | false=>
    right
    rcases List.mem_cons.1 hmem with h | h
    ·exfalso
     obtain ⟨_,h2⟩:=Prod.mk.inj h
     have h2:q.l=y.2.map toR:=h2
     have:=hb.2 (toR_inj (h2.symm.trans e2))
     rw [hbb] at this
     cases this
    ·exact h
  ·refine next false A' (.refl _ _) (by omega) hkm.fine hlt (.inr ?_)
   rcases List.mem_cons.1 hmem with h | h
   ·exfalso
    obtain ⟨h2,_⟩:=Prod.mk.inj h
    have h2:q.state=y.1.st.data.toList:=h2
    rw [h2] at hs
    simp at hs
   ·exact h
 ·have hk':k=hl.length:=by omega
  subst hk'
  have hfnd:fnd=true:=by
   rcases hfd with h | h
   ·exact h
   ·rw [List.drop_length] at h;cases h
  simp only [hfnd,un_not,pureW_some]
  refine forkW_bool.2 ⟨fun h=>by simp at h,fun _=>?_⟩
  refine wc17 hjd.jn ?_
  refine wc18 hjd.jn hkm.fine (by omega) (by omega) fun A2 v2 R2 F2 e2 o2 hF2 g2=>?_
  have n2:=g2.next
  have l2:=g2.le
  obtain ⟨o,c,hv2⟩:=o2.slice
  subst hv2
  simp only [ba58,pureW_some]
  refine bs59' (x:=⟨⟨⟨q.state⟩⟩,o,R2.length,c⟩) g2.fine (by omega) fun A3 m3=>?_
  have n3:=m3.next
  have k3:=m3.keeps g2.fine
  have K3:Keeps A' A3 []:=g2.keeps.trans k3 (by simp)
  rw [wrap_i64 (by omega) (by omega)]
  have hF2l:=o2.lt
  refine cutW_self.2 ⟨(41 - (i+1)) * 1000,by omega,.inl ⟨rfl,i+1,d,mp,j,q,s,Fl,Fr,_,[(⟨⟨⟨q.state⟩⟩,o,R2.length,c⟩,R2)],[A2.next],rfl,by omega,by omega,rfl,by simp,⟨hjd.keeps K3 (by simp) (by simp) (by simp) (by simp) (by simp),⟨own_one m3.row1,fun y hy hm=>by have:=hSA y hm;have:=List.mem_singleton.1 hy;omega,fun y hy=>?_⟩,hkm.lo,fun y hy=>by have:=List.mem_singleton.1 hy;omega,hkm.ok,hkm.kp.trans K3 (by simp),m3.fine⟩,?_,by omega⟩⟩
  ·rw [List.mem_singleton.1 hy]
   exact ⟨F2,(o2.rd etR.len).keeps k3 (by simp),fun z hz=>⟨fun hm=>by have:=hSA z hm;have:=hF2 z hz;omega,fun hm=>by have:=hF2l z hz;have:=List.mem_singleton.1 hm;omega⟩⟩
  ·have e:([((⟨⟨⟨q.state⟩⟩,o,R2.length,c⟩,R2):PR)].map toP)=[(q.state,q.l)]:=by
    show [(q.state,R2.map toR)]=_
    rw [e2]
   rw [e]
   exact hku
theorem wc5 {A:AW} {x:Value} {l:List AV} {F:List Nat} {n lim:Nat} (hhd:KC.Holds Tp W0 m0 ⟨9,[],[.bool true]⟩) (hN:NumsK W0 m0 48) (hfr:NumK W0 m0 fresh) (hg0:Glb A) (hf:Fine A) (hA:A.next < 400000000000) (hlim:lim < 256) (hx:RdA A x n l F) (hln:l.length=min n 40) (hop:∀ p∈l,OkP A p):
  Wc Tp theX W0 m0 5 [.int .u8 (lim:Int),x] A fun v _=>v=.bool true:=by
 have hmax:maxId=1099511627776:=rfl
 have hglt:=hg0.lt
 refine w5 _ _ _ (c5 (I:=KL A x n lim) fun g id vals A' dd hI hd'=>?_) ?_
 ·have hI0:=hI
  rcases hI with ⟨rfl,_⟩ | ⟨rfl,_⟩
  ·exact keep0 hhd hN hfr hg0 hA hlim hx hln hop hI0 hd'
  ·exact keep3 hA hI0 hd'
 rw [e5]
 refine wc7 hf (by omega) fun A2 d2 k2 n2 f2=>?_
 have hmx:max (3000:Int) 0=3000:=rfl
 rw [hmx] at d2
 simp only [cv_5_3,bothW_ok,bin_add]
 rw [wrap_i64 (n:=(lim:Int)) (by omega) (by omega),wrap_i64 (n:=14+(lim:Int)) (by omega) (by omega)]
 simp only [pureW_some]
 obtain ⟨s1,q1,ho1,hku,ho3⟩:=open_new_k (limit:=14+(lim:Int)) (by omega)
 have hn0:namesS []=[]:=by unfold namesS;simp
 refine wc8 (k:=0) (L:=0) d2 (hg0.keeps k2 (by simp)) ⟨Nat.le_refl _,by simp,by simp,by show (0:Int)≤3000;decide,by show (3000:Int) < 9223372036854775808;decide,by show (0:Int) < 9223372036854775808;decide⟩ (by omega) (by simp) (by omega) (by decide) f2 (by omega) ⟨by omega,by omega⟩ (fun f hf=>by rw [hn0] at hf;cases hf) (fun m hm=>?_) (fun e A3 s' hos _ _ _ _=>?_) fun A3 s' q j Fl Fr hos hjd hj hFl hFr k3 n3 f3=>?_
 ·rcases hm with rfl | ⟨y,hy,rfl⟩
  ·exact (hN 1 (by omega) (by omega)).2
  ·rw [hn0] at hy
   cases hy
 ·have:=hos.symm.trans ho1
  simp at this
 ·have he:=hos.symm.trans ho1
  simp only [Prod.mk.injEq,Option.some.injEq] at he
  obtain ⟨rfl,rfl,_⟩:=he
  simp only [exL_two0,exL_two1,pureW_some,bin_neq,ptr,pe29,ba58n]
  refine forkW_bne.2 ⟨fun h=>by simp at h,fun _=>forkW_bool.2 ⟨fun h=>by simp at h,fun _=>?_⟩⟩
  have K3:Keeps A A3 []:=k2.trans k3 fun y hy=>.inr (by simp only [List.mem_cons,List.not_mem_nil,or_false] at hy;omega)
  refine bs59' (x:=⟨⟨⟨[]⟩⟩,none,0,0⟩) f3 (by omega) fun A4 m4=>?_
  have n4:=m4.next
  have k4:=m4.keeps f3
  have hjl:=hjd.jn.lt
  have hdl:=hjd.dk.lt
  have hSl:∀ y∈j::(A.next+1)::A.next::(Fl++Fr),A.next≤y∧y < A3.next:=fun y hy=>by
   obtain ⟨_,_,_,_,a,_,b⟩:=hjd.jn
   simp only [List.mem_cons,List.mem_append] at hy
   rcases hy with h | h | h | h | h
   ·omega
   ·omega
   ·omega
   ·exact ⟨by have:=hFl y h;omega,a.lt y h⟩
   ·exact ⟨by have:=hFr y h;omega,b.lt y h⟩
  obtain ⟨_,_,_,_,_,_,_,_,_,_,hfew,_⟩:=hku.facts (by omega)
  exact cutW_self.2 ⟨(41 - 0) * 1000,.inl ⟨rfl,0,A.next+1,A.next,j,q,s',Fl,Fr,_,[(⟨⟨⟨[]⟩⟩,none,0,0⟩,[])],[A3.next],rfl,by omega,by omega,rfl,by simp,⟨hjd.keeps k4 (by simp) (by simp) (by simp) (by simp) (by simp),⟨own_one m4.row1,fun y hy hm=>by have:=hSl y hm;have:=List.mem_singleton.1 hy;omega,fun y hy=>by rw [List.mem_singleton.1 hy];exact ⟨[],RdE.nil _ _ _,by simp⟩⟩,fun y hy=>(hSl y hy).1,fun y hy=>by have:=List.mem_singleton.1 hy;omega,okS_few2 ho3 hfew (by omega),K3.trans k4 (by simp),m4.fine⟩,hku,by omega⟩⟩
end
end Go.Proofs.YtbchfeibhoobeaaGreatDoor
namespace Go.Proofs.YtbchfeibhoobeaaGreatDoor
open Go Go.Abs Go.ChangeShapes Go.WideShapes Go.ChangeAt Go.RowKit Go.Joins Go.Deep
theorem fZ_closed (p:Int):(fZ p).all (closedV 4)=true:=rfl
theorem fZ_length (p:Int):(fZ p).length=0+1:=rfl
theorem fA_length (p:AV):(fA p).length=5+1:=rfl
def KeepIn (W:World) (p:AV) (kl:List Int) (ka:Arg):Prop:=InSlice W fZ (.slice p.o p.len p.cap) kl ka
structure ActRel (m:Inj Tp) (p' p:AV):Prop where
 what:p'.what=p.what
 r:p'.r=p.r
 n:p'.n=p.n
 file:p'.file=p.file
 keep:VRel m (.slice p'.o p'.len p'.cap) (.slice p.o p.len p.cap)
theorem ActRel.cells {m:Inj Tp} {p' p:AV} (h:ActRel m p' p):∀ (i:Nat) v,(fA p')[i]? =some v→∃ v',(fA p)[i]? =some v'∧VRel m v v':=by
 obtain ⟨h1,h2,h3,h4,h5⟩:=h
 obtain ⟨w,r,n,o,len,cap,file⟩:=p
 obtain ⟨w',r',n',o',len',cap',file'⟩:=p'
 simp only at h1 h2 h3 h4 h5
 subst h1 h2 h3 h4
 intro i v hv
 match i,hv with
 | 0,hv=>cases hv;exact ⟨_,rfl,.int _ _⟩
 | 1,hv=>cases hv;exact ⟨_,rfl,.int _ _⟩
 | 2,hv=>cases hv;exact ⟨_,rfl,.string _⟩
 | 3,hv=>cases hv;exact ⟨_,rfl,.int _ _⟩
 | 4,hv=>cases hv;exact ⟨_,rfl,h5⟩
 | 5,hv=>cases hv;exact ⟨_,rfl,.string _⟩
 | i+6,hv=>simp [fA] at hv
theorem flat_rel {m:Inj Tp}:∀ {l' l:List AV},l'.length≤l.length→(∀ (i:Nat) p' p,l'[i]? =some p'→l[i]? =some p→ActRel m p' p)→∀ (i:Nat) v,(flat fA l')[i]? =some v→∃ v',(flat fA l)[i]? =some v'∧VRel m v v'
 | [],l,_,_,i,v,hv=>by simp [flat] at hv
 | p'::r',[],h,_,i,v,hv=>by simp at h
 | p'::r',p::r,h,ha,i,v,hv=>by
  have e1:flat fA (p'::r')=fA p'++flat fA r':=by simp [flat]
  have e2:flat fA (p::r)=fA p++flat fA r:=by simp [flat]
  rw [e1] at hv
  rw [e2]
  by_cases hi:i < 6
  ·rw [List.getElem?_append_left (by rw [fA_length];exact hi)] at hv
   rw [List.getElem?_append_left (by rw [fA_length];exact hi)]
   exact (ha 0 p' p rfl rfl).cells i v hv
  ·rw [List.getElem?_append_right (by rw [fA_length];omega),fA_length] at hv
   rw [List.getElem?_append_right (by rw [fA_length];omega),fA_length]
   exact flat_rel (by simpa using h) (fun j a b ha' hb=>ha (j+1) a b (by simpa using ha') (by simpa using hb)) (i - 6) v hv
theorem acts_args {W:World} {s:Value} {l:List AV} {La:Arg} (h:InSlice W fA s l La) (hok:∀ p∈l,∃ kl ka,KeepIn W p kl ka):
  ∃ (L:List Arg) (s':Value) (l':List AV),L.length≤41∧Args Tp W L∧VRel (mR Tp L) s' s∧l'.length=min l.length 40∧(∀ (i:Nat) p' p,l'[i]? =some p'→l[i]? =some p→p'.n=p.n)∧
   ∀ gl,Tp.globals.size+L.length+1≤maxId→∃ F,RdA (wR Tp.globals.size gl L) s' l.length l' F∧∀ p'∈l',∃ (kl:List Int) (F':List Nat),RdE 0 fZ (wR Tp.globals.size gl L) (.slice p'.o p'.len p'.cap) kl F':=by
 cases h with
 | nil hl hs h0=>
  subst hl
  obtain ⟨o,c,rfl⟩:=h0
  let L:List Arg:=[(placeOf (.slice o 0 c),none)]
  obtain ⟨o',n',c',hv⟩:=hs.rel (P:=Tp) (l:=L.map (·.1)) 0 rfl
  have hn':n'=0:=by cases hv <;> rfl
  subst hn'
  refine ⟨L,_,[],by simp [L],?_,hv,by simp,by simp,fun gl hk=>⟨[],⟨o',c',rfl,by simp,.nil _ _ _⟩,by simp⟩⟩
  intro j p cs e hj
  match j,hj with
  | 0,hj=>simp [L] at hj
  | j+1,hj=>simp [L] at hj
 | blk a c cs e' fr hs hc hc2 hsp hb ho hg=>
  obtain ⟨K,hK⟩:∃ K:AV→Arg,∀ p,p∈l→∃ kl,KeepIn W p kl (K p):=by
   refine Classical.axiomOfChoice (r:=fun p ka=>p∈l→∃ kl,KeepIn W p kl ka) fun p=>?_
   by_cases hp:p∈l
   ·obtain ⟨kl,ka,h⟩:=hok p hp
    exact ⟨ka,fun _=>⟨kl,h⟩⟩
   ·exact ⟨((0,0),none),fun h=>absurd h hp⟩
  let t:=l.take 40
  have htl:∀ p∈t,p∈l:=fun p hp=>List.mem_of_mem_take hp
  let L0:List Arg:=((a.block,a.off),none)::t.map K
  have hrel:∀ (i:Nat) p,t[i]? =some p→∃ p',ActRel (mR Tp L0) p' p∧∃ kl:List Int,(kl=[]∧p'.len=0)∨∃ q e,p'.o=some ⟨Tp.globals.size+(i+1),0,none⟩∧p'.len=kl.length∧L0[i+1]? =some (q,some (flat fZ kl,e)):=by
   intro i p hp
   obtain ⟨kl,hkl⟩:=hK p (htl p (List.mem_of_getElem? hp))
   have hLi:L0[i+1]? =some (K p):=by
    show (t.map K)[i]? =_
    rw [List.getElem?_map,hp]
    rfl
   obtain ⟨s',hv,hcase⟩:=InSlice.rel (P:=Tp) hkl hLi
   rcases hcase with ⟨h1,o,c,rfl⟩ | ⟨c,q,e,rfl,h2⟩
   ·exact ⟨⟨p.what,p.r,p.n,o,0,c,p.file⟩,⟨rfl,rfl,rfl,rfl,hv⟩,kl,.inl ⟨h1,rfl⟩⟩
   ·exact ⟨⟨p.what,p.r,p.n,_,kl.length,c,p.file⟩,⟨rfl,rfl,rfl,rfl,hv⟩,kl,.inr ⟨q,e,rfl,rfl,h2⟩⟩
  obtain ⟨G,hG⟩:∃ G:Nat→AV,∀ (i:Nat),∀ p,t[i]? =some p→ActRel (mR Tp L0) (G i) p∧∃ kl:List Int,(kl=[]∧(G i).len=0)∨∃ q e,(G i).o=some ⟨Tp.globals.size+(i+1),0,none⟩∧(G i).len=kl.length∧L0[i+1]? =some (q,some (flat fZ kl,e)):=by
   refine Classical.axiomOfChoice (r:=fun (i:Nat) (p':AV)=>∀ p,t[i]? =some p→ActRel (mR Tp L0) p' p∧∃ kl:List Int,(kl=[]∧p'.len=0)∨∃ q e,p'.o=some ⟨Tp.globals.size+(i+1),0,none⟩∧p'.len=kl.length∧L0[i+1]? =some (q,some (flat fZ kl,e))) fun i=>?_
   cases hq:t[i]? with
   | none=>exact ⟨⟨0,(0,.empty),0,none,0,0,.empty⟩,fun p h=>by cases h⟩
   | some p=>
    obtain ⟨p',h1,h2⟩:=hrel i p hq
    exact ⟨p',fun p2 h=>by cases h;exact ⟨h1,h2⟩⟩
  let l':List AV:=(List.range t.length).map G
  have hl':∀ (i:Nat) p',l'[i]? =some p'→i < t.length∧p'=G i:=by
   intro i p' hp
   have hp:((List.range t.length).map G)[i]? =some p':=hp
   rw [List.getElem?_map] at hp
   by_cases hi:i < t.length
   ·rw [List.getElem?_range hi] at hp
    exact ⟨hi,by simpa using hp.symm⟩
   ·rw [List.getElem?_eq_none (by rw [List.length_range];omega)] at hp
    cases hp
  have hll:l'.length=t.length:=by simp [l']
  have htlen:t.length=min l.length 40:=by rw [List.length_take,Nat.min_comm]
  let L:List Arg:=((a.block,a.off),some (flat fA l',e'))::t.map K
  have hLm:L.map (·.1)=L0.map (·.1):=rfl
  have hmR:mR Tp L=mR Tp L0:=by unfold mR;rw [hLm]
  have hact:∀ (i:Nat) p' p,l'[i]? =some p'→t[i]? =some p→ActRel (mR Tp L0) p' p:=by
   intro i p' p h1 h2
   obtain ⟨_,rfl⟩:=hl' i p' h1
   exact (hG i p h2).1
  refine ⟨L,.slice (some ⟨Tp.globals.size+0,0,none⟩) l.length c,l',?_,?_,?_,by rw [hll,htlen],?_,fun gl hk=>⟨[Tp.globals.size+L.length],⟨_,_,rfl,?_,?_⟩,?_⟩⟩
  ·show (t.map K).length+1≤41
   rw [List.length_map,htlen]
   omega
  ·intro j p cs2 e hj
   cases j with
   | zero=>
    have hj:some (((a.block,a.off),some (flat fA l',e')):Arg)=some (p,some (cs2,e)):=hj
    simp only [Option.some.injEq,Prod.mk.injEq] at hj
    obtain ⟨rfl,rfl,rfl⟩:=hj
    refine ⟨cs,fr,hb,ho,fun i v hv=>?_⟩
    obtain ⟨v',h1,h2⟩:=flat_rel (l:=t) (by rw [hll];exact Nat.le_refl _) hact i v hv
    refine ⟨v',hg i v' ?_,by rw [hmR];exact h2⟩
    have et:flat fA l=flat fA t++flat fA (l.drop 40):=by
     have h3:flat fA (l.take 40++l.drop 40)=flat fA (l.take 40)++flat fA (l.drop 40):=by unfold flat;rw [List.flatMap_append]
     rw [List.take_append_drop] at h3
     exact h3
    rw [et,List.getElem?_append_left]
    ·exact h1
    ·exact (List.getElem?_eq_some_iff.1 h1).1
   | succ j=>
    have hj:(t.map K)[j]? =some (p,some (cs2,e)):=hj
    rw [List.getElem?_map] at hj
    cases hq:t[j]? with
    | none=>rw [hq] at hj;cases hj
    | some y=>
     rw [hq] at hj
     obtain ⟨kl,hkl⟩:=hK y (htl y (List.mem_of_getElem? hq))
     exact InSlice.args hkl fZ_closed (by simpa using hj)
  ·rw [hs]
   refine .slice (.inl ⟨hc2,rfl⟩) hc fun _=>⟨rfl,hsp,a.off,?_,rfl⟩
   show mA Tp (L.map (·.1)) (Tp.globals.size+0)=_
   rw [mA_arg]
   rfl
  ·intro i p' p h1 h2
   obtain ⟨hi,rfl⟩:=hl' i p' h1
   have h2:t[i]? =some p:=by
    rw [List.getElem?_take_of_lt (by omega)]
    exact h2
   exact (hG i p h2).1.n
  ·rw [hll,htlen];omega
  ·exact rdE_arg fA_length hk rfl
  ·intro p' hp'
   obtain ⟨i,hi⟩:=List.mem_iff_getElem?.1 hp'
   obtain ⟨hit,rfl⟩:=hl' i p' hi
   obtain ⟨p,hp⟩:∃ p,t[i]? =some p:=⟨_,List.getElem?_eq_getElem hit⟩
   obtain ⟨_,kl,hkl⟩:=hG i p hp
   rcases hkl with ⟨rfl,h0⟩ | ⟨q,e,h1,h2,h3⟩
   ·rw [h0]
    exact ⟨[],[],.nil _ _ _⟩
   ·rw [h1,h2]
    exact ⟨kl,_,rdE_arg (j:=i+1) fZ_length hk h3⟩
theorem Tryz.cells3:Tp.cellsOf 3=1:=by kernel_rfl
theorem Tryz.cells46:Tp.cellsOf 46=1:=by kernel_rfl
theorem Tryz.cells48:Tp.cellsOf 48=6:=by kernel_rfl
section
variable {H:Type} {enc:TypeId × Value→H} {w:World} {q:Nat}
theorem read_int {t:TypeId} {cs:List Value} {k:IntKind} {y:DataW H × List MemPlace} (hu:Tp.underlying t=some (.int k)) (h:DataW.trod enc Tp w 0 (fun _=>true) true q t cs=some y):∃ n:Int,cs=[.int k n]∧k.min≤n∧n≤k.max:=by
 obtain ⟨n,e0,_,wk⟩:=DataW.trod_int hu h
 simp only [Lit.wf,Bool.and_eq_true,decide_eq_true_eq] at wk
 exact ⟨n,e0,wk.1,wk.2⟩
theorem read_ints {cs:List Value} {y:DataW H × List MemPlace} (h:DataW.trod enc Tp w 0 (fun _=>true) true q 46 cs=some y):∃ (s:Value) (l:List Int) (La:Arg),cs=[s]∧InSlice w fZ s l La:=by
 obtain ⟨s,l,La,hc,hs,_⟩:=read_flat (f:=fZ) (ok:=fun _=>True) 0 Tryz.underlying46 (by rw [Tryz.cells3];decide) (fun f=>by rw [Tryz.cells3];rfl) (fun q cs y hy=>by
  obtain ⟨n,rfl,_⟩:=read_int Tryz.underlying3 hy
  exact ⟨n,rfl,trivial⟩) h
 exact ⟨s,l,La,hc,hs⟩
theorem inSlice_slice {W:World} {β:Type} {f:β→List Value} {s:Value} {l:List β} {La:Arg} (h:InSlice W f s l La):∃ o n c,s=.slice o n c:=by
 cases h with
 | nil _ _ h0=>obtain ⟨o,c,rfl⟩:=h0;exact ⟨_,_,_,rfl⟩
 | blk a c cs e' fr hs=>exact ⟨_,_,_,hs⟩
def OkA (W:World) (p:AV):Prop:=(∃ kl ka,KeepIn W p kl ka)∧-9223372036854775808≤p.n∧p.n≤9223372036854775807
theorem read_act {cs:List Value} {y:DataW H × List MemPlace} (h:DataW.trod enc Tp w 0 (fun _=>true) true q 48 cs=some y):∃ p:AV,cs=fA p∧OkA w p:=by
 obtain ⟨xs,n,_,_,hl,hlen,hg⟩:=DataW.trod_struct Tryz.underlying48 h
 have hl:cs.length=6:=hl.trans Tryz.cells48
 match cs,hl,xs,hlen with
 | [c0,c1,c2,c3,c4,c5],_,[y0,y1,y2,y3,y4],_=>
  have g0:DataW.trod enc Tp w 0 (fun _=>true) true n 5 [c0]=some y0:=by simpa [Tryz.cells5] using hg 0 _ rfl
  have g1:DataW.trod enc Tp w 0 (fun _=>true) true n 35 [c1,c2]=some y1:=by simpa [Tryz.cells35] using hg 1 _ rfl
  have g2:DataW.trod enc Tp w 0 (fun _=>true) true n 3 [c3]=some y2:=by simpa [Tryz.cells3] using hg 2 _ rfl
  have g3:DataW.trod enc Tp w 0 (fun _=>true) true n 46 [c4]=some y3:=by simpa [Tryz.cells46] using hg 3 _ rfl
  have g4:DataW.trod enc Tp w 0 (fun _=>true) true n 9 [c5]=some y4:=by simpa [Tryz.cells9] using hg 4 _ rfl
  obtain ⟨m0,rfl,hm0⟩:=read_num Tryz.underlying5 rfl g0
  obtain ⟨r,hr,_⟩:=read_rec g1
  obtain ⟨z,hz,hz1,hz2⟩:=read_int Tryz.underlying3 g2
  obtain ⟨s,kl,ka,hs,hin⟩:=read_ints g3
  obtain ⟨fl,rfl⟩:=read_txt g4
  obtain ⟨o,ln,cp,rfl⟩:=inSlice_slice hin
  have hm0:(m0:Int)≤255:=hm0
  simp only [fR,List.cons.injEq,and_true] at hr hz hs
  obtain ⟨rfl,rfl⟩:=hr
  subst hz
  subst hs
  refine ⟨⟨UInt8.ofNat m0,r,z,o,ln,cp,fl⟩,?_,⟨kl,ka,hin⟩,hz1,hz2⟩
  show [Value.int .u8 (m0:Int),_,_,_,_,_]=[.int .u8 ((UInt8.ofNat m0).toNat:Int),_,_,_,_,_]
  rw [UInt8.toNat_ofNat',Nat.mod_eq_of_lt (by omega)]
theorem read_acts {b0:Nat} {v:Value} {d:DataW H} {p:List MemPlace} (hv:Value.okWide Tp w .any b0 45 v) (h:DataW.Trod enc Tp w 0 (fun _=>true) true 45 v d p):
  ∃ (l:List AV) (La:Arg),InSlice w fA v l La∧∀ p∈l,OkA w p:=by
 obtain ⟨fuel,hf⟩:=h
 obtain ⟨s,l,La,hc,hs,hw⟩:=read_flat (f:=fA) (ok:=OkA w) ⟨0,(0,.empty),0,none,0,0,.empty⟩ Tryz.underlying45 (by rw [Tryz.cells48];decide) (fun f=>by rw [Tryz.cells48];rfl) (fun q cs y hy=>read_act hy) hf
 have hv0:v=s:=by
  obtain ⟨a,n,c,rfl⟩:=okWide_slice Tryz.underlying45 hv
  simpa [Value.cells] using hc
 subst hv0
 exact ⟨l,La,hs,hw⟩
end
end Go.Proofs.YtbchfeibhoobeaaGreatDoor
