/-
  The steps of an abstract machine are shown to be those of the model, and what a program asks of its calls gives what they answer. Conditions: none for the last theorem, those that each theorem states for the others.
-/
import Derived.Test.YtebidlpekphaoaaGreatDoorPa
import Derived.Below
import Derived.Carry
import Derived.ChangeSame
import Derived.Deep.Strs
import Derived.HandedShaped
import Derived.KernelRfl
import Derived.Laws.StructEq
import Derived.Lib.TrimUEq
import Derived.ProofKit
import Derived.Stop.Joined
import Derived.Test.YtebidlpekphaoaaGreatDoorProg
set_option maxRecDepth 100000
namespace Go.Abs
section
variable {P:Program} {X:Bx}
theorem Gm {ρ ρ2:Operand→Value}:∀ {l:List (Nat × Operand)},(∀ x∈l.map (·.2),ρ x=ρ2 x)→FA l ρ=FA l ρ2
 | [],_=>rfl
 | (i,x)::r,h=>by
  simp only [FA]
  rw [h x (by simp),Gm fun y hy=>h y (by simp at hy ⊢;exact .inr hy)]
theorem M0 {ρ ρ2:Operand→Value} {c:Call} {type:TypeId} (h:∀ x∈c.operands.toList,ρ x=ρ2 x):DW ρ c type=DW ρ2 c type:=by
 have hargs:c.args.toList.map ρ=c.args.toList.map ρ2:=List.map_congr_left fun x hx=>h x (by simp [Call.operands] at hx ⊢;exact .inr hx)
 unfold DW
 simp only [hargs]
 cases hc:c.callee with
 | value f=>have hf:ρ f=ρ2 f:=h f (by simp [Call.operands,hc]);simp only [hf]
 | invoke r m=>rfl
 | builtin b=>rfl
theorem L2 {ρ ρ2:Operand→Value} {o:Oper} {A:AW} (h:∀ x∈o.op.operands.toList,ρ x=ρ2 x):AU P X ρ o A=AU P X ρ2 o A:=by
 obtain ⟨dst,op,type,pos,after,guard⟩:=o
 cases op <;> simp only [Op.operands] at h <;> unfold AU <;> simp only
 case build t ps=>rw [Gm h]
 case buildSlice t n ps=>rw [Gm h]
 case makeFunc fn first captured=>
  rw [List.map_congr_left (l:=first.toList) fun x hx=>h x (by simp;exact .inl (by simpa using hx)),List.map_congr_left (l:=captured.toList) fun x hx=>h x (by simp;exact .inr (by simpa using hx))]
 case call c=>rw [M0 h]
 case slice t x lo hi mx=>cases lo <;> cases hi <;> cases mx <;> simp_all
 all_goals (first | rfl | (simp_all;done))
theorem N6 {ρ ρ2:Operand→Value} {op:Op} (h:∀ x∈op.operands.toList,ρ x=ρ2 x):AR P ρ op=AR P ρ2 op:=by
 cases op <;> simp only [Op.operands] at h <;> unfold AR <;> try simp only
 case buildSlice t n ps=>rw [Gm h]
 case makeMap t r=>cases r <;> rfl
 all_goals (first | rfl | (simp_all;done))
def Nr:Value→Option Nat
 | .pointer (some a)=>some a.block
 | .slice (some a) _ _=>some a.block
 | .map (some b)=>some b
 | _=>none
theorem Vo {A A':AW} {o:AO} {b:Nat} (h:A.new o=some (b,A')):b=A.next∧A.next < Ap∧A'={ (A.put A.next o) with next:=A.next+1 }:=by
 unfold AW.new at h
 cases hb:Nat.blt A.next Ap with
 | false=>rw [hb] at h;cases h
 | true=>
  rw [hb] at h
  simp only [Ct,Oi,Pj] at h
  exact ⟨h.1.symm,AE.1 hb,h.2.symm⟩
theorem IU {A A':AW} {l:List Value} {e:TypeId} {a:Addr} (h:A.newRow l e=some (a,A')):∃ b,A.new (.row l e A.next 0 false)=some (b,A')∧a=⟨b,0,none⟩:=by
 unfold AW.newRow at h
 cases hc:l.all AL with
 | false=>rw [hc] at h;cases h
 | true=>
  rw [hc,Ct] at h
  split at h
  ·rename_i b A1 hn
   simp only [Oi,Pj] at h
   exact ⟨b,by rw [hn,h.2],h.1.symm⟩
  ·cases h
theorem NT {ρ:Operand→Value} {o:Oper} {A A':AW} {n:AN} (hq:EH o.op=true) (h:AU P X ρ o A=.ok n A'):
  ∃ v ob b,n=.value v∧A.new ob=some (b,A')∧(∀ f k,ob.fam=some (f,k)→f=A.next)∧Nr v=some b:=by
 obtain ⟨dst,op,type,pos,after,guard⟩:=o
 have row:∀ (l:List Value) (e:TypeId),(∀ f k,(AO.row l e A.next 0 false).fam=some (f,k)→f=A.next):=fun l e f k h=>by simp [AO.fam] at h;exact h.1.symm
 cases op <;> simp only [EH] at hq <;> first | (cases hq;done) | skip
 case alloc e=>
  unfold AU at h
  simp only at h
  split at h
  rotate_left
  ·cases h
  split at h
  rotate_left
  ·cases h
  rename_i z hz a A1 hn
  cases h
  obtain ⟨b,h1,rfl⟩:=IU hn
  exact ⟨_,_,b,rfl,h1,row _ _,rfl⟩
 case box e x=>
  unfold AU at h
  simp only at h
  split at h
  rotate_left
  ·cases h
  rename_i a A1 hn
  cases h
  obtain ⟨b,h1,rfl⟩:=IU hn
  exact ⟨_,_,b,rfl,h1,row _ _,rfl⟩
 case buildSlice t len parts=>
  unfold AU Ar at h
  simp only [Bool.cond_eq_ite] at h
  repeat' split at h
  all_goals first | (cases h;done) | skip
  all_goals
   rename_i hb
   repeat' split at hb
   all_goals first | (cases hb;done) | skip
  rename_i hn
  cases hb
  cases h
  obtain ⟨b,h1,rfl⟩:=IU hn
  exact ⟨_,_,b,rfl,h1,row _ _,rfl⟩
 case makeMap t r=>
  cases r with
  | some q=>cases hq
  | none=>
   unfold AU at h
   simp only at h
   split at h
   rotate_left
   ·cases h
   rename_i hn
   cases h
   exact ⟨_,_,_,rfl,hn,fun f k h=>by simp [AO.fam] at h,rfl⟩
theorem Rel.Gj {m:Inj P} {A A':AW} {w:World} (r:Rel m A w) {o:AO} {b:Nat} (h:A.new o=some (b,A')) (hf:∀ f k,o.fam=some (f,k)→f=A.next):
  Rel m A' w∧A'.next=A.next+1∧b=A.next∧m b=none∧(∀ j,j≠b→A'.get j=A.get j):=by
 obtain ⟨rfl,hmax,rfl⟩:=Vo h
 have hg':∀ j,({ A.put A.next o with next:=A.next+1 }:AW).get j=if j=A.next then some o else A.get j:=fun j=>AW.DI A _ j o hmax
 have hmn:=(r.fresh A.next (Nl _)).2.1
 refine ⟨⟨?_,?_,?_,?_,?_,?_,?_⟩,rfl,rfl,hmn,fun j hj=>by rw [hg',Ff hj]⟩
 ·intro i oi c d hi hm
  rw [hg'] at hi
  split at hi
  ·rename_i e;subst e;rw [hmn] at hm;cases hm
  ·exact r.obj i oi c d hi hm
 ·intro i cs e k ro hi c d hm
  rw [hg'] at hi
  split at hi
  ·rename_i e;subst e;rw [hmn] at hm;cases hm
  ·exact r.home i cs e k ro hi c d hm
 ·intro i j oi oj c di dj hij hi hj hmi hmj
  rw [hg'] at hi hj
  split at hi
  ·rename_i e;subst e;rw [hmn] at hmi;cases hmi
  ·split at hj
   ·rename_i e;subst e;rw [hmn] at hmj;cases hmj
   ·exact r.sep i j oi oj c di dj hij hi hj hmi hmj
 ·intro i oi f k hi hfam
  rw [hg'] at hi
  split at hi
  ·rename_i e
   subst e
   cases hi
   have:=hf f k hfam
   subst this
   refine ⟨?_,by show _ < A.next+1;omega⟩
   have:A.fams.get? A.next=none:=(r.fresh _ (Nl _)).2.2
   show A.next∈(match A.fams.get? A.next with | some l=>l | none=>[A.next])
   rw [this];simp
  ·obtain ⟨h1,h2⟩:=r.mem i oi f k hi hfam
   exact ⟨h1,by show _ < A.next+1;omega⟩
 ·intro i hi
  have hi':A.next+1≤i:=hi
  obtain ⟨h1,h2,h3⟩:=r.fresh i (by omega)
  exact ⟨by rw [hg',Ff (by omega)];exact h1,h2,h3⟩
 ·show A.next+1≤Ap
  omega
 ·intro i cs e f k ro c d hi hm
  rw [hg'] at hi
  split at hi
  ·rename_i e';subst e';rw [hmn] at hm;cases hm
  ·exact r.room i cs e f k ro c d hi hm
structure EvL (lo:Nat) (m:Inj P) (A:AW) (w:World) (m':Inj P) (A':AW) (w':World):Prop where
 ext:m.le m'
 rel:Rel m' A' w'
 size:w.heap.size≤w'.heap.size
 os:w'.os=w.os
 tape:w'.tape=w.tape
 output:w'.output=w.output
 draws:w.drawn≤w'.drawn
 Bd:∀ c,c < w.heap.size→¬ Own m A c→w'.heap[c]? =w.heap[c]?
 own:∀ c,c < w.heap.size→Own m' A' c→Own m A c
 next:A.next≤A'.next
 same:∀ i,i < lo→m' i=m i
theorem Ev.low {m m':Inj P} {A A':AW} {w w':World} (h:Ev m A w m' A' w') {lo:Nat} (hl:lo≤A.next):EvL lo m A w m' A' w':=
 ⟨h.ext,h.rel,h.size,h.os,h.tape,h.output,h.draws,h.Bd,h.own,h.next,fun i hi=>h.same i (by omega)⟩
theorem EvL.refl {m:Inj P} {A:AW} {w:World} (r:Rel m A w) (lo:Nat):EvL lo m A w m A w:=
 ⟨.refl m,r,Nl _,rfl,rfl,rfl,Nl _,fun _ _ _=>rfl,fun _ _ h=>h,Nl _,fun _ _=>rfl⟩
theorem EvL.P5 {lo lo':Nat} {m m':Inj P} {A A':AW} {w w':World} (h:EvL lo m A w m' A' w') (hl:lo'≤lo):EvL lo' m A w m' A' w':=
 { h with same:=fun i hi=>h.same i (by omega) }
theorem EvL.trans {lo:Nat} {m m' m'':Inj P} {A A' A'':AW} {w w' w'':World} (h:EvL lo m A w m' A' w') (k:EvL lo m' A' w' m'' A'' w''):EvL lo m A w m'' A'' w'':=by
 refine ⟨h.ext.trans k.ext,k.rel,Nat.le_trans h.size k.size,k.os.trans h.os,k.tape.trans h.tape,k.output.trans h.output,Nat.le_trans h.draws k.draws,fun c hc hn=>?_,fun c hc ho=>?_,Nat.le_trans h.next k.next,fun i hi=>(k.same i hi).trans (h.same i hi)⟩
 ·rw [k.Bd c (Nat.lt_of_lt_of_le hc h.size) (fun ho=>hn (h.own c hc ho)),h.Bd c hc hn]
 ·exact h.own c hc (k.own c (Nat.lt_of_lt_of_le hc h.size) ho)
theorem EvL.Gj {m:Inj P} {A A':AW} {w:World} (r:Rel m A w) {o:AO} {b:Nat} (h:A.new o=some (b,A')) (hf:∀ f k,o.fam=some (f,k)→f=A.next) (lo:Nat):EvL lo m A w m A' w:=by
 obtain ⟨h1,h2,rfl,h4,h5⟩:=r.Gj h hf
 refine ⟨.refl m,h1,Nl _,rfl,rfl,rfl,Nl _,fun _ _ _=>rfl,fun c hc ⟨i,oi,d,hi,hro,hm⟩=>?_,by omega,fun _ _=>rfl⟩
 have hne:i≠A.next:=fun e=>by rw [e,h4] at hm;cases hm
 exact ⟨i,oi,d,by rw [← h5 i hne];exact hi,hro,hm⟩
theorem EvL.Pl {m:Inj P} {A:AW} {w:World} (r:Rel m A w) {o:AO} {o':Obj} {b:Nat} (hb:A.get b=some o) (hm:m b=none) (hr:Ip m 0 o o') {lo:Nat} (hlo:lo≤b):
  ∃ m',EvL lo m A w m' A { w with heap:=w.heap.push o' }∧m' b=some (w.heap.size,0)∧(∀ j,j≠b→m' j=m j):=by
 have hle:m.le (m.ext b (w.heap.size,0) 0 0 0 (fun h=>absurd rfl h)):=Inj.R9 hm
 refine ⟨m.ext b (w.heap.size,0) 0 0 0 (fun h=>absurd rfl h),⟨hle,⟨?_,?_,?_,r.mem,?_,r.lim,?_⟩,by simp,rfl,rfl,rfl,Nl _,fun c hc _=>Df w o' c hc,?_,Nl _,fun i hi=>Inj.BD (by omega)⟩,Inj.BL,fun j hj=>Inj.BD hj⟩
 ·intro i oi c d hi hmi
  by_cases e:i=b
  ·subst e
   rw [Inj.BL] at hmi
   cases hmi
   rw [hb] at hi
   cases hi
   exact ⟨o',DZ w o',hr.mono hle⟩
  ·rw [Inj.BD e] at hmi
   obtain ⟨oi',h2,h3⟩:=r.obj i oi c d hi hmi
   exact ⟨oi',by rw [Df _ _ _ (r.Fk hi hmi)];exact h2,h3.mono hle⟩
 ·intro i cs e k ro hi c d hmi
  by_cases e':i=b
  ·subst e'
   rw [Inj.BL] at hmi
   cases hmi;rfl
  ·rw [Inj.BD e'] at hmi
   exact r.home i cs e k ro hi c d hmi
 ·intro i j oi oj c di dj hij hi hj hmi hmj
  by_cases ei:i=b
  ·subst ei
   rw [Inj.BL] at hmi
   cases hmi
   rw [Inj.BD (Ne.symm hij)] at hmj
   have:=r.Fk hj hmj
   omega
  ·rw [Inj.BD ei] at hmi
   by_cases ej:j=b
   ·subst ej
    rw [Inj.BL] at hmj
    cases hmj
    have:=r.Fk hi hmi
    omega
   ·rw [Inj.BD ej] at hmj
    exact r.sep i j oi oj c di dj hij hi hj hmi hmj
 ·intro i hi
  obtain ⟨h1,h2,h3⟩:=r.fresh i hi
  have hbn:=r.lt hb
  exact ⟨h1,by rw [Inj.BD (by omega)];exact h2,h3⟩
 ·intro i cs e f k ro c d hi hmi
  by_cases e':i=b
  ·subst e'
   rw [Inj.BL] at hmi
   cases hmi
   rw [hb] at hi
   cases hi
   obtain ⟨cs',fr,rfl,_⟩:=hr
   rw [Inj.DM,Inj.Se]
   exact ⟨fun h=>absurd rfl h,cs',e,fr,DZ w _,by omega,fun _ k hk=>by omega⟩
  ·rw [Inj.BD e'] at hmi
   rw [Inj.GX e',Inj.Ig e']
   obtain ⟨g1,cs',e2,fr,g2,g3,g4⟩:=r.room i cs e f k ro c d hi hmi
   exact ⟨g1,cs',e2,fr,by rw [Df _ _ _ (r.Fk hi hmi)];exact g2,g3,g4⟩
 ·rintro c hc ⟨i,oi,d,hi,hro,hmi⟩
  by_cases e:i=b
  ·subst e
   rw [Inj.BL] at hmi;cases hmi
   omega
  ·rw [Inj.BD e] at hmi
   exact ⟨i,oi,d,hi,hro,hmi⟩
theorem T7 {m:Inj P} {w:World} {ρ ρ':Operand→Value} {o:Oper} {c:Ru} (hρ:∀ x∈o.op.operands.toList,AQ m (ρ x) (ρ' x)) (h:AR P ρ o.op=some c):
  match c with
  | .row cs e=>∃ cs',AJ m cs cs'∧(execOp ρ' o).run P w=.ok (.value (.pointer (some ⟨w.heap.size,0,none⟩))) { w with heap:=w.heap.push (.cells ⟨cs'⟩ e) }
  | .slice cs e len=>∃ cs',AJ m cs cs'∧(execOp ρ' o).run P w=.ok (.value (.slice (some ⟨w.heap.size,0,none⟩) len len)) { w with heap:=w.heap.push (.cells ⟨cs'⟩ e) }∧len < BH
  | .map=>(execOp ρ' o).run P w=.ok (.value (.map (some w.heap.size))) { w with heap:=w.heap.push (.map #[] 0) }:=by
 obtain ⟨dst,op,type,pos,after,guard⟩:=o
 cases op <;> simp only [AR] at h <;> first | (cases h;done) | skip
 case alloc e=>
  split at h
  rotate_left
  ·cases h
  rename_i z hz
  cases hc:z.cells.toList.all AL with
  | false=>rw [hc] at h;cases h
  | true=>
   rw [hc,Ct,Oi] at h
   subst h
   obtain ⟨_,hcl⟩:=EJ hz
   exact ⟨_,(DE (m:=m) 4 z hcl).cells,by simp [execOp,Instr.alloc,Cl hz,newVar,CE]⟩
 case box e x=>
  cases hc:(ρ x).cells.toList.all AL with
  | false=>rw [hc] at h;cases h
  | true=>
   rw [hc,Ct,Oi] at h
   subst h
   exact ⟨_,(hρ x (by simp [Op.operands])).cells,by simp [execOp,Instr.box,newVar,CE]⟩
 case buildSlice t len parts=>
  split at h
  rotate_left
  ·cases h
  rename_i e ht
  split at h
  rotate_left
  ·cases h
  rename_i size hs
  cases hc:(Nat.ble (len * size) 16777216&&Nat.blt len room) with
  | false=>rw [hc] at h;cases h
  | true=>
   rw [hc,Ct] at h
   simp only [Bq] at hc
   have h1:=Bt.1 hc.1
   have h2:=AE.1 hc.2
   unfold room at h2
   split at h
   rotate_left
   ·cases h
   rename_i zs hz
   split at h
   rotate_left
   ·cases h
   rename_i cs hcs
   cases hall:cs.all AL with
   | false=>rw [hall] at h;cases h
   | true=>
    rw [hall,Ct,Oi] at h
    subst h
    have hp:Hd m (FA parts.toList ρ) (parts.map fun x=>(x.1,ρ' x.2)).toList:=by
     rw [Array.toList_map]
     exact H9 parts.toList fun x hx=>hρ x.2 (List.mem_map.2 ⟨x,hx,rfl⟩)
    obtain ⟨hzr,zero,hrun,hmap⟩:=IE (P:=P) (m:=m) hz
    obtain ⟨out',g3,g4⟩:=GW (place':=fun i=>some (i * size,size)) (fun i x hx=>hx) hp hzr hcs
    refine ⟨out',g4,?_,by unfold BH;omega⟩
    have hlim:¬ (len * size > 2 ^ 24):=by omega
    simp only [execOp,Instr.buildSlice,Sem.run_bind,run_underlying (C5 ht),Result.andThen_ok,Bu hs,Ff hlim]
    rcases hrun with ⟨h0,rfl⟩ | ⟨h0,z,rfl,hzv⟩
    ·simp only [if_pos h0,Sem.run_bind,Sem.run_pure,Result.andThen_ok,hmap,g3,CE]
    ·simp only [Ff h0,Sem.run_bind,hzv,Sem.run_pure,Result.andThen_ok,hmap,g3,CE]
 case makeMap t r=>
  cases r with
  | none=>
   simp only [Oi] at h
   subst h
   simp [execOp,Instr.makeMap]
  | some y=>cases h
theorem LO {A:AW} {b:Nat} {cs:List Value} {e:TypeId} (h:Eo A b cs e=true):∃ f k ro,A.get b=some (.row cs e f k ro):=by
 unfold Eo at h
 split at h
 ·rename_i ds e' f k ro hg
  simp only [Bq] at h
  have h1:=Nb h.1
  have h2:=HJ (U0 6) h.2
  subst h1 h2
  exact ⟨f,k,ro,hg⟩
 ·cases h
theorem Kv {m:Inj P} {cs cs':List Value} (h:AJ m cs cs') (e:TypeId) (f k:Nat) (ro:Bool):Ip m 0 (.row cs e f k ro) (.cells ⟨cs'⟩ e):=by
 refine ⟨_,_,rfl,fun i v hv=>?_⟩
 obtain ⟨v',h1,h2⟩:=h.get hv
 exact ⟨v',by simpa using h1,fun _=>h2,fun _=>by simp⟩
theorem R5 {m:Inj P} {A:AW} {w:World} (r:Rel m A w) {ρ ρ':Operand→Value} {o:Oper} {c:Ru} {v:Value} {b lo:Nat} (hρ:∀ x∈o.op.operands.toList,AQ m (ρ x) (ρ' x)) (h:AR P ρ o.op=some c)
  (hs:B8 A v c=true) (hid:Nr v=some b) (hm:m b=none) (hlo:lo≤b):
  ∃ v' w' m',(execOp ρ' o).run P w=.ok (.value v') w'∧EvL lo m A w m' A w'∧AQ m' v v'∧(∀ j,j≠b→m' j=m j):=by
 have hrun:=T7 (w:=w) hρ h
 cases c with
 | row cs e=>
  obtain ⟨cs',h1,h2⟩:=hrun
  simp only [B8] at hs
  split at hs
  ·rename_i a
   simp only [Bq,Option.isNone_iff_eq_none] at hs
   obtain ⟨f,k,ro,hg⟩:=LO hs.2.2
   simp only [Nr,Oi] at hid
   subst hid
   obtain ⟨m',g1,g2,g3⟩:=EvL.Pl r hg hm (Kv h1 e f k ro) hlo
   exact ⟨_,_,m',h2,g1,.ptr ⟨hs.2.1,rfl,0,g2,by rw [Nb hs.1]⟩,g3⟩
  ·cases hs
 | slice cs e len=>
  obtain ⟨cs',h1,h2,h3⟩:=hrun
  simp only [B8] at hs
  split at hs
  ·rename_i a n c
   simp only [Bq,Option.isNone_iff_eq_none] at hs
   obtain ⟨q1,q2,q3,q4,q5⟩:=hs
   have q3:=Nb q3
   have q4:=Nb q4
   subst q3 q4
   obtain ⟨f,k,ro,hg⟩:=LO q5
   simp only [Nr,Oi] at hid
   subst hid
   obtain ⟨m',g1,g2,g3⟩:=EvL.Pl r hg hm (Kv h1 e f k ro) hlo
   exact ⟨_,_,m',h2,g1,.slice (.inl ⟨h3,rfl⟩) (Nl _) (fun _=>⟨q2,rfl,0,g2,by rw [Nb q1]⟩),g3⟩
  ·cases hs
 | map=>
  simp only [B8] at hs
  split at hs
  ·rename_i b'
   split at hs
   ·rename_i hg
    simp only [Nr,Oi] at hid
    subst hid
    obtain ⟨m',g1,g2,g3⟩:=EvL.Pl (o':=.map #[] 0) r hg hm ⟨rfl,[],rfl,.nil⟩ hlo
    exact ⟨_,_,m',hrun,g1,.map g2,g3⟩
   ·cases hs
  ·cases hs
end
section
variable {P:Program} {X:Bx}
def Valid (P:Program) (X:Bx) (A:AW) (ops:Array Oper) (tm:Tm) (i:Nat):Prop:=
 ∀ o d,ops.toList[i]? =some o→o.dst=some d→
  (Bi ops tm o=false→tm.get d=undef)∧
  (Bi ops tm o=true→(CT P o.op=true→∃ A',AU P X (BA tm) o A=.ok (.value (tm.get d)) A')∧
   (CT P o.op=false→∃ c,AR P (BA tm) o.op=some c∧B8 A (tm.get d) c=true))
structure BO (P:Program) (X:Bx) (m:Inj P) (A:AW) (live:Bool) (lo hi:Nat) (tm:Tm) (tmps:Array Value) (ops:Array Oper) (S:Nat→Prop) (C:Nat) (rl pl:List Nat) (rest:List Nat):Prop where
 plan:Gh ops.toList (D8 P ops.toList) (O7 ops.toList) C pl
 slotsOk:P0 ops.toList (D8 P ops.toList)
 opsOk:ops.toList.all (RU P)=true
 rls:∀ x∈rl,ops.size≤x
 lin:Lin ops.toList S rest
 sub:∀ i,S i→C.testBit i=true
 bits:∀ i,C.testBit i=true→i < ops.size
 closed:∀ i,C.testBit i=true→∀ k,anc ops.toList k i→C.testBit k=true
 inb:∀ (i:Nat) (o:Oper) (d:Tmp),ops.toList[i]? =some o→o.dst=some d→d < tm.sz
 effs:∀ i,C.testBit i=true→(D8 P ops.toList).testBit i=true→S i
 size:tmps.size=tm.sz
 small:tm.sz < Ap
 oob:∀ t,tm.sz≤t→tm.get t=undef
 slots:∀ t,(∀ (i:Nat) (o:Oper),C.testBit i=true→¬ S i→ops.toList[i]? =some o→o.dst≠some t)→AQ m (tm.get t) (tmps.getD t undef)
 Gj:∀ (i:Nat) (o:Oper) (d:Tmp),C.testBit i=true→¬ S i→ops.toList[i]? =some o→o.dst=some d→CT P o.op=false→Bi ops tm o=true→∃ b,Nr (tm.get d)=some b∧m b=none∧lo≤b∧b < hi
 apart:∀ (i j:Nat) (o p:Oper) (d e:Tmp),C.testBit i=true→¬ S i→ops.toList[i]? =some o→o.dst=some d→CT P o.op=false→Bi ops tm o=true→
  C.testBit j=true→¬ S j→ops.toList[j]? =some p→p.dst=some e→CT P p.op=false→Bi ops tm p=true→Nr (tm.get d)=Nr (tm.get e)→i=j
 valid:live=true→∀ i,C.testBit i=true→¬ S i→(ops.size+i)∈rl∨Valid P X A ops tm i
 wait:live=false→rl=[]∧∃ x p' r,pl=x::p'∧rest=x::r∧(D8 P ops.toList).testBit x=true
theorem So {ops:List Oper} {i:Nat} {o:Oper} (ho:ops[i]? =some o):(D8 P ops).testBit i=true↔(CT P o.op=false∧EH o.op=false):=by
 unfold D8
 rw [Fh]
 constructor
 ·rintro ⟨o',_,h2,h3⟩
  rw [Nat.sub_zero,ho] at h2
  cases h2
  simpa using h3
 ·rintro ⟨h1,h2⟩
  exact ⟨o,Nat.zero_le _,by simpa using ho,by simp [h1,h2]⟩
theorem Wd {ops:List Oper} {i:Nat} {o:Oper} (ho:ops[i]? =some o):(O7 ops).testBit i=true↔EH o.op=true:=by
 unfold O7
 rw [Fh]
 constructor
 ·rintro ⟨o',_,h2,h3⟩
  rw [Nat.sub_zero,ho] at h2
  cases h2
  exact h3
 ·intro h
  exact ⟨o,Nat.zero_le _,by simpa using ho,h⟩
theorem Qw {op:Op} (h:EH op=true):CT P op=false:=by
 cases op <;> first | rfl | (cases h;done)
theorem BO.looked {m:Inj P} {A:AW} {live:Bool} {lo hi:Nat} {tm:Tm} {tmps:Array Value} {ops:Array Oper} {S:Nat→Prop} {C:Nat} {rl pl rest:List Nat} {i:Nat}
  (D:BO P X m A live lo hi tm tmps ops S C rl pl rest) (hanc:∀ k,anc ops.toList k i→S k) {o:Oper} (ho:ops.toList[i]? =some o) {t:Tmp} (hl:Dx ops.toList o t=true):
  AQ m (tm.get t) (tmps.getD t undef):=by
 refine D.slots t fun j o' hc hs ho' hd=>?_
 rcases D.slotsOk.looks j o' t ho' hd i o ho hl with h | ⟨h,_⟩
 ·exact hs (hanc j h)
 ·exact hs (D.effs j hc h)
theorem BO.operands {m:Inj P} (hG:GOk m) {A:AW} {live:Bool} {lo hi:Nat} {tm:Tm} {tmps:Array Value} {ops:Array Oper} {S:Nat→Prop} {C:Nat} {rl pl rest:List Nat} {i:Nat}
  (D:BO P X m A live lo hi tm tmps ops S C rl pl rest) (hanc:∀ k,anc ops.toList k i→S k) {o:Oper} (ho:ops.toList[i]? =some o):
  ∀ x∈o.op.operands.toList,AQ m (BA tm x) (evalW tmps x):=by
 intro x hx
 refine HO hG ?_ fun t ht=>?_
 ·have:=List.all_eq_true.1 D.opsOk o (List.mem_of_getElem? ho)
  exact List.all_eq_true.1 this x hx
 ·subst ht
  exact D.looked hanc ho (JH hx)
theorem BO.wanted {m:Inj P} {A:AW} {live:Bool} {lo hi:Nat} {tm:Tm} {tmps:Array Value} {ops:Array Oper} {S:Nat→Prop} {C:Nat} {rl pl rest:List Nat} {i:Nat}
  (D:BO P X m A live lo hi tm tmps ops S C rl pl rest) (hanc:∀ k,anc ops.toList k i→S k) {o:Oper} (ho:ops.toList[i]? =some o):
  Region.wanted o (yielded ops tmps)=Bi ops tm o:=
 HZ fun _ _ hg _ _ hj hd=>D.looked hanc ho (LV hg hj hd)
theorem JL {f:Frame} {ops:Array Oper} {i:Nat} {rest:List Nat} {k:List Item} {o:Oper} (ht:f.todo=.inRegion ops (i::rest)::k) (ho:ops.toList[i]? =some o) (v:Value):
  f.finish v={ f with tmps:=(match o.dst with | some d=>f.tmps.setIfInBounds d v | none=>f.tmps),todo:=.inRegion ops rest::k }:=by
 have ho':ops[i]? =some o:=by simpa using ho
 simp only [Frame.finish,ht,ho',Option.bind_some]
 cases o.dst <;> rfl
theorem I0 {fr:AFr} {ops:Array Oper} {i:Nat} {rest:List Nat} {k:List Item} {o:Oper} (ht:fr.todo=.inRegion ops (i::rest)::k) (ho:ops.toList[i]? =some o) (v:Value):
  fr.finish v={ fr with tm:=(match o.dst with | some d=>fr.tm.set d v | none=>fr.tm),todo:=.inRegion ops rest::k }:=by
 simp only [AFr.finish,ht,ho]
 cases o.dst <;> rfl
theorem BO.YX (hX:XOk P X) {m:Inj P} (hG:GOk m) {A:AW} {w:World} (r:Rel m A w) {lo hi:Nat} {tm:Tm} {ops:Array Oper} {S:Nat→Prop} {C:Nat} {pl rest:List Nat} {i:Nat} {f:Frame} {cs:List Frame} {k:List Item}
  (D:BO P X m A true lo hi tm f.tmps ops S C [] pl (i::rest)) (hiC:C.testBit i=true) (hhi:hi≤A.next) (hlo:lo≤A.next) (hmode:f.mode=.run) (hro:f.roundOf=none) (htodo:f.todo=.inRegion ops (i::rest)::k):
  ∃ tmps' m' w',step P (lone f cs w)=.next (lone { f with tmps:=tmps',todo:=.inRegion ops rest::k } cs w')∧EvL lo m A w m' A w'∧
   BO P X m' A true lo hi tm tmps' ops (fun j=>S j∨j=i) C [] pl rest:=by
 obtain ⟨hlt,hnS,hanc,hlin⟩:=D.lin
 obtain ⟨o,ho⟩:∃ o,ops.toList[i]? =some o:=⟨_,Ge hlt⟩
 have heff:(D8 P ops.toList).testBit i=false:=by
  cases h:(D8 P ops.toList).testBit i with
  | false=>rfl
  | true=>exact absurd (D.effs i hiC h) hnS
 obtain ⟨d,hd⟩:∃ d,o.dst=some d:=by
  cases h:o.dst with
  | some d=>exact ⟨d,rfl⟩
  | none=>rw [D.slotsOk.dst i o ho h] at heff;cases heff
 have hval:Valid P X A ops tm i:=by
  rcases D.valid rfl i hiC hnS with h | h
  ·cases h
  ·exact h
 have hw:=D.wanted hanc ho
 have hops:=D.operands hG hanc ho
 have hfin:=fun v=>JL htodo ho v
 simp only [hd] at hfin
 have ho':ops[i]? =some o:=by simpa using ho
 have key:∀ (m':Inj P) (w':World) (v':Value),EvL lo m A w m' A w'→AQ m' (tm.get d) v'→(∀ j o d b,j≠i→C.testBit j=true→¬ S j→ops.toList[j]? =some o→o.dst=some d→CT P o.op=false→Bi ops tm o=true→Nr (tm.get d)=some b→m' b=m b)→
   BO P X m' A true lo hi tm (f.tmps.setIfInBounds d v') ops (fun j=>S j∨j=i) C [] pl rest:=by
  intro m' w' v' hev hv hgh
  refine ⟨D.plan,D.slotsOk,D.opsOk,fun x hx=>by (cases hx),hlin,?_,D.bits,D.closed,D.inb,fun j hj he=>.inl (D.effs j hj he),by simpa using D.size,D.small,D.oob,?_,?_,?_,?_,fun h=>Bool.noConfusion h⟩
  ·rintro j (hj | rfl)
   ·exact D.sub j hj
   ·exact hiC
  ·intro t ht
   rw [Nv,D.size]
   split
   ·rename_i h
    rw [h.1]
    exact hv
   ·rename_i hne
    by_cases e:t=d
    ·subst e
     have hsz:tm.sz≤t:=by omega
     rw [D.oob t hsz,Array.getD_eq_getD_getElem?,Array.getElem?_eq_none (by rw [D.size];exact hsz)]
     exact Ft m'
    ·refine (D.slots t fun j o' hc hs ho2 hd2=>?_).mono hev.ext
     by_cases e2:j=i
     ·subst e2
      rw [ho] at ho2
      cases ho2
      rw [hd] at hd2
      cases hd2
      exact e rfl
     ·exact ht j o' hc (fun h=>h.elim hs e2) ho2 hd2
  ·intro j o' d' hc hs ho2 hd2 hq hwa
   have hs':¬ S j:=fun h=>hs (.inl h)
   have hne:j≠i:=fun h=>hs (.inr h)
   obtain ⟨b,h1,h2,h3,h4⟩:=D.Gj j o' d' hc hs' ho2 hd2 hq hwa
   exact ⟨b,h1,by rw [hgh j o' d' b hne hc hs' ho2 hd2 hq hwa h1];exact h2,h3,h4⟩
  ·intro j1 j2 o1 o2 d1 d2 a1 a2 a3 a4 a5 a6 b1 b2 b3 b4 b5 b6
   exact D.apart j1 j2 o1 o2 d1 d2 a1 (fun h=>a2 (.inl h)) a3 a4 a5 a6 b1 (fun h=>b2 (.inl h)) b3 b4 b5 b6
  ·intro _ j hc hs
   exact D.valid rfl j hc fun h=>hs (.inl h)
 obtain ⟨v1,v2⟩:=hval o d ho hd
 cases hwa:Bi ops tm o with
 | false=>
  rw [hwa] at hw
  have hstep:=JZ (P:=P) (cs:=cs) (w:=w) hmode htodo ho' hw
  rw [hfin undef] at hstep
  exact ⟨_,m,w,hstep,.refl r lo,key m w undef (.refl r lo) (by rw [v1 hwa];exact Ft m) fun _ _ _ _ _ _ _ _ _ _ _ _=>rfl⟩
 | true=>
  rw [hwa] at hw
  cases hq:CT P o.op with
  | true=>
   obtain ⟨A',he⟩:=(v2 hwa).1 hq
   obtain ⟨rfl,_⟩:=Fz hq he
   have hs:=GY hX r hops
   rw [he] at hs
   obtain ⟨n',w',m',h1,h2,v',rfl,h3⟩:=hs
   have hans:answer P f cs ((execOp f.eval o).run P w)=some (f.finish v',cs,w'):=by
    rw [DR,h1];rfl
   have hstep:=P9 (P:=P) hmode htodo ho' hw hro hans
   rw [hfin v'] at hstep
   exact ⟨_,m',w',hstep,h2.low hlo,key m' w' v' (h2.low hlo) h3 fun j o2 d2 b hne hc hs2 ho2 hd2 hq2 hwa2 hid=>by
    obtain ⟨b',g1,g2,g3,g4⟩:=D.Gj j o2 d2 hc hs2 ho2 hd2 hq2 hwa2
    rw [g1,Oi] at hid
    subst hid
    exact h2.same _ (by omega)⟩
  | false=>
   obtain ⟨c,hf,hst⟩:=(v2 hwa).2 hq
   obtain ⟨b,g1,g2,g3,g4⟩:=D.Gj i o d hiC hnS ho hd hq hwa
   obtain ⟨v',w',m',h1,h2,h3,h4⟩:=R5 r hops hf hst g1 g2 g3
   have hans:answer P f cs ((execOp f.eval o).run P w)=some (f.finish v',cs,w'):=by
    rw [DR,h1];rfl
   have hstep:=P9 (P:=P) hmode htodo ho' hw hro hans
   rw [hfin v'] at hstep
   exact ⟨_,m',w',hstep,h2,key m' w' v' h2 h3 fun j o2 d2 b2 hne hc hs2 ho2 hd2 hq2 hwa2 hid=>by
    refine h4 b2 fun e=>hne ?_
    subst e
    exact D.apart j i o2 o d2 d hc hs2 ho2 hd2 hq2 hwa2 hiC hnS ho hd hq hwa (by rw [hid,g1])⟩
def Y0:Option Nat→List Nat→Prop
 | none,l=>l=[]
 | some x,l=>∃ r,l=x::r
theorem BO.MD (hX:XOk P X) {lo hi:Nat} {A:AW} {tm:Tm} {ops:Array Oper} {C:Nat} {pl:List Nat} {cs:List Frame} {k:List Item} (stop:Option Nat) (hhi:hi≤A.next) (hlo:lo≤A.next):
  ∀ (rest:List Nat) {m:Inj P} (_:GOk m) {w:World} (_:Rel m A w) {S:Nat→Prop} {f:Frame}
   (_:BO P X m A true lo hi tm f.tmps ops S C [] pl rest) (_:∀ i,i < ops.size→C.testBit i=true∨(some i=stop∧¬ S i)∨∃ x,stop=some x∧anc ops.toList x i)
   (_:∀ x,stop=some x→x < ops.size∧C.testBit x=false) (_:f.mode=.run) (_:f.roundOf=none) (_:f.todo=.inRegion ops rest::k),
   ∃ S' tmps' rest' m' w',Steps P (lone f cs w) (lone { f with tmps:=tmps',todo:=.inRegion ops rest'::k } cs w')∧EvL lo m A w m' A w'∧
    BO P X m' A true lo hi tm tmps' ops S' C [] pl rest'∧Y0 stop rest':=by
 intro rest
 induction rest with
 | nil=>
  intro m hG w r S f D hall hstop hmode hro htodo
  cases stop with
  | none=>
   refine ⟨S,f.tmps,[],m,w,?_,.refl r lo,D,rfl⟩
   rw [show ({ f with tmps:=f.tmps,todo:=.inRegion ops []::k }:Frame)=f by rw [← htodo]]
   exact .refl P _
  | some x=>
   obtain ⟨h1,h2⟩:=hstop x rfl
   have:=D.sub x (D.lin x (by simpa using h1))
   rw [h2] at this
   cases this
 | cons i rest ih=>
  intro m hG w r S f D hall hstop hmode hro htodo
  obtain ⟨hlt,hnS,hanc,hlin⟩:=D.lin
  have hlt':i < ops.size:=by simpa using hlt
  by_cases hst:stop=some i
  ·subst hst
   refine ⟨S,f.tmps,i::rest,m,w,?_,.refl r lo,D,rest,rfl⟩
   rw [show ({ f with tmps:=f.tmps,todo:=.inRegion ops (i::rest)::k }:Frame)=f by rw [← htodo]]
   exact .refl P _
  ·have hiC:C.testBit i=true:=by
    rcases hall i hlt' with h | ⟨h,_⟩ | ⟨x,h1,h2⟩
    ·exact h
    ·exact absurd h.symm hst
    ·have h3:=D.sub x (hanc x h2)
     rw [(hstop x h1).2] at h3
     cases h3
   obtain ⟨tmps',m',w',s1,s2,s3⟩:=D.YX hX hG r hiC hhi hlo hmode hro htodo (cs:=cs) (w:=w)
   obtain ⟨S'',tmps'',rest'',m'',w'',t1,t2,t3,t4⟩:=ih (hG.mono s2.ext) s2.rel (f:={ f with tmps:=tmps',todo:=.inRegion ops rest::k }) s3 (fun j hj=>by
    rcases hall j hj with h | ⟨h,h'⟩ | h
    ·exact .inl h
    ·refine .inr (.inl ⟨h,fun hh=>?_⟩)
     rcases hh with hh | rfl
     ·exact h' hh
     ·exact hst h.symm
    ·exact .inr (.inr h)) hstop hmode hro rfl
   exact ⟨S'',tmps'',rest'',m'',w'',.head s1 t1,s2.trans t2,t3,t4⟩
end
section
variable {P:Program} {X:Bx}
theorem Dd {ops:Array Oper} {o:Oper} {tm tm':Tm} (h:∀ t,Dx ops.toList o t=true→tm'.get t=tm.get t):Bi ops tm' o=Bi ops tm o:=by
 unfold Bi
 cases hg:o.guard with
 | none=>rfl
 | some x=>
  obtain ⟨j,want⟩:=x
  simp only
  unfold E1
  cases hj:ops.toList[j]? with
  | none=>rfl
  | some g=>
   simp only
   cases hd:g.dst with
   | none=>rfl
   | some d=>simp only;rw [h d (LV hg hj hd)]
theorem I2 {ops:List Oper} {o:Oper} {tm tm':Tm} (h:∀ t,Dx ops o t=true→tm'.get t=tm.get t):∀ x∈o.op.operands.toList,BA tm' x=BA tm x:=by
 intro x hx
 cases x with
 | tmp t=>exact h t (JH hx)
 | _=>rfl
theorem Valid.congr {A:AW} {ops:Array Oper} {tm tm':Tm} {i:Nat} (hv:Valid P X A ops tm i) (hl:∀ o,ops.toList[i]? =some o→(∀ t,Dx ops.toList o t=true→tm'.get t=tm.get t)∧∀ d,o.dst=some d→tm'.get d=tm.get d):
  Valid P X A ops tm' i:=by
 intro o d ho hd
 obtain ⟨h1,h2⟩:=hl o ho
 obtain ⟨v1,v2⟩:=hv o d ho hd
 rw [Dd h1,h2 d hd,L2 (I2 h1),N6 (I2 h1)]
 exact ⟨v1,v2⟩
variable {m:Inj P} {A A':AW} {live:Bool} {lo hi:Nat} {tm:Tm} {tmps:Array Value} {ops:Array Oper} {S:Nat→Prop} {C:Nat} {rl pl rest:List Nat}
theorem BO.WA {x:Nat} (D:BO P X m A true lo hi tm tmps ops S C (x::rl) pl rest) (hv:Valid P X A ops tm (x - ops.size)):BO P X m A true lo hi tm tmps ops S C rl pl rest:=by
 refine { D with rls:=fun y hy=>D.rls y (List.mem_cons_of_mem _ hy),valid:=fun _ j hc hs=>?_,wait:=fun h=>Bool.noConfusion h }
 rcases D.valid rfl j hc hs with h | h
 ·cases h with
  | head=>exact .inr (by rw [show ops.size+j - ops.size=j by omega] at hv;exact hv)
  | tail _ h=>exact .inl h
 ·exact .inr h
theorem BO.advance {q p' rl':List Nat} {x hi':Nat} {o:Oper} {d:Tmp} {v:Value} (D:BO P X m A true lo hi tm tmps ops S C [] q rest) (hx:x < ops.size) (hc:C.testBit x=false)
  (he:(D8 P ops.toList).testBit x=false) (hm:∀ k,anc ops.toList k x→C.testBit k=true) (ho:ops.toList[x]? =some o) (hd:o.dst=some d) (hhi:hi≤hi') (hlo:lo≤hi)
  (hg:CT P o.op=false→Bi ops tm o=true→∃ b,Nr v=some b∧m b=none∧hi≤b∧b < hi') (hp:Gh ops.toList (D8 P ops.toList) (O7 ops.toList) (C ||| (1 <<< x)) p') (hrl:∀ y∈rl',ops.size≤y)
  (hv:∀ j,(C ||| (1 <<< x)).testBit j=true→¬ S j→(ops.size+j)∈rl'∨Valid P X A' ops (tm.set d v) j):
  BO P X m A' true lo hi' (tm.set d v) tmps ops S (C ||| (1 <<< x)) rl' p' rest:=by
 have hsz:=D.inb x o d ho hd
 have get:∀ t,t≠d→(tm.set d v).get t=tm.get t:=fun t ht=>by rw [Tm.Fe tm D.small,Ff (fun h=>ht h.1)]
 have getd:(tm.set d v).get d=v:=by rw [Tm.Fe tm D.small,if_pos ⟨rfl,hsz⟩]
 have bit:∀ j,(C ||| (1 <<< x)).testBit j=true↔(C.testBit j=true∨j=x):=fun j=>by rw [M7];simp
 have look:∀ i o',(C.testBit i=true∨i=x)→ops.toList[i]? =some o'→∀ t,Dx ops.toList o' t=true→(tm.set d v).get t=tm.get t:=by
  intro i o' hi ho' t hl
  refine get t fun e=>?_
  subst e
  rcases D.slotsOk.looks x o t ho hd i o' ho' hl with h | ⟨h,_⟩
  ·rcases hi with hi | rfl
   ·rw [D.closed i hi x h] at hc;cases hc
   ·have:=Wb D.slotsOk.back i i (by simpa using hx) h
    omega
  ·rw [he] at h;cases h
 have dst:∀ i o' d',C.testBit i=true→ops.toList[i]? =some o'→o'.dst=some d'→(tm.set d v).get d'=tm.get d':=by
  intro i o' d' hi ho' hd'
  refine get d' fun e=>?_
  subst e
  have:=D.slotsOk.once x o d' ho hd i o' ho' hd'
  subst this
  rw [hi] at hc;cases hc
 have hS:¬ S x:=fun h=>by rw [D.sub x h] at hc;cases hc
 refine ⟨hp,D.slotsOk,D.opsOk,hrl,D.lin,fun i hi=>(bit i).2 (.inl (D.sub i hi)),?_,?_,by intro i o d h1 h2;rw [Tm.IP];exact D.inb i o d h1 h2,?_,by rw [Tm.IP];exact D.size,by rw [Tm.IP];exact D.small,?_,?_,?_,?_,fun _=>hv,fun h=>Bool.noConfusion h⟩
 ·intro i hi
  rcases (bit i).1 hi with h | rfl
  ·exact D.bits i h
  ·exact hx
 ·intro i hi k hk
  rcases (bit i).1 hi with h | rfl
  ·exact (bit k).2 (.inl (D.closed i h k hk))
  ·exact (bit k).2 (.inl (hm k hk))
 ·intro i hi hei
  rcases (bit i).1 hi with h | rfl
  ·exact D.effs i h hei
  ·rw [he] at hei;cases hei
 ·intro t ht
  rw [Tm.IP] at ht
  rw [get t (fun e=>absurd hsz (by subst e;exact Nat.not_lt.2 ht))]
  exact D.oob t ht
 ·intro t ht
  have hne:t≠d:=fun e=>by
   subst e
   exact ht x o ((bit x).2 (.inr rfl)) hS ho hd
  rw [get t hne]
  exact D.slots t fun i o' hi hs ho'=>ht i o' ((bit i).2 (.inl hi)) hs ho'
 ·intro i o' d' hi hs ho' hd' hq hw
  rw [Dd (look i o' ((bit i).1 hi) ho')] at hw
  rcases (bit i).1 hi with h | rfl
  ·rw [dst i o' d' h ho' hd']
   obtain ⟨b,g1,g2,g3,g4⟩:=D.Gj i o' d' h hs ho' hd' hq hw
   exact ⟨b,g1,g2,g3,by omega⟩
  ·rw [ho] at ho'
   cases ho'
   rw [hd] at hd'
   cases hd'
   rw [getd]
   obtain ⟨b,g1,g2,g3,g4⟩:=hg hq hw
   exact ⟨b,g1,g2,by omega,g4⟩
 ·intro i j oi oj di dj i1 i2 i3 i4 i5 i6 j1 j2 j3 j4 j5 j6 hid
  rw [Dd (look i oi ((bit i).1 i1) i3)] at i6
  rw [Dd (look j oj ((bit j).1 j1) j3)] at j6
  rcases (bit i).1 i1 with hi | rfl <;> rcases (bit j).1 j1 with hj | rfl
  ·rw [dst i oi di hi i3 i4,dst j oj dj hj j3 j4] at hid
   exact D.apart i j oi oj di dj hi i2 i3 i4 i5 i6 hj j2 j3 j4 j5 j6 hid
  ·exfalso
   rw [ho] at j3
   cases j3
   rw [hd] at j4
   cases j4
   rw [dst i oi di hi i3 i4,getd] at hid
   obtain ⟨b,g1,g2,g3,g4⟩:=D.Gj i oi di hi i2 i3 i4 i5 i6
   obtain ⟨b',k1,k2,k3,k4⟩:=hg j5 j6
   rw [g1,k1] at hid
   cases hid
   omega
  ·exfalso
   rw [ho] at i3
   cases i3
   rw [hd] at i4
   cases i4
   rw [dst j oj dj hj j3 j4,getd] at hid
   obtain ⟨b,g1,g2,g3,g4⟩:=D.Gj j oj dj hj j2 j3 j4 j5 j6
   obtain ⟨b',k1,k2,k3,k4⟩:=hg i5 i6
   rw [g1,k1] at hid
   cases hid
   omega
  ·rfl
theorem BO.T6 {q:List Nat} {x:Nat} {o:Oper} {d:Tmp} (D:BO P X m A true lo hi tm tmps ops S C [] q rest) (v:Value) (hc:C.testBit x=false) (he:(D8 P ops.toList).testBit x=false)
  (ho:ops.toList[x]? =some o) (hd:o.dst=some d) {j:Nat} (hj:C.testBit j=true) (hs:¬ S j):Valid P X A ops (tm.set d v) j:=by
 rcases D.valid rfl j hj hs with h | h
 ·cases h
 ·refine h.congr fun o' ho'=>⟨fun t hl=>?_,fun d' hd'=>?_⟩
  ·rw [Tm.Fe tm D.small,Ff]
   rintro ⟨rfl,_⟩
   rcases D.slotsOk.looks x o t ho hd j o' ho' hl with h | ⟨h,_⟩
   ·rw [D.closed j hj x h] at hc;cases hc
   ·rw [he] at h;cases h
  ·rw [Tm.Fe tm D.small,Ff]
   rintro ⟨rfl,_⟩
   have:=D.slotsOk.once x o d' ho hd j o' ho' hd'
   subst this
   rw [hj] at hc;cases hc
theorem BO.effect {x:Nat} {p' r:List Nat} {o:Oper} {tm':Tm} {tmps':Array Value} {hi':Nat} (D:BO P X m A live lo hi tm tmps ops S C [] (x::(again ops.toList.length (D8 P ops.toList) C (nth (DO ops.toList []) x) ops.toList.length++p')) (x::r))
  (he:(D8 P ops.toList).testBit x=true) (hx:x < ops.size) (hc:C.testBit x=false) (hm:∀ k,anc ops.toList k x→C.testBit k=true) (hp:Gh ops.toList (D8 P ops.toList) (O7 ops.toList) (C ||| (1 <<< x)) p')
  (ho:ops.toList[x]? =some o) (hhi:hi≤hi') (hsz:tm'.sz=tm.sz) (hsz':tmps'.size=tmps.size) (hother:∀ t,o.dst≠some t→tm'.get t=tm.get t∧tmps'.getD t undef=tmps.getD t undef)
  (hoob:∀ t,tm'.sz≤t→tm'.get t=undef) (hself:∀ t,o.dst=some t→AQ m (tm'.get t) (tmps'.getD t undef)):
  BO P X m A' true lo hi' tm' tmps' ops (fun j=>S j∨j=x) (C ||| (1 <<< x)) (again ops.toList.length (D8 P ops.toList) C (nth (DO ops.toList []) x) ops.toList.length) p' r:=by
 obtain ⟨_,hnS,hanc,hlin⟩:=D.lin
 have bit:∀ j,(C ||| (1 <<< x)).testBit j=true↔(C.testBit j=true∨j=x):=fun j=>by rw [M7];simp
 have pend:∀ j,(C ||| (1 <<< x)).testBit j=true→¬ (S j∨j=x)→C.testBit j=true∧¬ S j∧j≠x:=fun j hj hs=>
  ⟨((bit j).1 hj).resolve_right fun h=>hs (.inr h),fun h=>hs (.inl h),fun h=>hs (.inr h)⟩
 have look:∀ i o',C.testBit i=true→¬ S i→ops.toList[i]? =some o'→∀ t,Dx ops.toList o' t=true→tm'.get t=tm.get t:=by
  intro i o' hi hs ho' t hl
  refine (hother t fun e=>?_).1
  rcases D.slotsOk.looks x o t ho e i o' ho' hl with h | ⟨_,h | h⟩
  ·rw [D.closed i hi x h] at hc;cases hc
  ·subst h;rw [hi] at hc;cases hc
  ·exact hs (hanc i h)
 have dst:∀ i o' d',C.testBit i=true→ops.toList[i]? =some o'→o'.dst=some d'→tm'.get d'=tm.get d':=by
  intro i o' d' hi ho' hd'
  refine (hother d' fun e=>?_).1
  have:=D.slotsOk.once x o d' ho e i o' ho' hd'
  subst this
  rw [hi] at hc;cases hc
 refine ⟨hp,D.slotsOk,D.opsOk,?_,hlin,?_,?_,?_,by rw [hsz];exact D.inb,?_,by rw [hsz,hsz'];exact D.size,by rw [hsz];exact D.small,hoob,?_,?_,?_,?_,fun h=>Bool.noConfusion h⟩
 ·intro y hy
  obtain ⟨k,_,rfl,_⟩:=(HS _ _ _ _ _ y).1 hy
  simp
 ·rintro i (hi | rfl)
  ·exact (bit i).2 (.inl (D.sub i hi))
  ·exact (bit i).2 (.inr rfl)
 ·intro i hi
  rcases (bit i).1 hi with h | rfl
  ·exact D.bits i h
  ·exact hx
 ·intro i hi k hk
  rcases (bit i).1 hi with h | rfl
  ·exact (bit k).2 (.inl (D.closed i h k hk))
  ·exact (bit k).2 (.inl (hm k hk))
 ·intro i hi hei
  rcases (bit i).1 hi with h | rfl
  ·exact .inl (D.effs i h hei)
  ·exact .inr rfl
 ·intro t ht
  by_cases e:o.dst=some t
  ·exact hself t e
  ·obtain ⟨h1,h2⟩:=hother t e
   rw [h1,h2]
   exact D.slots t fun i o' hi hs ho' hd'=>ht i o' ((bit i).2 (.inl hi)) (fun h=>h.elim hs fun h=>by subst h;rw [hi] at hc;cases hc) ho' hd'
 ·intro i o' d' hi hs ho' hd' hq hw
  obtain ⟨p1,p2,p3⟩:=pend i hi hs
  rw [Dd (look i o' p1 p2 ho')] at hw
  rw [dst i o' d' p1 ho' hd']
  obtain ⟨b,g1,g2,g3,g4⟩:=D.Gj i o' d' p1 p2 ho' hd' hq hw
  exact ⟨b,g1,g2,g3,by omega⟩
 ·intro i j oi oj di dj i1 i2 i3 i4 i5 i6 j1 j2 j3 j4 j5 j6 hid
  obtain ⟨p1,p2,p3⟩:=pend i i1 i2
  obtain ⟨q1,q2,q3⟩:=pend j j1 j2
  rw [Dd (look i oi p1 p2 i3)] at i6
  rw [Dd (look j oj q1 q2 j3)] at j6
  rw [dst i oi di p1 i3 i4,dst j oj dj q1 j3 j4] at hid
  exact D.apart i j oi oj di dj p1 p2 i3 i4 i5 i6 q1 q2 j3 j4 j5 j6 hid
 ·intro _ j hj hs
  obtain ⟨p1,p2,p3⟩:=pend j hj hs
  refine .inl ((HS _ _ _ _ _ _).2 ⟨j,by simpa using D.bits j p1,by simp,p1,?_,?_⟩)
  ·cases h:(D8 P ops.toList).testBit j with
   | false=>rfl
   | true=>exact absurd (D.effs j p1 h) p2
  ·cases h:(nth (DO ops.toList []) x).testBit j with
   | false=>rfl
   | true=>exact absurd (hanc j h) p2
theorem BO.RA {x:Nat} {p' r:List Nat} (D:BO P X m A true lo hi tm tmps ops S C [] (x::p') (x::r)) (he:(D8 P ops.toList).testBit x=true) (hi':Nat) (hhi:hi≤hi'):BO P X m A' false lo hi' tm tmps ops S C [] (x::p') (x::r):=
 { D with
  Gj:=fun i o d h1 h2 h3 h4 h5 h6=>by
   obtain ⟨b,g1,g2,g3,g4⟩:=D.Gj i o d h1 h2 h3 h4 h5 h6
   exact ⟨b,g1,g2,g3,by omega⟩
  valid:=fun h=>Bool.noConfusion h
  wait:=fun _=>⟨rfl,x,p',r,rfl,rfl,he⟩ }
theorem BO.mono {m':Inj P} {hi':Nat} (D:BO P X m A false lo hi tm tmps ops S C rl pl rest) (h:m.le m') (hs:∀ i,i < hi→m' i=m i) (hhi:hi≤hi'):BO P X m' A' false lo hi' tm tmps ops S C rl pl rest:=
 { D with
  slots:=fun t ht=>(D.slots t ht).mono h
  Gj:=fun i o d h1 h2 h3 h4 h5 h6=>by
   obtain ⟨b,g1,g2,g3,g4⟩:=D.Gj i o d h1 h2 h3 h4 h5 h6
   exact ⟨b,g1,by rw [hs b g4];exact g2,g3,by omega⟩
  valid:=fun h=>Bool.noConfusion h }
theorem BO.done (D:BO P X m A true lo hi tm tmps ops S C [] [] []):EY m tm tmps:=by
 refine ⟨D.size,D.small,fun t=>D.slots t fun i o hc hs ho _=>?_⟩
 exact hs (D.lin i (by simpa using D.bits i hc))
theorem BO.start {p:List Nat} {hi:Nat} (hT:EY m tm tmps) (hp:M5 P ops.toList=some p) (ho:ops.toList.all (RU P)=true) (hin:∀ (i:Nat) (o:Oper) (d:Tmp),ops.toList[i]? =some o→o.dst=some d→d < tm.sz)
  (hl:Lin ops.toList (fun _=>False) rest):BO P X m A true lo hi tm tmps ops (fun _=>False) 0 [] p rest:=by
 obtain ⟨h1,h2⟩:=M4 hp
 refine ⟨h2,h1,ho,fun x hx=>by (cases hx),hl,fun i h=>h.elim,fun i h=>?_,fun i h=>?_,hin,fun i h=>?_,hT.size,hT.small,hT.oob,fun t _=>hT.val t,fun i o d h=>?_,fun i j o q d e h=>?_,fun _ i h=>?_,fun h=>Bool.noConfusion h⟩
 all_goals (rw [Nat.zero_testBit] at h;cases h)
theorem L4 {n:Nat}:∀ {l:List Oper},I7 n l=true→∀ (i:Nat) (o:Oper) (d:Tmp),l[i]? =some o→o.dst=some d→d < n
 | [],_,i,o,d,h,_=>by simp at h
 | x::r,h,i,o,d,ho,hd=>by
  simp only [I7,Bq] at h
  cases i with
  | zero=>
   simp at ho
   subst ho
   have:=h.1
   rw [hd] at this
   exact AE.1 this
  | succ i=>exact L4 h.2 i o d (by simpa using ho) hd
end
section
variable {P:Program} {X:Bx}
def Je (m:Inj P):Item→Item→Prop
 | .code c,x=>x=.code c∧codeOk P c=true
 | .inBlock id,x=>x=.inBlock id
 | .inLoop b,x=>x=.inLoop b∧codeOk P b=true
 | .inScope b,x=>x=.inScope b∧codeOk P b=true
 | .inRegion ops l,x=>x=.inRegion ops l∧ops.toList.all (RU P)=true
 | _,_=>False
theorem Je.mono {m m':Inj P} {a b:Item} (r:Je m a b):Je m' a b:=by
 cases a <;> exact r
def O9 (a:AFr) (f:Frame):Prop:=f.fn=a.fn∧f.kind=.normal∧f.mode=a.mode∧f.roundOf=none∧f.defers=[]
inductive Abo (P:Program) (X:Bx) (m:Inj P) (A:AW) (live:Bool) (lo hi:Nat) (a:AFr) (f:Frame):Prop
 | plain (h:a.dr=false) (tm:EY m a.tm f.tmps) (todo:Cx (Je m) a.todo f.todo)
 | draw (ops:Array Oper) (S:Nat→Prop) (C:Nat) (rl pl rest:List Nat) (k k':List Item) (h:a.dr=true) (mode:a.mode=.run) (ta:a.todo=.inRegion ops (rl++pl)::k) (tf:f.todo=.inRegion ops rest::k')
   (hk:Cx (Je m) k k') (D:BO P X m A live lo hi a.tm f.tmps ops S C rl pl rest)
structure He (P:Program) (X:Bx) (m:Inj P) (A:AW) (live:Bool) (lo hi:Nat) (a:AFr) (f:Frame):Prop where
 core:O9 a f
 body:Abo P X m A live lo hi a f
theorem He.mono {m m':Inj P} {A A':AW} {lo hi hi':Nat} {a:AFr} {f:Frame} (r:He P X m A false lo hi a f) (h:m.le m') (hs:∀ i,i < hi→m' i=m i) (hhi:hi≤hi'):He P X m' A' false lo hi' a f:=by
 refine ⟨r.core,?_⟩
 cases r.body with
 | plain g tm todo=>exact .plain g (tm.mono h) (todo.mono fun _ _ x=>x.mono)
 | draw ops S C rl pl rest k k' g1 g2 g3 g4 g5 D=>exact .draw ops S C rl pl rest k k' g1 g2 g3 g4 (g5.mono fun _ _ x=>x.mono) (D.mono h hs hhi)
inductive Stk (P:Program) (X:Bx) (m:Inj P) (A:AW) (base:Nat):Nat→List AFr→List Frame→Prop
 | nil (hi:Nat) (h:base≤hi):Stk P X m A base hi [] []
 | cons (lo hi:Nat) (a:AFr) (f:Frame) (l:List AFr) (l':List Frame) (h:lo≤hi) (r:He P X m A false lo hi a f) (t:Stk P X m A base lo l l'):Stk P X m A base hi (a::l) (f::l')
theorem Stk.base {m:Inj P} {A:AW} {base hi:Nat} {l:List AFr} {l':List Frame} (s:Stk P X m A base hi l l'):base≤hi:=by
 induction s with
 | nil hi h=>exact h
 | cons lo hi a f l l' h r t ih=>omega
theorem Stk.mono {m m':Inj P} {A A':AW} {base hi:Nat} {l:List AFr} {l':List Frame} (s:Stk P X m A base hi l l') (h:m.le m'):(∀ i,i < hi→m' i=m i)→Stk P X m' A' base hi l l':=by
 induction s with
 | nil hi h=>intro _;exact .nil hi h
 | cons lo hi a f l l' hl r t ih=>intro hs;exact .cons lo hi a f l l' hl (r.mono h hs (Nl _)) (ih fun i hi=>hs i (by omega))
def Bot (f0:FuncId):List AFr→Prop
 | []=>False
 | [x]=>x.fn=f0
 | _::r=>Bot f0 r
theorem Bot.tail {f0:FuncId} {x y:AFr} {r:List AFr} (h:Bot f0 (x::y::r)):Bot f0 (y::r):=h
theorem Bot.push {f0:FuncId} {x:AFr} {r:List AFr} (h:Bot f0 r):Bot f0 (x::r):=by
 cases r with
 | nil=>exact h.elim
 | cons y r=>exact h
theorem Bot.top {f0:FuncId} {x y:AFr} {r:List AFr} (h:Bot f0 (x::r)) (h2:y.fn=x.fn):Bot f0 (y::r):=by
 cases r with
 | nil=>exact h2.trans h
 | cons z r=>exact h
structure Ea (P:Program) (X:Bx) (f0:FuncId) (base lo:Nat) (m:Inj P) (s:ASt) (f:Frame) (cs:List Frame) (w:World):Prop where
 rel:Rel m s.w w
 glob:GOk m
 below:lo≤s.w.next
 top:He P X m s.w true lo s.w.next s.fr f
 stk:Stk P X m s.w base lo s.cs cs
 bot:Bot f0 (s.fr::s.cs)
def Sim (P:Program) (X:Bx) (f0:FuncId) (base:Nat) (cs0:List Frame) (m:Inj P) (A:AW) (w:World) (mach:Machine) (s':ASt):Prop:=
 ∃ lo' m' f' cs' w',Steps P mach (lone f' (cs'++cs0) w')∧EvL base m A w m' s'.w w'∧Ea P X f0 base lo' m' s' f' cs' w'
theorem Uf {m:Inj P} {a:AFr} {f:Frame} (htm:EY m a.tm f.tmps) (htodo:Cx (Je m) a.todo f.todo) {v v':Value} (hv:AQ m v v'):EY m (a.finish v).tm (f.finish v').tmps∧Cx (Je m) (a.finish v).todo (f.finish v').todo:=by
 cases hta:a.todo with
 | nil=>
  rw [hta] at htodo
  generalize htf:f.todo=y at htodo
  cases htodo
  simp only [AFr.finish,hta,Frame.finish,htf]
  exact ⟨htm,by exact .nil⟩
 | cons x k=>
  rw [hta] at htodo
  generalize htf:f.todo=y at htodo
  cases htodo with
  | cons hx hk=>
   rename_i x' k'
   cases x with
   | code c=>
    obtain ⟨rfl,hc⟩:=hx
    simp only [AFr.finish,hta,Frame.finish,htf]
    exact ⟨htm,.cons ⟨rfl,hc⟩ hk⟩
   | inBlock id=>
    have hx:x'=.inBlock id:=hx
    subst hx
    simp only [AFr.finish,hta,Frame.finish,htf]
    exact ⟨htm,.cons rfl hk⟩
   | inLoop b=>
    obtain ⟨rfl,hc⟩:=hx
    simp only [AFr.finish,hta,Frame.finish,htf]
    exact ⟨htm,.cons ⟨rfl,hc⟩ hk⟩
   | inScope b=>
    obtain ⟨rfl,hc⟩:=hx
    simp only [AFr.finish,hta,Frame.finish,htf]
    exact ⟨htm,.cons ⟨rfl,hc⟩ hk⟩
   | inRegion ops l=>
    obtain ⟨rfl,hc⟩:=hx
    cases l with
    | nil=>
     simp only [AFr.finish,hta,Frame.finish,htf]
     exact ⟨htm,.cons ⟨rfl,hc⟩ hk⟩
    | cons i l=>
     simp only [AFr.finish,hta,Frame.finish,htf]
     refine ⟨?_,.cons ⟨rfl,hc⟩ hk⟩
     cases ho:ops[i]? with
     | none=>
      have:ops.toList[i]? =none:=by simpa using ho
      rw [this]
      exact htm
     | some o=>
      have:ops.toList[i]? =some o:=by simpa using ho
      rw [this]
      simp only [Option.bind_some]
      cases o.dst with
      | none=>exact htm
      | some d=>exact htm.set hv
   | _=>exact hx.elim
theorem Gv (a:AFr) (v:Value):(a.finish v).fn=a.fn∧(a.finish v).mode=a.mode∧(a.finish v).dr=a.dr:=by
 unfold AFr.finish
 split <;> exact ⟨rfl,rfl,rfl⟩
theorem Q5 (f:Frame) (v:Value):(f.finish v).fn=f.fn∧(f.finish v).kind=f.kind∧(f.finish v).mode=f.mode∧(f.finish v).roundOf=f.roundOf∧(f.finish v).defers=f.defers:=by
 unfold Frame.finish
 split <;> exact ⟨rfl,rfl,rfl,rfl,rfl⟩
theorem O9.finish {a:AFr} {f:Frame} (h:O9 a f) (v v':Value):O9 (a.finish v) (f.finish v'):=by
 obtain ⟨a1,a2,a3⟩:=Gv a v
 obtain ⟨b1,b2,b3,b4,b5⟩:=Q5 f v'
 unfold O9
 rw [a1,a2,b1,b2,b3,b4,b5]
 exact h
theorem He.finish {m:Inj P} {A:AW} {lo hi hi':Nat} {a:AFr} {f:Frame} (r:He P X m A false lo hi a f) {v v':Value} (hv:AQ m v v') (hhi:hi≤hi'):He P X m A true lo hi' (a.finish v) (f.finish v'):=by
 refine ⟨r.core.finish v v',?_⟩
 cases r.body with
 | plain h tm todo=>
  obtain ⟨h1,h2⟩:=Uf tm todo hv
  exact .plain ((Gv a v).2.2.trans h) h1 h2
 | draw ops S C rl pl rest k k' h1 h2 h3 h4 h5 D=>
  obtain ⟨rfl,x,p',r',rfl,rfl,he⟩:=D.wait rfl
  have hplan:=D.plan
  cases hplan with
  | pure _ _ _ g1 g2=>rw [g2] at he;cases he
  | alloc _ _ _ g1 g2=>rw [g2] at he;cases he
  | effect _ _ p g1 g2 g3 g4 g5 g6=>
   obtain ⟨o,ho⟩:∃ o,ops.toList[x]? =some o:=⟨_,Ge g1⟩
   rw [I0 h3 ho v,JL h4 ho v']
   refine .draw ops (fun j=>S j∨j=x) (C ||| (1 <<< x)) (again ops.toList.length (D8 P ops.toList) C (nth (DO ops.toList []) x) ops.toList.length) p r' k k' h1 h2 rfl rfl h5 ?_
   cases hd:o.dst with
   | none=>
    refine D.effect g2 (by simpa using g1) g3 g4 g6 ho hhi rfl rfl (fun t _=>⟨rfl,rfl⟩) D.oob fun t ht=>?_
    rw [hd] at ht;cases ht
   | some d=>
    have hin:=D.inb x o d ho hd
    refine D.effect g2 (by simpa using g1) g3 g4 g6 ho hhi (Tm.IP _ _ _) (by simp) (fun t ht=>?_) (fun t ht=>?_) fun t ht=>?_
    ·have hne:t≠d:=fun e=>ht (by rw [hd,e])
     rw [Tm.Fe _ D.small,Ff (fun h=>hne h.1),Nv,Ff (fun h=>hne h.1)]
     exact ⟨rfl,rfl⟩
    ·rw [Tm.IP] at ht
     rw [Tm.Fe _ D.small,Ff (by omega)]
     exact D.oob t ht
    ·rw [hd] at ht
     cases ht
     rw [Tm.Fe _ D.small,if_pos ⟨rfl,hin⟩,Nv,if_pos ⟨rfl,by rw [D.size];exact hin⟩]
     exact hv
end
section
variable {P:Program} {X:Bx}
structure POk (P:Program):Prop where
 code:∀ (f:FuncId) (fn:Func) (c:Code),P.funcs[f]? =some fn→fn.body=some c→codeOk P c=true
 mixed:P.follows .mixedOrders=true
theorem KN:∀ (l:List Value) (tm:Tm) (i t:Nat),tm.sz < Ap→(Tm.fill tm i l).sz=tm.sz∧(Tm.fill tm i l).get t=if i≤t∧t < tm.sz then (match l[t - i]? with | some v=>v | none=>tm.get t) else tm.get t
 | [],tm,i,t,_=>by simp [Tm.fill]
 | v::r,tm,i,t,hs=>by
  have ih:=KN r (tm.set i v) (i+1) t (by rw [Tm.IP];exact hs)
  rw [Tm.IP] at ih
  refine ⟨ih.1,?_⟩
  show (Tm.fill (tm.set i v) (i+1) r).get t=_
  rw [ih.2,Tm.Fe tm hs]
  by_cases e:t=i
  ·subst e
   rw [Ff (by omega)]
   by_cases h:t < tm.sz
   ·simp [h]
   ·simp [h]
  ·have g:(if t=i∧i < tm.sz then v else tm.get t)=tm.get t:=Ff (fun h=>e h.1)
   rw [g]
   by_cases h:i+1≤t∧t < tm.sz
   ·rw [if_pos h,if_pos (by omega),show t - i=(t - (i+1))+1 by omega]
    rfl
   ·rw [Ff h,Ff (by omega)]
theorem VK {m:Inj P} {args args':List Value} (ha:AJ m args args') {n k:Nat} (hn:n < Ap) (hle:args.length≤n) (hk:k=n - args.length):
  EY m (Tm.fill ⟨n,.nil⟩ 0 args) (⟨args'⟩++Array.replicate k undef):=by
 have hl:=ha.length
 refine ⟨?_,?_,fun t=>?_⟩
 ·rw [(KN args ⟨n,.nil⟩ 0 0 hn).1]
  simp
  omega
 ·rw [(KN args ⟨n,.nil⟩ 0 0 hn).1];exact hn
 ·rw [(KN args ⟨n,.nil⟩ 0 t hn).2]
  have hnil:(⟨n,.nil⟩:Tm).get t=undef:=rfl
  rw [hnil,Array.getD_eq_getD_getElem?,Array.getElem?_append]
  simp only [Nat.zero_le,true_and,Nat.sub_zero,List.size_toArray]
  by_cases h:t < args.length
  ·rw [if_pos (show t < n by omega),if_pos (show t < args'.length by omega)]
   obtain ⟨v',h1,h2⟩:=ha.get (Ge h)
   rw [Ge h]
   simp only [List.getElem?_toArray,h1,Option.getD_some]
   exact h2
  ·rw [Ff (show ¬ t < args'.length by omega),List.getElem?_eq_none (by omega)]
   have:((Array.replicate k undef)[t - args'.length]?).getD undef=undef:=by
    simp only [Array.getElem?_replicate]
    split <;> rfl
   rw [this]
   simp only [ite_self]
   exact Ft m
theorem O1 (hP:POk P) {m:Inj P} {A:AW} {f:FuncId} {args args':List Value} {fr:AFr} (h:Gf P f args=some fr) (ha:AJ m args args') (lo hi:Nat):
  He P X m A true lo hi fr (Frame.enter P f ⟨args'⟩ .normal)∧fr.fn=f:=by
 unfold Gf at h
 split at h
 rotate_left
 ·cases h
 rename_i fn hf
 split at h
 rotate_left
 ·cases h
 rename_i c hb
 simp only at h
 have hl:=ha.length
 have hmax:(bif Nat.ble fn.ntmps args.length then args.length else fn.ntmps)=max fn.ntmps args.length:=by
  cases hc:Nat.ble fn.ntmps args.length with
  | true=>have:=Bt.1 hc;simp only [Ct];omega
  | false=>have:=BZ.1 hc;simp only [Cf];omega
 rw [hmax] at h
 cases hlt:Nat.blt (max fn.ntmps args.length) Ap with
 | false=>rw [hlt] at h;cases h
 | true=>
  rw [hlt,Ct,Oi] at h
  subst h
  have hlt:=AE.1 hlt
  refine ⟨⟨⟨rfl,rfl,rfl,rfl,rfl⟩,.plain rfl ?_ ?_⟩,rfl⟩
  ·simp only [Frame.enter,hf,Option.map_some,Option.getD_some]
   exact VK ha hlt (by omega) (by simp;omega)
  ·simp only [Frame.enter,hf,hb,Option.bind_some,Option.getD_some]
   exact .cons ⟨rfl,hP.code f fn c hf hb⟩ .nil
theorem Stk.inv {m:Inj P} {A:AW} {base hi:Nat} {c:AFr} {rest:List AFr} {l':List Frame} (s:Stk P X m A base hi (c::rest) l'):
  ∃ lo f r',l'=f::r'∧lo≤hi∧He P X m A false lo hi c f∧Stk P X m A base lo rest r':=by
 cases s with
 | cons lo _ _ f _ r' h r t=>exact ⟨lo,f,r',rfl,h,r,t⟩
theorem He.S0 {m:Inj P} {A:AW} {live:Bool} {lo hi:Nat} {a:AFr} {f:Frame} (r:He P X m A live lo hi a f) (hm:a.mode≠ .run):a.dr=false:=by
 cases r.body with
 | plain h tm todo=>exact h
 | draw ops S C rl pl rest k k' h1 h2=>exact absurd h2 hm
theorem He.Ld {m:Inj P} {A:AW} {live live':Bool} {lo hi hi':Nat} {a:AFr} {f:Frame} (r:He P X m A live lo hi a f) (hd:a.dr=false):He P X m A live' lo hi' a f:=by
 refine ⟨r.core,?_⟩
 cases r.body with
 | plain h tm todo=>exact .plain h tm todo
 | draw ops S C rl pl rest k k' h1=>rw [hd] at h1;cases h1
theorem Bot.finish {f0:FuncId} {x:AFr} {cs:List AFr} (h:Bot f0 (x::cs)) (v:Value):Bot f0 (x.finish v::cs):=by
 exact h.top (Gv x v).1
theorem O6 (hP:POk P) {f0:FuncId} {base lo:Nat} {m:Inj P} {A:AW} {w:World} {fr:AFr} {f:Frame} {cs:List AFr} {csW cs0:List Frame} {res:R AN} {s:Sem Next} {s':ASt}
  (hr:By P m A w res s) (hG:GOk m) (hlo:lo≤A.next) (ht:He P X m A false lo A.next fr f) (hs:Stk P X m A base lo cs csW) (hb:Bot f0 (fr::cs))
  (hn:∀ i A',res≠ .ok (.rangeNext i) A') (hout:Cj P fr cs res=.next s'):
  ∃ f' csW' w',answer P f (csW++cs0) (s.run P w)=some (f',csW'++cs0,w')∧∃ lo' m',EvL base m A w m' s'.w w'∧Ea P X f0 base lo' m' s' f' csW' w':=by
 have hbase:=hs.base
 cases res with
 | fail y=>cases hout
 | ok n A'=>
  have fin:∀ (v v':Value) (w':World) (m':Inj P),Ev m A w m' A' w'→AQ m' v v'→
    EvL base m A w m' A' w'∧Ea P X f0 base lo m' ⟨fr.finish v,cs,A'⟩ (f.finish v') csW w':=by
   intro v v' w' m' h2 h3
   exact ⟨h2.low (by omega),h2.rel,hG.mono h2.ext,by have:=h2.next;show lo≤A'.next;omega,(ht.mono h2.ext h2.same h2.next).finish h3 (Nl _),hs.mono h2.ext fun i hi=>h2.same i (by omega),hb.finish v⟩
  cases n with
  | value v=>
   obtain ⟨n',w',m',h1,h2,v',rfl,h3⟩:=hr
   simp only [Cj,Iq.next.injEq] at hout
   subst hout
   exact ⟨_,csW,w',by rw [h1];rfl,lo,m',fin v v' w' m' h2 h3⟩
  | skip=>
   obtain ⟨n',w',m',h1,h2,h3⟩:=hr
   have h3:n'=.skip:=h3
   subst h3
   simp only [Cj,Iq.next.injEq] at hout
   subst hout
   exact ⟨_,csW,w',by rw [h1];rfl,lo,m',fin undef undef w' m' h2 (Ft m')⟩
  | enter g args=>
   obtain ⟨n',w',m',h1,h2,args',rfl,h3⟩:=hr
   simp only [Cj] at hout
   split at hout
   rotate_left
   ·cases hout
   rename_i fr' he
   simp only [Iq.next.injEq] at hout
   subst hout
   refine ⟨_,f::csW,w',by rw [h1];rfl,A'.next,m',h2.low (by omega),h2.rel,hG.mono h2.ext,Nl _,(O1 hP he h3 A'.next A'.next).1,?_,hb.push⟩
   exact .cons lo A'.next fr f cs csW (by have:=h2.next;omega) (ht.mono h2.ext h2.same h2.next) (hs.mono h2.ext fun i hi=>h2.same i (by omega))
  | rangeNext i=>exact absurd rfl (hn i A')
end
section
variable {P:Program} {X:Bx} {f0:FuncId} {base lo:Nat} {m:Inj P} {A:AW} {w:World} {fr:AFr} {cs:List AFr} {f:Frame} {csW cs0:List Frame}
theorem Ea.LF {s:ASt} (h:Ea P X f0 base lo m s f csW w):base≤lo:=h.stk.base
theorem Ea.todo {s:ASt} {mach:Machine} {k k':List Item} (h:Ea P X f0 base lo m s f csW w) (hd:s.fr.dr=false) (hk:Cx (Je m) k k') (hs:Steps P mach (lone { f with todo:=k' } (csW++cs0) w)):
  Sim P X f0 base cs0 m s.w w mach ⟨{ s.fr with todo:=k },s.cs,s.w⟩:=by
 refine ⟨lo,m,_,csW,w,hs,.refl h.rel base,h.rel,h.glob,h.below,⟨h.top.core,?_⟩,h.stk,h.bot.top rfl⟩
 cases h.top.body with
 | plain h1 tm todo=>exact .plain h1 tm hk
 | draw ops S C rl pl rest j j' h1=>rw [hd] at h1;cases h1
theorem Ea.answer {s:ASt} {mach:Machine} {c:AFr} {rest:List AFr} (h:Ea P X f0 base lo m s f csW w) (hcs:s.cs=c::rest) {m':Inj P} {A':AW} {w':World} (hev:Ev m s.w w m' A' w') {v v':Value} (hv:AQ m' v v')
  (hs:∀ g l,csW=g::l→Steps P mach (lone (g.finish v') (l++cs0) w')):Sim P X f0 base cs0 m s.w w mach ⟨c.finish v,rest,A'⟩:=by
 have hstk:=h.stk
 rw [hcs] at hstk
 have hb:=h.bot
 rw [hcs] at hb
 obtain ⟨lo1,g,l,rfl,h1,h2,h3⟩:=hstk.inv
 have hlo:=h.below
 have hbase:=h.LF
 refine ⟨lo1,m',g.finish v',l,w',hs g l rfl,hev.low (by omega),hev.rel,h.glob.mono hev.ext,by have:=hev.next;show lo1≤A'.next;omega,?_,h3.mono hev.ext fun i hi=>hev.same i (by omega),(Bot.tail hb).finish v⟩
 exact (h2.mono (A':=A') hev.ext (fun i hi=>hev.same i (by omega)) (Nl lo)).finish hv (by have:=hev.next;show lo≤A'.next;omega)
theorem ON {s:ASt} (h:Ea P X f0 base lo m s f csW w) (hm:s.fr.mode=.run) (htf:f.todo=[]∨∃ k,f.todo=.code .ret::k) (hd:s.fr.dr=false):
  Sim P X f0 base cs0 m s.w w (lone f (csW++cs0) w) ⟨{ s.fr with mode:=.returning },s.cs,s.w⟩:=by
 have c:=h.top.core
 refine ⟨lo,m,_,csW,w,.one (Wv (c.2.2.1.trans hm) c.2.2.2.1 htf),.refl h.rel base,h.rel,h.glob,h.below,⟨⟨c.1,c.2.1,rfl,c.2.2.2⟩,?_⟩,h.stk,h.bot.top rfl⟩
 cases h.top.body with
 | plain h1 tm todo=>exact .plain h1 tm todo
 | draw ops S C rl pl rest k k' h1=>rw [hd] at h1;cases h1
end
section
variable {P:Program} {X:Bx} {f0:FuncId} {base lo:Nat} {m:Inj P} {A:AW} {w:World} {fr:AFr} {cs:List AFr} {f:Frame} {csW cs0:List Frame}
theorem NA {m:Inj P} (id:Nat):∀ {k k':List Item},Cx (Je m) k k'→(match Ih id k with | none=>exitTo id k'=none | some r=>∃ r',exitTo id k'=some r'∧Cx (Je m) r r')
 | _,_,.nil=>rfl
 | x::_,_,.cons h t=>by
  have ih:=NA id t
  cases x with
  | inBlock id'=>
   have h:_=_:=h
   subst h
   simp only [Ih,exitTo]
   cases hb:Nat.beq id' id with
   | true=>
    have:=beq_true.1 hb
    subst this
    simp only [Ct,beq_self_eq_true,if_true]
    exact ⟨_,rfl,t⟩
   | false=>
    have:=beq_false.1 hb
    simp only [Cf,beq_iff_eq,Ff this]
    exact ih
  | code c=>obtain ⟨rfl,_⟩:=h;exact ih
  | inLoop c=>obtain ⟨rfl,_⟩:=h;exact ih
  | inScope c=>obtain ⟨rfl,_⟩:=h;exact ih
  | inRegion ops l=>obtain ⟨rfl,_⟩:=h;exact ih
  | _=>exact h.elim
theorem Ea.L0 {s:ASt} (h:Ea P X f0 base lo m s f csW w) (hm:s.fr.mode=.run):f.mode=.run:=h.top.core.2.2.1.trans hm
theorem Ea.plain {s:ASt} (h:Ea P X f0 base lo m s f csW w) (hd:s.fr.dr=false):EY m s.fr.tm f.tmps∧Cx (Je m) s.fr.todo f.todo:=by
 cases h.top.body with
 | plain h1 tm todo=>exact ⟨tm,todo⟩
 | draw ops S C rl pl rest j j' h1=>rw [hd] at h1;cases h1
theorem Ma {i:Nat} {A':AW} {s':ASt}:Cj P fr cs (.ok (.rangeNext i) A')≠ .next s':=by
 intro h
 simp only [Cj,Bool.cond_eq_ite] at h
 repeat' split at h
 all_goals (cases h)
theorem Yu (hX:XOk P X) (hP:POk P) {s s':ASt} {ops:Array Oper} {i:Nat} {rest:List Nat} {k:List Item} (h:Ea P X f0 base lo m s f csW w) (hm:s.fr.mode=.run) (hd:s.fr.dr=false) (ht:s.fr.todo=.inRegion ops (i::rest)::k)
  (hout:(match ops.toList[i]? with
   | some o=>bif Bi ops s.fr.tm o then Cj P s.fr s.cs (AU P X s.fr.eval o s.w) else .next ⟨s.fr.finish undef,s.cs,s.w⟩
   | none=>.fail "no operation")=.next s'):Sim P X f0 base cs0 m s.w w (lone f (csW++cs0) w) s':=by
 obtain ⟨htm,htodo⟩:=h.plain hd
 rw [ht] at htodo
 generalize htf:f.todo=y at htodo
 cases htodo with
 | cons hx hk=>
  rename_i x' k'
  obtain ⟨rfl,hops⟩:=hx
  have hfm:=h.L0 hm
  have hw1:He P X m s.w false lo s.w.next s.fr f:=h.top.Ld hd
  split at hout
  rotate_left
  ·cases hout
  rename_i o ho
  have ho':ops[i]? =some o:=by simpa using ho
  have hwr:Region.wanted o (yielded ops f.tmps)=Bi ops s.fr.tm o:=HZ fun _ _ _ _ d _ _=>htm.val d
  cases hwa:Bi ops s.fr.tm o with
  | false=>
   rw [hwa] at hout hwr
   simp only [Cf,Iq.next.injEq] at hout
   subst hout
   refine ⟨lo,m,_,csW,w,.one (JZ hfm htf ho' hwr),.refl h.rel base,h.rel,h.glob,h.below,hw1.finish (Ft m) (Nl _),h.stk,h.bot.finish undef⟩
  | true=>
   rw [hwa] at hout hwr
   simp only [Ct] at hout
   have hoo:RU P o=true:=List.all_eq_true.1 hops o (List.mem_of_getElem? ho)
   have hrn:By P m s.w w (AU P X s.fr.eval o s.w) (execOp f.eval o):=by
    rw [CO,DR]
    exact GY hX h.rel fun x hx=>HO h.glob (List.all_eq_true.1 hoo x hx) fun t _=>htm.val t
   obtain ⟨f',csW',w',h1,lo',m',h2,h3⟩:=O6 (cs0:=cs0) hP hrn h.glob h.below hw1 h.stk h.bot (by
    intro j A' he
    rw [he] at hout
    exact absurd hout Ma) hout
   exact ⟨lo',m',f',csW',w',.one (P9 hfm htf ho' hwr h.top.core.2.2.2.1 h1),h2,h3⟩
end
section
variable {P:Program} {X:Bx} {f0:FuncId} {base lo:Nat} {m:Inj P} {A:AW} {w:World} {fr:AFr} {cs:List AFr} {f:Frame} {csW cs0:List Frame}
theorem Oa (hP:POk P) {s:ASt} {id:Nat} {ops:Array Oper} {k:List Item} {p:List Nat} (h:Ea P X f0 base lo m s f csW w) (hm:s.fr.mode=.run) (hd:s.fr.dr=false) (ht:s.fr.todo=.code (.region id ops true)::k)
  (hin:I7 s.fr.tm.sz ops.toList=true) (hp:M5 P ops.toList=some p):
  Sim P X f0 base cs0 m s.w w (lone f (csW++cs0) w) { s with fr:={ s.fr with todo:=.inRegion ops p::k,dr:=true } }:=by
 obtain ⟨htm,htodo⟩:=h.plain hd
 have hbase:=h.LF
 have hlo:=h.below
 rw [ht] at htodo
 generalize htf:f.todo=y at htodo
 cases htodo with
 | cons hx hk=>
  rename_i x' k'
  obtain ⟨rfl,hcode⟩:=hx
  have hfm:=h.L0 hm
  obtain ⟨t,hstep⟩:=X9 (P:=P) (cs:=csW++cs0) (w:=w) hfm htf
  have hsched:Region.schedule (P.follows .mixedOrders) ops t=Region.linearise .any ops t:=by simp [Region.schedule,hP.mixed]
  rw [hsched] at hstep
  have hev:=Ev.drawn h.rel (w.drawn+1) (Nat.le_succ _)
  have hso:=(M4 hp).1
  refine ⟨lo,m,_,csW,_,.one hstep,hev.low (by omega),hev.rel,h.glob,hlo,⟨h.top.core,?_⟩,h.stk.mono (.refl m) fun _ _=>rfl,h.bot.top rfl⟩
  exact .draw ops (fun _=>False) 0 [] p _ k k' rfl hm rfl rfl hk (BO.start htm hp hcode (L4 hin) (YB hso.back t))
theorem Rc (hX:XOk P X) {s:ASt} {ops:Array Oper} {S:Nat→Prop} {C:Nat} {rest:List Nat} {k k':List Item} (h:Ea P X f0 base lo m s f csW w) (hm:s.fr.mode=.run)
  (htf:f.todo=.inRegion ops rest::k') (hk:Cx (Je m) k k') (D:BO P X m s.w true lo s.w.next s.fr.tm f.tmps ops S C [] [] rest):
  Sim P X f0 base cs0 m s.w w (lone f (csW++cs0) w) ⟨{ s.fr with todo:=k,dr:=false },s.cs,s.w⟩:=by
 have hbase:=h.LF
 have hlo:=h.below
 have hfm:=h.L0 hm
 have hall:∀ i,i < ops.size→C.testBit i=true:=by
  intro i hi
  have:=D.plan
  cases this with
  | stop _ hh=>exact hh i (by simpa using hi)
 obtain ⟨S',tmps',rest',m',w',t1,t2,t3,t4⟩:=BO.MD hX (cs:=csW++cs0) (k:=k') none (Nl _) hlo rest h.glob h.rel D (fun i hi=>.inl (hall i hi)) (fun x hx=>by cases hx) hfm h.top.core.2.2.2.1 htf
 have t4:rest'=[]:=t4
 subst t4
 refine ⟨lo,m',_,csW,w',t1.trans (.one (Xl (k:=k') (by exact hfm) rfl)),t2.P5 hbase,t2.rel,h.glob.mono t2.ext,hlo,⟨h.top.core,?_⟩,
  h.stk.mono t2.ext t2.same,h.bot.top rfl⟩
 exact .plain rfl t3.done (hk.mono fun _ _ x=>x.mono)
theorem Sq (hX:XOk P X) (hP:POk P) {s s':ASt} {ops:Array Oper} {S:Nat→Prop} {C:Nat} {x:Nat} {q rest:List Nat} {k k':List Item} (h:Ea P X f0 base lo m s f csW w) (hm:s.fr.mode=.run) (hd:s.fr.dr=true)
  (ht:s.fr.todo=.inRegion ops (x::q)::k) (htf:f.todo=.inRegion ops rest::k') (hk:Cx (Je m) k k') (D:BO P X m s.w true lo s.w.next s.fr.tm f.tmps ops S C [] (x::q) rest)
  (hout:(match ops.toList[x]? with
   | some o=>bif Bi ops s.fr.tm o then Cj P s.fr s.cs (AU P X s.fr.eval o s.w) else .next ⟨s.fr.finish undef,s.cs,s.w⟩
   | none=>.fail "no operation")=.next s'):Sim P X f0 base cs0 m s.w w (lone f (csW++cs0) w) s':=by
 have hbase:=h.LF
 have hlo:=h.below
 have hfm:=h.L0 hm
 split at hout
 rotate_left
 ·cases hout
 rename_i o ho
 have hfinA:=fun v=>I0 ht ho v
 have hplan:=D.plan
 have ahead:∀ (d:Tmp) (v:Value) (A':AW) (p' rl':List Nat),o.dst=some d→q=rl'++p'→EvL lo m s.w w m A' w→BO P X m A' true lo A'.next (s.fr.tm.set d v) f.tmps ops S (C ||| (1 <<< x)) rl' p' rest→
   Sim P X f0 base cs0 m s.w w (lone f (csW++cs0) w) ⟨s.fr.finish v,s.cs,A'⟩:=by
  intro d v A' p' rl' hod hq hev D'
  refine ⟨lo,m,f,csW,w,.refl P _,hev.P5 hbase,hev.rel,h.glob,by have:=hev.next;show lo≤A'.next;omega,?_,h.stk.mono (.refl m) fun _ _=>rfl,h.bot.finish v⟩
  refine ⟨by
   obtain ⟨a1,a2,a3⟩:=Gv s.fr v
   unfold O9
   rw [a1,a2]
   exact h.top.core,?_⟩
  rw [hfinA v,hod]
  exact .draw ops S (C ||| (1 <<< x)) rl' p' rest k k' hd hm (by rw [hq]) htf hk D'
 cases hplan with
 | pure _ _ p g1 g2 g3 g4 g5 g6=>
  have hq:CT P o.op=true:=by
   cases hq:CT P o.op with
   | true=>rfl
   | false=>
    cases ha:EH o.op with
    | true=>rw [(Wd ho).2 ha] at g3;cases g3
    | false=>rw [(So ho).2 ⟨hq,ha⟩] at g2;cases g2
  obtain ⟨d,hod⟩:∃ d,o.dst=some d:=by
   cases hh:o.dst with
   | some d=>exact ⟨d,rfl⟩
   | none=>rw [D.slotsOk.dst x o ho hh] at g2;cases g2
  have hsz:=D.inb x o d ho hod
  have hself:∀ (v:Value) (t:Tmp),Dx ops.toList o t=true→(s.fr.tm.set d v).get t=s.fr.tm.get t:=by
   intro v t hl
   rw [Tm.Fe _ D.small,Ff]
   rintro ⟨rfl,_⟩
   rcases D.slotsOk.looks x o t ho hod x o ho hl with h | ⟨h,_⟩
   ·have:=Wb D.slotsOk.back x x g1 h
    omega
   ·rw [g2] at h;cases h
  have adv:∀ v,((Bi ops s.fr.tm o=false∧v=undef)∨(Bi ops s.fr.tm o=true∧∃ A',AU P X (BA s.fr.tm) o s.w=.ok (.value v) A'))→Sim P X f0 base cs0 m s.w w (lone f (csW++cs0) w) ⟨s.fr.finish v,s.cs,s.w⟩:=by
   intro v hv
   refine ahead d v s.w q [] hod rfl (.refl h.rel lo) ?_
   refine D.advance (by simpa using g1) g4 g2 g5 ho hod (Nl _) hlo (fun hh=>by rw [hq] at hh;cases hh) g6 (fun y hy=>by cases hy) fun j hj hs=>.inr ?_
   rw [M7] at hj
   by_cases e:j=x
   ·subst e
    intro o' d' ho' hd'
    rw [ho] at ho'
    cases ho'
    rw [hod] at hd'
    cases hd'
    rw [Dd (hself v),L2 (I2 (hself v)),Tm.Fe _ D.small,if_pos ⟨rfl,hsz⟩]
    rcases hv with ⟨h1,rfl⟩ | ⟨h1,h2⟩
    ·exact ⟨fun _=>rfl,fun hh=>by rw [h1] at hh;cases hh⟩
    ·exact ⟨fun hh=>by (rw [h1] at hh;cases hh),fun _=>⟨fun _=>h2,fun hh=>by rw [hq] at hh;cases hh⟩⟩
   ·exact D.T6 v g4 g2 ho hod (by simpa [e] using hj) hs
  cases hwa:Bi ops s.fr.tm o with
  | false=>
   rw [hwa] at hout
   simp only [Cf,Iq.next.injEq] at hout
   subst hout
   exact adv undef (.inl ⟨hwa,rfl⟩)
  | true=>
   rw [hwa] at hout
   simp only [Ct] at hout
   rw [CO] at hout
   cases he:AU P X (BA s.fr.tm) o s.w with
   | fail y=>rw [he] at hout;cases hout
   | ok n A'=>
    obtain ⟨rfl,v,rfl⟩:=Fz hq he
    rw [he] at hout
    simp only [Cj,Iq.next.injEq] at hout
    subst hout
    exact adv v (.inr ⟨hwa,_,he⟩)
 | alloc _ _ p g1 g2 g3 g4 g5 g6=>
  have hal:=(Wd ho).1 g3
  have hq:CT P o.op=false:=Qw hal
  obtain ⟨d,hod⟩:∃ d,o.dst=some d:=by
   cases hh:o.dst with
   | some d=>exact ⟨d,rfl⟩
   | none=>rw [D.slotsOk.dst x o ho hh] at g2;cases g2
  have adv:∀ v A',EvL lo m s.w w m A' w→s.w.next≤A'.next→(Bi ops s.fr.tm o=true→∃ b,Nr v=some b∧m b=none∧s.w.next≤b∧b < A'.next)→Sim P X f0 base cs0 m s.w w (lone f (csW++cs0) w) ⟨s.fr.finish v,s.cs,A'⟩:=by
   intro v A' hev hnx hg
   refine ahead d v A' p _ hod rfl hev ?_
   refine D.advance (by simpa using g1) g4 g2 g5 ho hod hnx hlo (fun _=>hg) g6 (fun y hy=>?_) fun j hj hs=>.inl ?_
   ·obtain ⟨i,_,rfl,_⟩:=(HS _ _ _ _ _ y).1 hy
    simp
   ·refine (HS _ _ _ _ _ _).2 ⟨j,?_,by simp,hj,?_,by simp⟩
    ·rw [M7] at hj
     by_cases e:j=x
     ·subst e;exact g1
     ·simpa using D.bits j (by simpa [e] using hj)
    ·cases hh:(D8 P ops.toList).testBit j with
     | false=>rfl
     | true=>
      rw [M7] at hj
      by_cases e:j=x
      ·subst e;rw [g2] at hh;cases hh
      ·exact absurd (D.effs j (by simpa [e] using hj) hh) hs
  cases hwa:Bi ops s.fr.tm o with
  | false=>
   rw [hwa] at hout
   simp only [Cf,Iq.next.injEq] at hout
   subst hout
   exact adv undef s.w (.refl h.rel lo) (Nl _) fun hh=>by rw [hwa] at hh;cases hh
  | true=>
   rw [hwa] at hout
   simp only [Ct] at hout
   rw [CO] at hout
   cases he:AU P X (BA s.fr.tm) o s.w with
   | fail y=>rw [he] at hout;cases hout
   | ok n A'=>
    obtain ⟨v,ob,b,rfl,h1,h2,h3⟩:=NT hal he
    rw [he] at hout
    simp only [Cj,Iq.next.injEq] at hout
    subst hout
    obtain ⟨q1,q2,q3,q4,q5⟩:=h.rel.Gj h1 h2
    exact adv v A' (EvL.Gj h.rel h1 h2 lo) (by omega) fun _=>⟨b,h3,q4,by omega,by omega⟩
 | effect _ _ p g1 g2 g3 g4 g5 g6=>
  obtain ⟨S',tmps',rest',m1,w1,t1,t2,t3,r,t4⟩:=BO.MD hX (cs:=csW++cs0) (k:=k') (some x) (Nl _) hlo rest h.glob h.rel D (fun i hi=>by
   rcases g5 i (by simpa using hi) with hh | rfl | hh
   ·exact .inl hh
   ·exact .inr (.inl ⟨rfl,fun hs=>by rw [D.sub i hs] at g3;cases g3⟩)
   ·exact .inr (.inr ⟨x,rfl,hh⟩)) (fun y hy=>by cases hy;exact ⟨by simpa using g1,g3⟩) hfm h.top.core.2.2.2.1 htf
  subst t4
  obtain ⟨_,_,hanc,_⟩:=t3.lin
  have hG1:=h.glob.mono t2.ext
  have hops:=t3.operands hG1 hanc ho
  have hwr:=t3.wanted hanc ho
  have hW:He P X m1 s.w false lo s.w.next s.fr { f with tmps:=tmps',todo:=.inRegion ops (x::r)::k' }:=by
   refine ⟨h.top.core,?_⟩
   exact .draw ops S' C [] _ (x::r) k k' hd hm ht rfl (hk.mono fun _ _ x=>x.mono) (t3.RA g2 _ (Nl _))
  have hstk:=h.stk.mono (A':=s.w) t2.ext t2.same
  have ho':ops[x]? =some o:=by simpa using ho
  cases hwa:Bi ops s.fr.tm o with
  | false=>
   rw [hwa] at hout hwr
   simp only [Cf,Iq.next.injEq] at hout
   subst hout
   exact ⟨lo,m1,_,csW,w1,t1.trans (.one (JZ (by exact hfm) rfl ho' hwr)),t2.P5 hbase,t2.rel,hG1,hlo,hW.finish (Ft m1) (Nl _),hstk,h.bot.finish undef⟩
  | true=>
   rw [hwa] at hout hwr
   simp only [Ct] at hout
   have hrn:By P m1 s.w w1 (AU P X s.fr.eval o s.w) (execOp (evalW tmps') o):=by
    rw [CO]
    exact GY hX t2.rel hops
   obtain ⟨f',csW',w',h1,lo',m',h2,h3⟩:=O6 (cs0:=cs0) hP hrn hG1 hlo hW hstk h.bot (by
    intro j A' he
    rw [he] at hout
    exact absurd hout Ma) hout
   refine ⟨lo',m',f',csW',w',t1.trans (.one (P9 (by exact hfm) rfl ho' hwr h.top.core.2.2.2.1 ?_)),(t2.P5 hbase).trans h2,h3⟩
   rw [← h1,DR]
end
section
variable {P:Program} {X:Bx} {f0:FuncId} {base lo:Nat} {m:Inj P} {A:AW} {w:World} {fr:AFr} {cs:List AFr} {f:Frame} {csW cs0:List Frame}
def Vk (tmps:Array Value):ResultVar→Sem Value
 | .tmp t=>pure (tmps.getD t undef)
 | .cell a t=>do loadVar t (← asAddr (tmps.getD a undef))
def TS (P:Program) (A:AW) (tm:Tm):ResultVar→Option Value
 | .tmp t=>some (tm.get t)
 | .cell a t=>(match tm.get a with | .pointer (some a)=>EA P A t a | _=>none)
theorem RI (fn:Func) (tmps:Array Value):results fn tmps=(do let vs ← fn.results.mapM (Vk tmps);pure (if h:vs.size=1 then vs[0] else .tuple vs)):=by
 unfold results
 congr 1
theorem Qr (fn:Func) (tm:Tm):CW P A fn tm=(match CW.go (TS P A tm) fn.results.toList with | some [v]=>some v | some l=>some (.tuple ⟨l⟩) | none=>none):=by
 unfold CW
 simp only
 have:(fun x=>match x with | .tmp t=>some (tm.get t) | .cell a t=>(match tm.get a with | .pointer (some a)=>EA P A t a | _=>none):ResultVar→Option Value)=TS P A tm:=by
  funext x
  cases x <;> rfl
 rw [← this]
 rfl
theorem RV (r:Rel m A w) {tm:Tm} {tmps:Array Value} (ht:EY m tm tmps) {x:ResultVar} {v:Value} (h:TS P A tm x=some v):∃ v',(Vk tmps x).run P w=.ok v' w∧AQ m v v':=by
 cases x with
 | tmp t=>
  simp only [TS,Oi] at h
  subst h
  exact ⟨_,rfl,ht.val t⟩
 | cell a t=>
  simp only [TS] at h
  have hv:=ht.val a
  generalize tm.get a=y at h hv
  split at h
  ·generalize hq:tmps.getD a undef=z at hv
   cases hv with
   | ptr ha=>
    obtain ⟨v',h1,h2⟩:=JI r h ha
    refine ⟨v',?_,h2⟩
    simp only [Vk,hq,Sem.run_bind,asAddr,Sem.run_pure,Result.andThen_ok]
    exact h1
  ·cases h
theorem Kc (r:Rel m A w) {tm:Tm} {tmps:Array Value} (ht:EY m tm tmps):∀ {l:List ResultVar} {vs:List Value},CW.go (TS P A tm) l=some vs→
  ∃ vs',(l.mapM (Vk tmps)).run P w=.ok vs' w∧AJ m vs vs'
 | [],vs,h=>by
  simp only [CW.go,Oi] at h
  subst h
  exact ⟨[],by simp,.nil⟩
 | x::l,vs,h=>by
  simp only [CW.go] at h
  split at h
  ·rename_i v vs1 h1 h2
   simp only [Oi] at h
   subst h
   obtain ⟨v',g1,g2⟩:=RV r ht h1
   obtain ⟨vs',g3,g4⟩:=Kc r ht h2
   refine ⟨v'::vs',?_,.cons g2 g4⟩
   simp only [List.mapM_cons,Sem.run_bind,g1,Result.andThen_ok,g3,Sem.run_pure]
  ·cases h
theorem JD (r:Rel m A w) {fn:Func} {tm:Tm} {tmps:Array Value} (ht:EY m tm tmps) {v:Value} (h:CW P A fn tm=some v):∃ v',(results fn tmps).run P w=.ok v' w∧AQ m v v':=by
 rw [Qr] at h
 have key:∀ vs',(fn.results.toList.mapM (Vk tmps)).run P w=.ok vs' w→(results fn tmps).run P w=.ok (if h:vs'.length=1 then vs'[0] else .tuple ⟨vs'⟩) w:=by
  intro vs' hv
  rw [RI,Array.mapM_eq_mapM_toList]
  simp only [Sem.run_bind,map_eq_pure_bind,hv,Result.andThen_ok,Sem.run_pure]
  simp
 split at h
 ·rename_i u hg
  simp only [Oi] at h
  subst h
  obtain ⟨vs',g1,g2⟩:=Kc r ht hg
  cases g2 with
  | cons hv hn=>
   cases hn
   exact ⟨_,key _ g1,hv⟩
 ·rename_i l hne hg
  simp only [Oi] at h
  subst h
  obtain ⟨vs',g1,g2⟩:=Kc r ht hg
  have hl:=g2.length
  refine ⟨_,key _ g1,?_⟩
  rw [dif_neg]
  ·exact .tuple g2
  ·intro h1
   rw [hl] at h1
   obtain ⟨u,rfl⟩:=List.length_eq_one_iff.1 h1
   exact hne u rfl
 ·cases h
theorem RH {s:ASt} {fn:Func} {v:Value} (h:Ea P X f0 base lo m s f csW w) (hm:s.fr.mode=.returning) (hf:P.funcs[s.fr.fn]? =some fn) (hr:CW P s.w fn s.fr.tm=some v)
  {c:AFr} {rest:List AFr} (hcs:s.cs=c::rest):Sim P X f0 base cs0 m s.w w (lone f (csW++cs0) w) ⟨c.finish v,rest,s.w⟩:=by
 obtain ⟨htm,_⟩:=h.plain (h.top.S0 (by rw [hm];simp))
 obtain ⟨v',g1,g2⟩:=JD h.rel htm hr
 have k:=h.top.core
 exact h.answer hcs (.refl h.rel) g2 fun g l hl=>by
  subst hl
  exact .one (UI (k.2.2.1.trans hm) k.2.2.2.2 (by rw [k.1];exact hf) g1 k.2.1)
end
section
variable {P:Program} {X:Bx} {f0:FuncId} {base lo:Nat} {m:Inj P} {A:AW} {w:World} {fr:AFr} {cs:List AFr} {f:Frame} {csW cs0:List Frame}
def Fi (es:List MapEntry) (seen:List Nat) (since:Nat):List (Option MapEntry):=
 let left:=es.filter fun e=>!seen.contains e.born
 let old:=left.filter fun e=>Nat.blt e.born since
 let new:=left.filter fun e=>Nat.ble since e.born
 (if old.isEmpty then [none] else [])++(old++new).map some
theorem Cx.filter {m:Inj P} {p:MapEntry→Bool} (hp:∀ a b:MapEntry,a.born=b.born→p a=p b):∀ {l l':List MapEntry},Cx (Hf m) l l'→Cx (Hf m) (l.filter p) (l'.filter p)
 | _,_,.nil=>.nil
 | a::l,b::l',.cons h t=>by
  have ih:=Cx.filter hp t
  have he:p b=p a:=hp b a h.born
  simp only [List.filter_cons,he]
  cases p a with
  | false=>exact ih
  | true=>exact .cons h ih
def Y9 (m:Inj P):Option MapEntry→Option MapEntry→Prop
 | none,none=>True
 | some e,some e'=>Hf m e e'
 | _,_=>False
theorem Cx.S8 {m:Inj P}:∀ {l l':List MapEntry},Cx (Hf m) l l'→Cx (Y9 m) (l.map some) (l'.map some)
 | _,_,.nil=>.nil
 | _,_,.cons h t=>.cons h (Cx.S8 t)
theorem Ux {m:Inj P} {es es':List MapEntry} (h:Cx (Hf m) es es') (seen:List Nat) (since:Nat):Cx (Y9 m) (Fi es seen since) (Fi es' seen since):=by
 have h1:=Cx.filter (p:=fun e=>!seen.contains e.born) (fun a b e=>by simp only [e]) h
 have h2:=Cx.filter (p:=fun e=>Nat.blt e.born since) (fun a b e=>by simp only [e]) h1
 have h3:=Cx.filter (p:=fun e=>Nat.ble since e.born) (fun a b e=>by simp only [e]) h1
 unfold Fi
 simp only
 refine Cx.append ?_ (Cx.S8 (h2.append h3))
 have hl:=h2.length
 generalize (es.filter fun e=>!seen.contains e.born).filter (fun e=>Nat.blt e.born since)=a at hl
 generalize (es'.filter fun e=>!seen.contains e.born).filter (fun e=>Nat.blt e.born since)=b at hl
 cases a with
 | nil=>
  cases b with
  | nil=>exact .cons trivial .nil
  | cons=>simp at hl
 | cons x a=>
  cases b with
  | nil=>simp at hl
  | cons y b=>exact .nil
theorem Rp {m:Inj P} {p:Nat→Bool}:∀ {l l':List MapEntry},Cx (Hf m) l l'→(l'.all fun e=>p e.born)=(l.all fun e=>p e.born)
 | _,_,.nil=>rfl
 | _,_,.cons h t=>by simp only [List.all_cons,Rp t,h.born]
theorem SH (p:MapEntry→Bool) (l:List MapEntry):(⟨l⟩:Array MapEntry).filter p=⟨l.filter p⟩:=by simp
theorem Uy (es:List MapEntry) (seen:List Nat) (since:Nat):
  ((if (((⟨es⟩:Array MapEntry).filter fun e=>!(⟨seen⟩:Array Nat).contains e.born).filter (·.born < since)).isEmpty then #[none] else #[])++
   ((((⟨es⟩:Array MapEntry).filter fun e=>!(⟨seen⟩:Array Nat).contains e.born).filter (·.born < since))++(((⟨es⟩:Array MapEntry).filter fun e=>!(⟨seen⟩:Array Nat).contains e.born).filter (·.born≥since))).map some:Array (Option MapEntry))=⟨Fi es seen since⟩:=by
 have e1:(fun e:MapEntry=>decide (e.born < since))=fun e=>Nat.blt e.born since:=by
  funext e
  cases h:Nat.blt e.born since with
  | true=>have:=AE.1 h;simpa using this
  | false=>have:=GG.1 h;simpa using this
 have e2:(fun e:MapEntry=>decide (e.born≥since))=fun e=>Nat.ble since e.born:=by
  funext e
  cases h:Nat.ble since e.born with
  | true=>have:=Bt.1 h;simpa using this
  | false=>have:=BZ.1 h;simpa using this
 rw [e1,e2]
 unfold Fi
 simp only [List.contains_toArray,SH]
 generalize ((es.filter fun e=>!seen.contains e.born).filter fun e=>Nat.blt e.born since)=a
 generalize ((es.filter fun e=>!seen.contains e.born).filter fun e=>Nat.ble since e.born)=b
 cases a with
 | nil=>simp
 | cons x a=>simp
theorem N2 (r:Rel m A w) {i mm since last clock:Nat} {seen:List Nat} {es:List MapEntry} {ro:Bool} {x':Value} {ty:TypeId} {a:Addr} (ha:a.block=i∧a.off=0) (hx:AQ m (.pointer (some a)) x')
  (hg:A.get i=some (.mit (some mm) since seen last)) (hgm:A.get mm=some (.map es clock ro)) (hcond:(!seen.isEmpty&&!es.isEmpty&&es.all (fun e=>Nat.ble last e.born))=false):
  ∃ c∈Fi es seen since,∃ v' w',(Instr.next x' false ty).run P w=.ok v' w'∧(match c with
   | some e=>Ev m A w m (A.put i (.mit (some mm) since (seen++[e.born]) clock)) w'∧AQ m (.tuple #[.bool true,e.key,e.val]) v'
   | none=>Ev m A w m A w'∧AQ m (.tuple #[.bool false]) v'):=by
 obtain ⟨ab,ao,aS⟩:=a
 obtain ⟨rfl,rfl⟩:=ha
 cases hx with
 | ptr har=>
  rename_i a'
  obtain ⟨h1,h2,d,h3,h4⟩:=har
  simp only at h1 h3 h4
  obtain ⟨c0,d0,o',g1,g2,g3⟩:=r.GR hg h3
  rw [h3] at g1
  simp only [Oi,Pj] at g1
  obtain ⟨rfl,rfl⟩:=g1
  obtain ⟨rfl,r',rfl,hmm⟩:=g3
  obtain ⟨c1,d1,o1,k1,k2,k3,es',rfl,hes⟩:=r.GR hgm hmm
  rw [hmm] at k1
  simp only [Oi,Pj] at k1
  obtain ⟨rfl,_⟩:=k1
  obtain ⟨b',o',s'⟩:=a'
  simp only at h2 h4 g2
  subst h2
  simp only [Nat.add_zero] at h4
  subst h4
  have hcr:=Ux hes seen since
  have hlen:=hcr.length
  have hpos:0 < (Fi es' seen since).length:=by
   unfold Fi
   simp only
   split
   ·simp
   ·rename_i hne
    simp only [List.nil_append,List.length_map,Lq]
    have:((es'.filter fun e=>!seen.contains e.born).filter fun e=>Nat.blt e.born since).length≠0:=fun h0=>hne (by simpa using List.eq_nil_of_length_eq_zero h0)
    omega
  have hch:∃ (j:Nat) (n:Nat),j < (Fi es' seen since).length∧w.drawn≤n∧(choose (Question.mapNext (Fi es' seen since).length)).run P w=.ok j { w with drawn:=n }:=by
   by_cases hf:(Fi es' seen since).length≤1
   ·exact ⟨0,w.drawn,hpos,Nl _,by simp [choose,Sem.run,Question.forced,hf]⟩
   ·exact ⟨_,w.drawn+1,Nat.mod_lt _ hpos,Nat.le_succ _,by
     simp only [choose,Sem.run,Question.forced,decide_eq_true_eq,hf,if_false,Question.cut]
     rfl⟩
  obtain ⟨j,n,hj,hdn,hrun⟩:=hch
  obtain ⟨c,hc,hcc⟩:∃ c,(Fi es seen since)[j]? =some c∧∃ c',(Fi es' seen since)[j]? =some c'∧Y9 m c c':=by
   have hj2:j < (Fi es seen since).length:=by omega
   obtain ⟨c',h1,h2⟩:=hcr.get (Ge hj2)
   exact ⟨_,Ge hj2,c',h1,h2⟩
  obtain ⟨c',hc',hrel⟩:=hcc
  have hcond':(!(⟨seen⟩:Array Nat).isEmpty&&!(⟨es'⟩:Array MapEntry).isEmpty&&(⟨es'⟩:Array MapEntry).all (·.born≥last))=false:=by
   have e1:(fun e:MapEntry=>decide (e.born≥last))=fun e=>Nat.ble last e.born:=by
    funext e
    cases h:Nat.ble last e.born with
    | true=>have:=Bt.1 h;simpa using this
    | false=>have:=BZ.1 h;simpa using this
   rw [e1,List.isEmpty_toArray,List.isEmpty_toArray,List.all_toArray,isEmpty_eq hes]
   rw [Rp (p:=fun b=>Nat.ble last b) hes]
   exact hcond
  have hd:Ev m A w m A { w with drawn:=n }:=Ev.drawn r n hdn
  have hnext:∀ (res:Result Value),(match (⟨Fi es' seen since⟩:Array (Option MapEntry))[j]? with
    | some (some e)=>(do setObj b' (.mapIter (some r') since ((⟨seen⟩:Array Nat).push e.born) clock);pure (.tuple #[.bool true,e.key,e.val]):Sem Value)
    | some none=>pure (.tuple #[.bool false])
    | none=>stuck "Next: no such candidate").run P { w with drawn:=n }=res→
    (Instr.next (.pointer (some ⟨b',0,none⟩)) false ty).run P w=res:=by
   intro res hres
   rw [← hres]
   simp only [Instr.next,Sem.run_bind,B7 P w b' _ g2 (by simp),Result.andThen_ok,B7 P w r' _ k2 (by simp),hcond',Bool.false_eq_true,if_false]
   rw [Uy]
   simp only [List.size_toArray,hrun,Result.andThen_ok]
   rfl
  have hc'':(⟨Fi es' seen since⟩:Array (Option MapEntry))[j]? =some c':=by simpa using hc'
  refine ⟨c,List.mem_of_getElem? hc,?_⟩
  rw [hc''] at hnext
  cases c with
  | none=>
   cases c' with
   | some e=>exact hrel.elim
   | none=>exact ⟨_,_,hnext _ rfl,hd,.tuple (.cons (.bool false) .nil)⟩
  | some e=>
   cases c' with
   | none=>exact hrel.elim
   | some e'=>
    have hrel:Hf m e e':=hrel
    refine ⟨_,_,hnext _ ?_,hd.trans (Ev.Pq hd.rel hg rfl rfl h3 (by exact g2) (o2:=.mit (some mm) since (seen++[e.born]) clock) (o2':=.mapIter (some r') since ((⟨seen⟩:Array Nat).push e'.born) clock) ⟨rfl,r',?_,hmm⟩ rfl rfl),.tuple (.cons (.bool true) (.cons hrel.key (.cons hrel.val .nil)))⟩
    ·simp only [Sem.run_bind,FL P _ b' _ _ (show ({ w with drawn:=n }:World).heap[b']? =_ from g2) (by simp),Result.andThen_ok,Sem.run_pure]
    ·rw [hrel.born]
     simp
end
section
variable {P:Program} {X:Bx} {f0:FuncId} {base lo:Nat} {m:Inj P} {A:AW} {w:World} {fr:AFr} {cs:List AFr} {f:Frame} {csW cs0:List Frame}
theorem LA {g:FuncId} {args:List Value} {i:Nat} {A':AW}:B4 P X A g args≠ .ok (.rangeNext i) A':=by
 intro h
 unfold B4 at h
 simp only [Bool.cond_eq_ite] at h
 repeat' split at h
 all_goals (cases h)
theorem Mw {b:Builtin} {ts:List TypeId} {ty:TypeId} {args:List Value} {i:Nat} {A':AW}:Cn P A b ts ty args≠ .ok (.rangeNext i) A':=by
 intro h
 unfold Cn at h
 simp only [Bool.cond_eq_ite] at h
 repeat' split at h
 all_goals (cases h)
theorem Np {t:Target} {args:List Value} {i:Nat} {A':AW}:Eg P X A t args≠ .ok (.rangeNext i) A':=by
 intro h
 unfold Eg at h
 repeat' split at h
 all_goals first | (cases h;done) | exact LA h | exact Mw h
theorem GZ {ρ:Operand→Value} {o:Oper} {i:Nat} {A':AW} (h:AU P X ρ o A=.ok (.rangeNext i) A'):
  ∃ it a,o.op=.next it false∧ρ it=.pointer (some a)∧a.block=i∧a.off=0∧A'=A:=by
 obtain ⟨dst,op,type,pos,after,guard⟩:=o
 cases op
 case next it isS=>
  unfold AU It at h
  simp only [Bool.cond_eq_ite] at h
  repeat' split at h
  all_goals first | (cases h;done) | skip
  rename_i hit _ _ _ _ _ _ _
  cases h
  exact ⟨it,_,rfl,hit,rfl,rfl,rfl⟩
 case call c=>
  unfold AU at h
  simp only at h
  split at h
  ·exact absurd h Np
  ·cases h
 all_goals
  exfalso
  unfold AU at h
  simp only at h
  repeat' split at h
  all_goals (cases h)
theorem NQ {fr:AFr} {f:Frame} {ρ ρ':Operand→Value} {o:Oper} {i:Nat} {A':AW} {l:List ASt} (hr:Rel m A w) (hρ:∀ x∈o.op.operands.toList,AQ m (ρ x) (ρ' x)) (hG:GOk m) (hlo:lo≤A.next)
  (ht:He P X m A false lo A.next fr f) (hs:Stk P X m A base lo cs csW) (hb:Bot f0 (fr::cs)) (he:AU P X ρ o A=.ok (.rangeNext i) A') (hout:Cj P fr cs (.ok (.rangeNext i) A')=.branch l):
  ∃ s'∈l,∃ v' w',(execOp ρ' o).run P w=.ok (.value v') w'∧EvL base m A w m s'.w w'∧Ea P X f0 base lo m s' (f.finish v') csW w':=by
 have hbase:=hs.base
 obtain ⟨it,a,hop,hit,hab,hao,rfl⟩:=GZ he
 simp only [Cj] at hout
 split at hout
 rotate_left
 ·cases hout
 rename_i mm since seen last hg
 split at hout
 rotate_left
 ·cases hout
 rename_i es clock ro hgm
 cases hcond:(!seen.isEmpty&&!es.isEmpty&&es.all (fun e=>Nat.ble last e.born)) with
 | true=>rw [hcond] at hout;cases hout
 | false=>
  rw [hcond] at hout
  simp only [Cf,Iq.branch.injEq] at hout
  have hx:=hρ it (by rw [hop];simp [Op.operands])
  rw [hit] at hx
  obtain ⟨c,hc,v',w',h1,h2⟩:=N2 (ty:=o.type) hr ⟨hab,hao⟩ hx hg hgm hcond
  have hrun:(execOp ρ' o).run P w=.ok (.value v') w':=by
   have:execOp ρ' o=(do pure (.value (← Instr.next (ρ' it) false o.type))):=by
    obtain ⟨dst,op,type,pos,after,guard⟩:=o
    simp only at hop
    subst hop
    rfl
   rw [this,Sem.run_bind,h1,Result.andThen_ok,Sem.run_pure]
  have hl:l=(Fi es seen since).map fun c=>match c with
    | some e=>⟨fr.finish (.tuple #[.bool true,e.key,e.val]),cs,A'.put i (.mit (some mm) since (seen++[e.born]) clock)⟩
    | none=>⟨fr.finish (.tuple #[.bool false]),cs,A'⟩:=hout.symm
  subst hl
  refine ⟨_,List.mem_map.2 ⟨c,hc,rfl⟩,v',w',hrun,?_⟩
  cases c with
  | none=>
   obtain ⟨g1,g2⟩:=h2
   exact ⟨g1.low (by omega),g1.rel,hG,hlo,(ht.mono (.refl m) (fun _ _=>rfl) (Nl _)).finish g2 (Nl _),hs.mono (.refl m) fun _ _=>rfl,hb.finish _⟩
  | some e=>
   obtain ⟨g1,g2⟩:=h2
   exact ⟨g1.low (by omega),g1.rel,hG,hlo,(ht.mono (.refl m) (fun _ _=>rfl) g1.next).finish g2 (Nl _),hs.mono (.refl m) fun _ _=>rfl,hb.finish _⟩
theorem KV {r:R AN} {l:List ASt} (h:Cj P fr cs r=.branch l):∃ j A',r=.ok (.rangeNext j) A':=by
 cases r with
 | fail y=>cases h
 | ok n A'=>
  cases n with
  | rangeNext j=>exact ⟨j,A',rfl⟩
  | enter g args=>simp only [Cj] at h;split at h <;> cases h
  | _=>cases h
theorem TR {s:ASt} {l:List ASt} {ops:Array Oper} {i:Nat} {rest:List Nat} {k:List Item} (h:Ea P X f0 base lo m s f csW w) (hm:s.fr.mode=.run) (hd:s.fr.dr=false) (ht:s.fr.todo=.inRegion ops (i::rest)::k)
  (hout:(match ops.toList[i]? with
   | some o=>bif Bi ops s.fr.tm o then Cj P s.fr s.cs (AU P X s.fr.eval o s.w) else .next ⟨s.fr.finish undef,s.cs,s.w⟩
   | none=>.fail "no operation")=.branch l):∃ s'∈l,Sim P X f0 base cs0 m s.w w (lone f (csW++cs0) w) s':=by
 obtain ⟨htm,htodo⟩:=h.plain hd
 rw [ht] at htodo
 generalize htf:f.todo=y at htodo
 cases htodo with
 | cons hx hk=>
  rename_i x' k'
  obtain ⟨rfl,hops⟩:=hx
  have hfm:=h.L0 hm
  have hw1:He P X m s.w false lo s.w.next s.fr f:=h.top.Ld hd
  split at hout
  rotate_left
  ·cases hout
  rename_i o ho
  have ho':ops[i]? =some o:=by simpa using ho
  have hwr:Region.wanted o (yielded ops f.tmps)=Bi ops s.fr.tm o:=HZ fun _ _ _ _ d _ _=>htm.val d
  cases hwa:Bi ops s.fr.tm o with
  | false=>rw [hwa] at hout;cases hout
  | true=>
   rw [hwa] at hout hwr
   simp only [Ct] at hout
   have hoo:RU P o=true:=List.all_eq_true.1 hops o (List.mem_of_getElem? ho)
   have hρ:∀ x∈o.op.operands.toList,AQ m (s.fr.eval x) (f.eval x):=by
    intro x hx
    rw [CO,DR]
    exact HO h.glob (List.all_eq_true.1 hoo x hx) fun t _=>htm.val t
   have hex:=KV hout
   obtain ⟨j,A',he⟩:=hex
   rw [he] at hout
   obtain ⟨s',hs',v',w',h1,h2,h3⟩:=NQ h.rel hρ h.glob h.below hw1 h.stk h.bot he hout
   obtain ⟨it,_,hop,_⟩:=GZ he
   refine ⟨s',hs',lo,m,_,csW,w',.one (P9 hfm htf ho' hwr h.top.core.2.2.2.1 (by rw [h1];rfl)),h2,h3⟩
theorem Ob (hX:XOk P X) {s:ASt} {l:List ASt} {ops:Array Oper} {S:Nat→Prop} {C:Nat} {x:Nat} {q rest:List Nat} {k k':List Item} (h:Ea P X f0 base lo m s f csW w) (hm:s.fr.mode=.run) (hd:s.fr.dr=true)
  (ht:s.fr.todo=.inRegion ops (x::q)::k) (htf:f.todo=.inRegion ops rest::k') (hk:Cx (Je m) k k') (D:BO P X m s.w true lo s.w.next s.fr.tm f.tmps ops S C [] (x::q) rest)
  (hout:(match ops.toList[x]? with
   | some o=>bif Bi ops s.fr.tm o then Cj P s.fr s.cs (AU P X s.fr.eval o s.w) else .next ⟨s.fr.finish undef,s.cs,s.w⟩
   | none=>.fail "no operation")=.branch l):∃ s'∈l,Sim P X f0 base cs0 m s.w w (lone f (csW++cs0) w) s':=by
 have hbase:=h.LF
 have hlo:=h.below
 have hfm:=h.L0 hm
 split at hout
 rotate_left
 ·cases hout
 rename_i o ho
 have hplan:=D.plan
 cases hwa:Bi ops s.fr.tm o with
 | false=>rw [hwa] at hout;cases hout
 | true=>
  rw [hwa] at hout
  simp only [Ct] at hout
  have hex:=KV hout
  obtain ⟨j,A',he⟩:=hex
  rw [he] at hout
  obtain ⟨it,_,hop,_⟩:=GZ he
  have heff:(D8 P ops.toList).testBit x=true:=(So ho).2 ⟨by rw [hop];rfl,by rw [hop];rfl⟩
  cases hplan with
  | pure _ _ p g1 g2=>rw [g2] at heff;cases heff
  | alloc _ _ p g1 g2=>rw [g2] at heff;cases heff
  | effect _ _ p g1 g2 g3 g4 g5 g6=>
   obtain ⟨S',tmps',rest',m1,w1,t1,t2,t3,r,t4⟩:=BO.MD hX (cs:=csW++cs0) (k:=k') (some x) (Nl _) hlo rest h.glob h.rel D (fun i hi=>by
    rcases g5 i (by simpa using hi) with hh | rfl | hh
    ·exact .inl hh
    ·exact .inr (.inl ⟨rfl,fun hs=>by rw [D.sub i hs] at g3;cases g3⟩)
    ·exact .inr (.inr ⟨x,rfl,hh⟩)) (fun y hy=>by cases hy;exact ⟨by simpa using g1,g3⟩) hfm h.top.core.2.2.2.1 htf
   subst t4
   obtain ⟨_,_,hanc,_⟩:=t3.lin
   have hG1:=h.glob.mono t2.ext
   have hops:=t3.operands hG1 hanc ho
   have hwr:=t3.wanted hanc ho
   rw [hwa] at hwr
   have hW:He P X m1 s.w false lo s.w.next s.fr { f with tmps:=tmps',todo:=.inRegion ops (x::r)::k' }:=by
    refine ⟨h.top.core,?_⟩
    exact .draw ops S' C [] _ (x::r) k k' hd hm ht rfl (hk.mono fun _ _ x=>x.mono) (t3.RA g2 _ (Nl _))
   have hstk:=h.stk.mono (A':=s.w) t2.ext t2.same
   have ho':ops[x]? =some o:=by simpa using ho
   rw [CO] at he
   obtain ⟨s',hs',v',w',h1,h2,h3⟩:=NQ (ρ':=evalW tmps') t2.rel hops hG1 hlo hW hstk h.bot he hout
   refine ⟨s',hs',lo,m1,_,csW,w',t1.trans (.one (P9 (by exact hfm) rfl ho' hwr h.top.core.2.2.2.1 (by rw [DR,h1];rfl))),(t2.P5 hbase).trans h2,h3⟩
end
section
variable {P:Program} {X:Bx} {f0:FuncId} {base lo:Nat} {m:Inj P} {A:AW} {w:World} {fr:AFr} {cs:List AFr} {f:Frame} {csW cs0:List Frame}
def Abp (P:Program) (X:Bx) (f0:FuncId) (base:Nat) (cs0:List Frame) (m:Inj P) (A:AW) (w:World) (mach:Machine) (g:FuncId) (args:List Value) (s':ASt):Prop:=
 ∃ lo' m' f' cs' w' args',Steps P mach (lone (Frame.enter P g ⟨args'⟩ .normal) (f'::(cs'++cs0)) w')∧EvL base m A w m' s'.w w'∧AJ m' args args'∧
  GOk m'∧lo'≤s'.w.next∧He P X m' s'.w false lo' s'.w.next s'.fr f'∧Stk P X m' s'.w base lo' s'.cs cs'∧Bot f0 (s'.fr::s'.cs)
def Wh (P:Program) (X:Bx) (f0:FuncId) (base:Nat) (m:Inj P) (s:ASt) (f:Frame) (csW cs0:List Frame) (w:World):Iq→Prop
 | .next s'=>Sim P X f0 base cs0 m s.w w (lone f (csW++cs0) w) s'
 | .branch l=>∃ s'∈l,Sim P X f0 base cs0 m s.w w (lone f (csW++cs0) w) s'
 | .calls g args s'=>Abp P X f0 base cs0 m s.w w (lone f (csW++cs0) w) g args s'
 | .done v A'=>A'=s.w∧csW=[]∧∃ v',AQ m v v'∧f.leaving P w (.returned v')∧f.fn=f0
 | _=>True
def Ac0:Iq→Prop
 | .next _=>True
 | .fail _=>True
 | _=>False
theorem Ea.Rd {s:ASt} (h:Ea P X f0 base lo m s f csW w) (ht:∀ ops l k,s.fr.todo≠ .inRegion ops l::k):s.fr.dr=false:=by
 cases h.top.body with
 | plain h1=>exact h1
 | draw ops S C rl pl rest k k' h1 h2 h3=>exact absurd h3 (ht _ _ _)
theorem NS {fr:AFr} {cs:List AFr} {r:R AN} (hn:∀ i A',r≠ .ok (.rangeNext i) A'):Ac0 (Cj P fr cs r):=by
 cases r with
 | fail y=>trivial
 | ok n A'=>
  cases n with
  | rangeNext j=>exact absurd rfl (hn j A')
  | value v=>trivial
  | skip=>trivial
  | enter g args=>simp only [Cj];split <;> trivial
def Abl:Iq→Prop
 | .done .. =>False
 | _=>True
theorem KU {fr:AFr} {cs:List AFr} {r:R AN}:Abl (Cj P fr cs r):=by
 by_cases hn:∃ i A',r=.ok (.rangeNext i) A'
 ·obtain ⟨i,A',rfl⟩:=hn
  simp only [Cj,Bool.cond_eq_ite]
  repeat' split
  all_goals first | trivial | (exfalso;rename_i h;cases h;done)
 ·have h:=NS (P:=P) (fr:=fr) (cs:=cs) (r:=r) (fun i A' e=>hn ⟨i,A',e⟩)
  revert h
  generalize Cj P fr cs r=o
  intro h
  cases o <;> first | trivial | exact False.elim h
theorem Oh {fr:AFr} {cs:List AFr} {r:R AN} {g:FuncId} {args:List Value} {s':ASt}:Cj P fr cs r≠ .calls g args s':=by
 by_cases hn:∃ i A',r=.ok (.rangeNext i) A'
 ·obtain ⟨i,A',rfl⟩:=hn
  simp only [Cj,Bool.cond_eq_ite]
  intro h
  repeat' split at h
  all_goals (cases h)
 ·have h:=NS (P:=P) (fr:=fr) (cs:=cs) (r:=r) (fun i A' e=>hn ⟨i,A',e⟩)
  intro he
  rw [he] at h
  exact h
theorem QV {s:ASt} {ops:Array Oper} {i:Nat} {g:FuncId} {args:List Value} {A':AW} (h:EN P X s ops i=some (g,args,A')):
  ∃ o,ops.toList[i]? =some o∧Bi ops s.fr.tm o=true∧AU P X s.fr.eval o s.w=.ok (.enter g args) A':=by
 unfold EN at h
 split at h
 ·cases h
 ·split at h
  ·rename_i o ho
   cases hw:Bi ops s.fr.tm o with
   | false=>rw [hw] at h;cases h
   | true=>
    rw [hw,Ct] at h
    split at h
    ·rename_i f aS w he
     cases hm:Ib f X.known with
     | false=>rw [hm] at h;cases h
     | true=>rw [hm] at h;cases h;exact ⟨o,ho,hw,he⟩
    ·cases h
  ·cases h
theorem Vi (hX:XOk P X) {s:ASt} {ops:Array Oper} {i:Nat} {rest:List Nat} {k:List Item} {g:FuncId} {args:List Value} {A':AW} (h:Ea P X f0 base lo m s f csW w) (hm:s.fr.mode=.run) (ht:s.fr.todo=.inRegion ops (i::rest)::k)
  (hi:s.fr.dr=false∨i < ops.size) (hk:EN P X s ops i=some (g,args,A')):Abp P X f0 base cs0 m s.w w (lone f (csW++cs0) w) g args ⟨s.fr,s.cs,A'⟩:=by
 have hbase:=h.LF
 have hlo:=h.below
 have hfm:=h.L0 hm
 obtain ⟨o,ho,hwa,he⟩:=QV hk
 have ho':ops[i]? =some o:=by simpa using ho
 cases h.top.body with
 | plain hd htm htodo=>
  rw [ht] at htodo
  generalize htf:f.todo=y at htodo
  cases htodo with
  | cons hx hkk=>
   rename_i x' k'
   obtain ⟨rfl,hops⟩:=hx
   have hwr:Region.wanted o (yielded ops f.tmps)=Bi ops s.fr.tm o:=HZ fun _ _ _ _ d _ _=>htm.val d
   rw [hwa] at hwr
   have hoo:RU P o=true:=List.all_eq_true.1 hops o (List.mem_of_getElem? ho)
   have hrn:By P m s.w w (AU P X s.fr.eval o s.w) (execOp f.eval o):=by
    rw [CO,DR]
    exact GY hX h.rel fun x hx=>HO h.glob (List.all_eq_true.1 hoo x hx) fun t _=>htm.val t
   rw [he] at hrn
   obtain ⟨n',w',m',h1,h2,args',rfl,h3⟩:=hrn
   refine ⟨lo,m',f,csW,w',args',.one (P9 hfm htf ho' hwr h.top.core.2.2.2.1 (by rw [h1];rfl)),h2.low (by omega),h3,h.glob.mono h2.ext,by have:=h2.next;show lo≤A'.next;omega,?_,h.stk.mono h2.ext fun i hi=>h2.same i (by omega),h.bot⟩
   exact (h.top.Ld (live':=false) (hi':=s.w.next) hd).mono h2.ext h2.same h2.next
 | draw ops' S C rl pl rest' k0 k' hd hmode ta tf hkk D=>
  rw [ht] at ta
  simp only [Li,Item.inRegion.injEq] at ta
  obtain ⟨⟨rfl,hl⟩,rfl⟩:=ta
  have hi:i < ops.size:=by
   rcases hi with hi | hi
   ·rw [hd] at hi;cases hi
   ·exact hi
  have hrl:rl=[]:=by
   cases rl with
   | nil=>rfl
   | cons y rl=>
    simp only [List.cons_append,Li] at hl
    have:=D.rls y (by simp)
    omega
  subst hrl
  rw [List.nil_append] at hl
  subst hl
  have heff:(D8 P ops.toList).testBit i=true:=by
   refine (So ho).2 ⟨?_,?_⟩
   ·cases hq:CT P o.op with
    | false=>rfl
    | true=>obtain ⟨_,v,hv⟩:=Fz hq he;cases hv
   ·cases hq:EH o.op with
    | false=>rfl
    | true=>obtain ⟨v,_,_,hv,_⟩:=NT hq he;cases hv
  have hplan:=D.plan
  cases hplan with
  | pure _ _ p g1 g2=>rw [g2] at heff;cases heff
  | alloc _ _ p g1 g2=>rw [g2] at heff;cases heff
  | effect _ _ p g1 g2 g3 g4 g5 g6=>
   obtain ⟨S',tmps',rest2,m1,w1,t1,t2,t3,r,t4⟩:=BO.MD hX (cs:=csW++cs0) (k:=k') (some i) (Nl _) hlo rest' h.glob h.rel D (fun j hj=>by
    rcases g5 j (by simpa using hj) with hh | rfl | hh
    ·exact .inl hh
    ·exact .inr (.inl ⟨rfl,fun hs=>by rw [D.sub j hs] at g3;cases g3⟩)
    ·exact .inr (.inr ⟨i,rfl,hh⟩)) (fun y hy=>by cases hy;exact ⟨by simpa using g1,g3⟩) hfm h.top.core.2.2.2.1 tf
   subst t4
   obtain ⟨_,_,hanc,_⟩:=t3.lin
   have hG1:=h.glob.mono t2.ext
   have hops:=t3.operands hG1 hanc ho
   have hwr:=t3.wanted hanc ho
   rw [hwa] at hwr
   have hW:He P X m1 s.w false lo s.w.next s.fr { f with tmps:=tmps',todo:=.inRegion ops (i::r)::k' }:=by
    refine ⟨h.top.core,?_⟩
    exact .draw ops S' C [] _ (i::r) k k' hd hm ht rfl (hkk.mono fun _ _ x=>x.mono) (t3.RA g2 _ (Nl _))
   have hstk:=h.stk.mono (A':=s.w) t2.ext t2.same
   have hrn:By P m1 s.w w1 (AU P X s.fr.eval o s.w) (execOp (evalW tmps') o):=by
    rw [CO]
    exact GY hX t2.rel hops
   rw [he] at hrn
   obtain ⟨n',w',m',h1,h2,args',rfl,h3⟩:=hrn
   refine ⟨lo,m',_,csW,w',args',t1.trans (.one (P9 (by exact hfm) rfl ho' hwr h.top.core.2.2.2.1 (by rw [DR,h1];rfl))),(t2.P5 hbase).trans (h2.low (by omega)),h3,hG1.mono h2.ext,by have:=h2.next;show lo≤A'.next;omega,?_,hstk.mono h2.ext fun i hi=>h2.same i (by omega),h.bot⟩
   exact hW.mono h2.ext h2.same h2.next
theorem TQ (hX:XOk P X) (hP:POk P) {s:ASt} {ops:Array Oper} {i:Nat} {rest:List Nat} {k:List Item} (h:Ea P X f0 base lo m s f csW w) (hm:s.fr.mode=.run) (ht:s.fr.todo=.inRegion ops (i::rest)::k)
  (hi:s.fr.dr=false∨i < ops.size):
  Wh P X f0 base m s f csW cs0 w (match ops.toList[i]? with
   | some o=>bif Bi ops s.fr.tm o then Cj P s.fr s.cs (AU P X s.fr.eval o s.w) else .next ⟨s.fr.finish undef,s.cs,s.w⟩
   | none=>.fail "no operation"):=by
 have shape:∀ v A',(match ops.toList[i]? with
   | some o=>bif Bi ops s.fr.tm o then Cj P s.fr s.cs (AU P X s.fr.eval o s.w) else .next ⟨s.fr.finish undef,s.cs,s.w⟩
   | none=>.fail "no operation")≠ .done v A':=by
  intro v A' he
  split at he
  ·rename_i o ho
   cases hw:Bi ops s.fr.tm o with
   | false=>rw [hw] at he;cases he
   | true=>
    rw [hw,Ct] at he
    have:=KU (P:=P) (fr:=s.fr) (cs:=s.cs) (r:=AU P X s.fr.eval o s.w)
    rw [he] at this
    exact this
  ·cases he
 have nocalls:∀ g args s',(match ops.toList[i]? with
   | some o=>bif Bi ops s.fr.tm o then Cj P s.fr s.cs (AU P X s.fr.eval o s.w) else .next ⟨s.fr.finish undef,s.cs,s.w⟩
   | none=>.fail "no operation")≠ .calls g args s':=by
  intro g args s' he
  split at he
  ·rename_i o ho
   cases hw:Bi ops s.fr.tm o with
   | false=>rw [hw] at he;cases he
   | true=>
    rw [hw,Ct] at he
    exact Oh he
  ·cases he
 generalize hout:(match ops.toList[i]? with
   | some o=>bif Bi ops s.fr.tm o then Cj P s.fr s.cs (AU P X s.fr.eval o s.w) else Iq.next ⟨s.fr.finish undef,s.cs,s.w⟩
   | none=>.fail "no operation")=out at shape
 cases h.top.body with
 | plain hd tm todo=>
  cases out with
  | next s'=>exact Yu hX hP h hm hd ht hout
  | branch l=>exact TR h hm hd ht hout
  | calls g args s'=>exact absurd hout (nocalls g args s')
  | done v A'=>exact absurd rfl (shape v A')
  | fail=>trivial
 | draw ops' S C rl pl rest' k0 k' hd hmode ta tf hk D=>
  rw [ht] at ta
  simp only [Li,Item.inRegion.injEq] at ta
  obtain ⟨⟨rfl,hl⟩,rfl⟩:=ta
  have hi:i < ops.size:=by
   rcases hi with hi | hi
   ·rw [hd] at hi;cases hi
   ·exact hi
  have hrl:rl=[]:=by
   cases rl with
   | nil=>rfl
   | cons y rl=>
    simp only [List.cons_append,Li] at hl
    have:=D.rls y (by simp)
    omega
  subst hrl
  rw [List.nil_append] at hl
  subst hl
  cases out with
  | next s'=>exact Sq hX hP h hm hd ht tf hk D hout
  | branch l=>exact Ob hX h hm hd ht tf hk D hout
  | calls g args s'=>exact absurd hout (nocalls g args s')
  | done v A'=>exact absurd rfl (shape v A')
  | fail=>trivial
end
section
variable {P:Program} {X:Bx} {f0:FuncId} {base lo:Nat} {m:Inj P} {A:AW} {w:World} {fr:AFr} {cs:List AFr} {f:Frame} {csW cs0:List Frame}
theorem Qu {s:ASt} {ops:Array Oper} {i:Nat} {rest:List Nat} {k:List Item} (h:Ea P X f0 base lo m s f csW w) (hm:s.fr.mode=.run) (ht:s.fr.todo=.inRegion ops (i::rest)::k)
  (hb:s.fr.dr=true) (hge:ops.toList.length≤i) (hrc:Valid P X s.w ops s.fr.tm (i - ops.toList.length)):Sim P X f0 base cs0 m s.w w (lone f (csW++cs0) w) { s with fr:={ s.fr with todo:=.inRegion ops rest::k } }:=by
 cases h.top.body with
 | plain hd tm todo=>rw [hb] at hd;cases hd
 | draw ops' S C rl pl rest' k0 k' hd hmode ta tf hk D=>
  rw [ht] at ta
  simp only [Li,Item.inRegion.injEq] at ta
  obtain ⟨⟨rfl,hl⟩,rfl⟩:=ta
  cases rl with
  | nil=>
   exfalso
   rw [List.nil_append] at hl
   have hp:=D.plan
   rw [← hl] at hp
   cases hp with
   | pure _ _ _ g1=>omega
   | alloc _ _ _ g1=>omega
   | effect _ _ _ g1=>omega
  | cons y rl=>
   simp only [List.cons_append,Li] at hl
   obtain ⟨rfl,rfl⟩:=hl
   have hsz:ops.toList.length=ops.size:=by simp
   rw [hsz] at hrc
   have D':=D.WA hrc
   refine ⟨lo,m,f,csW,w,.refl P _,.refl h.rel base,h.rel,h.glob,h.below,⟨h.top.core,?_⟩,h.stk,h.bot.top rfl⟩
   exact .draw ops S C rl pl rest' k k' hd hm rfl tf hk D'
theorem U1 (hX:XOk P X) (hP:POk P) {s:ASt} (h:Ea P X f0 base lo m s f csW w) (hm:s.fr.mode=.run):Wh P X f0 base m s f csW cs0 w (Cc P X s):=by
 have hfm:=h.L0 hm
 have plainCase:∀ {x:Item} {k:List Item},s.fr.todo=x::k→(∀ ops l,x≠ .inRegion ops l)→s.fr.dr=false∧∃ x' k',f.todo=x'::k'∧Je m x x'∧Cx (Je m) k k':=by
  intro x k ht hx
  have hd:=h.Rd (by rw [ht];intro ops l k e;cases e;exact hx _ _ rfl)
  obtain ⟨htm,htodo⟩:=h.plain hd
  rw [ht] at htodo
  generalize htf:f.todo=y at htodo
  cases htodo with
  | cons hx hk=>exact ⟨hd,_,_,rfl,hx,hk⟩
 cases ht:s.fr.todo with
 | nil=>
  have hd:=h.Rd (by rw [ht];simp)
  obtain ⟨htm,htodo⟩:=h.plain hd
  rw [ht] at htodo
  have hft:f.todo=[]:=by
   generalize f.todo=y at htodo
   cases htodo;rfl
  have e:Cc P X s=.next ⟨{ s.fr with mode:=.returning },s.cs,s.w⟩:=by (obtain ⟨⟨fn,tm,todo,mode,dr⟩,cs,A⟩:=s;simp only at hm ht;subst hm ht;rfl)
  rw [e]
  exact ON h hm (.inl hft) hd
 | cons x k=>
  cases x with
  | inRegion ops l=>
   cases l with
   | nil=>
    have e:Cc P X s=.next ⟨{ s.fr with todo:=k,dr:=false },s.cs,s.w⟩:=by (obtain ⟨⟨fn,tm,todo,mode,dr⟩,cs,A⟩:=s;simp only at hm ht;subst hm ht;rfl)
    rw [e]
    cases h.top.body with
    | plain hd tm todo=>
     obtain ⟨htm,htodo⟩:=h.plain hd
     rw [ht] at htodo
     generalize htf:f.todo=y at htodo
     cases htodo with
     | cons hx hk=>
      obtain ⟨rfl,_⟩:=hx
      have:=h.todo (mach:=lone f (csW++cs0) w) (cs0:=cs0) hd hk (.one (Xl hfm htf))
      have e2:({ s.fr with todo:=k,dr:=false }:AFr)={ s.fr with todo:=k }:=by
       rw [← hd]
      rw [e2]
      exact this
    | draw ops' S C rl pl rest' k0 k' hd hmode ta tf hk D=>
     rw [ht] at ta
     simp only [Li,Item.inRegion.injEq] at ta
     obtain ⟨⟨rfl,hl⟩,rfl⟩:=ta
     obtain ⟨rfl,rfl⟩:=List.append_eq_nil_iff.1 hl.symm
     exact Rc hX h hm tf hk D
   | cons i rest=>
    have e:Cc P X s=(bif s.fr.dr&&!Nat.blt i ops.toList.length then .fail "recheck"
     else (match EN P X s ops i with
      | some (f,args,w)=>.calls f args ⟨s.fr,s.cs,w⟩
      | none=>(match ops.toList[i]? with
       | some o=>bif Bi ops s.fr.tm o then Cj P s.fr s.cs (AU P X s.fr.eval o s.w) else .next ⟨s.fr.finish undef,s.cs,s.w⟩
       | none=>.fail "no operation"))):=by
     (obtain ⟨⟨fn,tm,todo,mode,dr⟩,cs,A⟩:=s;simp only at hm ht;subst hm ht;rfl)
    rw [e]
    cases hb:(s.fr.dr&&!Nat.blt i ops.toList.length) with
    | false=>
     simp only [Cf]
     have hi:s.fr.dr=false∨i < ops.size:=by
      cases hdr:s.fr.dr with
      | false=>exact .inl rfl
      | true=>
       rw [hdr] at hb
       simp only [Bool.true_and,Bool.not_eq_false'] at hb
       exact .inr (by simpa using AE.1 hb)
     cases hkn:EN P X s ops i with
     | some x=>
      obtain ⟨g,args,A'⟩:=x
      exact Vi hX h hm ht hi hkn
     | none=>exact TQ hX hP h hm ht hi
    | true=>trivial
  | code c=>
   obtain ⟨hd,x',k',htf,hx,hk⟩:=plainCase ht (by intro ops l e;cases e)
   obtain ⟨rfl,hc⟩:=hx
   have go:∀ {j j':List Item},Cx (Je m) j j'→step P (lone f (csW++cs0) w)=.next (lone { f with todo:=j' } (csW++cs0) w)→Cc P X s=.next ⟨{ s.fr with todo:=j },s.cs,s.w⟩→
     Wh P X f0 base m s f csW cs0 w (Cc P X s):=by
    intro j j' hj hst e
    rw [e]
    exact h.todo hd hj (.one hst)
   cases c with
   | skip=>exact go hk (X3 hfm htf) (by (obtain ⟨⟨fn,tm,todo,mode,dr⟩,cs,A⟩:=s;simp only at hm ht;subst hm ht;rfl))
   | seq a b=>
    simp only [codeOk,Bq] at hc
    exact go (j:=.code a:: .code b::k) (j':=.code a:: .code b::k') (.cons ⟨rfl,hc.1⟩ (.cons ⟨rfl,hc.2⟩ hk)) (ZK hfm htf) (by (obtain ⟨⟨fn,tm,todo,mode,dr⟩,cs,A⟩:=s;simp only at hm ht;subst hm ht;rfl))
   | cond c a b=>
    simp only [codeOk,Bq] at hc
    obtain ⟨htm,_⟩:=h.plain hd
    have hv:AQ m (s.fr.eval c) (f.eval c):=by
     rw [CO,DR]
     exact HO h.glob hc.1 fun t _=>htm.val t
    cases he:s.fr.eval c with
    | bool t=>
     rw [he] at hv
     have hfe:f.eval c=.bool t:=by
      generalize f.eval c=y at hv
      cases hv;rfl
     have hcc:codeOk P (if t then a else b)=true:=by cases t;exact hc.2.2;exact hc.2.1
     refine go (j:=.code (bif t then a else b)::k) (j':=.code (if t then a else b)::k') ?_ (Ya hfm htf hfe) (by (obtain ⟨⟨fn,tm,todo,mode,dr⟩,cs,A⟩:=s;simp only at hm ht;subst hm ht;unfold Cc MR;simp only [he]))
     have:(bif t then a else b)=if t then a else b:=by cases t <;> rfl
     rw [this]
     exact .cons ⟨rfl,hcc⟩ hk
    | _=>
     have e:Cc P X s=.fail "cond":=by (obtain ⟨⟨fn,tm,todo,mode,dr⟩,cs,A⟩:=s;simp only at hm ht;subst hm ht;unfold Cc MR;simp only [he])
     rw [e]
     trivial
   | block id b=>exact go (j:=.code b:: .inBlock id::k) (j':=.code b:: .inBlock id::k') (.cons ⟨rfl,hc⟩ (.cons rfl hk)) (Ww hfm htf) (by (obtain ⟨⟨fn,tm,todo,mode,dr⟩,cs,A⟩:=s;simp only at hm ht;subst hm ht;rfl))
   | loop b=>exact go (j:=.code b:: .inLoop b::k) (j':=.code b:: .inLoop b::k') (.cons ⟨rfl,hc⟩ (.cons ⟨rfl,hc⟩ hk)) (X5 hfm htf) (by (obtain ⟨⟨fn,tm,todo,mode,dr⟩,cs,A⟩:=s;simp only at hm ht;subst hm ht;rfl))
   | scope b=>exact go (j:=.code b:: .inScope b::k) (j':=.code b:: .inScope b::k') (.cons ⟨rfl,hc⟩ (.cons ⟨rfl,hc⟩ hk)) (Wu hfm htf) (by (obtain ⟨⟨fn,tm,todo,mode,dr⟩,cs,A⟩:=s;simp only at hm ht;subst hm ht;rfl))
   | exit id=>
    have hex:=NA id hk
    cases hq:Ih id k with
    | none=>
     have e:Cc P X s=.fail "leave":=by (obtain ⟨⟨fn,tm,todo,mode,dr⟩,cs,A⟩:=s;simp only at hm ht;subst hm ht;unfold Cc MR;simp only [hq])
     rw [e]
     trivial
    | some r=>
     rw [hq] at hex
     obtain ⟨r',h1,h2⟩:=hex
     exact go h2 (X6 hfm htf h1) (by (obtain ⟨⟨fn,tm,todo,mode,dr⟩,cs,A⟩:=s;simp only at hm ht;subst hm ht;unfold Cc MR;simp only [hq]))
   | ret=>
    have e:Cc P X s=.next ⟨{ s.fr with mode:=.returning },s.cs,s.w⟩:=by (obtain ⟨⟨fn,tm,todo,mode,dr⟩,cs,A⟩:=s;simp only at hm ht;subst hm ht;rfl)
    rw [e]
    exact ON h hm (.inr ⟨k',htf⟩) hd
   | region id ops draw=>
    cases draw with
    | false=>
     refine go (j:=.inRegion ops (List.range ops.toList.length)::k) (j':=.inRegion ops (List.range ops.size)::k') ?_ (UJ hfm htf) (by (obtain ⟨⟨fn,tm,todo,mode,dr⟩,cs,A⟩:=s;simp only at hm ht;subst hm ht;rfl))
     exact .cons ⟨by simp,hc⟩ hk
    | true=>
     cases hin:I7 s.fr.tm.sz ops.toList with
     | false=>
      have e:Cc P X s=.fail "no slot":=by (obtain ⟨⟨fn,tm,todo,mode,dr⟩,cs,A⟩:=s;simp only at hm ht;subst hm ht;unfold Cc;simp only at hin;simp only [hin,Cf])
      rw [e]
      trivial
     | true=>
      cases hp:M5 P ops.toList with
      | none=>
       have e:Cc P X s=.fail "no plan":=by (obtain ⟨⟨fn,tm,todo,mode,dr⟩,cs,A⟩:=s;simp only at hm ht;subst hm ht;unfold Cc;simp only at hin;simp only [hin,Ct,hp])
       rw [e]
       trivial
      | some p=>
       have e:Cc P X s=.next { s with fr:={ s.fr with todo:=.inRegion ops p::k,dr:=true } }:=by (obtain ⟨⟨fn,tm,todo,mode,dr⟩,cs,A⟩:=s;simp only at hm ht;subst hm ht;unfold Cc;simp only at hin;simp only [hin,Ct,hp])
       rw [e]
       exact Oa hP h hm hd ht hin hp
   | _=>
    have e:Cc P X s=.fail "todo":=by (obtain ⟨⟨fn,tm,todo,mode,dr⟩,cs,A⟩:=s;simp only at hm ht;subst hm ht;rfl)
    rw [e]
    trivial
  | inBlock id=>
   obtain ⟨hd,x',k',htf,hx,hk⟩:=plainCase ht (by intro ops l e;cases e)
   have hx:x'=.inBlock id:=hx
   subst hx
   have e:Cc P X s=.next ⟨{ s.fr with todo:=k },s.cs,s.w⟩:=by (obtain ⟨⟨fn,tm,todo,mode,dr⟩,cs,A⟩:=s;simp only at hm ht;subst hm ht;rfl)
   rw [e]
   exact h.todo hd hk (.one (TE hfm htf))
  | inScope b=>
   obtain ⟨hd,x',k',htf,hx,hk⟩:=plainCase ht (by intro ops l e;cases e)
   obtain ⟨rfl,_⟩:=hx
   have e:Cc P X s=.next ⟨{ s.fr with todo:=k },s.cs,s.w⟩:=by (obtain ⟨⟨fn,tm,todo,mode,dr⟩,cs,A⟩:=s;simp only at hm ht;subst hm ht;rfl)
   rw [e]
   exact h.todo hd hk (.one (TD hfm htf))
  | inLoop b=>
   obtain ⟨hd,x',k',htf,hx,hk⟩:=plainCase ht (by intro ops l e;cases e)
   obtain ⟨rfl,hb⟩:=hx
   have e:Cc P X s=.next ⟨{ s.fr with todo:=.code b:: .inLoop b::k },s.cs,s.w⟩:=by (obtain ⟨⟨fn,tm,todo,mode,dr⟩,cs,A⟩:=s;simp only at hm ht;subst hm ht;rfl)
   rw [e]
   exact h.todo hd (.cons ⟨rfl,hb⟩ (.cons ⟨rfl,hb⟩ hk)) (.one (UK hfm htf))
  | _=>
   have e:Cc P X s=.fail "todo":=by (obtain ⟨⟨fn,tm,todo,mode,dr⟩,cs,A⟩:=s;simp only at hm ht;subst hm ht;rfl)
   rw [e]
   trivial
end
section
variable {P:Program} {X:Bx} {f0:FuncId} {base lo:Nat} {m:Inj P} {A:AW} {w:World} {fr:AFr} {cs:List AFr} {f:Frame} {csW cs0:List Frame}
theorem Qc {s:ASt} (h:Ea P X f0 base lo m s f csW w) (hm:s.fr.mode≠ .run):Wh P X f0 base m s f csW cs0 w (Cc P X s):=by
 obtain ⟨htm,_⟩:=h.plain (h.top.S0 hm)
 have k:=h.top.core
 cases hmode:s.fr.mode with
 | run=>exact absurd hmode hm
 | panicking chain=>
  have e:Cc P X s=.fail "mode":=by
   (obtain ⟨⟨fn,tm,todo,mode,dr⟩,cs,A⟩:=s;simp only at hmode;subst hmode;rfl)
  rw [e];trivial
 | returning=>
  have e:Cc P X s=(match P.funcs[s.fr.fn]? with
   | none=>.fail "unwind fn"
   | some fn=>(match CW P s.w fn s.fr.tm with
    | some v=>(match s.cs with
     | []=>.done v s.w
     | c::rest=>.next ⟨c.finish v,rest,s.w⟩)
    | none=>.fail "results")):=by
   (obtain ⟨⟨fn,tm,todo,mode,dr⟩,cs,A⟩:=s;simp only at hmode;subst hmode;rfl)
  rw [e]
  split
  ·trivial
  ·rename_i fn0 hf
   split
   ·rename_i v hr
    split
    ·rename_i hcs
     have hb:=h.bot
     rw [hcs] at hb
     have hstk:=h.stk
     rw [hcs] at hstk
     obtain ⟨v',g1,g2⟩:=JD h.rel htm hr
     refine ⟨rfl,?_,v',g2,⟨k.2.2.1.trans hmode,k.2.2.2.2,k.2.1,fn0,by rw [k.1];exact hf,g1⟩,k.1.trans hb⟩
     generalize csW=y at hstk
     cases hstk;rfl
    ·rename_i c rest hcs
     exact RH h hmode hf hr hcs
   ·trivial
theorem HF (hX:XOk P X) (hP:POk P) {s:ASt} (h:Ea P X f0 base lo m s f csW w):Wh P X f0 base m s f csW cs0 w (Cc P X s):=by
 by_cases hm:s.fr.mode=.run
 ·exact U1 hX hP h hm
 ·exact Qc h hm
end
section
variable {P:Program} {X:Bx} {W0:World} {m0:Inj P}
structure Old (W0:World) (m0 m:Inj P) (A:AW) (w:World):Prop where
 le:m0.le m
 below:Go.RowKit.Below W0.heap.size W0 w
 own:∀ c,c < W0.heap.size→¬ Own m A c
theorem Old.next {m m':Inj P} {A A':AW} {w w':World} {lo:Nat} (h:Old W0 m0 m A w) (e:EvL lo m A w m' A' w'):Old W0 m0 m' A' w':=by
 have hs:=h.below.size
 refine ⟨h.le.trans e.ext,⟨e.os.trans h.below.os,e.tape.trans h.below.tape,e.output.trans h.below.output,Nat.le_trans hs e.size,fun k hk=>?_⟩,fun c hc ho=>?_⟩
 ·rw [e.Bd k (by omega) (h.own k hk),h.below.block k hk]
 ·exact h.own c hc (e.own c (by omega) ho)
def Reach (P:Program) (X:Bx) (W0:World) (m0:Inj P) (s:ASt) (L:List ASt):Prop:=
 ∀ (f0:FuncId) (base lo:Nat) (cs0:List Frame) (m:Inj P) (f:Frame) (csW:List Frame) (w:World),Ea P X f0 base lo m s f csW w→Old W0 m0 m s.w w→∃ s'∈L,Sim P X f0 base cs0 m s.w w (lone f (csW++cs0) w) s'
def Res (P:Program) (X:Bx) (W0:World) (m0:Inj P) (s:ASt) (l:List (Value × AW)):Prop:=
 ∀ (f0:FuncId) (base lo:Nat) (cs0:List Frame) (m:Inj P) (f:Frame) (csW:List Frame) (w:World),Ea P X f0 base lo m s f csW w→Old W0 m0 m s.w w→
  ∃ x∈l,∃ v' m' w' f',Steps P (lone f (csW++cs0) w) (lone f' cs0 w')∧AQ m' x.1 v'∧EvL base m s.w w m' x.2 w'∧f'.leaving P w' (.returned v')∧f'.fn=f0
theorem RJ (hX:XOk P X) (hP:POk P) {s s':ASt} (h:Cc P X s=.next s'):Reach P X W0 m0 s [s']:=by
 intro f0 base lo cs0 m f csW w hr _
 have hs:=HF (cs0:=cs0) hX hP hr
 rw [h] at hs
 exact ⟨s',by simp,hs⟩
theorem Pm (hX:XOk P X) (hP:POk P) {s:ASt} {l:List ASt} (h:Cc P X s=.branch l):Reach P X W0 m0 s l:=by
 intro f0 base lo cs0 m f csW w hr _
 have hs:=HF (cs0:=cs0) hX hP hr
 rw [h] at hs
 exact hs
theorem U3 (hX:XOk P X) (hP:POk P) {s:ASt} {v:Value} {A:AW} (h:Cc P X s=.done v A):Res P X W0 m0 s [(v,A)]:=by
 intro f0 base lo cs0 m f csW w hr _
 have hs:=HF (cs0:=cs0) hX hP hr
 rw [h] at hs
 obtain ⟨rfl,rfl,v',g1,g2,g3⟩:=hs
 exact ⟨(v,s.w),by simp,v',m,w,f,.refl P _,g1,.refl hr.rel base,g2,g3⟩
structure KC where
 fn:FuncId
 args:List Value
 vals:List Value
def J2:Nat:=4194304
structure Low (w w':World):Prop where
 below:Go.RowKit.Below w.heap.size w w'
 draws:w.drawn≤w'.drawn
def KC.Holds (P:Program) (W0:World) (m0:Inj P) (k:KC):Prop:=
 (k.fn=J2→k.args=k.vals)∧(k.fn≠J2→∀ (m:Inj P) (args':List Value) (W:World),m0.le m→Go.RowKit.Below W0.heap.size W0 W→AJ m k.args args'→Calls P k.fn ⟨args'⟩ W fun e W'=>∃ v∈k.vals,e=.returned v∧Low W W')
theorem Rel.grow {m:Inj P} {A:AW} {w w':World} (r:Rel m A w) (h:Go.RowKit.Below w.heap.size w w'):Rel m A w':=by
 refine ⟨fun i o c d hi hm=>?_,r.home,r.sep,r.mem,r.fresh,r.lim,fun i cs e f b ro c d hi hm=>?_⟩
 ·obtain ⟨o',h1,h2⟩:=r.obj i o c d hi hm
  exact ⟨o',by rw [h.block c (r.Fk hi hm)];exact h1,h2⟩
 ·obtain ⟨g1,cs',e',fr,g2,g3⟩:=r.room i cs e f b ro c d hi hm
  exact ⟨g1,cs',e',fr,by rw [h.block c (r.Fk hi hm)];exact g2,g3⟩
theorem EvL.grow {m:Inj P} {A:AW} {w w':World} (r:Rel m A w) (h:Low w w') (lo:Nat):EvL lo m A w m A w':=
 ⟨.refl m,r.grow h.below,h.below.size,h.below.os,h.below.tape,h.below.output,h.draws,fun c hc _=>h.below.block c hc,fun _ _ x=>x,Nl _,fun _ _=>rfl⟩
theorem Qv (hX:XOk P X) (hP:POk P) {s s':ASt} {g:FuncId} {args vals:List Value} (h:Cc P X s=.calls g args s') (hg:g≠J2) (hk:KC.Holds P W0 m0 ⟨g,args,vals⟩) (hc:vals.all (AG 4)=true):
  Reach P X W0 m0 s (vals.map fun v=>⟨s'.fr.finish v,s'.cs,s'.w⟩):=by
 intro f0 base lo cs0 m f csW w hr ho
 have hs:=HF (cs0:=cs0) hX hP hr
 rw [h] at hs
 obtain ⟨lo',m',f',cs',w',args',t1,t2,t3,t4,t5,t6,t7,t8⟩:=hs
 have ho':=ho.next t2
 obtain ⟨e,w'',fr,⟨v,hv,rfl,hb⟩,hst,_,hlv⟩:=hk.2 hg m' args' w' ho'.le ho'.below t3 (f'::(cs'++cs0))
 have hst:Steps P (lone (Frame.enter P g ⟨args'⟩ .normal) (f'::(cs'++cs0)) w') (lone fr (f'::(cs'++cs0)) w''):=hst
 have hg:=EvL.grow t2.rel hb base
 refine ⟨_,List.mem_map.2 ⟨v,hv,rfl⟩,lo',m',f'.finish v,cs',w'',t1.trans (hst.trans (.one (step_leave_returned hlv))),t2.trans hg,hg.rel,t4,t5,?_,t7,t8.finish v⟩
 exact t6.finish (DE 4 v (List.all_eq_true.1 hc v hv)) (Nl _)
end
end Go.Abs
namespace Go.Abs
open Go.ChangeShapes Go.WideShapes Go.ChangeAt Go.RowKit
def Ve (P:Program):Bool:=P.funcs.toList.all fun fn=>match fn.body with | some c=>codeOk P c | none=>true
theorem Yr {P:Program} (h:Ve P=true) (hm:P.follows .mixedOrders=true):POk P:=by
 refine ⟨fun f fn c hf hb=>?_,hm⟩
 unfold Ve at h
 have:=List.all_eq_true.1 h fn (by simpa using Array.mem_of_getElem? hf)
 rw [hb] at this
 exact this
theorem Nd {n:Nat}:∀ {l:List Nat},Ib n l=true→n∈l
 | [],h=>by cases h
 | x::r,h=>by
  simp only [Ib] at h
  cases hb:Nat.beq x n with
  | true=>rw [beq_true.1 hb];simp
  | false=>rw [hb] at h;exact List.mem_cons_of_mem _ (Nd h)
def WR (P:Program) (f:FuncId) (args:List Value):AFr:=(Gf P f args).getD ⟨0,⟨0,.nil⟩,[],.run,false⟩
def MY:List (Nat × List Value × TypeId)→Trie AO
 | []=>.nil
 | x::r=>(MY r).put depth x.1 (some (.row x.2.1 x.2.2 x.1 0 true))
theorem Ox:∀ (l:List (Nat × List Value × TypeId)),(∀ x∈l,x.1 < Ap)→∀ i o,(MY l).get? i=some o→∃ x∈l,x.1=i∧o=.row x.2.1 x.2.2 i 0 true
 | [],_,i,o,h=>by simp [MY,Trie.get?] at h
 | x::r,hl,i,o,h=>by
  simp only [MY] at h
  rw [Trie.get?_put depth _ x.1 i _ (by have:=hl x (by simp);unfold depth Ap at *;omega)] at h
  split at h
  ·rename_i e
   subst e
   cases h
   exact ⟨x,by simp,rfl,rfl⟩
  ·obtain ⟨y,hy,h1,h2⟩:=Ox r (fun y hy=>hl y (by simp [hy])) i o h
   exact ⟨y,by simp [hy],h1,h2⟩
theorem YA {P:Program} {m m':Inj P} {A A':AW} {w w':World} {lo:Nat} (h:EvL lo m A w m' A' w') (hno:∀ c,¬ Own m A c):Low w w':=
 ⟨⟨h.os,h.tape,h.output,h.size,fun k hk=>h.Bd k hk (hno k)⟩,h.draws⟩
def mA (P:Program) (l:List (Nat × Nat)):Inj P:=⟨fun i=>if i < P.globals.size then some (i,0) else l[i - P.globals.size]?,fun _=>0,fun _=>0,fun _=>0,fun _ h=>absurd rfl h⟩
theorem Pw {P:Program} {l:List (Nat × Nat)} {i:Nat} (h:i < P.globals.size):mA P l i=some (i,0):=by
 show (if i < P.globals.size then some (i,0) else l[i - P.globals.size]?)=some (i,0)
 rw [if_pos h]
theorem R7 {P:Program} {l:List (Nat × Nat)} (i:Nat):mA P l (P.globals.size+i)=l[i]? :=by
 show (if P.globals.size+i < P.globals.size then some (P.globals.size+i,0) else l[P.globals.size+i - P.globals.size]?)=l[i]?
 rw [Ff (by omega),Nat.add_sub_cancel_left]
section
variable {H:Type} {enc:TypeId × Value→H}
theorem GM {a:Assume} {C:Checked} {os:Os} {f:FuncId} {fn:Func} {s:ChangeSpec} {conds:List PathCond} {apart fresh handsOn again:Bool} {X:World→Array Value→Prop}
  (hX:∀ (w w':World) (args:Array Value),w.heap=w'.heap→X w args→X w' args)
  (own:ownKnob C.prog.godebug=none) (started:os.Started) (noInit:C.prog.inits.idxOf? f=none) (hfn:C.prog.funcs[f]? =some fn)
  (witness:∃ (w:World) (tape:Tape) (i:Input),w.os=os∧(w.forCall tape i).Shaped C.prog∧i.vars=[]∧Input.okWide C.prog (w.forCall tape i) .any w.heap.size f i∧
   ((s.pre enc C.prog fn conds apart (w.forCall tape i).memory i.args∧X (w.forCall tape i).memory i.args)∧sizedMet enc C.prog fn (OpenSpec.ofChange s) apart (w.forCall tape i).memory i.args)∧a.holds C.prog (lone (Frame.enter C.prog f i.args .normal) [] (w.forCall tape i)))
  (contract:∀ (W:World) (base:Nat) (args:Array Value) (ds gs:List (DataW H)) (before:List MemPlace),
   (∀ (j:Nat) t v,fn.params[j]? =some t→args[j]? =some v→Value.okWide C.prog W .any base t v)→
   DataW.Whole enc C.prog fn.params.toList s.vars apart W args.toList ds gs before→
   conds.all (PathCond.test C.prog ⟨fn.params.toList,ds,s.plain.varTypes C.prog,gs⟩)=true→
   (DataW.weightsEach C.prog (fn.params.toList++s.plain.varTypes C.prog) (ds++gs)).all (·≤reachBytes)=true→X W args→W.ShapedOpen C.prog→
   Calls C.prog f args W fun e W'=>∃ v,e=.returned v∧s.post enc C.prog fn apart fresh handsOn again W args v W'):
  ReturnsInHanded a C os f .any (fun w args=>(s.pre enc C.prog fn conds apart w args∧X w args)∧sizedMet enc C.prog fn (OpenSpec.ofChange s) apart w args) (s.post enc C.prog fn apart fresh handsOn again):=by
 refine returnsInHanded_of_calls own started noInit witness ?_
 intro w tape i _ hsh _ hok hpre hholds
 obtain ⟨_,_,_,fn',hfn',_,_,_,_,hval⟩:=hok
 have e:fn'=fn:=Option.some.inj (hfn'.symm.trans hfn)
 subst e
 obtain ⟨⟨⟨ds,gs,before,hw,hc⟩,hx⟩,hz⟩:=hpre
 have hw':=DataW.Whole.of_heap (w':=w.forCall tape i) (by rfl) hw
 refine (contract (w.forCall tape i) w.heap.size i.args ds gs before hval hw' hc (hz.weights hw) (hX _ _ _ (by rfl) hx) hsh).mono fun e W' ⟨v,he,hp⟩=>?_
 subst he
 exact ChangeSpec.post_blind hp
variable {P:Program}
theorem NY {f:Func} {s:ChangeSpec} {apart fresh handsOn again:Bool} {W W':World} {args:Array Value} {v:Value} {ds gs:List (DataW H)} {before pa pv:List MemPlace}
  (hW:DataW.Whole enc P f.params.toList s.vars apart W args.toList ds gs before)
  (hres:∀ (b:Nat) (sp:Nat→Bool) (hd:Bool),DataW.TrodAll enc P W' b sp hd f.resultTypes.toList (v.resultList f.resultTypes.size) (s.fn H (ds++gs)).results [])
  (hargs:∀ sp:Nat→Bool,(∀ p∈before,sp p.block=true)→DataW.TrodAll enc P W' 0 sp true f.params.toList args.toList (s.fn H (ds++gs)).args pa)
  (hvars:∀ sp:Nat→Bool,(∀ p∈before,sp p.block=true)→DataW.TrodVars enc P W' sp s.vars (s.fn H (ds++gs)).vars pv)
  (hps:before=pa++pv) (hb:Below W.heap.size W W')
  (hok:∀ (j:Nat) (t:TypeId) (r:Value),f.resultTypes[j]? =some t→(v.resultList f.resultTypes.size)[j]? =some r→Value.okWide P W' .any 0 t r):
  s.post enc P f apart fresh handsOn again W args v W':=by
 have hlt:∀ p∈before,p.block < W.heap.size:=fun p hp=>hW.lt p hp
 have hold:∀ p∈before,(fun b=>decide (b < W.heap.size)) p.block=true:=fun p hp=>by simpa using hlt p hp
 refine ⟨ds,gs,before,[],pa,pv,hW,hres _ _ _,hargs _ hold,hvars _ hold,World.keptBut_mono (fun p hp=>⟨hp,?_⟩) (hb.frame (·∈before)),fun _=>?_⟩
 ·rw [hps,List.mem_append] at hp
  exact Or.inr hp
 ·obtain ⟨_,_,_,_,_,hz,hn⟩:=hW
  refine ⟨hok,_,_,([]++pa)++pv,⟨[]++pa,pv,trodAll_append (hargs _ (fun _ _=>rfl)) (hres _ _ _),hvars _ (fun _ _=>rfl),rfl,?_,?_⟩,?_⟩
  ·intro b off hp
   have hin:MemPlace.cell b off∈before:=by rw [hps];simpa using hp
   rw [hb.frozen (hlt _ hin)]
   exact hz b off hin
  ·intro ha
   have:=hn ha
   rw [hps] at this
   simpa using this
  ·intro p hp _
   rw [hps]
   simpa using hp
end
theorem OS {P:Program} {W:World} (hsh:W.ShapedOpen P) {name:String} {g t:Nat} {cs:List Value} (hg:P.globalNamed name=some g) (hlt:g < P.globals.size) (hz:((((begin P (fun _ _=>0) default).world.heap[g]?).bind Obj.row?).map (·.2))=some t)
  (hv:W.var? P name=some ⟨cs⟩):∃ fr,W.heap[g]? =some (.cells ⟨cs⟩ t fr):=by
 cases hq:((begin P (fun _ _=>0) default).world.heap[g]?).bind Obj.row? with
 | none=>rw [hq] at hz;cases hz
 | some x=>
  obtain ⟨zero,t'⟩:=x
  rw [hq] at hz
  simp only [Option.map_some,Oi] at hz
  subst hz
  obtain ⟨cs',h1,_⟩:=hsh.1 g zero t' hlt hq
  unfold World.var? at hv
  rw [hg] at hv
  simp only [Option.bind_some,h1,Oi] at hv
  subst hv
  exact ⟨_,h1⟩
end Go.Abs
namespace Go.Abs
section
variable {P:Program} {X:Bx} {W0:World} {m0:Inj P}
def WP (P:Program) (X:Bx) (W0:World) (m0:Inj P) (s:ASt) (Q:Value→AW→Prop):Prop:=
 ∀ (f0:FuncId) (base lo:Nat) (cs0:List Frame) (m:Inj P) (f:Frame) (csW:List Frame) (w:World),Ea P X f0 base lo m s f csW w→Old W0 m0 m s.w w→
  ∃ v A',Q v A'∧∃ v' m' w' f',Steps P (lone f (csW++cs0) w) (lone f' cs0 w')∧AQ m' v v'∧EvL base m s.w w m' A' w'∧f'.leaving P w' (.returned v')∧f'.fn=f0
theorem Reach.wp {s:ASt} {L:List ASt} {Q:Value→AW→Prop} (h:Reach P X W0 m0 s L) (h':∀ x∈L,WP P X W0 m0 x Q):WP P X W0 m0 s Q:=by
 intro f0 base lo cs0 m f csW w hr ho
 obtain ⟨s',hs',lo1,m1,f1,cs1,w1,t1,t2,t3⟩:=h f0 base lo cs0 m f csW w hr ho
 obtain ⟨v,A',hq,v',m',w',f',u1,u2,u3,u4,u5⟩:=h' s' hs' f0 base lo1 cs0 m1 f1 cs1 w1 t3 (ho.next t2)
 exact ⟨v,A',hq,v',m',w',f',t1.trans u1,u2,t2.trans u3,u4,u5⟩
theorem Reach.wp1 {s s':ASt} {Q:Value→AW→Prop} (h:Reach P X W0 m0 s [s']) (h':WP P X W0 m0 s' Q):WP P X W0 m0 s Q:=h.wp fun x hx=>by simp at hx;subst hx;exact h'
theorem Res.wp {s:ASt} {l:List (Value × AW)} {Q:Value→AW→Prop} (h:Res P X W0 m0 s l) (hq:∀ x∈l,Q x.1 x.2):WP P X W0 m0 s Q:=by
 intro f0 base lo cs0 m f csW w hr ho
 obtain ⟨x,hx,r⟩:=h f0 base lo cs0 m f csW w hr ho
 exact ⟨x.1,x.2,hq x hx,r⟩
theorem XQ {fr c:AFr} {rest:List AFr} {A:AW} {K Q:Value→AW→Prop} (h:WP P X W0 m0 ⟨fr,[],A⟩ K) (h':∀ v A',K v A'→WP P X W0 m0 ⟨c.finish v,rest,A'⟩ Q):
  WP P X W0 m0 ⟨fr,c::rest,A⟩ Q:=by
 intro f0 base lo cs0 m f csW w hr ho
 obtain ⟨lo1,g,l',rfl,h1,h2,h3⟩:=hr.stk.inv
 have hbase:=hr.stk.base
 have hlo:=hr.below
 have hs:Ea P X fr.fn lo lo m ⟨fr,[],A⟩ f [] w:=⟨hr.rel,hr.glob,hr.below,hr.top,.nil lo (Nl _),rfl⟩
 obtain ⟨v,A',hK,v',m',w',f',u1,u2,u3,u4,u5⟩:=h fr.fn lo lo (g::l'++cs0) m f [] w hs ho
 have hnext:A.next≤A'.next:=u3.next
 have hsim:Sim P X f0 base cs0 m A w (lone f (g::l'++cs0) w) ⟨c.finish v,rest,A'⟩:=by
  refine ⟨lo1,m',g.finish v',l',w',?_,u3.P5 hbase,u3.rel,hr.glob.mono u3.ext,?_,?_,?_,?_⟩
  ·exact u1.trans (.one (step_leave_returned u4))
  ·show lo1≤A'.next
   have:lo≤A.next:=hlo
   omega
  ·refine (h2.mono (A':=A') u3.ext (fun i hi=>u3.same i hi) (Nl lo)).finish u2 ?_
   have:lo≤A.next:=hlo
   show lo≤A'.next
   omega
  ·exact h3.mono u3.ext fun i hi=>u3.same i (by omega)
  ·have hb:Bot f0 (c::rest):=hr.bot
   exact hb.finish v
 obtain ⟨lo2,m2,f2,cs2,w2,t1,t2,t3⟩:=hsim
 obtain ⟨v2,A2,hq,v3,m3,w3,f3,s1,s2,s3,s4,s5⟩:=h' v A' hK f0 base lo2 cs0 m2 f2 cs2 w2 t3 (ho.next t2)
 exact ⟨v2,A2,hq,v3,m3,w3,f3,t1.trans s1,s2,t2.trans s3,s4,s5⟩
def Wc (P:Program) (X:Bx) (W0:World) (m0:Inj P) (g:FuncId) (args:List Value) (A:AW) (K:Value→AW→Prop):Prop:=
 (Gf P g args).isSome=true∧WP P X W0 m0 ⟨WR P g args,[],A⟩ K
theorem Rg (hP:POk P) {m:Inj P} {A:AW} {w:World} {g:FuncId} {args args':List Value} {Q:Value→AW→Prop} (h:Wc P X w m g args A Q) (r:Rel m A w) (hG:GOk m)
  (hno:∀ c,¬ Own m A c) (ha:AJ m args args'):Calls P g ⟨args'⟩ w fun e w'=>∃ v v' m' A',Q v A'∧e=.returned v'∧AQ m' v v'∧EvL A.next m A w m' A' w':=by
 intro cs0
 obtain ⟨fr,he⟩:=Option.isSome_iff_exists.1 h.1
 have h2:=h.2
 unfold WR at h2
 rw [he] at h2
 obtain ⟨g1,g2⟩:=O1 (X:=X) (A:=A) hP he ha A.next A.next
 have hs:Ea P X g A.next A.next m ⟨fr,[],A⟩ (Frame.enter P g ⟨args'⟩ .normal) [] w:=⟨r,hG,Nl _,g1,.nil _ (Nl _),g2⟩
 obtain ⟨v,A',hq,v',m',w',f',k1,k2,k3,k4,k5⟩:=h2 g A.next A.next cs0 m _ [] w hs ⟨.refl m,.refl _ _,fun c _=>hno c⟩
 exact ⟨.returned v',w',f',⟨v,v',m',A',hq,rfl,k2,k3⟩,k1,k5,k4⟩
theorem XR (hX:XOk P X) (hP:POk P) {s s':ASt} {g:FuncId} {args:List Value} {K Q:Value→AW→Prop} (h:Cc P X s=.calls g args s')
  (hk:∀ (m:Inj P) (w:World) (args':List Value),Rel m s'.w w→m0.le m→Go.RowKit.Below W0.heap.size W0 w→AJ m args args'→
   Calls P g ⟨args'⟩ w fun e w'=>∃ v v' m' A',K v A'∧e=.returned v'∧AQ m' v v'∧EvL s'.w.next m s'.w w m' A' w')
  (h':∀ v A',K v A'→WP P X W0 m0 ⟨s'.fr.finish v,s'.cs,A'⟩ Q):WP P X W0 m0 s Q:=by
 intro f0 base lo cs0 m f csW w hr ho
 have hs:=HF (cs0:=cs0) hX hP hr
 rw [h] at hs
 obtain ⟨lo',m',f',cs',w',args',t1,t2,t3,t4,t5,t6,t7,t8⟩:=hs
 have ho':=ho.next t2
 obtain ⟨e,w'',fr,⟨v,v',m2,A2,hK,rfl,hv,hev⟩,hst,_,hlv⟩:=hk m' w' args' t2.rel ho'.le ho'.below t3 (f'::(cs'++cs0))
 have hst:Steps P (lone (Frame.enter P g ⟨args'⟩ .normal) (f'::(cs'++cs0)) w') (lone fr (f'::(cs'++cs0)) w''):=hst
 have hbase:=t7.base
 have hnext:s'.w.next≤A2.next:=hev.next
 have hev0:EvL base m' s'.w w' m2 A2 w'':=hev.P5 (by omega)
 have hsim:Sim P X f0 base cs0 m s.w w (lone f (csW++cs0) w) ⟨s'.fr.finish v,s'.cs,A2⟩:=
  ⟨lo',m2,f'.finish v',cs',w'',t1.trans (hst.trans (.one (step_leave_returned hlv))),t2.trans hev0,hev.rel,t4.mono hev.ext,(by show lo'≤A2.next;omega),
   (t6.mono hev.ext hev.same hnext).finish hv (Nl _),t7.mono hev.ext fun i hi=>hev.same i (by omega),t8.finish v⟩
 obtain ⟨lo2,m3,f3,cs3,w3,u1,u2,u3⟩:=hsim
 obtain ⟨v2,A3,hq,v3,m4,w4,f4,s1,s2,s3,s4,s5⟩:=h' v A2 hK f0 base lo2 cs0 m3 f3 cs3 w3 u3 (ho.next u2)
 exact ⟨v2,A3,hq,v3,m4,w4,f4,u1.trans s1,s2,u2.trans s3,s4,s5⟩
def Ab (r:Option Value) (K:Value→Prop):Prop:=∃ v,r=some v∧K v
def Bb (r:Option AW) (K:AW→Prop):Prop:=∃ A,r=some A∧K A
def Al (r:R Value) (K:Value→AW→Prop):Prop:=∃ v A,r=.ok v A∧K v A
def Abm (P:Program) (W0:World) (m0:Inj P) (g:FuncId) (args:List Value) (A:AW) (K:Value→AW→Prop):Prop:=
 ∀ (m:Inj P) (w:World) (args':List Value),Rel m A w→m0.le m→Go.RowKit.Below W0.heap.size W0 w→AJ m args args'→
  Calls P g ⟨args'⟩ w fun e w'=>∃ v v' m' A',K v A'∧e=.returned v'∧AQ m' v v'∧EvL A.next m A w m' A' w'
def knW (P:Program) (W0:World) (m0:Inj P) (g:FuncId) (args:List Value) (A:AW) (K:Value→AW→Prop):Prop:=
 (∃ vals,g≠J2∧KC.Holds P W0 m0 ⟨g,args,vals⟩∧vals.all (AG 4)=true∧∀ v∈vals,K v A)∨Abm P W0 m0 g args A K
def toW (P:Program) (X:Bx) (W0:World) (m0:Inj P) (g:FuncId) (args:List Value) (A:AW) (K:Value→AW→Prop):Prop:=
 bif Ib g X.known then knW P W0 m0 g args A K else Wc P X W0 m0 g args A K
def PO (es:List MapEntry) (since:Nat) (seen:List Nat):List (Option MapEntry):=
 (if ((es.filter fun e=>!seen.contains e.born).filter fun e=>Nat.blt e.born since).isEmpty then [none] else [])++
  (((es.filter fun e=>!seen.contains e.born).filter fun e=>Nat.blt e.born since)++((es.filter fun e=>!seen.contains e.born).filter fun e=>Nat.ble since e.born)).map some
def Xv (A:AW) (r:Nat) (K:Value→AW→Prop):Prop:=
 ∃ m since seen last es clock ro,A.get r=some (.mit (some m) since seen last)∧A.get m=some (.map es clock ro)∧(!seen.isEmpty&&!es.isEmpty&&es.all (fun e=>Nat.ble last e.born))=false∧
  ∀ c∈PO es since seen,(match c with
   | some e=>K (.tuple #[.bool true,e.key,e.val]) (A.put r (.mit (some m) since (seen++[e.born]) clock))
   | none=>K (.tuple #[.bool false]) A)
def anW (P:Program) (X:Bx) (W0:World) (m0:Inj P) (r:R AN) (K:Value→AW→Prop):Prop:=
 (∃ v A,r=.ok (.value v) A∧K v A)∨(∃ g args A,r=.ok (.enter g args) A∧toW P X W0 m0 g args A K)∨
  (∃ it A,r=.ok (.rangeNext it) A∧Xv A it K)
def Cd (c a b:Value) (K:Value→Prop):Prop:=∃ t,c=.bool t∧K (bif t then a else b)
def At (P:Program) (A:AW) (t:TypeId) (a:Value):Option Value:=match a with | .pointer (some a)=>EA P A t a | _=>none
def AB (P:Program) (A:AW) (t:TypeId) (a x:Value):Option AW:=match a with | .pointer (some a)=>Jm P A t a x | _=>none
def Fc (A:AW) (cs:List Value) (e:TypeId):R Value:=match A.newRow cs e with | some (a,A')=>.ok (.pointer (some a)) A' | none=>.fail ""
def BM (P:Program) (A:AW) (e:TypeId):R Value:=match D4 P e with | some z=>Fc A z.cells.toList e | none=>.fail ""
def Hp (A:AW):R Value:=match A.new (.map [] 0 false) with | some (b,A')=>.ok (.map (some b)) A' | none=>.fail ""
def EO (P:Program) (t:TypeId) (x:Value):Option Value:=match P.underlying t with | some (.interface _)=>none | some _=>some (.iface t x) | none=>none
def BC (t:Value) (i:Nat):Option Value:=match t with | .tuple vs=>vs.toList[i]? | _=>none
def Ce (x:Value):Option Value:=match x with | .pointer none=>none | .nilIface=>none | .nilFunc=>none | .func (.method _) _ _=>none | x=>some x
def Gg (P:Program) (X:Bx) (A:AW) (f:Value) (args:List Value):R AN:=match f with | .func fn first captured=>Eg P X A (.fn fn captured) (first.toList++args) | _=>.fail ""
def TX (x:Value) (r:List Value):Option Value:=match x with | .int k a=>(match QJ a r with | some n=>some (.int k n) | none=>none) | _=>none
def V5 (P:Program) (X:Bx) (W0:World) (m0:Inj P) (ρ:Operand→Value) (c:Call) (type:TypeId) (A:AW) (K:Value→AW→Prop):Prop:=
 match c.callee,c.argTypes.toList,c.args.toList with
 | .builtin .len,[t],[x]=>Ab (Bn P A t (ρ x)) fun v=>K v A
 | .builtin .append,[t,t2],[s,x]=>Al (Bf P A t t2 (ρ s) (ρ x)) K
 | .builtin .copy,[t,_],[d,x]=>Al (Iy P A t (ρ d) (ρ x)) K
 | .builtin .min,_,x::r=>Ab (TX (ρ x) (r.map ρ)) fun v=>K v A
 | .value (.func f),_,args=>bif Gt P f then toW P X W0 m0 f (args.map ρ) A K else anW P X W0 m0 (B4 P X A f (args.map ρ)) K
 | .value f,_,args=>anW P X W0 m0 (Gg P X A (ρ f) (args.map ρ)) K
 | .invoke ..,_,_=>False
 | .builtin b,ts,args=>anW P X W0 m0 (Cn P A b ts type (args.map ρ)) K
def opW (P:Program) (X:Bx) (W0:World) (m0:Inj P) (ρ:Operand→Value) (o:Oper) (A:AW) (K:Value→AW→Prop):Prop:=
 match o.op with
 | .move x=>K (ρ x) A
 | .assign x=>K (ρ x) A
 | .pick c a b=>Cd (ρ c) (ρ a) (ρ b) fun v=>K v A
 | .alloc e=>Al (BM P A e) K
 | .box e x=>Al (Fc A (ρ x).cells.toList e) K
 | .build t parts=>Ab (Bo P t (FA parts.toList ρ)) fun v=>K v A
 | .buildSlice t len parts=>Al (Ar P A t len (FA parts.toList ρ)) K
 | .load t a=>Ab (At P A t (ρ a)) fun v=>K v A
 | .store t a x=>Bb (AB P A t (ρ a) (ρ x)) fun A=>K undef A
 | .nilCheck x=>Ab (Ce (ρ x)) fun v=>K v A
 | .binOp op t x y _=>Ab (Ag P op t x y (ρ x) (ρ y)) fun v=>K v A
 | .unOp op _ x=>Ab (unA P op (ρ x)) fun v=>K v A
 | .convert s d x=>Al (Au P A s d (ρ x)) K
 | .makeInterface t x=>Ab (EO P t (ρ x)) fun v=>K v A
 | .makeFunc fn first captured=>(match fn with | .yield _=>False | _=>K (.func fn ⟨first.toList.map ρ⟩ ⟨captured.toList.map ρ⟩) A)
 | .makeMap _ none=>Al (Hp A) K
 | .makeSlice t l c=>Al (Cu P A t (ρ l) (ρ c)) K
 | .slice t x lo hi mx=>Ab (Br P A t (ρ x) (lo.map ρ) (hi.map ρ) (mx.map ρ)) fun v=>K v A
 | .fieldAddr s x f=>Ab (Ac P s (ρ x) f) fun v=>K v A
 | .indexAddr t x ix=>Ab (Am P t (ρ x) (ρ ix)) fun v=>K v A
 | .index t x ix=>Ab (Bj P t (ρ x) (ρ ix)) fun v=>K v A
 | .lookup t x k ok=>Ab (Gq P A t (ρ x) (ρ k) ok) fun v=>K v A
 | .mapUpdate t m k x=>Bb (AK P A t (ρ m) (ρ k) (ρ x)) fun A=>K undef A
 | .insert t m k x=>Bb (AK P A t (ρ m) (ρ k) (ρ x)) fun A=>K undef A
 | .extract t ix=>Ab (BC (ρ t) ix) fun v=>K v A
 | .call c=>V5 P X W0 m0 ρ c o.type A K
 | _=>anW P X W0 m0 (AU P X ρ o A) K
def Rv (P:Program) (X:Bx) (W0:World) (m0:Inj P) (r:R AN) (K:Value→AW→Prop):Prop:=
 (∃ v A,r=.ok (.value v) A∧K v A)∨(∃ A,r=.ok .skip A∧K undef A)∨(∃ g args A,r=.ok (.enter g args) A∧toW P X W0 m0 g args A K)∨
  (∃ it A,r=.ok (.rangeNext it) A∧Xv A it K)
theorem anW.Sr {r:R AN} {K:Value→AW→Prop} (h:anW P X W0 m0 r K):Rv P X W0 m0 r K:=by
 rcases h with h | h | h
 ·exact .inl h
 ·exact .inr (.inr (.inl h))
 ·exact .inr (.inr (.inr h))
end
section
variable {P:Program} {X:Bx} {W0:World} {m0:Inj P}
theorem Ej {r:Option Value} {A:AW} {K:Value→AW→Prop} (h:Ab r fun v=>K v A) {why:String}:Rv P X W0 m0 (match (generalizing:=false) r with | some v=>.ok (.value v) A | none=>.fail why) K:=by
 obtain ⟨v,rfl,hk⟩:=h
 exact .inl ⟨v,A,rfl,hk⟩
theorem Re {r:Option AW} {K:Value→AW→Prop} (h:Bb r fun A=>K undef A) {why:String}:Rv P X W0 m0 (match (generalizing:=false) r with | some A=>.ok .skip A | none=>.fail why) K:=by
 obtain ⟨v,rfl,hk⟩:=h
 exact .inr (.inl ⟨v,rfl,hk⟩)
theorem HQ {r:R Value} {K:Value→AW→Prop} (h:Al r K):Rv P X W0 m0 (match (generalizing:=false) r with | .ok v A=>.ok (.value v) A | .fail y=>.fail y) K:=by
 obtain ⟨v,A,rfl,hk⟩:=h
 exact .inl ⟨v,A,rfl,hk⟩
theorem C8 {v:Value} {A:AW} {K:Value→AW→Prop} (h:K v A):Rv P X W0 m0 (.ok (.value v) A) K:=.inl ⟨v,A,rfl,h⟩
theorem SC {ρ:Operand→Value} (hρ:∀ f,ρ (.func f)=.func (.func f) #[] #[]) {c:Call} {type:TypeId} {A:AW} {K:Value→AW→Prop} (h:V5 P X W0 m0 ρ c type A K):
  Rv P X W0 m0 (match (generalizing:=false) DW ρ c type with | some d=>Eg P X A d.target d.args.toList | none=>.fail "call no function") K:=by
 obtain ⟨callee,args,ts⟩:=c
 unfold V5 at h
 simp only at h
 unfold DW
 split at h
 ·rename_i h1 h2
  simp only [h1,h2,Eg,Cn,Mc,Mn]
  exact Ej h
 ·rename_i h1 h2
  simp only [h1,h2,Eg,Cn,Mc,Mn]
  exact HQ h
 ·rename_i h1 h2
  simp only [h1,h2,Eg,Cn,Mc,Mn]
  exact HQ h
 ·rename_i x r h2
  simp only [h2,Eg,Mc]
  obtain ⟨v,hv,hk⟩:=h
  unfold TX at hv
  split at hv
  ·rename_i k a he
   split at hv
   ·rename_i n hn
    cases hv
    simp only [he,Cn,hn]
    exact C8 hk
   ·cases hv
  ·cases hv
 ·rename_i f
  simp only [hρ,Eg,List.nil_append,List.append_nil]
  cases hb:Gt P f with
  | true=>
   rw [hb,Ct] at h
   unfold B4
   rw [hb,Ct]
   exact .inr (.inr (.inl ⟨f,_,A,rfl,h⟩))
  | false=>
   rw [hb,Cf] at h
   exact h.Sr
 ·simp only
  have h:=h.Sr
  unfold Gg at h
  split at h
  ·rename_i he
   simp only [he]
   exact h
  ·rcases h with ⟨v,A',h,_⟩ | ⟨A',h,_⟩ | ⟨g,aS,A',h,_⟩ | ⟨it,A',h,_⟩ <;> cases h
 ·exact h.elim
 ·simp only [Eg]
  exact h.Sr
theorem QG {ρ:Operand→Value} (hρ:∀ f,ρ (.func f)=.func (.func f) #[] #[]) {o:Oper} {A:AW} {K:Value→AW→Prop} (h:opW P X W0 m0 ρ o A K):Rv P X W0 m0 (AU P X ρ o A) K:=by
 obtain ⟨dst,op,type,pos,after,guard⟩:=o
 unfold opW at h
 unfold AU
 cases op with
 | move x=>exact C8 h
 | assign x=>exact C8 h
 | pick c a b=>
  obtain ⟨t,h1,h2⟩:=h
  simp only [h1]
  cases t <;> exact C8 h2
 | alloc e=>
  obtain ⟨v,A',h1,h2⟩:=h
  unfold BM Fc at h1
  split at h1
  ·rename_i z hz
   simp only [hz]
   split at h1
   ·rename_i a A2 ha
    cases h1
    simp only [ha]
    exact C8 h2
   ·cases h1
  ·cases h1
 | box e x=>
  obtain ⟨v,A',h1,h2⟩:=h
  unfold Fc at h1
  split at h1
  ·rename_i a A2 ha
   cases h1
   simp only [ha]
   exact C8 h2
  ·cases h1
 | build t parts=>exact Ej h
 | buildSlice t len parts=>exact HQ h
 | load t a=>
  obtain ⟨v,h1,h2⟩:=h
  unfold At at h1
  split at h1
  ·rename_i ad he
   simp only [he]
   rw [h1]
   exact C8 h2
  ·cases h1
 | store t a x=>
  obtain ⟨v,h1,h2⟩:=h
  unfold AB at h1
  split at h1
  ·rename_i ad he
   simp only [he]
   rw [h1]
   exact .inr (.inl ⟨_,rfl,h2⟩)
  ·cases h1
 | nilCheck x=>
  obtain ⟨v,h1,h2⟩:=h
  unfold Ce at h1
  split at h1
  ·cases h1
  ·cases h1
  ·cases h1
  ·cases h1
  ·cases h1
   simp only
   exact C8 h2
 | binOp op t x y yt=>exact Ej h
 | unOp op t x=>exact Ej h
 | convert s d x=>exact HQ h
 | makeInterface t x=>
  obtain ⟨v,h1,h2⟩:=h
  unfold EO at h1
  simp only
  cases hu:P.underlying t with
  | none=>rw [hu] at h1;cases h1
  | some d=>
   rw [hu] at h1
   cases d <;> first | (cases h1;done) | (cases h1;exact C8 h2)
 | makeFunc fn first captured=>
  simp only at h ⊢
  split at h
  ·exact h.elim
  ·split
   ·simp_all
   ·exact C8 h
 | makeMap t r=>
  cases r with
  | none=>
   obtain ⟨v,A',h1,h2⟩:=h
   unfold Hp at h1
   simp only
   split at h1
   ·rename_i b A2 hb
    cases h1
    simp only [hb]
    exact C8 h2
   ·cases h1
  | some r=>exact h.Sr
 | makeSlice t l c=>exact HQ h
 | slice t x lo hi mx=>exact Ej h
 | fieldAddr s x f=>exact Ej h
 | indexAddr t x ix=>exact Ej h
 | index t x ix=>exact Ej h
 | lookup t x k ok=>exact Ej h
 | mapUpdate t m k x=>exact Re h
 | insert t m k x=>exact Re h
 | extract t ix=>
  obtain ⟨v,h1,h2⟩:=h
  unfold BC at h1
  simp only
  split at h1
  ·rename_i vs he
   simp only [he]
   rw [h1]
   exact C8 h2
  ·cases h1
 | call c=>exact SC hρ h
 | _=>exact h.Sr
end
def Ae (v:Value) (p q:Prop):Prop:=(∃ b,v=.bool b)∧(v=.bool true→p)∧(v=.bool false→q)
def AZ (a b:List Item) (p:Prop):Prop:=a=b∧p
def eqW (a b:Value) (p:Prop):Prop:=a=b∧p
def Bz (c:Option Ru) (A:AW) (v:Value) (p:Prop):Prop:=(∃ f,c=some f∧B8 A v f=true)∧p
def Jx (kt kf:Nat):Operand→Option Bool
 | .const (.bool b)=>some b
 | .tmp t=>bif kt.testBit t then some true else bif kf.testBit t then some false else none
 | _=>none
def T5 (kt kf:Nat):Op→Option Bool
 | .move x=>Jx kt kf x
 | .assign x=>Jx kt kf x
 | .pick c a b=>(match Jx kt kf c with | some true=>Jx kt kf a | some false=>Jx kt kf b | none=>none)
 | _=>none
def J9 (kt kf:Nat):Op→Option Operand
 | .pick c a b=>(match Jx kt kf c with | some true=>some a | some false=>some b | none=>none)
 | _=>none
def clr (k d:Nat):Nat:=bif k.testBit d then k ^^^ (1 <<< d) else k
def Mk (k d:Nat):Nat:=bif k.testBit d then k else k ^^^ (1 <<< d)
def knT (kt d:Nat):Option Bool→Nat
 | some true=>Mk kt d
 | _=>clr kt d
def knF (kf d:Nat):Option Bool→Nat
 | some false=>Mk kf d
 | _=>clr kf d
def Z0 (kt:Nat):Operand→Nat
 | .tmp t=>Mk kt t
 | _=>kt
def O3:List Item→Nat
 | .inBlock id::_=>id
 | _=>0
def oneOf:List Value→Value
 | [v]=>v
 | l=>.tuple ⟨l⟩
def J1 (ops:Array Oper) (j:Nat):Option Tmp:=match ops.toList[j]? with | some o=>o.dst | none=>none
def knU (ku d:Nat) (skipped:Bool):Nat:=bif skipped then Mk ku d else clr ku d
def UH (kt kf ku:Nat) (ops:Array Oper) (o:Oper):Option Bool:=
 match o.guard with
 | none=>some true
 | some (j,want)=>(match J1 ops j with
  | none=>none
  | some d=>bif ku.testBit d then some false else (match Jx kt kf (.tmp d) with | some b=>some (b==want) | none=>none))
section
variable (P:Program) (X:Bx) (W0:World) (m0:Inj P)
def Qs (A:AW) (tm:Tm) (Q:Value→AW→Prop):List ResultVar→List Value→Prop
 | [],acc=>Q (oneOf acc.reverse) A
 | .tmp t::r,acc=>Qs A tm Q r (tm.get t::acc)
 | .cell a t::r,acc=>Ab (At P A t (tm.get a)) fun v=>Qs A tm Q r (v::acc)
def TO (fn:FuncId) (A:AW) (tm:Tm) (Q:Value→AW→Prop):Prop:=
 match P.funcs[fn]? with
 | some f=>Qs P A tm Q f.results.toList []
 | none=>False
def Eb (fn:FuncId) (T:Nat→List Item) (L:Nat→List Tmp) (S:Nat→List Value→AW→Prop) (Q:Value→AW→Prop):Nat→Tm→List Item→Bool→Nat→Nat→Nat→AW→Prop
 | 0,_,_,_,_,_,_,_=>False
 | n+1,tm,todo,dr,kt,kf,ku,A=>
  match todo with
  | []=>bif dr then False else TO P fn A tm Q
  | .code .ret::_=>bif dr then False else TO P fn A tm Q
  | .code .skip::k=>Eb fn T L S Q n tm k dr kt kf ku A
  | .inBlock _::k=>Eb fn T L S Q n tm k dr kt kf ku A
  | .inScope _::k=>Eb fn T L S Q n tm k dr kt kf ku A
  | .code (.seq a b)::k=>Eb fn T L S Q n tm (.code a:: .code b::k) dr kt kf ku A
  | .code (.cond c a b)::k=>(match Jx kt kf c with
   | some true=>Eb fn T L S Q n tm (.code a::k) dr kt kf ku A
   | some false=>Eb fn T L S Q n tm (.code b::k) dr kt kf ku A
   | none=>Ae (BA tm c) (Eb fn T L S Q n tm (.code a::k) dr (Z0 kt c) kf ku A) (Eb fn T L S Q n tm (.code b::k) dr kt (Z0 kf c) ku A))
  | .code (.block id b)::k=>Eb fn T L S Q n tm (.code b:: .inBlock id::k) dr kt kf ku A
  | .code (.scope b)::k=>Eb fn T L S Q n tm (.code b:: .inScope b::k) dr kt kf ku A
  | .code (.loop b)::k=>bif dr then False else AZ (.code b:: .inLoop b::k) (T (O3 k)) (S (O3 k) ((L (O3 k)).map tm.get) A)
  | .inLoop b::k=>bif dr then False else AZ (.code b:: .inLoop b::k) (T (O3 k)) (S (O3 k) ((L (O3 k)).map tm.get) A)
  | .code (.exit id)::k=>(match Ih id k with | some k'=>Eb fn T L S Q n tm k' dr kt kf ku A | none=>False)
  | .code (.region _ ops false)::k=>Eb fn T L S Q n tm (.inRegion ops (List.range ops.toList.length)::k) dr kt kf ku A
  | .code (.region _ ops true)::k=>bif I7 tm.sz ops.toList then (match M5 P ops.toList with
   | some p=>Eb fn T L S Q n tm (.inRegion ops p::k) true kt kf ku A
   | none=>False) else False
  | .inRegion _ []::k=>Eb fn T L S Q n tm k false kt kf ku A
  | .inRegion ops (i::rest)::k=>
   bif dr&&!Nat.blt i ops.toList.length then
    (match ops.toList[i - ops.toList.length]? with
    | none=>False
    | some o=>(match o.dst,UH kt kf ku ops o with
     | some d,some false=>eqW undef (tm.get d) (Eb fn T L S Q n tm (.inRegion ops rest::k) dr kt kf ku A)
     | some d,some true=>bif CT P o.op then
       (match J9 kt kf o.op with
       | some x=>eqW (BA tm x) (tm.get d) (Eb fn T L S Q n tm (.inRegion ops rest::k) dr kt kf ku A)
       | none=>opW P X W0 m0 (BA tm) o A fun v _=>eqW v (tm.get d) (Eb fn T L S Q n tm (.inRegion ops rest::k) dr kt kf ku A))
      else Bz (AR P (BA tm) o.op) A (tm.get d) (Eb fn T L S Q n tm (.inRegion ops rest::k) dr kt kf ku A)
     | _,_=>False))
   else (match ops.toList[i]? with
    | none=>False
    | some o=>
     let fin (kt kf:Nat) (r:Option Bool) (sk:Bool) (v:Value) (A':AW):Prop:=(match o.dst with
      | some d=>bif Nat.blt d tm.sz then Eb fn T L S Q n (tm.set d v) (.inRegion ops rest::k) dr (knT kt d r) (knF kf d r) (knU ku d sk) A' else False
      | none=>Eb fn T L S Q n tm (.inRegion ops rest::k) dr kt kf ku A')
     let go (kt kf:Nat):Prop:=(match J9 kt kf o.op with
      | some x=>fin kt kf (Jx kt kf x) false (BA tm x) A
      | none=>opW P X W0 m0 (BA tm) o A (fin kt kf (T5 kt kf o.op) false))
     match o.guard with
     | none=>go kt kf
     | some (j,want)=>(match J1 ops j with
      | none=>False
      | some d=>bif ku.testBit d then fin kt kf none true undef A else (match Jx kt kf (.tmp d) with
       | some b=>bif b==want then go kt kf else fin kt kf none true undef A
       | none=>Ae (tm.get d) (bif want then go (Mk kt d) kf else fin (Mk kt d) kf none true undef A) (bif want then fin kt (Mk kf d) none true undef A else go kt (Mk kf d)))))
  | _=>False
end
section
variable {P:Program} {X:Bx} {W0:World} {m0:Inj P}
abbrev frM (fn:FuncId) (tm:Tm) (todo:List Item) (dr:Bool):AFr:=⟨fn,tm,todo,.run,dr⟩
def Kn (kt kf ku:Nat) (tm:Tm):Prop:=∀ t,(kt.testBit t=true→tm.get t=.bool true)∧(kf.testBit t=true→tm.get t=.bool false)∧(ku.testBit t=true→tm.get t=undef)
theorem EV {kt kf ku:Nat} {tm:Tm} (h:Kn kt kf ku tm) {x:Operand} {b:Bool} (hx:Jx kt kf x=some b):BA tm x=.bool b:=by
 cases x with
 | const v=>
  cases v <;> simp only [Jx] at hx <;> first | (cases hx;done) | (cases hx;rfl)
 | tmp t=>
  simp only [Jx] at hx
  cases h1:kt.testBit t with
  | true=>
   rw [h1,Ct,Oi] at hx
   subst hx
   exact (h t).1 h1
  | false=>
   rw [h1,Cf] at hx
   cases h2:kf.testBit t with
   | true=>
    rw [h2,Ct,Oi] at hx
    subst hx
    exact (h t).2.1 h2
   | false=>rw [h2] at hx;cases hx
 | _=>cases hx
theorem Dt (k d t:Nat):(Mk k d).testBit t=(k.testBit t || d==t):=by
 unfold Mk
 cases h:k.testBit d with
 | true=>
  simp only [Ct]
  by_cases e:d=t
  ·subst e;simp [h]
  ·simp [e]
 | false=>
  simp only [Cf,Nat.testBit_xor,Nat.one_shiftLeft,Nat.testBit_two_pow]
  by_cases e:d=t
  ·subst e;simp [h]
  ·simp [e]
theorem De (k d t:Nat):(clr k d).testBit t=(k.testBit t&&!(d==t)):=by
 unfold clr
 cases h:k.testBit d with
 | false=>
  simp only [Cf]
  by_cases e:d=t
  ·subst e;simp [h]
  ·simp [e]
 | true=>
  simp only [Ct,Nat.testBit_xor,Nat.one_shiftLeft,Nat.testBit_two_pow]
  by_cases e:d=t
  ·subst e;simp [h]
  ·simp [e]
theorem Kn.set {kt kf ku:Nat} {tm:Tm} (h:Kn kt kf ku tm) (hs:tm.sz < Ap) {d:Nat} (hd:d < tm.sz) {v:Value} {r:Option Bool} {sk:Bool} (hr:∀ b,r=some b→v=.bool b) (hu:sk=true→v=undef):Kn (knT kt d r) (knF kf d r) (knU ku d sk) (tm.set d v):=by
 intro t
 rw [Tm.Fe tm hs d t v]
 by_cases e:t=d
 ·subst e
  rw [if_pos ⟨rfl,hd⟩]
  refine ⟨?_,?_,?_⟩
  ·cases r with
   | none=>simp [knT,De]
   | some b=>cases b <;> simp [knT,De,Dt,hr]
  ·cases r with
   | none=>simp [knF,De]
   | some b=>cases b <;> simp [knF,De,Dt,hr]
  ·cases sk with
   | false=>simp [knU,De]
   | true=>simp [knU,Dt,hu]
 ·rw [Ff (by simp [e])]
  have hne:(d==t)=false:=by simp [Ne.symm e]
  refine ⟨?_,?_,?_⟩
  ·cases r with
   | none=>simpa [knT,De,hne] using (h t).1
   | some b=>cases b <;> simpa [knT,De,Dt,hne] using (h t).1
  ·cases r with
   | none=>simpa [knF,De,hne] using (h t).2.1
   | some b=>cases b <;> simpa [knF,De,Dt,hne] using (h t).2.1
  ·cases sk <;> simpa [knU,De,Dt,hne] using (h t).2.2
theorem Kn.true {kt kf ku:Nat} {tm:Tm} (h:Kn kt kf ku tm) {d:Nat} (hv:tm.get d=.bool true):Kn (Mk kt d) kf ku tm:=by
 intro t
 rw [Dt]
 refine ⟨fun ht=>?_,(h t).2⟩
 simp only [Bool.or_eq_true,beq_iff_eq] at ht
 rcases ht with ht | rfl
 ·exact (h t).1 ht
 ·exact hv
theorem Kn.false {kt kf ku:Nat} {tm:Tm} (h:Kn kt kf ku tm) {d:Nat} (hv:tm.get d=.bool false):Kn kt (Mk kf d) ku tm:=by
 intro t
 rw [Dt]
 refine ⟨(h t).1,fun ht=>?_,(h t).2.2⟩
 simp only [Bool.or_eq_true,beq_iff_eq] at ht
 rcases ht with ht | rfl
 ·exact (h t).2.1 ht
 ·exact hv
theorem CR (hX:XOk P X) (hP:POk P) {s s':ASt} {Q:Value→AW→Prop} (h:Cc P X s=.next s') (h':WP P X W0 m0 s' Q):WP P X W0 m0 s Q:=(RJ hX hP h).wp1 h'
theorem finish_at {fn:FuncId} {tm:Tm} {ops:Array Oper} {i:Nat} {rest:List Nat} {k:List Item} {dr:Bool} {o:Oper} (ho:ops.toList[i]? =some o) (v:Value):
  (frM fn tm (.inRegion ops (i::rest)::k) dr).finish v=frM fn (match o.dst with | some d=>tm.set d v | none=>tm) (.inRegion ops rest::k) dr:=by
 unfold AFr.finish
 simp only [ho]
 rfl
theorem Ov {fn:FuncId} {tm:Tm} {ops:Array Oper} {i:Nat} {rest:List Nat} {k:List Item} {dr:Bool} {cs:List AFr} {A:AW} {o:Oper} (ho:ops.toList[i]? =some o) (hi:(dr&&!Nat.blt i ops.toList.length)=false):
  Cc P X ⟨frM fn tm (.inRegion ops (i::rest)::k) dr,cs,A⟩=(match EN P X ⟨frM fn tm (.inRegion ops (i::rest)::k) dr,cs,A⟩ ops i with
   | some (f,args,w)=>.calls f args ⟨frM fn tm (.inRegion ops (i::rest)::k) dr,cs,w⟩
   | none=>(bif Bi ops tm o then Cj P (frM fn tm (.inRegion ops (i::rest)::k) dr) cs (AU P X (BA tm) o A) else .next ⟨(frM fn tm (.inRegion ops (i::rest)::k) dr).finish undef,cs,A⟩)):=by
 have e:Cc P X ⟨frM fn tm (.inRegion ops (i::rest)::k) dr,cs,A⟩=(bif dr&&!Nat.blt i ops.toList.length then .fail "recheck"
  else (match EN P X ⟨frM fn tm (.inRegion ops (i::rest)::k) dr,cs,A⟩ ops i with
   | some (f,args,w)=>.calls f args ⟨frM fn tm (.inRegion ops (i::rest)::k) dr,cs,w⟩
   | none=>(match ops.toList[i]? with
    | some o=>bif Bi ops tm o then Cj P (frM fn tm (.inRegion ops (i::rest)::k) dr) cs (AU P X (frM fn tm (.inRegion ops (i::rest)::k) dr).eval o A) else .next ⟨(frM fn tm (.inRegion ops (i::rest)::k) dr).finish undef,cs,A⟩
    | none=>.fail "no operation"))):=rfl
 rw [e,hi,Cf,ho]
 simp only
 rw [CO]
theorem Pb (hX:XOk P X) (hP:POk P) {fn:FuncId} {tm:Tm} {ops:Array Oper} {i:Nat} {rest:List Nat} {k:List Item} {dr:Bool} {cs:List AFr} {A:AW} {o:Oper} {K Q:Value→AW→Prop} (ho:ops.toList[i]? =some o)
  (hi:(dr&&!Nat.blt i ops.toList.length)=false) (hw:Bi ops tm o=true) (h:Rv P X W0 m0 (AU P X (BA tm) o A) K)
  (h':∀ v A',K v A'→WP P X W0 m0 ⟨frM fn (match o.dst with | some d=>tm.set d v | none=>tm) (.inRegion ops rest::k) dr,cs,A'⟩ Q):WP P X W0 m0 ⟨frM fn tm (.inRegion ops (i::rest)::k) dr,cs,A⟩ Q:=by
 have e1:=Ov (P:=P) (X:=X) (fn:=fn) (tm:=tm) (rest:=rest) (k:=k) (cs:=cs) (A:=A) ho hi
 have e:=fun h:EN P X ⟨frM fn tm (.inRegion ops (i::rest)::k) dr,cs,A⟩ ops i=none=>(by rw [e1,h,hw,Ct]:Cc P X ⟨frM fn tm (.inRegion ops (i::rest)::k) dr,cs,A⟩=Cj P (frM fn tm (.inRegion ops (i::rest)::k) dr) cs (AU P X (BA tm) o A))
 have notk:∀ {r:R AN},AU P X (BA tm) o A=r→(∀ g args A',r=.ok (.enter g args) A'→Ib g X.known=false)→EN P X ⟨frM fn tm (.inRegion ops (i::rest)::k) dr,cs,A⟩ ops i=none:=by
  intro r hr hn
  unfold EN
  split
  ·rfl
  ·simp only [ho,hw,Ct]
   rw [CO]
   show (match AU P X (BA tm) o A with | .ok (.enter f args) w=>bif Ib f X.known then some (f,args,w) else none | _=>none)=none
   rw [hr]
   split
   ·rename_i g args A' he
    rw [hn _ _ _ rfl,Cf]
   ·rfl
 rcases h with ⟨v,A',hx,hk⟩ | ⟨A',hx,hk⟩ | ⟨g,args,A',hx,hk⟩ | ⟨it,A',hx,m,since,seen,last,es,clock,ro',hg1,hg2,hg3,hk⟩
 ·rw [hx] at e
  refine CR hX hP (e (notk hx (fun _ _ _ h=>by cases h))) ?_
  rw [finish_at ho]
  exact h' v A' hk
 ·rw [hx] at e
  refine CR hX hP (e (notk hx (fun _ _ _ h=>by cases h))) ?_
  rw [finish_at ho]
  exact h' undef A' hk
 ·unfold toW at hk
  cases hkn:Ib g X.known with
  | true=>
   rw [hkn,Ct] at hk
   have e3:Cc P X ⟨frM fn tm (.inRegion ops (i::rest)::k) dr,cs,A⟩=.calls g args ⟨frM fn tm (.inRegion ops (i::rest)::k) dr,cs,A'⟩:=by
    have h1:EN P X ⟨frM fn tm (.inRegion ops (i::rest)::k) dr,cs,A⟩ ops i=some (g,args,A'):=by
     unfold EN
     split
     ·rename_i hnil;rw [hnil] at hkn;cases hkn
     ·simp only [ho,hw,Ct]
      rw [CO]
      show (match AU P X (BA tm) o A with | .ok (.enter f args) w=>bif Ib f X.known then some (f,args,w) else none | _=>none)=_
      rw [hx]
      simp only [hkn,Ct]
    rw [e1,h1]
   rcases hk with ⟨vals,hg,hK,hc,hq⟩ | hl
   ·refine (Qv hX hP e3 hg hK hc).wp fun x hx=>?_
    obtain ⟨v,hv,rfl⟩:=List.mem_map.1 hx
    show WP P X W0 m0 ⟨(frM fn tm (.inRegion ops (i::rest)::k) dr).finish v,cs,A'⟩ Q
    rw [finish_at ho]
    exact h' v A' (hq v hv)
   ·refine XR hX hP e3 hl fun v A2 hq=>?_
    show WP P X W0 m0 ⟨(frM fn tm (.inRegion ops (i::rest)::k) dr).finish v,cs,A2⟩ Q
    rw [finish_at ho]
    exact h' v A2 hq
  | false=>
  rw [hkn,Cf] at hk
  rw [hx] at e
  have e:=e (notk hx (fun _ _ _ h=>by cases h;exact hkn))
  obtain ⟨fr',he⟩:=Option.isSome_iff_exists.1 hk.1
  have h2:=hk.2
  unfold WR at h2
  rw [he] at h2
  simp only [Cj,he] at e
  refine CR hX hP e (XQ h2 fun v A2 hk2=>?_)
  rw [finish_at ho]
  exact h' v A2 hk2
 ·rw [hx] at e
  have e:=e (notk hx (fun _ _ _ h=>by cases h))
  have e2:Cj P (frM fn tm (.inRegion ops (i::rest)::k) dr) cs (.ok (.rangeNext it) A')=.branch ((PO es since seen).map fun c=>match c with
     | some e=>⟨(frM fn tm (.inRegion ops (i::rest)::k) dr).finish (.tuple #[.bool true,e.key,e.val]),cs,A'.put it (.mit (some m) since (seen++[e.born]) clock)⟩
     | none=>⟨(frM fn tm (.inRegion ops (i::rest)::k) dr).finish (.tuple #[.bool false]),cs,A'⟩):=by
   unfold Cj
   simp only [hg1,hg2,hg3,Cf]
   rfl
  rw [e2] at e
  refine (Pm hX hP e).wp fun x hx=>?_
  obtain ⟨c,hc,rfl⟩:=List.mem_map.1 hx
  have hk:=hk c hc
  cases c with
  | none=>
   simp only at hk ⊢
   rw [finish_at ho]
   exact h' _ _ hk
  | some e=>
   simp only at hk ⊢
   rw [finish_at ho]
   exact h' _ _ hk
theorem wp_skip (hX:XOk P X) (hP:POk P) {fn:FuncId} {tm:Tm} {ops:Array Oper} {i:Nat} {rest:List Nat} {k:List Item} {dr:Bool} {cs:List AFr} {A:AW} {o:Oper} {Q:Value→AW→Prop} (ho:ops.toList[i]? =some o)
  (hi:(dr&&!Nat.blt i ops.toList.length)=false) (hw:Bi ops tm o=false)
  (h':WP P X W0 m0 ⟨frM fn (match o.dst with | some d=>tm.set d undef | none=>tm) (.inRegion ops rest::k) dr,cs,A⟩ Q):WP P X W0 m0 ⟨frM fn tm (.inRegion ops (i::rest)::k) dr,cs,A⟩ Q:=by
 have hkn:EN P X ⟨frM fn tm (.inRegion ops (i::rest)::k) dr,cs,A⟩ ops i=none:=by
  unfold EN
  split
  ·rfl
  ·simp only [ho,hw,Cf]
 have e:=Ov (P:=P) (X:=X) (fn:=fn) (tm:=tm) (rest:=rest) (k:=k) (cs:=cs) (A:=A) ho hi
 rw [hkn,hw,Cf] at e
 refine CR hX hP e ?_
 rw [finish_at ho]
 exact h'
theorem HX {fn:FuncId} {tm:Tm} {ops:Array Oper} {i:Nat} {rest:List Nat} {k:List Item} {cs:List AFr} {A:AW} {Q:Value→AW→Prop} (hi:ops.toList.length≤i) (hv:Valid P X A ops tm (i - ops.toList.length))
  (h':WP P X W0 m0 ⟨frM fn tm (.inRegion ops rest::k) true,cs,A⟩ Q):WP P X W0 m0 ⟨frM fn tm (.inRegion ops (i::rest)::k) true,cs,A⟩ Q:=by
 have hr:Reach P X W0 m0 ⟨frM fn tm (.inRegion ops (i::rest)::k) true,cs,A⟩ [⟨frM fn tm (.inRegion ops rest::k) true,cs,A⟩]:=by
  intro f0 base lo cs0 m f csW w h _
  exact ⟨_,by simp,Qu h rfl rfl rfl hi hv⟩
 exact hr.wp1 h'
def WE (P:Program) (A:AW) (tm:Tm) (r:ResultVar):Option Value:=match r with | .tmp t=>some (tm.get t) | .cell a t=>At P A t (tm.get a)
theorem Pk {A:AW} {f:Func} {tm:Tm}:CW P A f tm=(match CW.go (WE P A tm) f.results.toList with | some [v]=>some v | some l=>some (.tuple ⟨l⟩) | none=>none):=rfl
theorem J4 {A:AW} {tm:Tm} {Q:Value→AW→Prop}:∀ (l:List ResultVar) (acc:List Value),Qs P A tm Q l acc→∃ vs,CW.go (WE P A tm) l=some vs∧Q (oneOf (acc.reverse++vs)) A
 | [],acc,h=>⟨[],rfl,by simpa [Qs] using h⟩
 | .tmp t::l,acc,h=>by
  obtain ⟨vs,h1,h2⟩:=J4 l _ h
  refine ⟨tm.get t::vs,?_,by simpa using h2⟩
  simp only [CW.go,h1,WE]
 | .cell a t::l,acc,h=>by
  obtain ⟨v,h0,hv⟩:=h
  obtain ⟨vs,h1,h2⟩:=J4 l _ hv
  refine ⟨v::vs,?_,by simpa using h2⟩
  simp only [CW.go,h1,WE,h0]
theorem TN {fn:FuncId} {f:Func} (hf:P.funcs[fn]? =some f) {A:AW} {tm:Tm} {Q:Value→AW→Prop} (h:TO P fn A tm Q):∃ v,CW P A f tm=some v∧Q v A:=by
 unfold TO at h
 rw [hf] at h
 obtain ⟨vs,h1,h2⟩:=J4 _ _ h
 rw [Pk,h1]
 match vs,h2 with
 | [],h2=>exact ⟨_,rfl,h2⟩
 | [v],h2=>exact ⟨_,rfl,h2⟩
 | a::b::r,h2=>exact ⟨_,rfl,h2⟩
theorem P4 (hX:XOk P X) (hP:POk P) {fn:FuncId} {tm:Tm} {todo:List Item} {A:AW} {Q:Value→AW→Prop} (ht:todo=[]∨∃ k,todo=.code .ret::k) (h:TO P fn A tm Q):WP P X W0 m0 ⟨frM fn tm todo false,[],A⟩ Q:=by
 have e:Cc P X ⟨frM fn tm todo false,[],A⟩=.next ⟨{ (frM fn tm todo false) with mode:=.returning },[],A⟩:=by
  rcases ht with rfl | ⟨k,rfl⟩ <;> rfl
 refine CR hX hP e ?_
 cases hf:P.funcs[fn]? with
 | none=>unfold TO at h;rw [hf] at h;exact h.elim
 | some f=>
  obtain ⟨v,h1,h2⟩:=TN hf h
  have e2:Cc P X ⟨{ (frM fn tm todo false) with mode:=.returning },[],A⟩=.done v A:=by
   have:Cc P X ⟨{ (frM fn tm todo false) with mode:=.returning },[],A⟩=(match P.funcs[fn]? with
    | none=>.fail "unwind fn"
    | some fn=>(match CW P A fn tm with
     | some v=>.done v A
     | none=>.fail "results")):=by
    rfl
   rw [this,hf]
   simp only
   rw [h1]
  exact (U3 hX hP e2).wp fun x hx=>by simp at hx;subst hx;exact h2
end
section
variable {P:Program} {X:Bx} {W0:World} {m0:Inj P}
theorem Tm.Yj (tm:Tm) (d:Nat) (v:Value):(tm.set d v).sz=tm.sz:=by
 unfold Tm.set
 cases Nat.blt d tm.sz <;> rfl
theorem JY {kt kf ku:Nat} {tm:Tm} (h:Kn kt kf ku tm) {ops:Array Oper} {o:Oper} {b:Bool} (hw:UH kt kf ku ops o=some b):Bi ops tm o=b:=by
 unfold UH at hw
 unfold Bi
 split at hw
 ·rename_i hg
  rw [hg]
  cases hw
  rfl
 ·rename_i j want hg
  rw [hg]
  simp only
  unfold J1 at hw
  split at hw
  ·cases hw
  ·rename_i d hd
   split at hd
   ·rename_i o' ho'
    cases hu:ku.testBit d with
    | true=>
     rw [hu,Ct] at hw
     cases hw
     have hv:tm.get d=undef:=(h d).2.2 hu
     unfold E1
     simp only [ho',hd,hv]
     rfl
    | false=>
     rw [hu,Cf] at hw
     split at hw
     ·rename_i c hc
      cases hw
      have hv:tm.get d=.bool c:=EV h hc
      unfold E1
      simp only [ho',hd,hv]
     ·cases hw
   ·cases hd
theorem Om {tm:Tm} {ops:Array Oper} {o:Oper} {j:Nat} {want b:Bool} {d:Tmp} (hg:o.guard=some (j,want)) (hs:J1 ops j=some d) (hv:tm.get d=.bool b):Bi ops tm o=(b==want):=by
 unfold Bi E1
 unfold J1 at hs
 split at hs
 ·rename_i o' ho'
  simp only [hg,ho',hs,hv]
 ·cases hs
theorem Qd {tm:Tm} {ops:Array Oper} {o:Oper} {j:Nat} {want:Bool} {d:Tmp} (hg:o.guard=some (j,want)) (hs:J1 ops j=some d) (hv:tm.get d=undef):Bi ops tm o=false:=by
 unfold Bi E1
 unfold J1 at hs
 split at hs
 ·rename_i o' ho'
  simp only [hg,ho',hs,hv]
  rfl
 ·cases hs
theorem OQ {kt kf ku:Nat} {op:Op} {x:Operand} (h:J9 kt kf op=some x) {tm:Tm} (hk:Kn kt kf ku tm) (P:Program) (X:Bx) {o:Oper} (ho:o.op=op) (A:AW):AU P X (BA tm) o A=.ok (.value (BA tm x)) A:=by
 cases op <;> simp only [J9] at h <;> try (cases h;done)
 rename_i c a b
 split at h
 ·rename_i hc
  cases h
  have:=EV hk hc
  unfold AU
  simp only [ho,this]
 ·rename_i hc
  cases h
  have:=EV hk hc
  unfold AU
  simp only [ho,this]
 ·cases h
theorem T2 {kt kf:Nat} {op:Op} {b:Bool} (hp:J9 kt kf op=none) (h:T5 kt kf op=some b):∃ x,(op=.move x∨op=.assign x)∧Jx kt kf x=some b:=by
 cases op <;> simp only [T5] at h <;> try (cases h;done)
 ·exact ⟨_,.inl rfl,h⟩
 ·exact ⟨_,.inr rfl,h⟩
 ·simp only [J9] at hp
  split at h <;> first | (cases h;done) | skip
  ·rename_i hc;rw [hc] at hp;cases hp
  ·rename_i hc;rw [hc] at hp;cases hp
theorem TV {ρ:Operand→Value} {o:Oper} {x:Operand} (hx:o.op=.move x∨o.op=.assign x) {A:AW} {K:Value→AW→Prop} (h:opW P X W0 m0 ρ o A K):AU P X ρ o A=.ok (.value (ρ x)) A∧K (ρ x) A:=by
 unfold opW at h
 unfold AU
 rcases hx with hx | hx
 ·rw [hx] at h ⊢
  exact ⟨rfl,h⟩
 ·rw [hx] at h ⊢
  exact ⟨rfl,h⟩
variable {fn:FuncId} {T:Nat→List Item} {L:Nat→List Tmp} {S:Nat→List Value→AW→Prop} {Q:Value→AW→Prop} {sz:Nat}
def NU (P:Program) (X:Bx) (W0:World) (m0:Inj P) (fn:FuncId) (T:Nat→List Item) (L:Nat→List Tmp) (S:Nat→List Value→AW→Prop) (Q:Value→AW→Prop) (sz:Nat):Prop:=
 ∀ id vals A tm,S id vals A→tm.sz=sz→(L id).map tm.get=vals→WP P X W0 m0 ⟨frM fn tm (T id) false,[],A⟩ Q
theorem MH (hX:XOk P X) (hP:POk P) (hsz:sz < Ap) (hcut:NU P X W0 m0 fn T L S Q sz):
  ∀ (n:Nat) (tm:Tm) (todo:List Item) (dr:Bool) (kt kf ku:Nat) (A:AW),tm.sz=sz→Kn kt kf ku tm→Eb P X W0 m0 fn T L S Q n tm todo dr kt kf ku A→WP P X W0 m0 ⟨frM fn tm todo dr,[],A⟩ Q:=by
 intro n
 induction n with
 | zero=>intro tm todo dr kt kf ku A _ _ h;exact h.elim
 | succ n ih=>
  intro tm todo dr kt kf ku A hs hk h
  unfold Eb at h
  split at h
  ·cases dr with
   | true=>exact h.elim
   | false=>exact P4 hX hP (.inl rfl) h
  ·cases dr with
   | true=>exact h.elim
   | false=>exact P4 hX hP (.inr ⟨_,rfl⟩) h
  ·exact CR hX hP rfl (ih _ _ _ _ _ _ _ hs hk h)
  ·exact CR hX hP rfl (ih _ _ _ _ _ _ _ hs hk h)
  ·exact CR hX hP rfl (ih _ _ _ _ _ _ _ hs hk h)
  ·exact CR hX hP rfl (ih _ _ _ _ _ _ _ hs hk h)
  ·
   rename_i c a b k
   have e:∀ t,BA tm c=.bool t→Cc P X ⟨frM fn tm (.code (.cond c a b)::k) dr,[],A⟩=.next ⟨frM fn tm (.code (bif t then a else b)::k) dr,[],A⟩:=by
    intro t ht
    have:Cc P X ⟨frM fn tm (.code (.cond c a b)::k) dr,[],A⟩=(match (frM fn tm (.code (.cond c a b)::k) dr).eval c with | .bool t=>.next ⟨frM fn tm (.code (bif t then a else b)::k) dr,[],A⟩ | _=>.fail "cond"):=rfl
    rw [this,CO]
    simp only [ht]
   split at h
   ·rename_i hc
    exact CR hX hP (e true (EV hk hc)) (ih _ _ _ _ _ _ _ hs hk h)
   ·rename_i hc
    exact CR hX hP (e false (EV hk hc)) (ih _ _ _ _ _ _ _ hs hk h)
   ·obtain ⟨⟨t,ht⟩,h1,h2⟩:=h
    cases t with
    | true=>
     refine CR hX hP (e true ht) (ih _ _ _ _ _ _ _ hs ?_ (h1 ht))
     cases c with
     | tmp t=>exact hk.true ht
     | _=>exact hk
    | false=>
     refine CR hX hP (e false ht) (ih _ _ _ _ _ _ _ hs ?_ (h2 ht))
     cases c with
     | tmp t=>exact hk.false ht
     | _=>exact hk
  ·exact CR hX hP rfl (ih _ _ _ _ _ _ _ hs hk h)
  ·exact CR hX hP rfl (ih _ _ _ _ _ _ _ hs hk h)
  ·
   cases dr with
   | true=>exact h.elim
   | false=>
    obtain ⟨h1,h2⟩:=h
    refine CR hX hP rfl ?_
    have:=hcut _ _ A tm h2 hs rfl
    rw [← h1] at this
    exact this
  ·cases dr with
   | true=>exact h.elim
   | false=>
    obtain ⟨h1,h2⟩:=h
    refine CR hX hP rfl ?_
    have:=hcut _ _ A tm h2 hs rfl
    rw [← h1] at this
    exact this
  ·
   rename_i id k
   split at h
   ·rename_i k' hk'
    have e:Cc P X ⟨frM fn tm (.code (.exit id)::k) dr,[],A⟩=.next ⟨frM fn tm k' dr,[],A⟩:=by
     unfold Cc MR
     simp only [hk']
    exact CR hX hP e (ih _ _ _ _ _ _ _ hs hk h)
   ·exact h.elim
  ·exact CR hX hP rfl (ih _ _ _ _ _ _ _ hs hk h)
  ·
   rename_i id ops k
   cases hin:I7 tm.sz ops.toList with
   | false=>rw [hin] at h;exact h.elim
   | true=>
    rw [hin,Ct] at h
    split at h
    ·rename_i p hpl
     have e:Cc P X ⟨frM fn tm (.code (.region id ops true)::k) dr,[],A⟩=.next ⟨frM fn tm (.inRegion ops p::k) true,[],A⟩:=by
      unfold Cc
      simp only [hin,Ct,hpl]
     exact CR hX hP e (ih _ _ _ _ _ _ _ hs hk h)
    ·exact h.elim
  ·exact CR hX hP rfl (ih _ _ _ _ _ _ _ hs hk h)
  ·
   rename_i ops i rest k
   cases hb:(dr&&!Nat.blt i ops.toList.length) with
   | true=>
    rw [hb,Ct] at h
    simp only [Bq,Bool.not_eq_true'] at hb
    obtain ⟨rfl,hb⟩:=hb
    have hge:=GG.1 hb
    split at h
    ·exact h.elim
    ·rename_i o ho
     split at h
     ·rename_i d hd hw
      obtain ⟨h1,h2⟩:=h
      refine HX hge ?_ (ih _ _ _ _ _ _ _ hs hk h2)
      intro o' d' ho' hd'
      rw [ho] at ho'
      cases ho'
      rw [hd] at hd'
      cases hd'
      exact ⟨fun _=>h1.symm,fun hw'=>absurd hw' (by rw [JY hk hw];exact Bool.noConfusion)⟩
     ·rename_i d hd hw
      cases hq:CT P o.op with
      | false=>
       rw [hq,Cf] at h
       obtain ⟨⟨c,h1,h3⟩,h2⟩:=h
       refine HX hge ?_ (ih _ _ _ _ _ _ _ hs hk h2)
       intro o' d' ho' hd'
       rw [ho] at ho'
       cases ho'
       rw [hd] at hd'
       cases hd'
       exact ⟨fun hw'=>absurd hw' (by rw [JY hk hw];exact Bool.noConfusion),fun _=>⟨fun hq'=>absurd hq' (by rw [hq];exact Bool.noConfusion),fun _=>⟨c,h1,h3⟩⟩⟩
      | true=>
       rw [hq,Ct] at h
       have fin:∀ A',AU P X (BA tm) o A=.ok (.value (tm.get d)) A'→Valid P X A ops tm (i - ops.toList.length):=by
        intro A' he o' d' ho' hd'
        rw [ho] at ho'
        cases ho'
        rw [hd] at hd'
        cases hd'
        exact ⟨fun hw'=>absurd hw' (by rw [JY hk hw];exact Bool.noConfusion),fun _=>⟨fun _=>⟨A',he⟩,fun hq'=>absurd hq' (by rw [hq];exact Bool.noConfusion)⟩⟩
       split at h
       ·rename_i x hpk
        obtain ⟨h1,h2⟩:=h
        refine HX hge (fin A ?_) (ih _ _ _ _ _ _ _ hs hk h2)
        rw [← h1]
        exact OQ hpk hk P X rfl A
       ·rcases QG (P:=P) (X:=X) (fun f=>rfl) h with ⟨v,A',he,h1,h2⟩ | ⟨A',he,_⟩ | ⟨g,args,A',he,_⟩ | ⟨it,A',he,_⟩
        ·refine HX hge (fin A' ?_) (ih _ _ _ _ _ _ _ hs hk h2)
         rw [← h1]
         exact he
        ·obtain ⟨_,v,hv⟩:=Fz hq he
         cases hv
        ·obtain ⟨_,v,hv⟩:=Fz hq he
         cases hv
        ·obtain ⟨_,v,hv⟩:=Fz hq he
         cases hv
     ·exact h.elim
   | false=>
    rw [hb,Cf] at h
    split at h
    ·exact h.elim
    ·rename_i o ho
     simp only at h
     have fin:∀ {kt' kf':Nat} {r:Option Bool} {sk:Bool} {v:Value} {A':AW},Kn kt' kf' ku tm→(∀ b,r=some b→v=.bool b)→(sk=true→v=undef)→(match o.dst with
       | some d=>bif Nat.blt d tm.sz then Eb P X W0 m0 fn T L S Q n (tm.set d v) (.inRegion ops rest::k) dr (knT kt' d r) (knF kf' d r) (knU ku d sk) A' else False
       | none=>Eb P X W0 m0 fn T L S Q n tm (.inRegion ops rest::k) dr kt' kf' ku A')→
       WP P X W0 m0 ⟨frM fn (match o.dst with | some d=>tm.set d v | none=>tm) (.inRegion ops rest::k) dr,[],A'⟩ Q:=by
      intro kt' kf' r sk v A' hk' hr hu hh
      cases hd:o.dst with
      | none=>
       rw [hd] at hh
       exact ih _ _ _ _ _ _ _ hs hk' hh
      | some d=>
       rw [hd] at hh
       simp only at hh ⊢
       cases hlt:Nat.blt d tm.sz with
       | false=>rw [hlt] at hh;exact hh.elim
       | true=>
        rw [hlt,Ct] at hh
        exact ih _ _ _ _ _ _ _ (by rw [Tm.Yj];exact hs) (hk'.set (by omega) (AE.1 hlt) hr hu) hh
     have nf:∀ {v:Value},false=true→v=undef:=fun h=>Bool.noConfusion h
     have nn:∀ {v:Value} (b:Bool),(none:Option Bool)=some b→v=.bool b:=fun b h=>by cases h
     have go:∀ {kt' kf':Nat},Kn kt' kf' ku tm→Bi ops tm o=true→(match J9 kt' kf' o.op with
       | some x=>(match o.dst with
        | some d=>bif Nat.blt d tm.sz then Eb P X W0 m0 fn T L S Q n (tm.set d (BA tm x)) (.inRegion ops rest::k) dr (knT kt' d (Jx kt' kf' x)) (knF kf' d (Jx kt' kf' x)) (knU ku d false) A else False
        | none=>Eb P X W0 m0 fn T L S Q n tm (.inRegion ops rest::k) dr kt' kf' ku A)
       | none=>opW P X W0 m0 (BA tm) o A fun v A'=>(match o.dst with
        | some d=>bif Nat.blt d tm.sz then Eb P X W0 m0 fn T L S Q n (tm.set d v) (.inRegion ops rest::k) dr (knT kt' d (T5 kt' kf' o.op)) (knF kf' d (T5 kt' kf' o.op)) (knU ku d false) A' else False
        | none=>Eb P X W0 m0 fn T L S Q n tm (.inRegion ops rest::k) dr kt' kf' ku A'))→
       WP P X W0 m0 ⟨frM fn tm (.inRegion ops (i::rest)::k) dr,[],A⟩ Q:=by
      intro kt' kf' hk' hw hh
      split at hh
      ·rename_i x hpk
       exact Pb hX hP ho hb hw (K:=fun v A'=>v=BA tm x∧A'=A) (.inl ⟨_,A,OQ hpk hk' P X rfl A,(⟨rfl,rfl⟩:_∧_)⟩) fun v A' hvA=>by
        obtain ⟨rfl,rfl⟩:=hvA
        exact fin (sk:=false) hk' (fun b hb=>EV hk' hb) nf hh
      ·rename_i hpk
       cases hkn:T5 kt' kf' o.op with
       | none=>
        rw [hkn] at hh
        exact Pb hX hP ho hb hw (QG (fun f=>rfl) hh) fun v A' hv=>fin (r:=none) (sk:=false) hk' nn nf hv
       | some b=>
        obtain ⟨x,hx,hxb⟩:=T2 hpk hkn
        rw [hkn] at hh
        have hb2:=EV hk' hxb
        obtain ⟨h3,h4⟩:=TV (W0:=W0) (m0:=m0) (X:=X) hx hh
        rw [hb2] at h3 h4
        exact Pb hX hP ho hb hw (K:=fun v A'=>v=.bool b∧A'=A) (.inl ⟨_,A,h3,(⟨rfl,rfl⟩:_∧_)⟩) fun v A' hvA=>by
         obtain ⟨rfl,rfl⟩:=hvA
         exact fin (r:=some b) (sk:=false) hk' (fun b' hb'=>by cases hb';rfl) nf h4
     split at h
     ·rename_i hg
      exact go hk (by unfold Bi;rw [hg]) h
     ·rename_i j want hg
      split at h
      ·exact h.elim
      ·rename_i d hsl
       have ff:∀ {kt' kf':Nat},Kn kt' kf' ku tm→Bi ops tm o=false→(match o.dst with
         | some d=>bif Nat.blt d tm.sz then Eb P X W0 m0 fn T L S Q n (tm.set d undef) (.inRegion ops rest::k) dr (knT kt' d none) (knF kf' d none) (knU ku d true) A else False
         | none=>Eb P X W0 m0 fn T L S Q n tm (.inRegion ops rest::k) dr kt' kf' ku A)→WP P X W0 m0 ⟨frM fn tm (.inRegion ops (i::rest)::k) dr,[],A⟩ Q:=
        fun hk' hw hh=>wp_skip hX hP ho hb hw (fin (r:=none) (sk:=true) hk' nn (fun _=>rfl) hh)
       cases hu:ku.testBit d with
       | true=>
        rw [hu,Ct] at h
        exact ff hk (Qd hg hsl ((hk d).2.2 hu)) h
       | false=>
        rw [hu,Cf] at h
        split at h
        ·rename_i b hkb
         have hv:tm.get d=.bool b:=EV hk hkb
         have hw:=Om hg hsl hv
         cases hbw:(b==want) with
         | true=>
          rw [hbw,Ct] at h
          exact go hk (hw.trans hbw) h
         | false=>
          rw [hbw,Cf] at h
          exact ff hk (hw.trans hbw) h
        ·obtain ⟨⟨b,hv⟩,h1,h2⟩:=h
         have hw:=Om hg hsl hv
         cases b with
         | true=>
          have h1:=h1 hv
          cases want with
          | true=>exact go (hk.true hv) hw h1
          | false=>exact ff (hk.true hv) hw h1
         | false=>
          have h2:=h2 hv
          cases want with
          | true=>exact ff (hk.false hv) hw h2
          | false=>exact go (hk.false hv) hw h2
  ·exact h.elim
end
def Ny (d:Nat→Value):Nat→Trie Value→Trie Value
 | 0,t=>t
 | n+1,t=>Ny d n (t.put depth n (some (d n)))
def TH (sz:Nat) (d:Nat→Value):Tm:=⟨sz,Ny d sz .nil⟩
theorem OY (d:Nat→Value):∀ (n:Nat) (t:Trie Value) (i:Nat),n≤Ap→i < Ap→(Ny d n t).get? i=if i < n then some (d i) else t.get? i
 | 0,t,i,_,_=>by simp [Ny]
 | n+1,t,i,hn,hi=>by
  unfold Ny
  rw [OY d n _ i (by omega) hi,Trie.get?_put depth t n i (some (d n)) (by unfold depth Ap at *;omega)]
  by_cases h1:i < n
  ·rw [if_pos h1,if_pos (by omega)]
  ·rw [Ff h1]
   by_cases h2:n=i
   ·subst h2;rw [if_pos rfl,if_pos (by omega)]
   ·rw [Ff (fun e=>h2 e.symm),Ff (by omega)]
section
variable {P:Program} {X:Bx} {W0:World} {m0:Inj P}
theorem UP {sz:Nat} (hs:sz < Ap) (d:Nat→Value) (i:Nat):(TH sz d).get i=if i < sz then d i else undef:=by
 unfold TH Tm.get
 simp only
 by_cases hm:i < Ap
 ·rw [OY d sz .nil i (by omega) hm]
  by_cases hi:i < sz
  ·rw [if_pos hi,if_pos hi]
  ·rw [Ff hi,Ff hi];rfl
 ·have key:∀ (n:Nat) (t:Trie Value),n≤Ap→t.get? i=none→(Ny d n t).get? i=none:=by
   intro n
   induction n with
   | zero=>intro t _ ht;exact ht
   | succ n ih=>
    intro t hn ht
    unfold Ny
    refine ih _ (by omega) ?_
    rw [Trie.get?_put depth t n i _ (by unfold depth Ap at *;omega),Ff (by omega)]
    exact ht
  rw [key sz .nil (by omega) rfl,Ff (by omega)]
theorem UO {m:Inj P} {tm:Tm} {t':Array Value} (h:EY m tm t'):EY m (TH tm.sz tm.get) t':=by
 refine ⟨h.size,h.small,fun i=>?_⟩
 rw [UP h.small]
 by_cases hi:i < tm.sz
 ·rw [if_pos hi]
  exact h.val i
 ·have hv:t'.getD i undef=undef:=by
   have:t'.size≤i:=by rw [h.size];omega
   simp [Array.getD,Nat.not_lt.2 this]
  rw [Ff hi,hv]
  exact Ft m
theorem XP {fn:FuncId} {tm:Tm} {todo:List Item} {A:AW} {Q:Value→AW→Prop} (h:WP P X W0 m0 ⟨frM fn (TH tm.sz tm.get) todo false,[],A⟩ Q):WP P X W0 m0 ⟨frM fn tm todo false,[],A⟩ Q:=by
 intro f0 base lo cs0 m f csW w hr ho
 refine h f0 base lo cs0 m f csW w ⟨hr.rel,hr.glob,hr.below,⟨hr.top.core,?_⟩,hr.stk,hr.bot.top rfl⟩ ho
 cases hr.top.body with
 | plain hd tm' todo'=>exact .plain rfl (UO tm') todo'
 | draw ops S C rl pl rest k k' hd=>cases hd
variable {fn:FuncId} {T:Nat→List Item} {L:Nat→List Tmp} {Q:Value→AW→Prop} {sz N:Nat}
theorem W1 (hX:XOk P X) (hP:POk P) (hsz:sz < Ap) {I:Nat→Nat→List Value→AW→Prop}
  (hbody:∀ g id vals A d,I g id vals A→(L id).map d=vals→Eb P X W0 m0 fn T L (fun id' v' A'=>∃ g',g' < g∧I g' id' v' A') Q N (TH sz d) (T id) false 0 0 0 A):
  NU P X W0 m0 fn T L (fun id v A=>∃ g,I g id v A) Q sz:=by
 rintro id vals A tm ⟨g,hI⟩ hs hv
 induction g using Nat.strongRecOn generalizing id vals A tm with
 | _ g ih=>
  have hb:=hbody g id vals A tm.get hI hv
  rw [← hs] at hb
  refine XP (MH hX hP hsz (S:=fun id' v' A'=>∃ g',g' < g∧I g' id' v' A') ?_ N _ _ _ _ _ _ _ hs (fun t=>by simp) hb)
  rintro id' v' A' tm' ⟨g',hg,hI'⟩ hs' hv'
  exact ih g' hg id' v' A' tm' hI' hs' hv'
theorem Ol (hX:XOk P X) (hP:POk P) (hsz:sz < Ap) {S:Nat→List Value→AW→Prop} (hcut:NU P X W0 m0 fn T L S Q sz) {args:List Value} {tm:Tm} {todo:List Item} {A:AW}
  (he:Gf P fn args=some (frM fn tm todo false)) (hs:tm.sz=sz) (h:Eb P X W0 m0 fn T L S Q N tm todo false 0 0 0 A):Wc P X W0 m0 fn args A Q:=by
 refine ⟨by rw [he];rfl,?_⟩
 unfold WR
 rw [he]
 exact MH hX hP hsz hcut N _ _ _ _ _ _ _ hs (fun t=>by simp) h
theorem AA {S:Nat→List Value→AW→Prop} (h:∀ id v A,¬ S id v A):NU P X W0 m0 fn T L S Q sz:=fun id v A _ hs=>absurd hs (h id v A)
end
section
variable {P:Program}
theorem Ad {v:Value} {K:Value→Prop}:Ab (some v) K↔K v:=⟨fun ⟨_,h,hk⟩=>by cases h;exact hk,fun h=>⟨v,rfl,h⟩⟩
theorem Lw {A:AW} {K:AW→Prop}:Bb (some A) K↔K A:=⟨fun ⟨_,h,hk⟩=>by cases h;exact hk,fun h=>⟨A,rfl,h⟩⟩
theorem Bg {v:Value} {A:AW} {K:Value→AW→Prop}:Al (.ok v A) K↔K v A:=⟨fun ⟨_,_,h,hk⟩=>by cases h;exact hk,fun h=>⟨v,A,rfl,h⟩⟩
theorem Aa {r:Option Value} {v:Value} {K:Value→Prop} (h:r=some v) (hk:K v):Ab r K:=⟨v,h,hk⟩
theorem Aj {b:Bool} {p q:Prop}:Ae (.bool b) p q↔(b=true→p)∧(b=false→q):=
 ⟨fun h=>⟨fun e=>h.2.1 (by rw [e]),fun e=>h.2.2 (by rw [e])⟩,fun h=>⟨⟨b,rfl⟩,fun e=>h.1 (by cases e;rfl),fun e=>h.2 (by cases e;rfl)⟩⟩
theorem Aq {c:Prop} [Decidable c] {p q:Prop}:Ae (.bool (decide c)) p q↔(c→p)∧(¬ c→q):=by
 rw [Aj];simp
theorem Af {a b:Int} {p q:Prop}:Ae (.bool (a==b)) p q↔(a=b→p)∧(a≠b→q):=by
 rw [Aj];simp
theorem Bw {a b:Int} {p q:Prop}:Ae (.bool (a != b)) p q↔(a≠b→p)∧(a=b→q):=by
 rw [Aj];simp
theorem Ah {a:List Item} {p:Prop}:AZ a a p↔p:=⟨fun h=>h.2,fun h=>⟨rfl,h⟩⟩
theorem Ao {a:Value} {p:Prop}:eqW a a p↔p:=⟨fun h=>h.2,fun h=>⟨rfl,h⟩⟩
section
variable {t:TypeId} {xo yo:Operand} {k:IntKind} {a b:Int}
theorem Be:Ag P .lss t xo yo (.int k a) (.int k b)=some (.bool (decide (a < b))):=by simp [Ag,binOp,Op.intCmp,quiet,Dc,AG,pure]
theorem Fl:Ag P .leq t xo yo (.int k a) (.int k b)=some (.bool (decide (a≤b))):=by simp [Ag,binOp,Op.intCmp,quiet,Dc,AG,pure]
theorem DK:Ag P .gtr t xo yo (.int k a) (.int k b)=some (.bool (decide (b < a))):=by simp [Ag,binOp,Op.intCmp,quiet,Dc,AG,pure]
theorem DT:Ag P .geq t xo yo (.int k a) (.int k b)=some (.bool (decide (b≤a))):=by simp [Ag,binOp,Op.intCmp,quiet,Dc,AG,pure]
theorem Ai:Ag P .eql t xo yo (.int k a) (.int k b)=some (.bool (a==b)):=by simp [Ag,binOp,Op.intCmp,quiet,Dc,AG,pure]
theorem BV:Ag P .neq t xo yo (.int k a) (.int k b)=some (.bool (a != b)):=by simp [Ag,binOp,Op.intCmp,quiet,Dc,AG,pure]
theorem Av:Ag P .add t xo yo (.int k a) (.int k b)=some (.int k (k.wrap (a+b))):=by simp [Ag,binOp,Op.intArith,quiet,Dc,AG,pure]
theorem DS:Ag P .sub t xo yo (.int k a) (.int k b)=some (.int k (k.wrap (a - b))):=by simp [Ag,binOp,Op.intArith,quiet,Dc,AG,pure]
theorem D6 {x:Bool}:unA P .not (.bool x)=some (.bool (!x)):=by simp [unA,AG,Op.unary,quiet,Dc,pure]
theorem AX {x y:ByteArray}:Ag P .eql t xo yo (.string x) (.string y)=some (.bool (x.data.toList==y.data.toList)):=rfl
theorem CP {x y:ByteArray}:Ag P .neq t xo yo (.string x) (.string y)=some (.bool !(x.data.toList==y.data.toList)):=rfl
end
theorem wrap_i64 {n:Int} (h1: -9223372036854775808≤n) (h2:n < 9223372036854775808):IntKind.i64.wrap n=n:=by
 unfold IntKind.wrap
 have e:(2 ^ IntKind.i64.bits:Int)=18446744073709551616:=by decide
 have e2:(2 ^ (IntKind.i64.bits - 1):Int)=9223372036854775808:=by decide
 have e3:IntKind.i64.signed=true:=rfl
 simp only [e,e2,e3,Bool.true_and,decide_eq_true_eq]
 split <;> omega
theorem GL:∀ l:List UInt8,ER l l=true
 | []=>rfl
 | a::r=>by simp [ER,GL r]
theorem Ph:∀ a:Int,Ks a a=true
 | .ofNat a=>Nat.beq_refl a
 | .negSucc a=>Nat.beq_refl a
theorem IQ {n:Nat} {k:IntKind} {a:Int}:Hn (n+1) (.int k a) (.int k a)=true:=by simp [Hn,Ph]
theorem FU {n:Nat} {s:ByteArray}:Hn (n+1) (.string s) (.string s)=true:=by simp only [Hn,GL]
structure Ext (A A':AW):Prop where
 next:A.next≤A'.next
 get:∀ i,i < A.next→A'.get i=A.get i
 mem:∀ i,i < A.next→A'.members i=A.members i
def AW.push (A:AW) (o:AO):AW:={ (A.put A.next o) with next:=A.next+1 }
theorem AW.CF {A:AW} (o:AO) {j:Nat} (h:A.next < Ap):(A.push o).get j=if j=A.next then some o else A.get j:=AW.DI A A.next j o h
theorem AW.CH (A:AW) (o:AO):(A.push o).next=A.next+1:=rfl
theorem AW.Dv {A:AW} (o:AO) (h:A.next < Ap):Ext A (A.push o):=
 ⟨Nat.le_succ _,fun i hi=>by rw [AW.CF o h,Ff (by omega)],fun i _=>rfl⟩
theorem WG {A:AW} {cs:List Value} {e:TypeId} (h:A.next < Ap) (hc:cs.all AL=true):Fc A cs e=.ok (.pointer (some ⟨A.next,0,none⟩)) (A.push (.row cs e A.next 0 false)):=by
 unfold Fc AW.newRow AW.new
 simp only [hc,Ct,AE.2 h]
 rfl
theorem Tc {k:IntKind} {n:Int}:isTuple (.int k n)=false:=rfl
theorem QX {b:Bool}:isTuple (.bool b)=false:=rfl
theorem Nk {b:ByteArray}:isTuple (.string b)=false:=rfl
theorem S4 {k:IntKind} {n:Int}:AL (.int k n)=true:=rfl
theorem M9 {b:Bool}:AL (.bool b)=true:=rfl
theorem M8 {b:ByteArray}:AL (.string b)=true:=rfl
theorem AF {A:AW} {b off:Nat} {cs:List Value} {e f b0:Nat} {ro:Bool} (h:A.get b=some (.row cs e f b0 ro)):A.cell? ⟨b,off,none⟩=cellOf cs off:=by
 unfold AW.cell?
 simp only [h]
theorem CI {A:AW} {b off n:Nat} {cs:List Value} {e f b0:Nat} {ro:Bool} (h:A.get b=some (.row cs e f b0 ro)):A.cells? ⟨b,off,none⟩ n=Ck (cs.drop off) n:=by
 unfold AW.cells?
 cases n with
 | zero=>simp [Ck]
 | succ n=>simp only [h]
theorem Ci:∀ {cs:List Value} {i:Nat} {v:Value},cs[i]? =some v→isTuple v=false→cellOf cs i=some v
 | [],i,v,h,_=>by simp at h
 | x::r,0,v,h,ht=>by
  simp only [List.getElem?_cons_zero,Oi] at h
  subst h
  simp [cellOf,ht]
 | x::r,i+1,v,h,ht=>by
  simp only [List.getElem?_cons_succ] at h
  simp only [cellOf]
  exact Ci h ht
end
section
variable {P:Program}
structure AH (A:AW):Prop where
 fams:∀ i,A.next≤i→A.fams.get? i=none
 get:∀ i,A.next≤i→A.get i=none
theorem AH.lt {A:AW} (h:AH A) {i:Nat} {o:AO} (hi:A.get i=some o):i < A.next:=by
 rcases Nat.lt_or_ge i A.next with h1 | h1
 ·exact h1
 ·rw [h.get i h1] at hi;cases hi
theorem AH.alone {A:AW} (h:AH A) {i:Nat} (hi:A.next≤i):A.members i=[i]:=by
 unfold AW.members
 rw [h.fams i hi]
theorem AH.push {A:AW} (h:AH A) (o:AO) (hn:A.next < Ap):AH (A.push o):=
 ⟨fun i hi=>h.fams i (by rw [AW.CH] at hi;omega),fun i hi=>by rw [AW.CH] at hi;rw [AW.CF o hn,Ff (by omega)];exact h.get i (by omega)⟩
structure Made (A A':AW) (cs:List Value) (e:TypeId):Prop where
 ext:Ext A A'
 next:A'.next=A.next+1
 row:A'.get A.next=some (.row cs e A.next 0 false)
 mem:A'.members A.next=[A.next]
 Az:AH A'
theorem BX {A:AW} {cs:List Value} {e:TypeId} {K:Value→AW→Prop} (hf:AH A) (h:A.next < Ap) (hc:cs.all AL=true) (hk:∀ A',Made A A' cs e→K (.pointer (some ⟨A.next,0,none⟩)) A'):Al (Fc A cs e) K:=by
 rw [WG h hc]
 exact Bg.2 (hk _ ⟨AW.Dv _ h,rfl,by rw [AW.CF _ h,if_pos rfl],hf.alone (Nl _),hf.push _ h⟩)
theorem AI {A:AW} {z:Value} {e:TypeId} {K:Value→AW→Prop} (hz:D4 P e=some z) (hf:AH A) (h:A.next < Ap) (hc:z.cells.toList.all AL=true)
  (hk:∀ A',Made A A' z.cells.toList e→K (.pointer (some ⟨A.next,0,none⟩)) A'):Al (BM P A e) K:=by
 unfold BM
 rw [hz]
 exact BX hf h hc hk
theorem MN {v:Value} {l:List Value} {n:Nat} (h:isTuple v=false):Ck (v::l) (n+1)=(match Ck l n with | some r=>some (v::r) | none=>none):=by
 simp only [Ck,h,Cf]
 rfl
def IA:List Value→Nat→List Value→List Value
 | cs,_,[]=>cs
 | cs,o,v::r=>IA (cs.set o v) (o+1) r
structure Md (A A':AW) (b:Nat) (o:AO):Prop where
 row:A'.get b=some o
 get:∀ i,i≠b→A'.get i=A.get i
 next:A'.next=A.next
 fams:A'.fams=A.fams
theorem Md.Az {A A':AW} {b:Nat} {o o':AO} (h:Md A A' b o) (hf:AH A) (hb:A.get b=some o'):AH A':=
 ⟨fun i hi=>by rw [h.fams];exact hf.fams i (by rw [h.next] at hi;exact hi),fun i hi=>by
  rw [h.next] at hi
  have hb:=hf.lt hb
  rw [h.get i (by omega)]
  exact hf.get i hi⟩
theorem Md.mem {A A':AW} {b:Nat} {o:AO} (h:Md A A' b o) (f:Nat):A'.members f=A.members f:=by unfold AW.members;rw [h.fams]
theorem Ee:∀ {new:List Value} {A:AW} {b off:Nat} {cs:List Value} {e f b0:Nat},A.get b=some (.row cs e f b0 false)→A.members f=[b]→off+new.length≤cs.length→new.all AL=true→b < Ap→
  ∃ A',A.setCells ⟨b,off,none⟩ new=some A'∧Md A A' b (.row (IA cs off new) e f b0 false)
 | [],A,b,off,cs,e,f,b0,hg,hm,hl,ho,hb=>⟨A,rfl,hg,fun _ _=>rfl,rfl,rfl⟩
 | v::r,A,b,off,cs,e,f,b0,hg,hm,hl,ho,hb=>by
  simp only [List.all_cons,Bq] at ho
  simp only [Lc] at hl
  have hble:Nat.ble cs.length off=false:=BZ.2 (by omega)
  have h1:A.setCell ⟨b,off,none⟩ v=some (A.put b (.row (cs.set off v) e f b0 false)):=by
   unfold AW.setCell
   simp only [hg,ho.1,Bool.not_true,Bool.false_or,hble,Cf,hm,Dw,Nat.beq_refl,Ct]
  have hg':(A.put b (.row (cs.set off v) e f b0 false)).get b=some (.row (cs.set off v) e f b0 false):=by rw [AW.DI A b b _ hb,if_pos rfl]
  obtain ⟨A',h2,h3⟩:=Ee (new:=r) (A:=A.put b (.row (cs.set off v) e f b0 false)) (off:=off+1) hg' hm (by simp;omega) ho.2 hb
  refine ⟨A',?_,h3.row,fun i hi=>?_,h3.next,h3.fams⟩
  ·simp only [AW.setCells,h1]
   exact h2
  ·rw [h3.get i hi,AW.DI A b i _ hb,Ff hi]
theorem Sp {A:AW} {b off n:Nat} {v:Value} {cs:List Value} {e f b0:Nat} {r:Option AW} {K:AW→Prop} (hr:r=(bif Nat.beq v.cells.toList.length n then A.setCells ⟨b,off,none⟩ v.cells.toList else none))
  (hv:v.cells.toList.length=n) (hg:A.get b=some (.row cs e f b0 false)) (hm:A.members f=[b]) (hl:off+n≤cs.length) (ho:v.cells.toList.all AL=true) (hb:b < Ap)
  (hk:∀ A',Md A A' b (.row (IA cs off v.cells.toList) e f b0 false)→K A'):Bb r K:=by
 obtain ⟨A',h1,h2⟩:=Ee (new:=v.cells.toList) (off:=off) hg hm (by omega) ho hb
 rw [hr,hv,Nat.beq_refl,Ct,h1]
 exact Lw.2 (hk A' h2)
end
section
variable {P:Program}
structure Me (lo:Nat) (A:AW) (e:TypeId) (size:Nat) (n:Nat) (cs:List Value) (b f:Nat):Prop where
 pos:0 < n
 row:A.get b=some (.row cs e f 0 false)
 len:cs.length=n * size
 lob:lo≤b
 lof:lo≤f
 ltf:f < A.next
 mem:∀ i∈A.members f,lo≤i∧i < A.next∧∃ cs' e' b' ro',A.get i=some (.row cs' e' f b' ro')
def Wi (lo:Nat) (A:AW) (e:TypeId) (size:Nat) (v:Value) (n:Nat) (cs:List Value):Prop:=
 (v=.slice none 0 0∧n=0∧cs=[])∨∃ b f,v=.slice (some ⟨b,0,none⟩) n (BH+n)∧Me lo A e size n cs b f
theorem Wi.one {lo:Nat} {A:AW} {e:TypeId} {size:Nat} {v:Value} {n:Nat} {cs:List Value} (h:Wi lo A e size v n cs):AL v=true∧isTuple v=false:=by
 rcases h with ⟨rfl,_⟩ | ⟨b,f,rfl,_⟩ <;> exact ⟨rfl,rfl⟩
theorem GQ (coord:Nat):∀ (l:List Nat) (A:AW),(∀ i∈l,i < Ap)→(∀ i,i∉l→(BW coord l A).get i=A.get i)∧(BW coord l A).next=A.next∧(BW coord l A).fams=A.fams
 | [],A,_=>⟨fun _ _=>rfl,rfl,rfl⟩
 | x::r,A,hl=>by
  unfold BW
  split
  ·rename_i cs e fam base ro hx
   obtain ⟨h1,h2,h3⟩:=GQ coord r (A.put x (.row (B3 cs (coord - base)) e fam base ro)) fun i hi=>hl i (by simp [hi])
   refine ⟨fun i hi=>?_,h2,h3⟩
   simp only [List.mem_cons,not_or] at hi
   rw [h1 i hi.2,AW.DI A x i _ (hl x (by simp)),Ff hi.1]
  ·obtain ⟨h1,h2,h3⟩:=GQ coord r A fun i hi=>hl i (by simp [hi])
   exact ⟨fun i hi=>h1 i (fun h=>hi (by simp [h])),h2,h3⟩
theorem LK:∀ (l:List Value),Ec l l.length=some l
 | []=>rfl
 | v::r=>by simp [Ec,LK r]
structure Wp (lo:Nat) (A A':AW) (e:TypeId) (size:Nat) (v v':Value) (n m:Nat) (cs new:List Value):Prop where
 own:Wi lo A' e size v' (n+m) (cs++new)
 next:A'.next=A.next+1
 Az:AH A'
 get:∀ i,i < A.next→(∀ b f,v=.slice (some ⟨b,0,none⟩) n (BH+n)→Me lo A e size n cs b f→i∉A.members f)→A'.get i=A.get i
 mem:∀ g,g < A.next→(∀ b f,v=.slice (some ⟨b,0,none⟩) n (BH+n)→Me lo A e size n cs b f→g≠f)→A'.members g=A.members g
 fam:∀ b' f',v'=.slice (some ⟨b',0,none⟩) (n+m) (BH+(n+m))→Me lo A' e size (n+m) (cs++new) b' f'→f'=A.next∨∃ b,v=.slice (some ⟨b,0,none⟩) n (BH+n)∧Me lo A e size n cs b f'
theorem Mb {A:AW} {t t2 e:TypeId} {size bytes:Nat} {x:Value} {m:Nat} {new:List Value} (ht:BJ P t=some e) (hs:szT P e=some (size+1)) (hb:FH P e=some bytes)
  (hx:B9 P A e t2 (size+1) x=some (m+1,new)) (hroom:(Nat.blt (0+(m+1)) room&&Nat.blt ((0+(m+1)) * bytes) room&&DH P e (size+1))=true) (hmax:A.next < Ap):
  Bf P A t t2 (.slice none 0 0) x=.ok (.slice (some ⟨A.next,0,none⟩) (0+(m+1)) (BH+(0+(m+1)))) (A.push (.row new e A.next 0 false)):=by
 unfold Bf
 simp only [ht,hs,hb,hx]
 rw [hroom]
 simp only [Bool.not_true,Cf]
 have h1:Nat.ble BH 0=false:=rfl
 have h2:Nat.ble (0+(m+1)) 0=false:=BZ.2 (by omega)
 simp only [h1,Cf,h2,List.nil_append]
 unfold AW.new
 simp only [AE.2 hmax,Ct]
 rfl
theorem PY {A B:AW} {t t2 e:TypeId} {size bytes:Nat} {x:Value} {n m c b f:Nat} {cs new:List Value} {a':Addr} (ht:BJ P t=some e) (hs:szT P e=some (size+1)) (hb:FH P e=some bytes)
  (hx:B9 P A e t2 (size+1) x=some (m+1,new)) (hroom:(Nat.blt (n+(m+1)) room&&Nat.blt ((n+(m+1)) * bytes) room&&DH P e (size+1))=true) (h1:Nat.ble BH c=true) (h2:Nat.ble (n+(m+1)) (c - BH)=false)
  (hrow:A.get b=some (.row cs e f 0 false)) (hone:new.all AL=true) (hold:A.Di ⟨b,0,none⟩ (n * (size+1))=some cs)
  (hni:(BW (n * (size+1)) (A.members f) A).IV (cs++new) e f 0=some (a',B)):
  Bf P A t t2 (.slice (some ⟨b,0,none⟩) n c) x=.ok (.slice (some a') (n+(m+1)) (BH+(n+(m+1)))) B:=by
 unfold Bf
 simp only [ht,hs,hb,hx]
 rw [hroom]
 simp only [Bool.not_true,Cf]
 generalize hlb:(bif Nat.ble BH c then c - BH else c)=lb
 have hz:Nat.ble (n+(m+1)) lb=false:=by
  rw [h1,Ct] at hlb
  rw [← hlb]
  exact h2
 clear hlb h2
 have hbe:Nat.beq e e=true:=Nat.beq_refl e
 simp only [hz,h1,Cf,Ct,hrow,hbe,hone,Bool.and_self,Bool.not_true]
 rw [hold]
 have hc:(0+0+n * (size+1))=n * (size+1):=by omega
 simp only [hc,Nat.add_zero,hni]
theorem SI {lo:Nat} {A:AW} {t t2 e:TypeId} {size bytes:Nat} {v x:Value} {n m:Nat} {cs new:List Value} (ht:BJ P t=some e) (hs:szT P e=some (size+1)) (hb:FH P e=some bytes)
  (hz:DH P e (size+1)=true) (hx:B9 P A e t2 (size+1) x=some (m+1,new)) (hnew:new.length=(m+1) * (size+1)) (hone:new.all AL=true) (h:Wi lo A e (size+1) v n cs) (hf:AH A) (hlo:lo≤A.next)
  (hmax:A.next < Ap) (hr1:n+(m+1) < room) (hr2:(n+(m+1)) * bytes < room):∃ v' A',Bf P A t t2 v x=.ok v' A'∧Wp lo A A' e (size+1) v v' n (m+1) cs new:=by
 have hroom:(Nat.blt (n+(m+1)) room&&Nat.blt ((n+(m+1)) * bytes) room&&DH P e (size+1))=true:=by rw [AE.2 hr1,AE.2 hr2,hz];rfl
 rcases h with ⟨rfl,rfl,rfl⟩ | ⟨b,f,rfl,h⟩
 ·refine ⟨.slice (some ⟨A.next,0,none⟩) (0+(m+1)) (BH+(0+(m+1))),A.push (.row new e A.next 0 false),?_,?_⟩
  ·exact Mb ht hs hb hx hroom hmax
  ·have hfp:=hf.push (.row new e A.next 0 false) hmax
   have hrow:(A.push (.row new e A.next 0 false)).get A.next=some (.row new e A.next 0 false):=by rw [AW.CF _ hmax,if_pos rfl]
   refine ⟨.inr ⟨A.next,A.next,rfl,by omega,by rw [hrow];rfl,by simp only [List.nil_append,hnew,Nat.zero_add],hlo,hlo,by rw [AW.CH];omega,fun i hi=>?_⟩,rfl,hfp,fun i hi _=>by rw [AW.CF _ hmax,Ff (by omega)],fun g hg _=>rfl,fun b' f' hv ho=>?_⟩
   ·have:(A.push (.row new e A.next 0 false)).members A.next=[A.next]:=hf.alone (Nl _)
    rw [this] at hi
    obtain rfl:i=A.next:=by simpa using hi
    exact ⟨hlo,by rw [AW.CH];omega,_,_,_,_,hrow⟩
   ·simp only [Value.slice.injEq,Oi,Addr.mk.injEq] at hv
    obtain ⟨⟨rfl,_⟩,_⟩:=hv
    have:=ho.row
    rw [hrow] at this
    simp only [Oi,AO.row.injEq] at this
    exact .inl this.2.2.1.symm
 ·have hmemlt:∀ i∈A.members f,i < Ap:=fun i hi=>by have:=(h.mem i hi).2.1;omega
  obtain ⟨p1,p2,p3⟩:=GQ (n * (size+1)) (A.members f) A hmemlt
  let A1:=BW (n * (size+1)) (A.members f) A
  have hA1:A1.next=A.next:=p2
  let A2:AW:={ (A1.push (.row (cs++new) e f 0 false)) with fams:=(A1.push (.row (cs++new) e f 0 false)).fams.put depth f (some (A1.next::A1.members f)) }
  have hm1:∀ g,A1.members g=A.members g:=fun g=>by unfold AW.members;rw [show A1.fams=A.fams from p3]
  have hget2:∀ i,A2.get i=if i=A.next then some (.row (cs++new) e f 0 false) else A1.get i:=by
   intro i
   show (A1.push _).get i=_
   rw [AW.CF _ (by rw [hA1];exact hmax),hA1]
  have hltf:=h.ltf
  have hmem2:∀ g,g < Ap→A2.members g=if g=f then A.next::A.members f else A.members g:=by
   intro g hg
   show (match ((A1.push (.row (cs++new) e f 0 false)).fams.put depth f (some (A1.next::A1.members f))).get? g with | some l=>l | none=>[g])=_
   rw [Trie.get?_put depth _ f g _ (by unfold depth Ap at *;omega)]
   by_cases hgf:g=f
   ·rw [if_pos hgf,if_pos hgf,hm1,hA1]
   ·rw [Ff hgf,Ff hgf,← hm1 g];rfl
  have hnext2:A2.next=A.next+1:=by show A1.next+1=_;rw [hA1]
  refine ⟨.slice (some ⟨A.next,0,none⟩) (n+(m+1)) (BH+(n+(m+1))),A2,?_,?_⟩
  ·have hold:A.Di ⟨b,0,none⟩ (n * (size+1))=some cs:=by
    unfold AW.Di
    obtain ⟨k,hk⟩:∃ k,n * (size+1)=k+1:=⟨n * (size+1) - 1,by have:0 < n * (size+1):=Nat.mul_pos h.pos (by omega);omega⟩
    rw [hk]
    simp only [h.row,List.drop_zero]
    rw [← hk,← h.len]
    exact LK cs
   have hni:(BW (n * (size+1)) (A.members f) A).IV (cs++new) e f 0=some (⟨A1.next,0,none⟩,A2):=by
    unfold AW.IV AW.new
    have:Nat.blt (BW (n * (size+1)) (A.members f) A).next Ap=true:=AE.2 (by rw [p2];exact hmax)
    simp only [this,Ct]
    rfl
   rw [hA1] at hni
   exact PY ht hs hb hx hroom (Bt.2 (Nat.le_add_right _ _)) (BZ.2 (by rw [Nat.add_sub_cancel_left];omega)) h.row hone hold hni
  ·have hnot:A.next∉A.members f:=fun hi=>by have:=(h.mem _ hi).2.1;omega
   have hrow:A2.get A.next=some (.row (cs++new) e f 0 false):=by rw [hget2,if_pos rfl]
   have hfam:∀ i∈A.members f,∃ cs' e' b' ro',A1.get i=some (.row cs' e' f b' ro'):=by
    have key:∀ (l:List Nat) (B:AW),(∀ i∈l,i < Ap)→∀ i,(∃ cs' e' b' ro',B.get i=some (.row cs' e' f b' ro'))→∃ cs' e' b' ro',(BW (n * (size+1)) l B).get i=some (.row cs' e' f b' ro'):=by
     intro l
     induction l with
     | nil=>intro B _ i hi;exact hi
     | cons x r ih=>
      intro B hl i hi
      unfold BW
      refine ih _ (fun j hj=>hl j (by simp [hj])) i ?_
      split
      ·rename_i cs2 e2 f2 b2 ro2 hx2
       rw [AW.DI B x i _ (hl x (by simp))]
       by_cases hix:i=x
       ·subst hix
        obtain ⟨cs',e',b',ro',hi⟩:=hi
        rw [hx2] at hi
        simp only [Oi,AO.row.injEq] at hi
        rw [if_pos rfl]
        exact ⟨_,_,_,_,by rw [hi.2.2.1]⟩
       ·rw [Ff hix];exact hi
      ·exact hi
    intro i hi
    obtain ⟨_,_,h3⟩:=h.mem i hi
    exact key _ _ hmemlt i h3
   refine ⟨.inr ⟨A.next,f,rfl,by omega,hrow,by rw [Lq,h.len,hnew,← Nat.add_mul],hlo,h.lof,by rw [hnext2];omega,fun i hi=>?_⟩,hnext2,⟨fun i hi=>?_,fun i hi=>?_⟩,fun i hi hnf=>?_,fun g hg hgf=>?_,fun b' f' hv ho=>?_⟩
   ·rw [hmem2 f (by omega),if_pos rfl,List.mem_cons] at hi
    rcases hi with rfl | hi
    ·exact ⟨hlo,by rw [hnext2];omega,_,_,_,_,hrow⟩
    ·obtain ⟨g1,g2,_⟩:=h.mem i hi
     obtain ⟨cs',e',b',ro',g3⟩:=hfam i hi
     exact ⟨g1,by rw [hnext2];omega,cs',e',b',ro',by rw [hget2,Ff (by omega)];exact g3⟩
   ·rw [hnext2] at hi
    show ((A1.push (.row (cs++new) e f 0 false)).fams.put depth f (some (A1.next::A1.members f))).get? i=none
    rw [Trie.get?_put depth _ f i _ (by unfold depth Ap at *;omega),Ff (by omega)]
    show A1.fams.get? i=none
    rw [show A1.fams=A.fams from p3]
    exact hf.fams i (by omega)
   ·rw [hnext2] at hi
    rw [hget2,Ff (by omega)]
    show (BW _ _ A).get i=none
    rw [p1 i (fun hm=>by have:=(h.mem i hm).2.1;omega)]
    exact hf.get i (by omega)
   ·rw [hget2,Ff (by omega)]
    exact p1 i (hnf b f rfl h)
   ·rw [hmem2 g (by omega),Ff (hgf b f rfl h)]
   ·simp only [Value.slice.injEq,Oi,Addr.mk.injEq] at hv
    obtain ⟨⟨rfl,_⟩,_⟩:=hv
    have:=ho.row
    rw [hrow] at this
    simp only [Oi,AO.row.injEq] at this
    obtain ⟨_,_,rfl,_⟩:=this
    exact .inr ⟨b,rfl,h⟩
end
section
variable {P:Program}
theorem DF {α β:Type} (k:α→Sem β):∀ s:Sem α,quiet P (s.bind k)=(quiet P s).bind fun a=>quiet P (k a)
 | .pure a=>rfl
 | .program f=>DF k (f P)
 | .mark _ f=>by
  show quiet P (f.bind k)=_
  exact DF k f
 | .load .. =>rfl
 | .store .. =>rfl
 | .new .. =>rfl
 | .shape .. =>rfl
 | .freeze .. =>rfl
 | .frozen .. =>rfl
 | .getObj .. =>rfl
 | .setObj .. =>rfl
 | .choose .. =>rfl
 | .sys .. =>rfl
 | .halt _=>rfl
theorem LP {α β:Type} (s:Sem α) (k:α→Sem β):quiet P (s >>=k)=(quiet P s).bind fun a=>quiet P (k a):=DF k s
theorem Kw (d:Nat) (t:TypeId) (xs ys:Array Value) (ht:quiet P (underlying t)=some (.struct (P.fieldsOf t))) (hp:P.stoodInHeld t=false):
  quiet P (Op.equalIn (d+1) t (.agg xs) (.agg ys))=quiet P (Op.eqFields d xs ys (P.fieldsOf t).toList):=by
 simp only [Op.equalIn]
 show quiet P (Sem.bind _ _)=_
 rw [DF,ht]
 simp only [Option.bind_some]
 show quiet P (Sem.bind _ _)=_
 rw [DF]
 show (some P).bind _=_
 simp only [Option.bind_some,hp,Bool.false_eq_true,if_false]
 rw [← Array.forIn_toList]
 generalize (P.fieldsOf t).toList=fs
 clear ht
 induction fs with
 | nil=>simp [Op.eqFields]
 | cons f fs ih=>
  simp only [List.forIn_cons,Op.eqFields]
  split
  ·simp only [LP,Option.bind_assoc] at ih ⊢
   congr 1
   funext a
   congr 1
   funext b
   congr 1
   funext r
   cases r
   ·rfl
   ·exact ih
  ·exact ih
theorem Kx (d:Nat) (t:TypeId) (k k':IntKind) (a b:Int) (h:quiet P (underlying t)=some (.int k')):quiet P (Op.equalIn (d+1) t (.int k a) (.int k b))=some (a==b):=by
 simp only [Op.equalIn]
 show quiet P (Sem.bind _ _)=_
 rw [DF,h]
 simp only [Option.bind_some,if_true]
 rfl
theorem Ml (d:Nat) (t:TypeId) (a b:ByteArray) (h:quiet P (underlying t)=some .string):quiet P (Op.equalIn (d+1) t (.string a) (.string b))=some (a==b):=by
 simp only [Op.equalIn]
 show quiet P (Sem.bind _ _)=_
 rw [DF,h]
 rfl
end
section
variable {P:Program}
def Ti (i:Nat):AO→Nat
 | .row _ _ f _ _=>f
 | _=>i
structure Ay (A A':AW) (S:List Nat):Prop where
 next:A.next≤A'.next
 get:∀ i o,A.get i=some o→Ti i o < A.next→Ti i o∉S→A'.get i=some o
 mem:∀ f,f < A.next→f∉S→A'.members f=A.members f
theorem Ay.refl (A:AW) (S:List Nat):Ay A A S:=⟨Nl _,fun _ _ h _ _=>h,fun _ _ _=>rfl⟩
theorem Ay.trans {A B C:AW} {S T:List Nat} (h:Ay A B S) (k:Ay B C T) (hT:∀ x∈T,x∈S∨A.next≤x):Ay A C S:=
 ⟨Nat.le_trans h.next k.next,fun i o hi hlt hn=>k.get i o (h.get i o hi hlt hn) (Nat.lt_of_lt_of_le hlt h.next) (fun hm=>by
  rcases hT _ hm with h1 | h1
  ·exact hn h1
  ·omega),fun f hf hn=>by
  rw [k.mem f (Nat.lt_of_lt_of_le hf h.next) (fun hm=>by
   rcases hT _ hm with h1 | h1
   ·exact hn h1
   ·omega),h.mem f hf hn]⟩
theorem Ay.more {A B:AW} {S T:List Nat} (h:Ay A B S) (hs:∀ x∈S,x∈T∨A.next≤x):Ay A B T:=
 ⟨h.next,fun i o hi hlt hn=>h.get i o hi hlt (fun hm=>by
  rcases hs _ hm with h1 | h1
  ·exact hn h1
  ·omega),fun f hf hn=>h.mem f hf (fun hm=>by
  rcases hs _ hm with h1 | h1
  ·exact hn h1
  ·omega)⟩
theorem Ext.keeps {A A':AW} (h:Ext A A') (hf:AH A):Ay A A' []:=
 ⟨h.next,fun i o hi _ _=>by rw [h.get i (hf.lt hi)];exact hi,fun f hf _=>h.mem f hf⟩
theorem Made.keeps {A A':AW} {cs:List Value} {e:TypeId} (m:Made A A' cs e) (hf:AH A):Ay A A' []:=m.ext.keeps hf
structure AD (A:AW) (b:Nat) (cs:List Value) (e:TypeId):Prop where
 row:A.get b=some (.row cs e b 0 false)
 mem:A.members b=[b]
 lt:b < A.next
theorem Made.BU {A A':AW} {cs:List Value} {e:TypeId} (m:Made A A' cs e):AD A' A.next cs e:=⟨m.row,m.mem,by rw [m.next];omega⟩
theorem AD.keeps {A A':AW} {b:Nat} {cs:List Value} {e:TypeId} {S:List Nat} (h:AD A b cs e) (k:Ay A A' S) (hn:b∉S):AD A' b cs e:=
 ⟨k.get b _ h.row h.lt hn,by rw [k.mem b h.lt hn];exact h.mem,Nat.lt_of_lt_of_le h.lt k.next⟩
theorem Md.keeps {A A':AW} {b f:Nat} {o:AO} {cs:List Value} {e b0:Nat} {ro:Bool} (w:Md A A' b o) (h:A.get b=some (.row cs e f b0 ro)):Ay A A' [f]:=
 ⟨by rw [w.next];exact Nl _,fun i o hi _ hn=>by
  by_cases hib:i=b
  ·subst hib
   rw [h] at hi
   cases hi
   exact absurd (Ms.2 rfl) hn
  ·rw [w.get i hib];exact hi,fun f _ _=>w.mem f⟩
theorem AD.store {A:AW} {b off n:Nat} {v:Value} {cs:List Value} {e:TypeId} {r:Option AW} {K:AW→Prop} (h:AD A b cs e) (hf:AH A) (hb:A.next≤Ap)
  (hr:r=(bif Nat.beq v.cells.toList.length n then A.setCells ⟨b,off,none⟩ v.cells.toList else none)) (hv:v.cells.toList.length=n) (hl:off+n≤cs.length) (ho:v.cells.toList.all AL=true)
  (hk:∀ A',AD A' b (IA cs off v.cells.toList) e→Ay A A' [b]→A'.next=A.next→AH A'→K A'):Bb r K:=by
 have hlt:=h.lt
 refine Sp hr hv h.row h.mem hl ho (by omega) fun A' w=>?_
 exact hk A' ⟨w.row,by rw [w.mem];exact h.mem,by rw [w.next];exact h.lt⟩ (w.keeps h.row) w.next (w.Az hf h.row)
def Hj (A:AW) (e:TypeId) (size:Nat) (v:Value) (n:Nat) (cs:List Value) (F:List Nat):Prop:=
 (v=.slice none 0 0∧n=0∧cs=[]∧F=[])∨∃ b f,v=.slice (some ⟨b,0,none⟩) n (BH+n)∧Me 0 A e size n cs b f∧F=[f]
theorem Hj.nil (A:AW) (e:TypeId) (size:Nat):Hj A e size (.slice none 0 0) 0 [] []:=.inl ⟨rfl,rfl,rfl,rfl⟩
theorem Hj.ZZ {A:AW} {e:TypeId} {size:Nat} {v:Value} {n:Nat} {cs:List Value} {F:List Nat} (h:Hj A e size v n cs F):Wi 0 A e size v n cs:=by
 rcases h with ⟨h1,h2,h3,_⟩ | ⟨b,f,h1,h2,_⟩
 ·exact .inl ⟨h1,h2,h3⟩
 ·exact .inr ⟨b,f,h1,h2⟩
theorem Hj.one {A:AW} {e:TypeId} {size:Nat} {v:Value} {n:Nat} {cs:List Value} {F:List Nat} (h:Hj A e size v n cs F):AL v=true∧isTuple v=false:=h.ZZ.one
theorem Hj.lt {A:AW} {e:TypeId} {size:Nat} {v:Value} {n:Nat} {cs:List Value} {F:List Nat} (h:Hj A e size v n cs F):∀ x∈F,x < A.next:=by
 rcases h with ⟨_,_,_,rfl⟩ | ⟨b,f,_,h2,rfl⟩
 ·intro x hx;simp at hx
 ·intro x hx
  obtain rfl:x=f:=by simpa using hx
  exact h2.ltf
theorem Hj.keeps {A A':AW} {e:TypeId} {size:Nat} {v:Value} {n:Nat} {cs:List Value} {F S:List Nat} (h:Hj A e size v n cs F) (k:Ay A A' S) (hd:∀ x∈F,x∉S):Hj A' e size v n cs F:=by
 rcases h with h | ⟨b,f,rfl,h,rfl⟩
 ·exact .inl h
 ·have hfs:f∉S:=hd f (by simp)
  refine .inr ⟨b,f,rfl,⟨h.pos,k.get b _ h.row h.ltf hfs,h.len,Nat.zero_le _,Nat.zero_le _,Nat.lt_of_lt_of_le h.ltf k.next,fun i hi=>?_⟩,rfl⟩
  rw [k.mem f h.ltf hfs] at hi
  obtain ⟨_,h2,cs',e',b',ro',h3⟩:=h.mem i hi
  exact ⟨Nat.zero_le _,Nat.lt_of_lt_of_le h2 k.next,cs',e',b',ro',k.get i _ h3 h.ltf hfs⟩
theorem MF {A:AW} {t t2 e:TypeId} {size bytes:Nat} {v x:Value} {n m:Nat} {cs new:List Value} {F:List Nat} (ht:BJ P t=some e) (hs:szT P e=some (size+1)) (hb:FH P e=some bytes)
  (hz:DH P e (size+1)=true) (hx:B9 P A e t2 (size+1) x=some (m+1,new)) (hnew:new.length=(m+1) * (size+1)) (hone:new.all AL=true) (h:Hj A e (size+1) v n cs F) (hf:AH A)
  (hmax:A.next < Ap) (hr1:n+(m+1) < room) (hr2:(n+(m+1)) * bytes < room) {K:Value→AW→Prop}
  (hk:∀ v' A' F',Hj A' e (size+1) v' (n+(m+1)) (cs++new) F'→Ay A A' F→(∀ x∈F',x∈F∨x=A.next)→A'.next=A.next+1→AH A'→K v' A'):Al (Bf P A t t2 v x) K:=by
 obtain ⟨v',A',h1,a⟩:=SI (P:=P) ht hs hb hz hx hnew hone h.ZZ hf (Nat.zero_le _) hmax hr1 hr2
 rw [h1]
 refine Bg.2 ?_
 have hfam:∀ b f,v=.slice (some ⟨b,0,none⟩) n (BH+n)→Me 0 A e (size+1) n cs b f→f∈F:=by
  intro b f hv ho
  rcases h with ⟨h1,_⟩ | ⟨b',f',h1,h2,rfl⟩
  ·rw [h1] at hv;cases hv
  ·rw [h1] at hv
   simp only [Value.slice.injEq,Oi,Addr.mk.injEq] at hv
   obtain ⟨⟨rfl,_⟩,_⟩:=hv
   have:=ho.row
   rw [h2.row] at this
   simp only [Oi,AO.row.injEq] at this
   simp [this.2.2.1]
 have hkeep:Ay A A' F:=⟨by rw [a.next];omega,fun i o hi hlt hn=>by
   rw [a.get i (hf.lt hi) (fun b f hv ho him=>?_)]
   ·exact hi
   ·obtain ⟨_,_,cs',e',b',ro',h3⟩:=ho.mem i him
    rw [hi] at h3
    cases h3
    exact hn (hfam b f hv ho),fun g hg hn=>a.mem g hg fun b f hv ho hgf=>hn (hgf▸hfam b f hv ho)⟩
 rcases a.own with ⟨_,h2,_⟩ | ⟨b,f,h2,h3⟩
 ·omega
 ·refine hk v' A' [f] (.inr ⟨b,f,h2,h3,rfl⟩) hkeep (fun x hx=>?_) a.next a.Az
  obtain rfl:x=f:=by simpa using hx
  rcases a.fam b x h2 h3 with h4 | ⟨b',h4,h5⟩
  ·exact .inr h4
  ·exact .inl (hfam b' x h4 h5)
structure Rs (A:AW) (r:Nat) (es:List MapEntry) (c:Nat):Prop where
 row:A.get r=some (.map es c false)
 lt:r < A.next
theorem Rs.keeps {A A':AW} {r:Nat} {es:List MapEntry} {c:Nat} {S:List Nat} (h:Rs A r es c) (k:Ay A A' S) (hn:r∉S):Rs A' r es c:=
 ⟨k.get r _ h.row h.lt hn,Nat.lt_of_lt_of_le h.lt k.next⟩
theorem Rs.put {A:AW} {r:Nat} {es es':List MapEntry} {c c':Nat} (h:Rs A r es c) (hf:AH A) (hb:A.next≤Ap):Rs (A.put r (.map es' c' false)) r es' c'∧Ay A (A.put r (.map es' c' false)) [r]∧(A.put r (.map es' c' false)).next=A.next∧AH (A.put r (.map es' c' false)):=by
 have hlt:=h.lt
 have hg:∀ i,(A.put r (.map es' c' false)).get i=if i=r then some (.map es' c' false) else A.get i:=fun i=>AW.DI A r i _ (by omega)
 refine ⟨⟨by rw [hg,if_pos rfl],hlt⟩,⟨Nl _,fun i o hi _ hn=>?_,fun f _ _=>rfl⟩,rfl,⟨hf.fams,fun i hi=>?_⟩⟩
 ·rw [hg,Ff (fun e=>?_)]
  ·exact hi
  ·subst e
   rw [h.row] at hi
   cases hi
   exact hn (Ms.2 rfl)
 ·have hi:A.next≤i:=hi
  rw [hg,Ff (by omega)]
  exact hf.get i hi
theorem Yx {A:AW} {K:Value→AW→Prop} (hf:AH A) (h:A.next < Ap) (hk:∀ A',Rs A' A.next [] 0→Ay A A' []→A'.next=A.next+1→AH A'→K (.map (some A.next)) A'):Al (Hp A) K:=by
 have e:Hp A=.ok (.map (some A.next)) (A.push (.map [] 0 false)):=by
  unfold Hp AW.new
  simp only [AE.2 h,Ct]
  rfl
 rw [e]
 exact Bg.2 (hk _ ⟨by rw [AW.CF _ h,if_pos rfl],by rw [AW.CH];omega⟩ ((AW.Dv _ h).keeps hf) rfl (hf.push _ h))
end
def Sn (w:AW) (it:Value):R AN:=match Lv w it with | some v=>.ok (.value v) w | none=>.fail "entry"
def J5 (P:Program) (w:AW) (t:TypeId) (x:Value):R AN:=match P.underlying t,x with
  | some .string,.string s=>(match w.new (.sit s 0) with | some (b,w)=>.ok (.value (.pointer (some ⟨b,0,none⟩))) w | none=>.fail "range")
  | some (.map _ _),.map none=>(match w.new (.mit none 0 [] 0) with | some (b,w)=>.ok (.value (.pointer (some ⟨b,0,none⟩))) w | none=>.fail "range")
  | some (.map _ _),.map (some m)=>(match w.get m with
   | some (.map _ clock _)=>(match w.new (.mit (some m) clock [] clock) with | some (b,w)=>.ok (.value (.pointer (some ⟨b,0,none⟩))) w | none=>.fail "range")
   | _=>.fail "range")
  | _,_=>.fail "range"
def RT (_:AW) (_:Value):R AN:=.fail "op"
end Go.Abs
namespace Go.Proofs.YtebidlpekphaoaaGreatDoor
open Go.Abs
abbrev pP (b o:Nat):Value:=.pointer (some ⟨b,o,none⟩)
noncomputable abbrev Tp:Program:=Tryz.prog
def Tz:Nat→List Item:=fun _=>[]
def Lz:Nat→List Tmp:=fun _=>[]
def Aw:Bx:={ noEscape:=[80],noZero:=[116],known:=[7,103,104,112,125] }
def sub:Code→List Nat→Code
 | c,[]=>c
 | .seq a _,0::p=>sub a p
 | .seq _ b,_::p=>sub b p
 | .cond _ a _,0::p=>sub a p
 | .cond _ _ b,_::p=>sub b p
 | .block _ b,_::p=>sub b p
 | .loop b,_::p=>sub b p
 | .rangeFunc _ _ a _,0::p=>sub a p
 | .rangeFunc _ _ _ b,_::p=>sub b p
 | .scope b,_::p=>sub b p
 | c,_=>c
noncomputable def cd (f:FuncId) (p:List Nat):Code:=match Tp.funcs[f]? with
 | some fn=>(match fn.body with | some c=>sub c p | none=>.skip)
 | none=>.skip
theorem gX:XOk Tp Aw:=by
 refine ⟨fun f h=>?_,fun f h=>?_⟩
 ·obtain rfl:f=80:=by simpa [Aw] using Nd h
  exact ⟨Tryz.f80,Tryz.func80,by kernel_rfl,by kernel_rfl,by kernel_rfl,by kernel_rfl⟩
 ·obtain rfl:f=116:=by simpa [Aw] using Nd h
  exact ⟨Tryz.f116,Tryz.func116,by kernel_rfl,by kernel_rfl,by kernel_rfl,by kernel_rfl,by kernel_rfl⟩
theorem gP:POk Tp:=Yr (by kernel_rfl) (by kernel_rfl)
def gE (W0:World) (m0:Inj Tp) (S:Nat→List Value→AW→Prop) (Q:Value→AW→Prop) (f sz:Nat) (T:Nat→List Item) (L:Nat→List Tmp) (aS:List Value) (A:AW):Prop:=Eb Tp Aw W0 m0 f T L S Q 4000 (Tm.fill ⟨sz,.nil⟩ 0 aS) [.code (cd f [])] false 0 0 0 A
def gL (W0:World) (m0:Inj Tp) (S:Nat→List Value→AW→Prop) (Q:Value→AW→Prop) (f sz:Nat) (T:Nat→List Item) (L:Nat→List Tmp) (d:Nat→Value) (id:Nat) (A:AW):Prop:=Eb Tp Aw W0 m0 f T L S Q 4000 (TH sz d) (T id) false 0 0 0 A
def Wf0 (f sz:Nat) (T:Nat→List Item) (L:Nat→List Tmp):Prop:=∀ {W0:World} {m0:Inj Tp} {S:Nat→List Value→AW→Prop} {Q:Value→AW→Prop} (A:AW),NU Tp Aw W0 m0 f T L S Q sz→gE W0 m0 S Q f sz T L [] A→Wc Tp Aw W0 m0 f [] A Q
theorem wf0 {f sz:Nat} {T:Nat→List Item} {L:Nat→List Tmp} (n:Gf Tp f []=some (frM f (Tm.fill ⟨sz,.nil⟩ 0 []) [.code (cd f [])] false)) (hs:sz < Ap) (hz:(Tm.fill ⟨sz,.nil⟩ 0 []).sz=sz):Wf0 f sz T L:=fun _ hc h=>Ol gX gP hs hc (n) (hz) h
def Wf1 (f sz:Nat) (T:Nat→List Item) (L:Nat→List Tmp):Prop:=∀ {W0:World} {m0:Inj Tp} {S:Nat→List Value→AW→Prop} {Q:Value→AW→Prop} (a0:Value) (A:AW),NU Tp Aw W0 m0 f T L S Q sz→gE W0 m0 S Q f sz T L [a0] A→Wc Tp Aw W0 m0 f [a0] A Q
theorem wf1 {f sz:Nat} {T:Nat→List Item} {L:Nat→List Tmp} (n:∀ (a0:Value),Gf Tp f [a0]=some (frM f (Tm.fill ⟨sz,.nil⟩ 0 [a0]) [.code (cd f [])] false)) (hs:sz < Ap) (hz:∀ (a0:Value),(Tm.fill ⟨sz,.nil⟩ 0 [a0]).sz=sz):Wf1 f sz T L:=fun a0 _ hc h=>Ol gX gP hs hc (n a0) (hz a0) h
def Wf2 (f sz:Nat) (T:Nat→List Item) (L:Nat→List Tmp):Prop:=∀ {W0:World} {m0:Inj Tp} {S:Nat→List Value→AW→Prop} {Q:Value→AW→Prop} (a0 a1:Value) (A:AW),NU Tp Aw W0 m0 f T L S Q sz→gE W0 m0 S Q f sz T L [a0,a1] A→Wc Tp Aw W0 m0 f [a0,a1] A Q
theorem wf2 {f sz:Nat} {T:Nat→List Item} {L:Nat→List Tmp} (n:∀ (a0 a1:Value),Gf Tp f [a0,a1]=some (frM f (Tm.fill ⟨sz,.nil⟩ 0 [a0,a1]) [.code (cd f [])] false)) (hs:sz < Ap) (hz:∀ (a0 a1:Value),(Tm.fill ⟨sz,.nil⟩ 0 [a0,a1]).sz=sz):Wf2 f sz T L:=fun a0 a1 _ hc h=>Ol gX gP hs hc (n a0 a1) (hz a0 a1) h
def Wf3 (f sz:Nat) (T:Nat→List Item) (L:Nat→List Tmp):Prop:=∀ {W0:World} {m0:Inj Tp} {S:Nat→List Value→AW→Prop} {Q:Value→AW→Prop} (a0 a1 a2:Value) (A:AW),NU Tp Aw W0 m0 f T L S Q sz→gE W0 m0 S Q f sz T L [a0,a1,a2] A→Wc Tp Aw W0 m0 f [a0,a1,a2] A Q
theorem wf3 {f sz:Nat} {T:Nat→List Item} {L:Nat→List Tmp} (n:∀ (a0 a1 a2:Value),Gf Tp f [a0,a1,a2]=some (frM f (Tm.fill ⟨sz,.nil⟩ 0 [a0,a1,a2]) [.code (cd f [])] false)) (hs:sz < Ap) (hz:∀ (a0 a1 a2:Value),(Tm.fill ⟨sz,.nil⟩ 0 [a0,a1,a2]).sz=sz):Wf3 f sz T L:=fun a0 a1 a2 _ hc h=>Ol gX gP hs hc (n a0 a1 a2) (hz a0 a1 a2) h
def Wf4 (f sz:Nat) (T:Nat→List Item) (L:Nat→List Tmp):Prop:=∀ {W0:World} {m0:Inj Tp} {S:Nat→List Value→AW→Prop} {Q:Value→AW→Prop} (a0 a1 a2 a3:Value) (A:AW),NU Tp Aw W0 m0 f T L S Q sz→gE W0 m0 S Q f sz T L [a0,a1,a2,a3] A→Wc Tp Aw W0 m0 f [a0,a1,a2,a3] A Q
theorem wf4 {f sz:Nat} {T:Nat→List Item} {L:Nat→List Tmp} (n:∀ (a0 a1 a2 a3:Value),Gf Tp f [a0,a1,a2,a3]=some (frM f (Tm.fill ⟨sz,.nil⟩ 0 [a0,a1,a2,a3]) [.code (cd f [])] false)) (hs:sz < Ap) (hz:∀ (a0 a1 a2 a3:Value),(Tm.fill ⟨sz,.nil⟩ 0 [a0,a1,a2,a3]).sz=sz):Wf4 f sz T L:=fun a0 a1 a2 a3 _ hc h=>Ol gX gP hs hc (n a0 a1 a2 a3) (hz a0 a1 a2 a3) h
def Wf5 (f sz:Nat) (T:Nat→List Item) (L:Nat→List Tmp):Prop:=∀ {W0:World} {m0:Inj Tp} {S:Nat→List Value→AW→Prop} {Q:Value→AW→Prop} (a0 a1 a2 a3 a4:Value) (A:AW),NU Tp Aw W0 m0 f T L S Q sz→gE W0 m0 S Q f sz T L [a0,a1,a2,a3,a4] A→Wc Tp Aw W0 m0 f [a0,a1,a2,a3,a4] A Q
theorem wf5 {f sz:Nat} {T:Nat→List Item} {L:Nat→List Tmp} (n:∀ (a0 a1 a2 a3 a4:Value),Gf Tp f [a0,a1,a2,a3,a4]=some (frM f (Tm.fill ⟨sz,.nil⟩ 0 [a0,a1,a2,a3,a4]) [.code (cd f [])] false)) (hs:sz < Ap) (hz:∀ (a0 a1 a2 a3 a4:Value),(Tm.fill ⟨sz,.nil⟩ 0 [a0,a1,a2,a3,a4]).sz=sz):Wf5 f sz T L:=fun a0 a1 a2 a3 a4 _ hc h=>Ol gX gP hs hc (n a0 a1 a2 a3 a4) (hz a0 a1 a2 a3 a4) h
def Es (f sz:Nat) (T:Nat→List Item) (L:Nat→List Tmp):Prop:=∀ {W0:World} {m0:Inj Tp} {Q:Value→AW→Prop} {I:Nat→Nat→List Value→AW→Prop},(∀ g id vals A d,I g id vals A→(L id).map d=vals→gL W0 m0 (fun id v A=>∃ g2,g2 < g∧I g2 id v A) Q f sz T L d id A)→NU Tp Aw W0 m0 f T L (fun id v A=>∃ g,I g id v A) Q sz
theorem EC {f sz:Nat} {T:Nat→List Item} {L:Nat→List Tmp} (hs:sz < Ap):Es f sz T L:=fun h=>W1 gX gP hs h
noncomputable def T3:Nat→List Item:=fun i=>match i with
 | _=>[]
noncomputable def T8:Nat→List Item:=fun i=>match i with
 | 0=>[(.code (cd 8 [1,1,1,1,1,0,1,0,0])),(.inLoop (cd 8 [1,1,1,1,1,0,1,0,0])),(.inBlock 0),(.code (cd 8 [1,1,1,1,1,1]))]
 | _=>[]
def L8:Nat→List Tmp:=fun i=>match i with
 | 0=>[1,3,4,5,12]
 | _=>[]
section
variable (W0:World) (m0:Inj Tp) (S:Nat→List Value→AW→Prop) (Q:Value→AW→Prop)
theorem e8 (a0:Value) (A:AW):gE W0 m0 S Q 8 43 T8 L8 [a0] A=(Al (Fc A (Value.cells a0).toList 9) fun t0 At0=>Ab (At Tp At0 9 t0) fun t1=>Ab (Ag Tp .eql 9 (.tmp 8) (.const (.string ⟨⟨[]⟩⟩)) t1 (.string ⟨⟨[]⟩⟩)) fun t2=>Ae t2 (Q (.string ⟨⟨[37]⟩⟩) At0) (Al (BM Tp At0 70) fun t3 At3=>Al (BM Tp At3 3) fun t4 At4=>Bb (AB Tp At4 3 t4 (.int .i64 0)) fun At5=>Ab (At Tp At5 9 t0) fun t6=>anW Tp Aw W0 m0 (J5 Tp At5 9 t6) fun t7 At7=>AZ (T8 0) (T8 0) (S 0 [t0,t3,t4,(.func (.func 20) ⟨[]⟩ ⟨[t0,t4,t3]⟩),t7] At7))):=by kernel_rfl
theorem Acs (d:Nat→Value) (A:AW):gL W0 m0 S Q 8 43 T8 L8 d 0 A=(anW Tp Aw W0 m0 (It A (d 12) true) fun t0 At0=>Ab (BC t0 0) fun t1=>Ae t1 (Ab (BC t0 1) fun t2=>Ab (BC t0 2) fun t3=>anW Tp Aw W0 m0 (Gg Tp Aw At0 (d 5) [t2]) fun t4 At4=>Ab (Ag Tp .gtr 21 (.tmp 20) (.const (.int .i32 32)) t3 (.int .i32 32)) fun t5=>Ae t5 (Ab (Ag Tp .lss 21 (.tmp 23) (.const (.int .i32 127)) t3 (.int .i32 127)) fun t6=>Ae t6 (Ab (Ag Tp .neq 21 (.tmp 27) (.const (.int .i32 37)) t3 (.int .i32 37)) fun t7=>Ae t7 (Ab (Ag Tp .neq 21 (.tmp 31) (.const (.int .i32 58)) t3 (.int .i32 58)) fun t8=>Ae t8 (Wc Tp Aw W0 m0 22 [(d 3),t3] At4 fun t9 At9=>Ab (Ag Tp .add 3 (.tmp 36) (.const (.int .i64 1)) t2 (.int .i64 1)) fun t10=>Bb (AB Tp At9 3 (d 4) t10) fun At11=>AZ (T8 0) (T8 0) (S 0 [(d 1),(d 3),(d 4),(d 5),(d 12)] At11)) (AZ (T8 0) (T8 0) (S 0 [(d 1),(d 3),(d 4),(d 5),(d 12)] At4))) (AZ (T8 0) (T8 0) (S 0 [(d 1),(d 3),(d 4),(d 5),(d 12)] At4))) (AZ (T8 0) (T8 0) (S 0 [(d 1),(d 3),(d 4),(d 5),(d 12)] At4))) (AZ (T8 0) (T8 0) (S 0 [(d 1),(d 3),(d 4),(d 5),(d 12)] At4))) (Ab (At Tp At0 9 (d 1)) fun t12=>Ab (Bn Tp At0 9 t12) fun t13=>anW Tp Aw W0 m0 (Gg Tp Aw At0 (d 5) [t13]) fun t14 At14=>Wc Tp Aw W0 m0 23 [(d 3)] At14 fun t15 At15=>Q t15 At15)):=by kernel_rfl
theorem w8:Wf1 8 43 T8 L8:=wf1 (fun _=>by kernel_rfl) (by decide) fun _=>rfl
theorem c8:Es 8 43 T8 L8:=EC (by decide)
noncomputable def T9:Nat→List Item:=fun i=>match i with
 | 0=>[(.code (cd 9 [1,1,1,0,1,0,0])),(.inLoop (cd 9 [1,1,1,0,1,0,0])),(.inBlock 0),(.code (cd 9 [1,1,1,1]))]
 | _=>[]
def L9:Nat→List Tmp:=fun i=>match i with
 | 0=>[0,4,5]
 | _=>[]
theorem e9 (a0:Value) (A:AW):gE W0 m0 S Q 9 54 T9 L9 [a0] A=(Ab (Ag Tp .eql 9 (.tmp 6) (.const (.string ⟨⟨[37]⟩⟩)) a0 (.string ⟨⟨[37]⟩⟩)) fun t0=>Ae t0 (Q (.tuple ⟨[(.string ⟨⟨[]⟩⟩),(.int .i64 0)]⟩) A) (AZ (T9 0) (T9 0) (S 0 [a0,(.slice none 0 0),(.int .i64 0)] A))):=by kernel_rfl
theorem Acr (d:Nat→Value) (A:AW):gL W0 m0 S Q 9 54 T9 L9 d 0 A=(Ab (Bn Tp A 9 (d 0)) fun t0=>Ab (Ag Tp .lss 3 (.tmp 8) (.tmp 10) (d 5) t0) fun t1=>Ae t1 (Ab (Bj Tp 9 (d 0) (d 5)) fun t2=>Ab (Ag Tp .neq 5 (.tmp 16) (.const (.int .u8 37)) t2 (.int .u8 37)) fun t3=>Ae t3 (Ab (Bj Tp 9 (d 0) (d 5)) fun t4=>Al (Ar Tp A 33 1 [(0,t4)]) fun t5 At5=>Al (Bf Tp At5 33 33 (d 4) t5) fun t6 At6=>Ab (Ag Tp .add 3 (.tmp 12) (.const (.int .i64 1)) (d 5) (.int .i64 1)) fun t7=>AZ (T9 0) (T9 0) (S 0 [(d 0),t6,t7] At6)) (Ab (Ag Tp .add 3 (.tmp 24) (.const (.int .i64 2)) (d 5) (.int .i64 2)) fun t8=>Ab (Bn Tp A 9 (d 0)) fun t9=>Ab (Ag Tp .geq 3 (.tmp 25) (.tmp 27) t8 t9) fun t10=>Ae t10 (Q (.tuple ⟨[(.string ⟨⟨[]⟩⟩),(.int .i64 310)]⟩) A) (Ab (Ag Tp .add 3 (.tmp 31) (.const (.int .i64 1)) (d 5) (.int .i64 1)) fun t11=>Ab (Bj Tp 9 (d 0) t11) fun t12=>Ab (Ag Tp .add 3 (.tmp 37) (.const (.int .i64 2)) (d 5) (.int .i64 2)) fun t13=>Ab (Bj Tp 9 (d 0) t13) fun t14=>Wc Tp Aw W0 m0 24 [(.string ⟨⟨[48,49,50,51,52,53,54,55,56,57,97,98,99,100,101,102]⟩⟩),t12] A fun t15 At15=>Ab (Bj Tp 9 (d 0) t13) fun t16=>eqW t16 t14 (Ab (Ag Tp .add 3 (.tmp 37) (.const (.int .i64 2)) (d 5) (.int .i64 2)) fun t17=>eqW t17 t13 (eqW (d 5) (d 5) (eqW (d 0) (d 0) (eqW (d 4) (d 4) (Ab (Ag Tp .shl 3 (.tmp 34) (.const (.int .u64 4)) t15 (.int .u64 4)) fun t18=>Wc Tp Aw W0 m0 24 [(.string ⟨⟨[48,49,50,51,52,53,54,55,56,57,97,98,99,100,101,102]⟩⟩),t14] At15 fun t19 At19=>Ab (Ag Tp .shl 3 (.tmp 34) (.const (.int .u64 4)) t15 (.int .u64 4)) fun t20=>eqW t20 t18 (eqW (d 4) (d 4) (Ab (Ag Tp .add 3 (.tmp 35) (.tmp 40) t18 t19) fun t21=>Al (Au Tp At19 3 5 t21) fun t22 At22=>Al (Ar Tp At22 33 1 [(0,t22)]) fun t23 At23=>Bz (AR Tp (BA (Tm.fill ⟨1,.nil⟩ 0 [t22])) (.buildSlice 33 1 #[(0,.tmp 0)])) At23 t23 (Al (Au Tp At23 3 5 t21) fun t24 _=>eqW t24 t22 (Ab (Ag Tp .add 3 (.tmp 35) (.tmp 40) t18 t19) fun t25=>eqW t25 t21 (Ab (Bj Tp 9 (d 0) t13) fun t26=>eqW t26 t14 (Ab (Ag Tp .add 3 (.tmp 37) (.const (.int .i64 2)) (d 5) (.int .i64 2)) fun t27=>eqW t27 t13 (eqW (d 5) (d 5) (eqW (d 0) (d 0) (Ab (Ag Tp .shl 3 (.tmp 34) (.const (.int .u64 4)) t15 (.int .u64 4)) fun t28=>eqW t28 t18 (Ab (Bj Tp 9 (d 0) t11) fun t29=>eqW t29 t12 (Ab (Ag Tp .add 3 (.tmp 31) (.const (.int .i64 1)) (d 5) (.int .i64 1)) fun t30=>eqW t30 t11 (eqW (d 5) (d 5) (eqW (d 0) (d 0) (eqW (d 4) (d 4) (Al (Bf Tp At23 33 33 (d 4) t23) fun t31 At31=>Ab (Ag Tp .add 3 (.tmp 45) (.const (.int .i64 2)) (d 5) (.int .i64 2)) fun t32=>Ab (Ag Tp .add 3 (.tmp 12) (.const (.int .i64 1)) t32 (.int .i64 1)) fun t33=>AZ (T9 0) (T9 0) (S 0 [(d 0),t31,t33] At31)))))))))))))))))))))))) (Al (Au Tp A 33 9 (d 4)) fun t34 At34=>Wc Tp Aw W0 m0 8 [t34] At34 fun t35 At35=>Ab (Ag Tp .neq 9 (.tmp 49) (.tmp 50) t35 (d 0)) fun t36=>Ae t36 (Q (.tuple ⟨[(.string ⟨⟨[]⟩⟩),(.int .i64 310)]⟩) At35) (Al (Au Tp At35 33 9 (d 4)) fun t37 At37=>Q (.tuple ⟨[t37,(.int .i64 0)]⟩) At37))):=by kernel_rfl
theorem w9:Wf1 9 54 T9 L9:=wf1 (fun _=>by kernel_rfl) (by decide) fun _=>rfl
theorem c9:Es 9 54 T9 L9:=EC (by decide)
noncomputable def T10:Nat→List Item:=fun i=>match i with
 | 0=>[(.code (cd 10 [1,1,0,1,0,0])),(.inLoop (cd 10 [1,1,0,1,0,0])),(.inBlock 0),(.code (cd 10 [1,1,1]))]
 | _=>[]
def L10:Nat→List Tmp:=fun i=>match i with
 | 0=>[0,4,5]
 | _=>[]
theorem e10 (a0:Value) (A:AW):gE W0 m0 S Q 10 69 T10 L10 [a0] A=(AZ (T10 0) (T10 0) (S 0 [a0,(.slice none 0 0),(.int .i64 0)] A)):=by kernel_rfl
theorem XC (d:Nat→Value) (A:AW):gL W0 m0 S Q 10 69 T10 L10 d 0 A=(Ab (Bn Tp A 9 (d 0)) fun t0=>Ab (Ag Tp .lss 3 (.tmp 7) (.tmp 9) (d 5) t0) fun t1=>Ae t1 (Ab (Ag Tp .neq 9 (.tmp 12) (.const (.string ⟨⟨[37]⟩⟩)) (d 0) (.string ⟨⟨[37]⟩⟩)) fun t2=>Ae t2 (Ab (Bj Tp 9 (d 0) (d 5)) fun t3=>Ab (Ag Tp .eql 5 (.tmp 20) (.const (.int .u8 37)) t3 (.int .u8 37)) fun t4=>Ae t4 (Ab (Ag Tp .add 3 (.tmp 22) (.const (.int .i64 2)) (d 5) (.int .i64 2)) fun t5=>Ab (Bn Tp A 9 (d 0)) fun t6=>Ab (Ag Tp .geq 3 (.tmp 23) (.tmp 25) t5 t6) fun t7=>Ae t7 (Q (.tuple ⟨[(.string ⟨⟨[]⟩⟩),(.int .i64 310)]⟩) A) (Ab (Ag Tp .add 3 (.tmp 29) (.const (.int .i64 1)) (d 5) (.int .i64 1)) fun t8=>Ab (Bj Tp 9 (d 0) t8) fun t9=>Wc Tp Aw W0 m0 25 [t9] A fun t10 At10=>Ab (Ag Tp .lss 3 (.tmp 32) (.const (.int .i64 0)) t10 (.int .i64 0)) fun t11=>Ae t11 (Q (.tuple ⟨[(.string ⟨⟨[]⟩⟩),(.int .i64 310)]⟩) At10) (Ab (Ag Tp .add 3 (.tmp 37) (.const (.int .i64 2)) (d 5) (.int .i64 2)) fun t12=>Ab (Bj Tp 9 (d 0) t12) fun t13=>Wc Tp Aw W0 m0 25 [t13] At10 fun t14 At14=>Ab (Ag Tp .lss 3 (.tmp 40) (.const (.int .i64 0)) t14 (.int .i64 0)) fun t15=>Ae t15 (Q (.tuple ⟨[(.string ⟨⟨[]⟩⟩),(.int .i64 310)]⟩) At14) (Ab (Ag Tp .add 3 (.tmp 44) (.const (.int .i64 1)) (d 5) (.int .i64 1)) fun t16=>Ab (Bj Tp 9 (d 0) t16) fun t17=>Ab (Ag Tp .add 3 (.tmp 50) (.const (.int .i64 2)) (d 5) (.int .i64 2)) fun t18=>Ab (Bj Tp 9 (d 0) t18) fun t19=>Wc Tp Aw W0 m0 25 [t17] At14 fun t20 At20=>Ab (Bj Tp 9 (d 0) t18) fun t21=>eqW t21 t19 (Ab (Ag Tp .add 3 (.tmp 50) (.const (.int .i64 2)) (d 5) (.int .i64 2)) fun t22=>eqW t22 t18 (eqW (d 5) (d 5) (eqW (d 0) (d 0) (Ab (Ag Tp .mul 3 (.const (.int .i64 16)) (.tmp 47) (.int .i64 16) t20) fun t23=>Wc Tp Aw W0 m0 25 [t19] At20 fun t24 At24=>Ab (Ag Tp .mul 3 (.const (.int .i64 16)) (.tmp 47) (.int .i64 16) t20) fun t25=>eqW t25 t23 (Ab (Ag Tp .add 3 (.tmp 48) (.tmp 53) t23 t24) fun t26=>Al (Au Tp At24 3 5 t26) fun t27 At27=>Ab (Ag Tp .add 3 (.tmp 56) (.const (.int .i64 2)) (d 5) (.int .i64 2)) fun t28=>Al (Ar Tp At27 33 1 [(0,t27)]) fun t29 At29=>Al (Bf Tp At29 33 33 (d 4) t29) fun t30 At30=>Ab (Ag Tp .add 3 (.tmp 15) (.const (.int .i64 1)) t28 (.int .i64 1)) fun t31=>AZ (T10 0) (T10 0) (S 0 [(d 0),t30,t31] At30)))))))))) (Al (Ar Tp A 33 1 [(0,t3)]) fun t32 At32=>Al (Bf Tp At32 33 33 (d 4) t32) fun t33 At33=>Ab (Ag Tp .add 3 (.tmp 15) (.const (.int .i64 1)) (d 5) (.int .i64 1)) fun t34=>AZ (T10 0) (T10 0) (S 0 [(d 0),t33,t34] At33))) (Al (Au Tp A 33 9 (d 4)) fun t35 At35=>Wc Tp Aw W0 m0 11 [t35] At35 fun t36 At36=>Ab (Ag Tp .neq 9 (.tmp 64) (.tmp 65) t36 (d 0)) fun t37=>Ae t37 (Q (.tuple ⟨[(.string ⟨⟨[]⟩⟩),(.int .i64 310)]⟩) At36) (Al (Au Tp At36 33 9 (d 4)) fun t38 At38=>Q (.tuple ⟨[t38,(.int .i64 0)]⟩) At38))) (Al (Au Tp A 33 9 (d 4)) fun t39 At39=>Wc Tp Aw W0 m0 11 [t39] At39 fun t40 At40=>Ab (Ag Tp .neq 9 (.tmp 64) (.tmp 65) t40 (d 0)) fun t41=>Ae t41 (Q (.tuple ⟨[(.string ⟨⟨[]⟩⟩),(.int .i64 310)]⟩) At40) (Al (Au Tp At40 33 9 (d 4)) fun t42 At42=>Q (.tuple ⟨[t42,(.int .i64 0)]⟩) At42))):=by kernel_rfl
theorem w10:Wf1 10 69 T10 L10:=wf1 (fun _=>by kernel_rfl) (by decide) fun _=>rfl
theorem c10:Es 10 69 T10 L10:=EC (by decide)
noncomputable def T11:Nat→List Item:=fun i=>match i with
 | 0=>[(.code (cd 11 [1,1,1,0,1,0,0])),(.inLoop (cd 11 [1,1,1,0,1,0,0])),(.inBlock 0),(.code (cd 11 [1,1,1,1]))]
 | _=>[]
def L11:Nat→List Tmp:=fun i=>match i with
 | 0=>[0,3,4]
 | _=>[]
theorem e11 (a0:Value) (A:AW):gE W0 m0 S Q 11 50 T11 L11 [a0] A=(Ab (Ag Tp .eql 9 (.tmp 5) (.const (.string ⟨⟨[]⟩⟩)) a0 (.string ⟨⟨[]⟩⟩)) fun t0=>Ae t0 (Q (.string ⟨⟨[37]⟩⟩) A) (AZ (T11 0) (T11 0) (S 0 [a0,(.string ⟨⟨[]⟩⟩),(.int .i64 0)] A))):=by kernel_rfl
theorem AaP (d:Nat→Value) (A:AW):gL W0 m0 S Q 11 50 T11 L11 d 0 A=(Ab (Bn Tp A 9 (d 0)) fun t0=>Ab (Ag Tp .lss 3 (.tmp 7) (.tmp 9) (d 4) t0) fun t1=>Ae t1 (Ab (Bj Tp 9 (d 0) (d 4)) fun t2=>Ab (Ag Tp .geq 5 (.tmp 15) (.const (.int .u8 33)) t2 (.int .u8 33)) fun t3=>Ae t3 (Ab (Bj Tp 9 (d 0) (d 4)) fun t4=>Ab (Ag Tp .leq 5 (.tmp 20) (.const (.int .u8 126)) t4 (.int .u8 126)) fun t5=>Ae t5 (Ab (Bj Tp 9 (d 0) (d 4)) fun t6=>Ab (Ag Tp .neq 5 (.tmp 26) (.const (.int .u8 37)) t6 (.int .u8 37)) fun t7=>Ae t7 (Ab (Bj Tp 9 (d 0) (d 4)) fun t8=>Ab (Ag Tp .neq 5 (.tmp 32) (.const (.int .u8 58)) t8 (.int .u8 58)) fun t9=>Ae t9 (Ab (Ag Tp .add 3 (.tmp 38) (.const (.int .i64 1)) (d 4) (.int .i64 1)) fun t10=>Ab (Br Tp A 9 (d 0) (some (d 4)) (some t10) none) fun t11=>Ab (Ag Tp .add 9 (.tmp 35) (.tmp 40) (d 3) t11) fun t12=>Ab (Ag Tp .add 3 (.tmp 11) (.const (.int .i64 1)) (d 4) (.int .i64 1)) fun t13=>AZ (T11 0) (T11 0) (S 0 [(d 0),t12,t13] A)) (Ab (Ag Tp .add 9 (.tmp 42) (.const (.string ⟨⟨[37]⟩⟩)) (d 3) (.string ⟨⟨[37]⟩⟩)) fun t14=>Ab (Bj Tp 9 (d 0) (d 4)) fun t15=>Wc Tp Aw W0 m0 26 [t15] A fun t16 At16=>Ab (Ag Tp .add 9 (.tmp 43) (.tmp 47) t14 t16) fun t17=>Ab (Ag Tp .add 3 (.tmp 11) (.const (.int .i64 1)) (d 4) (.int .i64 1)) fun t18=>AZ (T11 0) (T11 0) (S 0 [(d 0),t17,t18] At16))) (Ab (Ag Tp .add 9 (.tmp 42) (.const (.string ⟨⟨[37]⟩⟩)) (d 3) (.string ⟨⟨[37]⟩⟩)) fun t19=>Ab (Bj Tp 9 (d 0) (d 4)) fun t20=>Wc Tp Aw W0 m0 26 [t20] A fun t21 At21=>Ab (Ag Tp .add 9 (.tmp 43) (.tmp 47) t19 t21) fun t22=>Ab (Ag Tp .add 3 (.tmp 11) (.const (.int .i64 1)) (d 4) (.int .i64 1)) fun t23=>AZ (T11 0) (T11 0) (S 0 [(d 0),t22,t23] At21))) (Ab (Ag Tp .add 9 (.tmp 42) (.const (.string ⟨⟨[37]⟩⟩)) (d 3) (.string ⟨⟨[37]⟩⟩)) fun t24=>Ab (Bj Tp 9 (d 0) (d 4)) fun t25=>Wc Tp Aw W0 m0 26 [t25] A fun t26 At26=>Ab (Ag Tp .add 9 (.tmp 43) (.tmp 47) t24 t26) fun t27=>Ab (Ag Tp .add 3 (.tmp 11) (.const (.int .i64 1)) (d 4) (.int .i64 1)) fun t28=>AZ (T11 0) (T11 0) (S 0 [(d 0),t27,t28] At26))) (Ab (Ag Tp .add 9 (.tmp 42) (.const (.string ⟨⟨[37]⟩⟩)) (d 3) (.string ⟨⟨[37]⟩⟩)) fun t29=>Ab (Bj Tp 9 (d 0) (d 4)) fun t30=>Wc Tp Aw W0 m0 26 [t30] A fun t31 At31=>Ab (Ag Tp .add 9 (.tmp 43) (.tmp 47) t29 t31) fun t32=>Ab (Ag Tp .add 3 (.tmp 11) (.const (.int .i64 1)) (d 4) (.int .i64 1)) fun t33=>AZ (T11 0) (T11 0) (S 0 [(d 0),t32,t33] At31))) (Q (d 3) A)):=by kernel_rfl
theorem w11:Wf1 11 50 T11 L11:=wf1 (fun _=>by kernel_rfl) (by decide) fun _=>rfl
theorem c11:Es 11 50 T11 L11:=EC (by decide)
noncomputable def T20:Nat→List Item:=fun i=>match i with
 | 0=>[(.code (cd 20 [0,1,0,0])),(.inLoop (cd 20 [0,1,0,0])),(.inBlock 0),(.code (cd 20 [1]))]
 | _=>[]
def L20:Nat→List Tmp:=fun i=>match i with
 | 0=>[0,2,3,11,12,13]
 | _=>[]
theorem e20 (a0 a1 a2 a3:Value) (A:AW):gE W0 m0 S Q 20 28 T20 L20 [a0,a1,a2,a3] A=(Ab (At Tp A 9 a1) fun t0=>Ab (At Tp A 3 a2) fun t1=>Ab (Br Tp A 9 t0 (some t1) (some a0) none) fun t2=>Al (Au Tp A 9 33 t2) fun t3 At3=>Ab (Bn Tp At3 33 t3) fun t4=>AZ (T20 0) (T20 0) (S 0 [a0,a2,a3,t3,t4,(.int .i64 0)] At3)):=by kernel_rfl
theorem AaE (d:Nat→Value) (A:AW):gL W0 m0 S Q 20 28 T20 L20 d 0 A=(Ab (Ag Tp .lss 3 (.tmp 13) (.tmp 12) (d 13) (d 12)) fun t0=>Ae t0 (Ab (Am Tp 33 (d 11) (d 13)) fun t1=>Ab (At Tp A 5 t1) fun t2=>Wc Tp Aw W0 m0 21 [(d 3),(.int .u8 37)] A fun t3 At3=>Ab (Ag Tp .shr 5 (.tmp 18) (.const (.int .u64 4)) t2 (.int .u64 4)) fun t4=>Ab (Bj Tp 9 (.string ⟨⟨[48,49,50,51,52,53,54,55,56,57,97,98,99,100,101,102]⟩⟩) t4) fun t5=>Wc Tp Aw W0 m0 21 [(d 3),t5] At3 fun t6 At6=>Ab (Ag Tp .and 5 (.tmp 22) (.const (.int .u8 15)) t2 (.int .u8 15)) fun t7=>Ab (Bj Tp 9 (.string ⟨⟨[48,49,50,51,52,53,54,55,56,57,97,98,99,100,101,102]⟩⟩) t7) fun t8=>Wc Tp Aw W0 m0 21 [(d 3),t8] At6 fun t9 At9=>Ab (Ag Tp .add 3 (.tmp 13) (.const (.int .i64 1)) (d 13) (.int .i64 1)) fun t10=>AZ (T20 0) (T20 0) (S 0 [(d 0),(d 2),(d 3),(d 11),(d 12),t10] At9)) (Bb (AB Tp A 3 (d 2) (d 0)) fun At11=>Q (.tuple ⟨[]⟩) At11)):=by kernel_rfl
theorem w20:Wf4 20 28 T20 L20:=wf4 (fun _ _ _ _=>by kernel_rfl) (by decide) fun _ _ _ _=>rfl
theorem c20:Es 20 28 T20 L20:=EC (by decide)
theorem e21 (a0 a1:Value) (A:AW):gE W0 m0 S Q 21 17 Tz Lz [a0,a1] A=(Wc Tp Aw W0 m0 50 [a0] A fun t0 At0=>Ab (Ce a0) fun t1=>Ab (Ac Tp 70 t1 1) fun t2=>Ab (At Tp At0 33 t2) fun t3=>Al (Ar Tp At0 33 1 [(0,a1)]) fun t4 At4=>Al (Bf Tp At4 33 33 t3 t4) fun t5 At5=>Ab (Ce a0) fun t6=>Ab (Ac Tp 70 t6 1) fun t7=>Bb (AB Tp At5 33 t7 t5) fun At8=>Q .nilIface At8):=by kernel_rfl
theorem w21:Wf2 21 17 Tz Lz:=wf2 (fun _ _=>by kernel_rfl) (by decide) fun _ _=>rfl
theorem e22 (a0 a1:Value) (A:AW):gE W0 m0 S Q 22 30 Tz Lz [a0,a1] A=(Wc Tp Aw W0 m0 50 [a0] A fun t0 At0=>Ab (Ce a0) fun t1=>Ab (Ac Tp 70 t1 1) fun t2=>Ab (At Tp At0 33 t2) fun t3=>Ab (Bn Tp At0 33 t3) fun t4=>Ab (Ce a0) fun t5=>Ab (Ac Tp 70 t5 1) fun t6=>Ab (At Tp At0 33 t6) fun t7=>Wc Tp Aw W0 m0 51 [t7,a1] At0 fun t8 At8=>Ab (Ce a0) fun t9=>Ab (Ac Tp 70 t9 1) fun t10=>Bb (AB Tp At8 33 t10 t8) fun At11=>Ab (Ce a0) fun t12=>Ab (Ac Tp 70 t12 1) fun t13=>Ab (At Tp At11 33 t13) fun t14=>Ab (Bn Tp At11 33 t14) fun t15=>Ab (Ag Tp .sub 3 (.tmp 27) (.tmp 28) t15 t4) fun t16=>Q (.tuple ⟨[t16,.nilIface]⟩) At11):=by kernel_rfl
theorem w22:Wf2 22 30 Tz Lz:=wf2 (fun _ _=>by kernel_rfl) (by decide) fun _ _=>rfl
theorem e23 (a0:Value) (A:AW):gE W0 m0 S Q 23 14 Tz Lz [a0] A=(Ab (Ce a0) fun t0=>Ab (Ac Tp 70 t0 1) fun t1=>Ab (At Tp A 33 t1) fun t2=>anW Tp Aw W0 m0 (Cn Tp A .unsafeSliceData [33] 107 [t2]) fun t3 At3=>Ab (Ce a0) fun t4=>Ab (Ac Tp 70 t4 1) fun t5=>Ab (At Tp At3 33 t5) fun t6=>Ab (Bn Tp At3 33 t6) fun t7=>anW Tp Aw W0 m0 (Cn Tp At3 .unsafeString [107,3] 9 [t3,t7]) fun t8 At8=>Q t8 At8):=by kernel_rfl
theorem w23:Wf1 23 14 Tz Lz:=wf1 (fun _=>by kernel_rfl) (by decide) fun _=>rfl
theorem e24 (a0 a1:Value) (A:AW):gE W0 m0 S Q 24 8 Tz Lz [a0,a1] A=(Wc Tp Aw W0 m0 52 [a0,a1] A fun t0 At0=>Q t0 At0):=by kernel_rfl
theorem w24:Wf2 24 8 Tz Lz:=wf2 (fun _ _=>by kernel_rfl) (by decide) fun _ _=>rfl
theorem e25 (a0:Value) (A:AW):gE W0 m0 S Q 25 22 Tz Lz [a0] A=(Ab (Ag Tp .geq 5 (.tmp 3) (.const (.int .u8 48)) a0 (.int .u8 48)) fun t0=>Ae t0 (Ab (Ag Tp .leq 5 (.tmp 6) (.const (.int .u8 57)) a0 (.int .u8 57)) fun t1=>Ae t1 (Ab (Ag Tp .sub 5 (.tmp 9) (.const (.int .u8 48)) a0 (.int .u8 48)) fun t2=>Al (Au Tp A 5 3 t2) fun t3 At3=>Q t3 At3) (Ab (Ag Tp .geq 5 (.tmp 12) (.const (.int .u8 97)) a0 (.int .u8 97)) fun t4=>Ae t4 (Ab (Ag Tp .leq 5 (.tmp 15) (.const (.int .u8 102)) a0 (.int .u8 102)) fun t5=>Ae t5 (Ab (Ag Tp .sub 5 (.tmp 18) (.const (.int .u8 97)) a0 (.int .u8 97)) fun t6=>Al (Au Tp A 5 3 t6) fun t7 At7=>Ab (Ag Tp .add 3 (.tmp 20) (.const (.int .i64 10)) t7 (.int .i64 10)) fun t8=>Q t8 At7) (Q (.int .i64 (-1)) A)) (Q (.int .i64 (-1)) A))) (Ab (Ag Tp .geq 5 (.tmp 12) (.const (.int .u8 97)) a0 (.int .u8 97)) fun t9=>Ae t9 (Ab (Ag Tp .leq 5 (.tmp 15) (.const (.int .u8 102)) a0 (.int .u8 102)) fun t10=>Ae t10 (Ab (Ag Tp .sub 5 (.tmp 18) (.const (.int .u8 97)) a0 (.int .u8 97)) fun t11=>Al (Au Tp A 5 3 t11) fun t12 At12=>Ab (Ag Tp .add 3 (.tmp 20) (.const (.int .i64 10)) t12 (.int .i64 10)) fun t13=>Q t13 At12) (Q (.int .i64 (-1)) A)) (Q (.int .i64 (-1)) A))):=by kernel_rfl
theorem w25:Wf1 25 22 Tz Lz:=wf1 (fun _=>by kernel_rfl) (by decide) fun _=>rfl
theorem e26 (a0:Value) (A:AW):gE W0 m0 S Q 26 14 Tz Lz [a0] A=(Ab (Ag Tp .quo 5 (.tmp 5) (.const (.int .u8 16)) a0 (.int .u8 16)) fun t0=>Ab (Bj Tp 9 (.string ⟨⟨[48,49,50,51,52,53,54,55,56,57,97,98,99,100,101,102]⟩⟩) t0) fun t1=>Ab (Ag Tp .rem 5 (.tmp 9) (.const (.int .u8 16)) a0 (.int .u8 16)) fun t2=>Ab (Bj Tp 9 (.string ⟨⟨[48,49,50,51,52,53,54,55,56,57,97,98,99,100,101,102]⟩⟩) t2) fun t3=>Al (Ar Tp A 33 2 [(0,t1),(1,t3)]) fun t4 At4=>Bz (AR Tp (BA (Tm.fill ⟨2,.nil⟩ 0 [t1,t3])) (.buildSlice 33 2 #[(0,.tmp 0),(1,.tmp 1)])) At4 t4 (Ab (Bj Tp 9 (.string ⟨⟨[48,49,50,51,52,53,54,55,56,57,97,98,99,100,101,102]⟩⟩) t2) fun t5=>eqW t5 t3 (Ab (Ag Tp .rem 5 (.tmp 9) (.const (.int .u8 16)) a0 (.int .u8 16)) fun t6=>eqW t6 t2 (eqW a0 a0 (eqW (.string ⟨⟨[48,49,50,51,52,53,54,55,56,57,97,98,99,100,101,102]⟩⟩) (.string ⟨⟨[48,49,50,51,52,53,54,55,56,57,97,98,99,100,101,102]⟩⟩) (Ab (Bj Tp 9 (.string ⟨⟨[48,49,50,51,52,53,54,55,56,57,97,98,99,100,101,102]⟩⟩) t0) fun t7=>eqW t7 t1 (Ab (Ag Tp .quo 5 (.tmp 5) (.const (.int .u8 16)) a0 (.int .u8 16)) fun t8=>eqW t8 t0 (eqW a0 a0 (eqW (.string ⟨⟨[48,49,50,51,52,53,54,55,56,57,97,98,99,100,101,102]⟩⟩) (.string ⟨⟨[48,49,50,51,52,53,54,55,56,57,97,98,99,100,101,102]⟩⟩) (Al (Au Tp At4 33 9 t4) fun t9 At9=>Q t9 At9)))))))))):=by kernel_rfl
theorem w26:Wf1 26 14 Tz Lz:=wf1 (fun _=>by kernel_rfl) (by decide) fun _=>rfl
theorem e50 (a0:Value) (A:AW):gE W0 m0 S Q 50 20 Tz Lz [a0] A=(Ab (Ce a0) fun t0=>Ab (Ac Tp 70 t0 0) fun t1=>Ab (At Tp A 68 t1) fun t2=>Ab (Ag Tp .eql 68 (.tmp 5) (.const (.pointer none)) t2 (.pointer none)) fun t3=>Ae t3 (Al (Au Tp A 68 132 a0) fun t4 At4=>anW Tp Aw W0 m0 (B4 Tp Aw At4 80 [t4]) fun t5 At5=>Al (Au Tp At5 132 68 t5) fun t6 At6=>Ab (Ce a0) fun t7=>Ab (Ac Tp 70 t7 0) fun t8=>Bb (AB Tp At6 68 t8 t6) fun At9=>Q (.tuple ⟨[]⟩) At9) (Ab (Ce a0) fun t10=>Ab (Ac Tp 70 t10 0) fun t11=>Ab (At Tp A 68 t11) fun t12=>Ab (Ag Tp .neq 68 (.tmp 17) (.tmp 18) t12 a0) fun t13=>Ae t13 (False) (Q (.tuple ⟨[]⟩) A))):=by kernel_rfl
theorem w50:Wf1 50 20 Tz Lz:=wf1 (fun _=>by kernel_rfl) (by decide) fun _=>rfl
theorem e51 (a0 a1:Value) (A:AW):gE W0 m0 S Q 51 16 Tz Lz [a0,a1] A=(Al (Au Tp A 21 30 a1) fun t0 At0=>Ab (Ag Tp .leq 30 (.tmp 6) (.const (.int .u32 127)) t0 (.int .u32 127)) fun t1=>Ae t1 (Al (Au Tp At0 21 5 a1) fun t2 At2=>Al (Ar Tp At2 33 1 [(0,t2)]) fun t3 At3=>Al (Bf Tp At3 33 33 a0 t3) fun t4 At4=>Q t4 At4) (Wc Tp Aw W0 m0 81 [a0,a1] At0 fun t5 At5=>Q t5 At5)):=by kernel_rfl
theorem w51:Wf2 51 16 Tz Lz:=wf2 (fun _ _=>by kernel_rfl) (by decide) fun _ _=>rfl
theorem e52 (a0 a1:Value) (A:AW):gE W0 m0 S Q 52 8 Tz Lz [a0,a1] A=(anW Tp Aw W0 m0 (B4 Tp Aw A 82 [a0,a1]) fun t0 At0=>Q t0 At0):=by kernel_rfl
theorem w52:Wf2 52 8 Tz Lz:=wf2 (fun _ _=>by kernel_rfl) (by decide) fun _ _=>rfl
noncomputable def T53:Nat→List Item:=fun i=>match i with
 | 0=>[(.code (cd 53 [1,0,1,0,0])),(.inLoop (cd 53 [1,0,1,0,0])),(.inBlock 0),(.code (cd 53 [1,1]))]
 | _=>[]
def L53:Nat→List Tmp:=fun i=>match i with
 | 0=>[1,8]
 | _=>[]
theorem e53 (a0 a1:Value) (A:AW):gE W0 m0 S Q 53 18 T53 L53 [a0,a1] A=(anW Tp Aw W0 m0 (J5 Tp A 109 a0) fun t0 At0=>AZ (T53 0) (T53 0) (S 0 [a1,t0] At0)):=by kernel_rfl
theorem Aap (d:Nat→Value) (A:AW):gL W0 m0 S Q 53 18 T53 L53 d 0 A=(anW Tp Aw W0 m0 (It A (d 8) false) fun t0 At0=>Ab (BC t0 0) fun t1=>Ae t1 (anW Tp Aw W0 m0 (Sn At0 (d 8)) fun t2 At2=>Ab (BC t2 0) fun t3=>Ab (BC t2 1) fun t4=>Ab (Ag Tp .eql 5 (.tmp 14) (.tmp 15) t4 (d 1)) fun t5=>Ae t5 (Q t3 At2) (AZ (T53 0) (T53 0) (S 0 [(d 1),(d 8)] At2))) (Q (.string ⟨⟨[]⟩⟩) At0)):=by kernel_rfl
theorem w53:Wf2 53 18 T53 L53:=wf2 (fun _ _=>by kernel_rfl) (by decide) fun _ _=>rfl
theorem c53:Es 53 18 T53 L53:=EC (by decide)
end
end Go.Proofs.YtebidlpekphaoaaGreatDoor
namespace Go.Abs
section
variable {P:Program}
theorem E5 {d:Nat} {xs ys:Array Value} {f:Field} {fs:List Field} {a b:Value} {r:Bool} (hn:decide (f.name≠ "_")=true) (h1:quiet P (part f.type xs f.offset)=some a) (h2:quiet P (part f.type ys f.offset)=some b) (h3:quiet P (Op.equalIn d f.type a b)=some r):
  quiet P (Op.eqFields d xs ys (f::fs))=if r=true then quiet P (Op.eqFields d xs ys fs) else some false:=by
 simp only [Op.eqFields]
 rw [if_pos (of_decide_eq_true hn)]
 show quiet P (Sem.bind _ _)=_
 rw [DF,h1]
 simp only [Option.bind_some]
 show quiet P (Sem.bind _ _)=_
 rw [DF,h2]
 simp only [Option.bind_some]
 show quiet P (Sem.bind _ _)=_
 rw [DF,h3]
 cases r <;> rfl
theorem bytes_beq (a b:ByteArray):(a==b)=(a.data.toList==b.data.toList):=by
 obtain ⟨⟨x⟩⟩:=a
 obtain ⟨⟨y⟩⟩:=b
 show ((⟨x⟩:Array UInt8)==⟨y⟩)=(x==y)
 simp
theorem Jo {d:Nat} {t:TypeId} {a b:ByteArray} (h:quiet P (underlying t)=some .string):quiet P (Op.equalIn (d+1) t (.string a) (.string b))=some (a.data.toList==b.data.toList):=by
 rw [Ml d t a b h,bytes_beq]
end
def AM (l:List UInt8):List Value:=l.map fun b=>.int .u8 b.toNat
theorem FO (a b:List UInt8):AM (a++b)=AM a++AM b:=List.map_append
theorem Bk (a:List UInt8):(AM a).length=a.length:=List.length_map _
theorem Ha (a:List UInt8):(AM a).all AL=true:=by
 rw [List.all_eq_true]
 intro x hx
 obtain ⟨b,_,rfl⟩:=List.mem_map.1 hx
 rfl
theorem FG (a:List UInt8):(AM a).all (fun v=>!isTuple v)=true:=by
 rw [List.all_eq_true]
 intro x hx
 obtain ⟨b,_,rfl⟩:=List.mem_map.1 hx
 rfl
theorem SD {a:List UInt8} {i:Nat} {b:UInt8} (h:a[i]? =some b):(AM a)[i]? =some (.int .u8 b.toNat):=by
 unfold AM
 rw [List.getElem?_map,h];rfl
theorem Hb:∀ l:List UInt8,BK (AM l)=some l
 | []=>rfl
 | b::r=>by
  show (match BK (AM r) with | some l=>some (UInt8.ofNat ((b.toNat:Int)).toNat::l) | none=>none)=_
  rw [Hb r]
  simp
theorem CS:∀ (l rest:List Value),l.all (fun v=>!isTuple v)=true→Ck (l++rest) l.length=some l
 | [],_,_=>by simp [Ck]
 | v::r,rest,h=>by
  simp only [List.all_cons,Bq,Bool.not_eq_true'] at h
  simp [Ck,h.1,CS r rest h.2]
theorem IL:∀ (l rest:List Value),Ec (l++rest) l.length=some l
 | [],_=>by simp [Ec]
 | v::r,rest=>by simp [Ec,IL r rest]
def RdB (A:AW) (v:Value) (l:List UInt8) (F:List Nat):Prop:=
 (l=[]∧F=[]∧∃ o c,v=.slice o 0 c)∨∃ r o c cs e f b ro rest,v=.slice (some ⟨r,o,none⟩) l.length c∧A.get r=some (.row cs e f b ro)∧f < A.next∧F=[f]∧cs.drop o=AM l++rest
theorem RdB.keeps {A A':AW} {v:Value} {l:List UInt8} {F S:List Nat} (h:RdB A v l F) (k:Ay A A' S) (hd:∀ x∈F,x∉S):RdB A' v l F:=by
 rcases h with h | ⟨r,o,c,cs,e,f,b,ro,rest,h1,h2,h3,rfl,h4⟩
 ·exact .inl h
 ·exact .inr ⟨r,o,c,cs,e,f,b,ro,rest,h1,k.get r _ h2 h3 (hd f (by simp)),Nat.lt_of_lt_of_le h3 k.next,rfl,h4⟩
theorem RdB.one {A:AW} {v:Value} {l:List UInt8} {F:List Nat} (h:RdB A v l F):AL v=true∧isTuple v=false:=by
 rcases h with ⟨_,_,o,c,rfl⟩ | ⟨r,o,c,cs,e,f,b,ro,rest,rfl,_⟩ <;> exact ⟨rfl,rfl⟩
theorem RdB.lt {A:AW} {v:Value} {l:List UInt8} {F:List Nat} (h:RdB A v l F):∀ x∈F,x < A.next:=by
 rcases h with ⟨_,rfl,_⟩ | ⟨r,o,c,cs,e,f,b,ro,rest,_,_,h3,rfl,_⟩
 ·simp
 ·simpa using h3
theorem RdB.slice {A:AW} {v:Value} {l:List UInt8} {F:List Nat} (h:RdB A v l F):∃ a c,v=.slice a l.length c:=by
 rcases h with ⟨rfl,_,o,c,rfl⟩ | ⟨r,o,c,cs,e,f,b,ro,rest,rfl,_⟩ <;> exact ⟨_,_,rfl⟩
theorem RdB.src {A:AW} {v:Value} {l:List UInt8} {F:List Nat} (h:RdB A v l F):EE A 1 v=some (l.length,AM l):=by
 rcases h with ⟨rfl,_,o,c,rfl⟩ | ⟨r,o,c,cs,e,f,b,ro,rest,rfl,h2,_,_,h4⟩
 ·cases o <;> rfl
 ·unfold EE
  simp only [Nat.mul_one,CI h2,h4]
  have:=CS (AM l) rest (FG l)
  rw [Bk] at this
  rw [this]
theorem RdB.cell {A:AW} {l:List UInt8} {F:List Nat} {r o c i:Nat} {b:UInt8} (h:RdB A (.slice (some ⟨r,o,none⟩) l.length c) l F) (hi:l[i]? =some b):A.cell? ⟨r,o+i,none⟩=some (.int .u8 b.toNat):=by
 rcases h with ⟨rfl,_⟩ | ⟨r',o',c',cs,e,f,b',ro,rest,hv,h2,_,_,h4⟩
 ·simp at hi
 ·simp only [Value.slice.injEq,Oi,Addr.mk.injEq,and_true] at hv
  obtain ⟨⟨rfl,rfl⟩,_⟩:=hv
  rw [AF h2]
  refine Ci ?_ rfl
  rw [← List.getElem?_drop,h4,List.getElem?_append_left (by rw [Bk];exact (Gs.1 hi).1)]
  exact SD hi
structure BT (P:Program) (tb ts tst:TypeId):Prop where
 sl:BJ P ts=some tb
 sz:szT P tb=some 1
 by_:FH P tb=some 1
 hz:DH P tb 1=true
 us:P.underlying ts=some (.slice tb)
 ub:P.underlying tb=some (.int .u8)
 ust:P.underlying tst=some .string
 zt:D4 P tb=some (.int .u8 0)
 ln:∀ A a n c,Bn P A ts (.slice a n c)=some (.int .i64 (n:Nat))
 ia:∀ b o n c i k,Am P ts (.slice (some ⟨b,o,none⟩) n c) (.int k (.ofNat i))=(bif Nat.blt i n then some (.pointer (some (Fo ⟨b,o,none⟩ (i * 1)))) else none)
 ld:∀ A a,At P A tb (.pointer (some a))=A.cell? a
 st:∀ A a v,AB P A tb (.pointer (some a)) v=(bif Nat.beq v.cells.toList.length 1 then A.setCells a v.cells.toList else none)
section
variable {P:Program} {tb ts tst:TypeId}
theorem RdB.len {A:AW} {v:Value} {l:List UInt8} {F:List Nat} (T:BT P tb ts tst) (h:RdB A v l F):Bn P A ts v=some (.int .i64 (l.length:Nat)):=by
 obtain ⟨a,c,rfl⟩:=h.slice
 exact T.ln _ _ _ _
theorem RdB.str {A:AW} {v:Value} {l:List UInt8} {F:List Nat} (T:BT P tb ts tst) (h:RdB A v l F):Au P A ts tst v=.ok (.string ⟨⟨l⟩⟩) A:=by
 rcases h with ⟨rfl,_,o,c,rfl⟩ | ⟨r,o,c,cs,e,f,b,ro,rest,rfl,h2,_,_,h4⟩
 ·unfold Au
  cases o with
  | none=>simp only [T.us,T.ust,T.ub];rfl
  | some a=>simp only [T.us,T.ust,T.ub,AW.cells?,BK]
 ·unfold Au
  simp only [T.us,T.ust,T.ub,CI h2,h4]
  have:=CS (AM l) rest (FG l)
  rw [Bk] at this
  simp only [this,Hb]
theorem RdB.at {A:AW} {v:Value} {l:List UInt8} {F:List Nat} (T:BT P tb ts tst) (h:RdB A v l F) {i:Nat} {b:UInt8} (hi:l[i]? =some b):
  ∃ a,Am P ts v (.int .i64 (i:Int))=some (.pointer (some a))∧At P A tb (.pointer (some a))=some (.int .u8 b.toNat):=by
 have h0:=h
 rcases h with ⟨rfl,_⟩ | ⟨r,o,c,cs,e,f,b',ro,rest,rfl,h2,h3,h5,h4⟩
 ·simp at hi
 ·have hlt:i < l.length:=(Gs.1 hi).1
  refine ⟨Fo ⟨r,o,none⟩ (i * 1),?_,?_⟩
  ·show Am P ts _ (.int .i64 (.ofNat i))=_
   rw [T.ia,AE.2 hlt,Ct]
  ·have e:Fo ⟨r,o,none⟩ (i * 1)=⟨r,o+i,none⟩:=by
    unfold Fo
    cases hb:Nat.beq (i * 1) 0 with
    | true=>rw [Ct];have:=Nb hb;rw [Nat.mul_one] at this;rw [this];rfl
    | false=>rw [Cf,Nat.mul_one]
   rw [T.ld,e]
   exact h0.cell hi
theorem Ed {A:AW} {v:Value} {l:List UInt8} {F:List Nat} (T:BT P tb ts tst) (h:RdB A v l F):B9 P A tb ts 1 v=some (l.length,AM l):=by
 unfold B9
 rw [T.us]
 exact h.src
theorem UX {A:AW} {s:ByteArray} (T:BT P tb ts tst):B9 P A tb tst 1 (.string s)=some (s.data.toList.length,AM s.data.toList):=by
 unfold B9
 rw [T.ust]
 rfl
def Buf (tb:TypeId) (A:AW) (v:Value) (l:List UInt8) (F:List Nat):Prop:=
 (v=.slice none 0 0∧l=[]∧F=[])∨(∃ b f,v=.slice (some ⟨b,0,none⟩) l.length (BH+l.length)∧Me 0 A tb 1 l.length (AM l) b f∧F=[f])∨
 ∃ b c pad,v=.slice (some ⟨b,0,none⟩) l.length c∧c < room∧AD A b (AM l++pad) tb∧l.length+pad.length=c∧pad.all AL=true∧F=[b]
theorem Buf.nil (tb:TypeId) (A:AW):Buf tb A (.slice none 0 0) [] []:=.inl ⟨rfl,rfl,rfl⟩
theorem Buf.keeps {A A':AW} {v:Value} {l:List UInt8} {F S:List Nat} (h:Buf tb A v l F) (k:Ay A A' S) (hd:∀ x∈F,x∉S):Buf tb A' v l F:=by
 rcases h with h | ⟨b,f,rfl,h,rfl⟩ | ⟨b,c,pad,h1,h2,h3,h4,h5,rfl⟩
 ·exact .inl h
 ·have:=Hj.keeps (v:=.slice (some ⟨b,0,none⟩) l.length (BH+l.length)) (.inr ⟨b,f,rfl,h,rfl⟩) k hd
  rcases this with ⟨h1,_⟩ | ⟨b',f',h1,h2,h3⟩
  ·cases h1
  ·exact .inr (.inl ⟨b',f',h1,h2,h3⟩)
 ·exact .inr (.inr ⟨b,c,pad,h1,h2,h3.keeps k (hd b (by simp)),h4,h5,rfl⟩)
theorem Buf.rd {A:AW} {v:Value} {l:List UInt8} {F:List Nat} (h:Buf tb A v l F):RdB A v l F:=by
 rcases h with ⟨rfl,rfl,rfl⟩ | ⟨b,f,rfl,h,rfl⟩ | ⟨b,c,pad,rfl,h2,h3,h4,h5,rfl⟩
 ·exact .inl ⟨rfl,rfl,none,0,rfl⟩
 ·exact .inr ⟨b,0,_,_,_,f,0,false,[],rfl,h.row,h.ltf,rfl,by simp⟩
 ·exact .inr ⟨b,0,_,_,_,b,0,false,pad,rfl,h3.row,h3.lt,rfl,by simp⟩
theorem Buf.lt {A:AW} {v:Value} {l:List UInt8} {F:List Nat} (h:Buf tb A v l F):∀ x∈F,x < A.next:=h.rd.lt
theorem HI:∀ (a mid new rest:List Value),mid.length=new.length→IA (a++(mid++rest)) a.length new=a++(new++rest)
 | a,[],[],rest,_=>by simp [IA]
 | a,m::ms,n::ns,rest,h=>by
  simp only [Lc,Nat.add_right_cancel_iff] at h
  have:=HI (a++[n]) ms ns rest h
  simp only [IA]
  have e:(a++(m::ms++rest)).set a.length n=(a++[n])++(ms++rest):=by simp
  rw [e]
  have e2:a.length+1=(a++[n]).length:=by simp
  rw [e2,this]
  simp
 | a,[],_::_,rest,h=>by simp at h
 | a,_::_,[],rest,h=>by simp at h
theorem El {A:AW} {t2:TypeId} {v x:Value} {l new:List UInt8} {F:List Nat} {K:Value→AW→Prop} (T:BT P tb ts tst) (h:Buf tb A v l F) (hx:B9 P A tb t2 1 x=some (new.length,AM new)) (hf:AH A) (hmax:A.next < Ap) (hr:l.length+new.length < room)
  (hk:∀ v' A' F',Buf tb A' v' (l++new) F'→Ay A A' F→(∀ x∈F',x∈F∨A.next≤x)→A'.next≤A.next+1→AH A'→K v' A'):Al (Bf P A ts t2 v x) K:=by
 have hroom:(Nat.blt (l.length+new.length) room&&Nat.blt ((l.length+new.length) * 1) room&&DH P tb 1)=true:=by rw [Nat.mul_one,AE.2 hr,T.hz];rfl
 rcases Nat.eq_zero_or_pos new.length with h0 | hpos
 ·have hnew:new=[]:=List.eq_nil_of_length_eq_zero h0
  subst hnew
  obtain ⟨a,c,rfl⟩:=h.rd.slice
  have e:Bf P A ts t2 (.slice a l.length c) x=.ok (.slice a l.length c) A:=by
   unfold Bf
   simp only [T.sl,T.sz,T.by_,hx]
   simp only [Ln] at hroom ⊢
   rw [hroom]
   rfl
  rw [e]
  refine Bg.2 (hk _ A F (by rw [List.append_nil];exact h) (.refl _ _) (fun x hx=>.inl hx) (by omega) hf)
 ·obtain ⟨m,hm⟩:∃ m,new.length=m+1:=⟨new.length - 1,by omega⟩
  rcases h with ⟨rfl,rfl,rfl⟩ | ⟨b,f,rfl,ho,rfl⟩ | ⟨b,c,pad,rfl,hc,h3,h4,h5,rfl⟩
  ·have hx':B9 P A tb t2 (0+1) x=some (m+1,AM new):=by rw [← hm];exact hx
   rw [hm] at hroom
   rw [Mb T.sl T.sz T.by_ hx' hroom hmax]
   have hfp:=hf.push (.row (AM new) tb A.next 0 false) hmax
   have hrow:(A.push (.row (AM new) tb A.next 0 false)).get A.next=some (.row (AM new) tb A.next 0 false):=by rw [AW.CF _ hmax,if_pos rfl]
   refine Bg.2 (hk _ _ [A.next] (.inr (.inl ⟨A.next,A.next,by simp [hm],?_,rfl⟩)) ((AW.Dv _ hmax).keeps hf) (fun x hx=>.inr (by simp at hx;omega)) (by rw [AW.CH];omega) hfp)
   refine ⟨by simp [hm],by rw [hrow];rfl,by simp [Bk],Nat.zero_le _,Nat.zero_le _,by rw [AW.CH];omega,fun i hi=>?_⟩
   have:(A.push (.row (AM new) tb A.next 0 false)).members A.next=[A.next]:=hf.alone (Nl _)
   rw [this] at hi
   obtain rfl:i=A.next:=by simpa using hi
   exact ⟨Nat.zero_le _,by rw [AW.CH];omega,_,_,_,_,hrow⟩
  ·have hx':B9 P A tb t2 (0+1) x=some (m+1,AM new):=by rw [← hm];exact hx
   refine MF (P:=P) (size:=0) T.sl T.sz T.by_ T.hz hx' (by rw [Bk,hm];omega) (Ha new) (.inr ⟨b,f,rfl,ho,rfl⟩) hf hmax (by omega) (by omega) fun v' A' F' hv hk' hF' hn hf'=>?_
   refine hk v' A' F' ?_ hk' (fun x hx=>?_) (by omega) hf'
   ·rcases hv with ⟨_,hz,_⟩ | ⟨b',f',h1,h2,h3⟩
    ·omega
    ·refine .inr (.inl ⟨b',f',?_,?_,h3⟩)
     ·rw [h1,Lq,hm]
     ·rw [Lq,hm,FO];exact h2
   ·rcases hF' x hx with h | h
    ·exact .inl h
    ·exact .inr (by omega)
  ·have hlen:(AM l++pad).length=c:=by rw [Lq,Bk];exact h4
   have hcu:Nat.ble BH c=false:=BZ.2 (by unfold room at hc;unfold BH;omega)
   by_cases hfit:l.length+new.length≤c
   ·
    have hb:=h3.lt
    obtain ⟨A',h1,w⟩:=Ee (new:=AM new) (off:=l.length) h3.row h3.mem (by rw [hlen,Bk];exact hfit) (Ha new) (by omega)
    have e:Bf P A ts t2 (.slice (some ⟨b,0,none⟩) l.length c) x=.ok (.slice (some ⟨b,0,none⟩) (l.length+new.length) c) A':=by
     unfold Bf
     simp only [T.sl,T.sz,T.by_,hx]
     rw [hroom]
     rw [hm]
     have ha:Fo ⟨b,0,none⟩ (l.length * 1)=⟨b,l.length,none⟩:=by
      unfold Fo
      cases hb:Nat.beq (l.length * 1) 0 with
      | true=>rw [Ct];have:=Nb hb;rw [Nat.mul_one] at this;rw [this]
      | false=>rw [Cf,Nat.mul_one,Nat.zero_add]
     have hfit':Nat.ble (l.length+(m+1)) c=true:=Bt.2 (by omega)
     simp only [hcu,Cf,hfit',Ct,ha,h1,Bool.not_true]
    rw [e]
    have hcs:IA (AM l++pad) l.length (AM new)=AM (l++new)++pad.drop new.length:=by
     have hp:pad=pad.take new.length++pad.drop new.length:=(List.take_append_drop _ _).symm
     conv=>lhs;rw [hp]
     have hl2:l.length=(AM l).length:=(Bk l).symm
     conv=>lhs;arg 2;rw [hl2]
     rw [HI (AM l) (pad.take new.length) (AM new) (pad.drop new.length) (by rw [List.length_take,Bk];omega),FO,List.append_assoc]
    refine Bg.2 (hk _ A' [b] (.inr (.inr ⟨b,c,pad.drop new.length,by rw [Lq],hc,?_,by rw [Lq,List.length_drop];omega,?_,rfl⟩)) (w.keeps h3.row) (fun x hx=>.inl hx) (by rw [w.next];omega) (w.Az hf h3.row))
    ·rw [← hcs]
     exact ⟨w.row,by rw [w.mem];exact h3.mem,by rw [w.next];exact h3.lt⟩
    ·rw [List.all_eq_true] at h5 ⊢
     exact fun x hx=>h5 x (List.mem_of_mem_drop hx)
   ·
    have hold:(match (some ⟨b,0,none⟩:Option Addr) with | some a=>A.Di a (l.length * 1) | none=>some [])=some (AM l):=by
     show A.Di ⟨b,0,none⟩ (l.length * 1)=_
     rw [Nat.mul_one]
     unfold AW.Di
     cases hl:l.length with
     | zero=>
      have:l=[]:=List.eq_nil_of_length_eq_zero hl
      subst this;rfl
     | succ k=>
      simp only [h3.row,List.drop_zero]
      have:=IL (AM l) pad
      rw [Bk,hl] at this
      exact this
    have hnew:A.new (.row (AM l++AM new) tb A.next 0 false)=some (A.next,A.push (.row (AM l++AM new) tb A.next 0 false)):=by
     unfold AW.new
     simp only [AE.2 hmax,Ct]
     rfl
    have e:Bf P A ts t2 (.slice (some ⟨b,0,none⟩) l.length c) x=.ok (.slice (some ⟨A.next,0,none⟩) (l.length+new.length) (BH+(l.length+new.length))) (A.push (.row (AM l++AM new) tb A.next 0 false)):=by
     unfold Bf
     simp only [T.sl,T.sz,T.by_,hx]
     rw [hroom]
     rw [hm]
     have hfit':Nat.ble (l.length+(m+1)) c=false:=BZ.2 (by omega)
     simp only [hcu,Cf,hfit',Bool.not_true]
     simp only at hold
     rw [hold]
     simp only [hnew]
    rw [e]
    have hfp:=hf.push (.row (AM l++AM new) tb A.next 0 false) hmax
    have hrow:(A.push (.row (AM l++AM new) tb A.next 0 false)).get A.next=some (.row (AM l++AM new) tb A.next 0 false):=by rw [AW.CF _ hmax,if_pos rfl]
    refine Bg.2 (hk _ _ [A.next] (.inr (.inl ⟨A.next,A.next,by rw [Lq],?_,rfl⟩)) (((AW.Dv _ hmax).keeps hf).more (by simp)) (fun x hx=>.inr (by simp at hx;omega)) (by rw [AW.CH];omega) hfp)
    refine ⟨by rw [Lq];omega,by rw [hrow,FO],by rw [Bk,Nat.mul_one],Nat.zero_le _,Nat.zero_le _,by rw [AW.CH];omega,fun i hi=>?_⟩
    have:(A.push (.row (AM l++AM new) tb A.next 0 false)).members A.next=[A.next]:=hf.alone (Nl _)
    rw [this] at hi
    obtain rfl:i=A.next:=by simpa using hi
    exact ⟨Nat.zero_le _,by rw [AW.CH];omega,_,_,_,_,hrow⟩
theorem JX (v:Value):∀ n,EI [v] n=List.replicate n v
 | 0=>rfl
 | n+1=>by rw [EI,JX v n];rfl
theorem TY {A:AW} {k k2:IntKind} {n c:Nat} {K:Value→AW→Prop} (T:BT P tb ts tst) (hf:AH A) (hmax:A.next < Ap) (hn:n≤c) (hc:c < room)
  (hk:∀ A',Made A A' (List.replicate c (.int .u8 0)) tb→K (.slice (some ⟨A.next,0,none⟩) n c) A'):Al (Cu P A ts (.int k (n:Int)) (.int k2 (c:Int))) K:=by
 have hz:Gb P tb 1 c=some (List.replicate c (.int .u8 0)):=by
  unfold Gb
  rw [T.zt]
  cases c with
  | zero=>rfl
  | succ c=>
   have:Nat.beq ((c+1) * 1) 0=false:=beq_false.2 (by omega)
   simp only [this,Cf]
   show (bif Nat.beq 1 1 then some (EI [.int .u8 0] (c+1)) else none)=_
   rw [JX];rfl
 have hnr:A.newRow (List.replicate c (.int .u8 0)) tb=some (⟨A.next,0,none⟩,A.push (.row (List.replicate c (.int .u8 0)) tb A.next 0 false)):=by
  unfold AW.newRow AW.new
  have:(List.replicate c (Value.int .u8 0)).all AL=true:=by
   rw [List.all_eq_true];intro x hx;rw [List.eq_of_mem_replicate hx];rfl
  simp only [this,Ct,AE.2 hmax]
  rfl
 have e:Cu P A ts (.int k (n:Int)) (.int k2 (c:Int))=.ok (.slice (some ⟨A.next,0,none⟩) n c) (A.push (.row (List.replicate c (.int .u8 0)) tb A.next 0 false)):=by
  show Cu P A ts (.int k (.ofNat n)) (.int k2 (.ofNat c))=_
  unfold Cu
  simp only [T.sl,T.sz,T.by_,Nat.mul_one,Bt.2 hn,AE.2 hc,Bool.and_self,Ct,hz,hnr]
 rw [e]
 exact Bg.2 (hk _ ⟨AW.Dv _ hmax,rfl,by rw [AW.CF _ hmax,if_pos rfl],hf.alone (Nl _),hf.push _ hmax⟩)
end
section
variable {P:Program} {tb ts tst:TypeId}
theorem Vu (r o n:Nat):JG (some ⟨r,o,none⟩) (n * 1)=some ⟨r,o+n,none⟩:=by
 show some (bif Nat.beq (n * 1) 0 then (⟨r,o,none⟩:Addr) else ⟨r,o+n * 1,none⟩)=_
 rw [Nat.mul_one]
 cases n <;> rfl
theorem Rj (l:List UInt8) (n:Nat):AM (l.take n)=(AM l).take n:=List.map_take
theorem Rk (l:List UInt8) (n:Nat):AM (l.drop n)=(AM l).drop n:=List.map_drop
theorem RF {A:AW} (T:BT P tb ts tst) {a:Option Addr} {len c n:Nat} (hr:JA A a tb=true) (hn:n≤c):Br P A ts (.slice a len (BH+c)) none (some (.int .i64 (.ofNat n))) none=some (.slice (JG a (0 * 1)) n (BH+c)):=by
 unfold Br
 simp only [T.us,T.sz,Bt.2 (show BH≤BH+c from Nat.le_add_right _ _),Ct,bounds,Is,EQ,Nat.add_sub_cancel_left,Bt.2 hn,Nat.sub_zero,Option.isSome_some,Option.isSome_none,Bool.not_false,Bool.or_true,hr,Bool.and_self]
end
section
variable {P:Program} {tb ts tst:TypeId}
theorem OO (a b:Nat):least a b=min a b:=QT a b
theorem YW (A:AW) (a:Addr):A.cells? a 0=some []:=by unfold AW.cells?;rfl
theorem RdB.copy {A:AW} {v:Value} {l:List UInt8} {F:List Nat} (h:RdB A v l F) {n:Nat} (hn:n≤l.length):GD A 1 n v=some (AM (l.take n)):=by
 rcases h with ⟨rfl,_,o,c,rfl⟩ | ⟨r,o,c,cs,e,f,b,ro,rest,rfl,h2,_,_,h4⟩
 ·obtain rfl:n=0:=by simpa using hn
  cases o with
  | none=>rfl
  | some a=>exact YW A a
 ·unfold GD
  simp only [Nat.mul_one,CI h2,h4]
  have e:AM l++rest=AM (l.take n)++(AM (l.drop n)++rest):=by rw [Rj,Rk,← List.append_assoc,List.take_append_drop]
  have:=CS (AM (l.take n)) (AM (l.drop n)++rest) (FG _)
  rw [Bk,List.length_take,Nat.min_eq_left hn] at this
  rw [e,this]
theorem RdB.Ng {A:AW} {v:Value} {l:List UInt8} {F:List Nat} (h:RdB A v l F):Ng v=some l.length:=by
 obtain ⟨a,c,rfl⟩:=h.slice
 rfl
theorem W3 {A:AW} {b dl dc:Nat} {cs:List Value} {x:Value} {l:List UInt8} {F:List Nat} {K:Value→AW→Prop} (T:BT P tb ts tst) (hd:AD A b cs tb) (h:RdB A x l F) (hf:AH A) (hA:A.next≤Ap) (hcs:min l.length dl≤cs.length)
  (hk:∀ A' v,AD A' b (IA cs 0 (AM (l.take (min l.length dl)))) tb→Ay A A' [b]→A'.next=A.next→AH A'→K v A'):Al (Iy P A ts (.slice (some ⟨b,0,none⟩) dl dc) x) K:=by
 have hlt:=hd.lt
 obtain ⟨A',h1,w⟩:=Ee (new:=AM (l.take (min l.length dl))) (off:=0) hd.row hd.mem (by rw [Bk,List.length_take];omega) (Ha _) (by omega)
 have e:Iy P A ts (.slice (some ⟨b,0,none⟩) dl dc) x=.ok (.int .i64 (min l.length dl:Nat)) A':=by
  unfold Iy
  simp only [T.sl,T.sz,h.Ng,OO,h.copy (show min l.length dl≤l.length by omega),h1]
 rw [e]
 exact Bg.2 (hk A' _ ⟨w.row,by rw [w.mem];exact hd.mem,by rw [w.next];exact hd.lt⟩ (w.keeps hd.row) w.next (w.Az hf hd.row))
def Y8 (P:Program) (U:Nat) (w:AW) (t t2:TypeId) (s x:Value):R Value:=
 match BJ P t,s with
 | some e,.slice base n cap=>
  (match szT P e,FH P e with
  | some 0,_=>.fail "append size 0"
  | some size,some bytes=>
   match B9 P w e t2 size x with
   | none=>.fail "append source"
   | some (m,new)=>
    let need:=n+m
    bif !(Nat.blt need room&&Nat.blt (need * bytes) room&&DH P e size) then .fail "append room" else
    match m with
    | 0=>.ok s w
    | _+1=>
     let lb:=bif Nat.ble U cap then cap - U else cap
     bif Nat.ble need lb then
      match base with
      | none=>.fail "append nil with room"
      | some a=>(match w.setCells (Fo a (n * size)) new with
       | some w'=>.ok (.slice base need cap) w'
       | none=>.fail "append set")
     else bif Nat.ble U cap then
      match base with
      | none=>.fail "append nil with unknown capacity"
      | some a=>match a.spot,w.get a.block with
       | none,some (.row _ e' fam b0 false)=>
        bif !(Nat.beq e' e&&new.all AL) then .fail "append elements" else
        (match w.Di a (n * size) with
        | none=>.fail "append old cells"
        | some old=>
         match (BW (b0+a.off+n * size) (w.members fam) w).IV (old++new) e fam (b0+a.off) with
         | some (a',w')=>.ok (.slice (some a') need (U+need)) w'
         | none=>.fail "append new")
       | _,_=>.fail "append base row"
     else
      match (match base with | some a=>w.Di a (n * size) | none=>some []) with
      | none=>.fail "append old cells"
      | some old=>(match w.new (.row (old++new) e w.next 0 false) with
       | some (b,w')=>.ok (.slice (some ⟨b,0,none⟩) need (U+need)) w'
       | none=>.fail "append new")
  | _,_=>.fail "append type")
 | _,_=>.fail "append"
theorem W9 (A:AW) (t t2:TypeId) (s x:Value):Bf P A t t2 s x=Y8 P BH A t t2 s x:=rfl
theorem W8 {A A':AW} {t2:TypeId} {x:Value} {U n cap b m:Nat} {new:List Value} (T:BT P tb ts tst) (hx:B9 P A tb t2 1 x=some (m+1,new)) (hroom:(Nat.blt (n+(m+1)) Go.Abs.room&&Nat.blt ((n+(m+1)) * 1) Go.Abs.room&&DH P tb 1)=true)
  (hcap:Nat.ble U cap=true) (hfit:Nat.ble (n+(m+1)) (cap - U)=true) (h1:A.setCells ⟨b,n,none⟩ new=some A'):
  Y8 P U A ts t2 (.slice (some ⟨b,0,none⟩) n cap) x=.ok (.slice (some ⟨b,0,none⟩) (n+(m+1)) cap) A':=by
 have ha:Fo ⟨b,0,none⟩ (n * 1)=⟨b,n,none⟩:=by
  unfold Fo
  cases hb:Nat.beq (n * 1) 0 with
  | true=>rw [Ct];have:=Nb hb;rw [Nat.mul_one] at this;rw [this]
  | false=>rw [Cf,Nat.mul_one,Nat.zero_add]
 unfold Y8
 simp only [T.sl,T.sz,T.by_,hx]
 rw [hroom]
 simp only [hcap,Ct,hfit,ha,h1,Bool.not_true,Cf]
theorem SJ {A A':AW} {t2:TypeId} {x:Value} {n cap b m:Nat} {new:List Value} (T:BT P tb ts tst) (hx:B9 P A tb t2 1 x=some (m+1,new)) (hroom:(Nat.blt (n+(m+1)) Go.Abs.room&&Nat.blt ((n+(m+1)) * 1) Go.Abs.room&&DH P tb 1)=true)
  (hcap:Nat.ble BH cap=true) (hfit:Nat.ble (n+(m+1)) (cap - BH)=true) (h1:A.setCells ⟨b,n,none⟩ new=some A'):
  Bf P A ts t2 (.slice (some ⟨b,0,none⟩) n cap) x=.ok (.slice (some ⟨b,0,none⟩) (n+(m+1)) cap) A':=
 (W9 A ts t2 (.slice (some ⟨b,0,none⟩) n cap) x).trans (W8 T hx hroom hcap hfit h1)
end
end Go.Abs
namespace Go.Abs
open Go.ChangeShapes Go.WideShapes Go.ChangeAt Go.RowKit
abbrev Arg:=(Nat × Nat) × Option (List Value × TypeId)
def Og (F:Nat):Nat→List Arg→Trie AO→Trie AO
 | _,[],t=>t
 | j,(_,none)::r,t=>Og F (j+1) r t
 | j,(_,some (cs,e))::r,t=>(Og F (j+1) r t).put depth j (some (.row cs e F 0 true))
def wR (n:Nat) (gl:List (Nat × List Value × TypeId)) (L:List Arg):AW:=
 ⟨Og (n+L.length) n L (MY gl),n+L.length+1,(Trie.nil:Trie (List Nat)).put depth (n+L.length) (some ((List.range L.length).map (n+·)))⟩
def mR (P:Program) (L:List Arg):Inj P:=mA P (L.map (·.1))
theorem Jb (F:Nat):∀ (L:List Arg) (j:Nat) (t:Trie AO) (i:Nat),j+L.length≤Ap→(Og F j L t).get? i=if i < j then t.get? i else match L[i - j]? with
  | some (_,some (cs,e))=>some (.row cs e F 0 true)
  | _=>t.get? i
 | [],j,t,i,_=>by simp [Og]
 | (p,none)::r,j,t,i,h=>by
  simp only [Lc] at h
  simp only [Og]
  rw [Jb F r (j+1) t i (by omega)]
  by_cases h1:i < j
  ·rw [if_pos (by omega),if_pos h1]
  ·by_cases h2:i=j
   ·subst h2
    rw [if_pos (by omega),Ff h1,Nat.sub_self]
    rfl
   ·rw [Ff (by omega),Ff h1,show i - j=(i - (j+1))+1 by omega,List.getElem?_cons_succ]
 | (p,some (cs,e))::r,j,t,i,h=>by
  simp only [Lc] at h
  simp only [Og]
  rw [Trie.get?_put depth _ j i _ (by unfold depth Ap at *;omega),Jb F r (j+1) t i (by omega)]
  by_cases h1:i < j
  ·rw [Ff (by omega),if_pos (by omega),if_pos h1]
  ·by_cases h2:i=j
   ·subst h2
    rw [if_pos rfl,Ff h1,Nat.sub_self]
    rfl
   ·rw [Ff h2,Ff (by omega),Ff h1,show i - j=(i - (j+1))+1 by omega,List.getElem?_cons_succ]
section
variable {P:Program} {W:World} {gl:List (Nat × List Value × TypeId)} {L:List Arg}
def Abq (P:Program) (W:World) (L:List Arg):Prop:=∀ (j:Nat) (p:Nat × Nat) (cs:List Value) (e:TypeId),L[j]? =some (p,some (cs,e))→∃ cs' fr,W.heap[p.1]? =some (.cells cs' e fr)∧p.2≤cs'.size∧
 ∀ i v,cs[i]? =some v→∃ v',cs'[p.2+i]? =some v'∧AQ (mR P L) v v'
end
section
variable {H:Type} {enc:TypeId × Value→H} {P:Program}
def flat {β:Type} (f:β→List Value) (l:List β):List Value:=l.flatMap f
theorem FY {β:Type} {f:β→List Value} {n:Nat} (hn:∀ b,(f b).length=n):∀ l:List β,(flat f l).length=l.length * n
 | []=>by simp [flat]
 | b::r=>by
  have:=FY hn r
  simp only [flat,List.flatMap_cons,Lq,hn,Lc] at *
  rw [this,Nat.succ_mul];omega
theorem GC {β:Type} {f:β→List Value} {n:Nat} (hn:∀ b,(f b).length=n):∀ (l:List β) (i:Nat) (b:β),l[i]? =some b→∃ rest,(flat f l).drop (i * n)=f b++rest
 | [],i,b,h=>by simp at h
 | x::r,0,b,h=>by
  simp only [List.getElem?_cons_zero,Oi] at h
  subst h
  exact ⟨flat f r,by simp [flat]⟩
 | x::r,i+1,b,h=>by
  simp only [List.getElem?_cons_succ] at h
  obtain ⟨rest,h2⟩:=GC hn r i b h
  refine ⟨rest,?_⟩
  rw [← h2]
  simp only [flat,List.flatMap_cons]
  rw [Nat.succ_mul,Nat.add_comm,← List.drop_drop,List.drop_append,hn,Nat.sub_self]
  rw [show List.drop n (f x)=[] from List.drop_eq_nil_of_le (by rw [hn];exact Nl _)]
  simp
end
end Go.Abs
namespace Go.Abs
structure ET (P:Program) (ts te:TypeId) (n:Nat) {β:Type} (f:β→List Value):Prop where
 us:P.underlying ts=some (.slice te)
 sz:szT P te=some (n+1)
 ag:Nn P te=some true
 by':∃ b,FH P te=some b∧b≤256
 hz:DH P te (n+1)=true
 len:∀ x,(f x).length=n+1
 one:∀ x,(f x).all AL=true
 noT:∀ x,(f x).all (fun v=>!isTuple v)=true
section
variable {P:Program} {ts te:TypeId} {n:Nat} {β:Type} {f:β→List Value}
def RdE (n:Nat) (f:β→List Value) (A:AW) (v:Value) (l:List β) (F:List Nat):Prop:=
 (l=[]∧F=[]∧∃ o c,v=.slice o 0 c)∨∃ r o c cs e g b ro,v=.slice (some ⟨r,o,none⟩) l.length c∧A.get r=some (.row cs e g b ro)∧g < A.next∧F=[g]∧∀ (i:Nat) p,l[i]? =some p→∃ rest,cs.drop (o+i * (n+1))=f p++rest
theorem RdE.keeps {A A':AW} {v:Value} {l:List β} {F S:List Nat} (h:RdE n f A v l F) (k:Ay A A' S) (hd:∀ x∈F,x∉S):RdE n f A' v l F:=by
 rcases h with h | ⟨r,o,c,cs,e,g,b,ro,h1,h2,h3,rfl,h4⟩
 ·exact .inl h
 ·exact .inr ⟨r,o,c,cs,e,g,b,ro,h1,k.get r _ h2 h3 (hd g (by simp)),Nat.lt_of_lt_of_le h3 k.next,rfl,h4⟩
theorem RdE.one {A:AW} {v:Value} {l:List β} {F:List Nat} (h:RdE n f A v l F):AL v=true∧isTuple v=false:=by
 rcases h with ⟨_,_,o,c,rfl⟩ | ⟨r,o,c,cs,e,g,b,ro,rfl,_⟩ <;> exact ⟨rfl,rfl⟩
theorem RdE.slice {A:AW} {v:Value} {l:List β} {F:List Nat} (h:RdE n f A v l F):∃ o c,v=.slice o l.length c:=by
 rcases h with ⟨rfl,_,o,c,rfl⟩ | ⟨r,o,c,cs,e,g,b,ro,rfl,_⟩ <;> exact ⟨_,_,rfl⟩
theorem RdE.fam {A:AW} {v:Value} {l:List β} {F:List Nat} (h:RdE n f A v l F):∀ x∈F,x < A.next:=by
 rcases h with ⟨_,rfl,_⟩ | ⟨r,o,c,cs,e,g,b,ro,_,_,h3,rfl,_⟩
 ·simp
 ·simpa using h3
theorem RdE.nil (A:AW) (o:Option Addr) (c:Nat):RdE n f A (.slice o 0 c) [] []:=.inl ⟨rfl,rfl,o,c,rfl⟩
theorem RdE.len (T:ET P ts te n f) {A B:AW} {v:Value} {l:List β} {F:List Nat} (h:RdE n f A v l F):Bn P B ts v=some (.int .i64 (l.length:Int)):=by
 obtain ⟨o,c,rfl⟩:=h.slice
 unfold Bn
 simp only [T.us]
theorem Eu:∀ (a rest:List Value),a.all (fun v=>!isTuple v)=true→Ck (a++rest) a.length=some a
 | [],rest,_=>by simp [Ck]
 | v::a,rest,h=>by
  simp only [List.all_cons,Bq,Bool.not_eq_true'] at h
  rw [List.cons_append,Lc,MN h.1,Eu a rest h.2]
theorem Td (T:ET P ts te n f) {b o len c i:Nat} (hi:i < len):Am P ts (.slice (some ⟨b,o,none⟩) len c) (.int .i64 (i:Int))=some (.pointer (some ⟨b,o+i * (n+1),none⟩)):=by
 show Am P ts _ (.int .i64 (.ofNat i))=_
 unfold Am
 simp only [T.us,AE.2 hi,Ct,T.sz]
 unfold Fo
 cases hb:Nat.beq (i * (n+1)) 0 with
 | true=>rw [Ct,Nb hb,Nat.add_zero]
 | false=>rfl
theorem RdE.at (T:ET P ts te n f) {A:AW} {v:Value} {l:List β} {F:List Nat} (h:RdE n f A v l F) {i:Nat} {p:β} (hi:l[i]? =some p):
  ∃ r o,Am P ts v (.int .i64 (i:Int))=some (.pointer (some ⟨r,o,none⟩))∧A.cells? ⟨r,o,none⟩ (n+1)=some (f p)∧At P A te (.pointer (some ⟨r,o,none⟩))=some (.agg ⟨f p⟩):=by
 rcases h with ⟨rfl,_⟩ | ⟨r,o,c,cs,e,g,b,ro,rfl,h2,h3,_,h4⟩
 ·simp at hi
 ·have hlt:i < l.length:=(Gs.1 hi).1
  obtain ⟨rest,hr⟩:=h4 i p hi
  have hc:A.cells? ⟨r,o+i * (n+1),none⟩ (n+1)=some (f p):=by
   rw [CI h2,hr]
   have:=Eu (f p) rest (T.noT p)
   rwa [T.len] at this
  refine ⟨r,o+i * (n+1),Td T hlt,hc,?_⟩
  show EA P A te _=_
  unfold EA
  simp only [T.ag,T.sz,hc]
def CZ (te:TypeId) (n:Nat) (f:β→List Value) (A:AW) (v:Value) (l:List β) (F:List Nat):Prop:=Hj A te (n+1) v l.length (flat f l) F
theorem Jr (a b:List β):flat f (a++b)=flat f a++flat f b:=by simp [flat]
theorem CZ.rd (hlen:∀ x,(f x).length=n+1) {A:AW} {v:Value} {l:List β} {F:List Nat} (h:CZ te n f A v l F):RdE n f A v l F:=by
 rcases h with ⟨rfl,h2,_,rfl⟩ | ⟨b,g,rfl,h2,rfl⟩
 ·have:l=[]:=List.eq_nil_of_length_eq_zero h2
  subst this
  exact .nil _ _ _
 ·exact .inr ⟨b,0,_,_,_,g,0,false,rfl,h2.row,h2.ltf,rfl,fun i p hi=>by rw [Nat.zero_add];exact GC hlen l i p hi⟩
theorem CZ.keeps {A A':AW} {v:Value} {l:List β} {F S:List Nat} (h:CZ te n f A v l F) (k:Ay A A' S) (hd:∀ x∈F,x∉S):CZ te n f A' v l F:=Hj.keeps h k hd
theorem CZ.nil (A:AW):CZ te n f A (.slice none 0 0) [] []:=Hj.nil _ _ _
theorem CZ.lt {A:AW} {v:Value} {l:List β} {F:List Nat} (h:CZ te n f A v l F):∀ x∈F,x < A.next:=Hj.lt h
theorem CZ.one {A:AW} {v:Value} {l:List β} {F:List Nat} (h:CZ te n f A v l F):AL v=true∧isTuple v=false:=Hj.one h
theorem UY (T:ET P ts te n f) {A:AW} {q:Nat} {p:β} {e:TypeId} (hq:AD A q (f p) e):B9 P A te ts (n+1) (.slice (some ⟨q,0,none⟩) 1 1)=some (0+1,f p):=by
 unfold B9
 simp only [T.us]
 show EE A (n+1) (.slice (some ⟨q,0,none⟩) 1 1)=_
 unfold EE
 have:=Eu (f p) [] (T.noT p)
 rw [List.append_nil,T.len] at this
 simp only [Nat.one_mul,CI hq.row,List.drop_zero,this]
theorem CZ.append (T:ET P ts te n f) {A:AW} {v:Value} {l:List β} {F:List Nat} {p:β} {q:Nat} {e:TypeId} {K:Value→AW→Prop} (h:CZ te n f A v l F) (hq:AD A q (f p) e) (hf:AH A) (hA:A.next < Ap) (hl:l.length < 100000000)
  (hk:∀ v' A' F',CZ te n f A' v' (l++[p]) F'→Ay A A' F→(∀ x∈F',x∈F∨x=A.next)→A'.next=A.next+1→AH A'→K v' A'):Al (Bf P A ts ts v (.slice (some ⟨q,0,none⟩) 1 1)) K:=by
 have hroom:room=68719476736:=rfl
 obtain ⟨b,hb,hb2⟩:=T.by'
 have hse:BJ P ts=some te:=by unfold BJ;rw [T.us]
 have hm:(l.length+(0+1)) * b≤(l.length+(0+1)) * 256:=Nat.mul_le_mul_left _ hb2
 refine MF (m:=0) (size:=n) hse T.sz hb T.hz (UY T hq) (by rw [T.len];omega) (T.one p) h hf hA (by omega) (by omega) fun v' A' F' h1 h2 h3 h4 h5=>?_
 refine hk v' A' F' ?_ h2 h3 h4 h5
 show Hj A' te (n+1) v' (l++[p]).length (flat f (l++[p])) F'
 rw [Lq,Jr]
 have e:flat f [p]=f p:=by simp [flat]
 rw [e]
 exact h1
end
structure En (α β:Type) where
 k:α
 v:β
 b:Nat
section
variable {α β:Type} (ke:α→Value) (ve:β→Value)
def En.entry (e:En α β):MapEntry:={ key:=ke e.k,val:=ve e.v,born:=e.b }
structure MT (P:Program) (t kt et:TypeId) (ke:α→Value) (keq:α→α→Bool):Prop where
 ty:P.underlying t=some (.map kt et)
 eq:∀ a b,eqA P kt (ke a) (ke b)=some (keq a b)
 dec:∀ {a b},keq a b=true↔a=b
 q:∀ e a,N4 P e kt (ke a)=true
 same:∀ a,(AG 4 (ke a)&&Instr.sameBits 10000 (ke a) (ke a))=true
structure Io (A:AW) (r:Nat) (es:List (En α β)) (c:Nat):Prop where
 row:Rs A r (es.map (En.entry ke ve)) c
 lt:∀ e∈es,e.b < c
 nb:(es.map En.b).Nodup
 nk:(es.map En.k).Nodup
end
section
variable {P:Program} {X:Bx} {W0:World} {m0:Inj P} {α β:Type} {ke:α→Value} {ve:β→Value} {keq:α→α→Bool} {t kt et:TypeId}
theorem Io.keeps {A A':AW} {r:Nat} {es:List (En α β)} {c:Nat} {S:List Nat} (h:Io ke ve A r es c) (k:Ay A A' S) (hn:r∉S):Io ke ve A' r es c:=⟨h.row.keeps k hn,h.lt,h.nb,h.nk⟩
theorem Io.ltA {A:AW} {r:Nat} {es:List (En α β)} {c:Nat} (h:Io ke ve A r es c):r < A.next:=h.row.lt
theorem Z3 {A:AW} {K:Value→AW→Prop} (hf:AH A) (h:A.next < Ap) (hk:∀ A',Io (α:=α) (β:=β) ke ve A' A.next [] 0→Ay A A' []→A'.next=A.next+1→AH A'→K (.map (some A.next)) A'):Al (Hp A) K:=
 Yx hf h fun A' h1 h2 h3 h4=>hk A' ⟨h1,by simp,by simp,by simp⟩ h2 h3 h4
def Hq (keq:α→α→Bool):List (En α β)→α→Option β
 | [],_=>none
 | e::es,k=>if keq k e.k=true then some e.v else Hq keq es k
def atE (keq:α→α→Bool):List (En α β)→α→Nat→Option Nat
 | [],_,_=>none
 | e::es,k,i=>if keq k e.k=true then some i else atE keq es k (i+1)
theorem PF (T:MT P t kt et ke keq) (k:α):∀ (es:List (En α β)) (i:Nat),Ix P kt (ke k) (es.map (En.entry ke ve)) i=some (atE keq es k i)
 | [],i=>rfl
 | e::es,i=>by
  show (match eqA P kt (ke k) (ke e.k) with | some true=>some (some i) | some false=>Ix P kt (ke k) (es.map (En.entry ke ve)) (i+1) | none=>none)=_
  rw [T.eq]
  unfold atE
  cases h:keq k e.k with
  | true=>simp
  | false=>
   simp only [Bool.false_eq_true,if_false]
   exact PF T k es (i+1)
theorem PW {es:List (En α β)} {k:α} {i j:Nat} (h:atE keq es k i=some j):i≤j∧j - i < es.length∧∃ e,es[j - i]? =some e∧keq k e.k=true∧Hq keq es k=some e.v:=by
 induction es generalizing i with
 | nil=>cases h
 | cons e es ih=>
  unfold atE at h
  unfold Hq
  split at h
  ·rename_i hk
   cases h
   rw [if_pos hk,Nat.sub_self]
   exact ⟨Nl _,by simp,e,rfl,hk,rfl⟩
  ·rename_i hk
   obtain ⟨h1,h2,e',h3,h4,h5⟩:=ih h
   refine ⟨by omega,by simp;omega,e',?_,h4,?_⟩
   ·rw [show j - i=(j - (i+1))+1 by omega]
    exact h3
   ·rw [Ff hk]
    exact h5
theorem Tv {es:List (En α β)} {k:α} {i:Nat} (h:atE keq es k i=none):(∀ e∈es,keq k e.k=false)∧Hq keq es k=none:=by
 induction es generalizing i with
 | nil=>exact ⟨by simp,rfl⟩
 | cons e es ih=>
  unfold atE at h
  unfold Hq
  split at h
  ·cases h
  ·rename_i hk
   obtain ⟨h1,h2⟩:=ih h
   refine ⟨fun x hx=>?_,by rw [Ff hk];exact h2⟩
   rcases List.mem_cons.1 hx with rfl | hx
   ·simpa using hk
   ·exact h1 x hx
theorem LU (T:MT P t kt et ke keq):HK P t=some (kt,et):=by unfold HK;rw [T.ty]
theorem Io.look (T:MT P t kt et ke keq) {A:AW} {r:Nat} {es:List (En α β)} {c:Nat} (h:Io ke ve A r es c) {z:Value} (hz:D4 P et=some z) (k:α) (ok:Bool):
  Gq P A t (.map (some r)) (ke k) ok=some (match Hq keq es k with | some v=>(bif ok then .tuple #[ve v,.bool true] else ve v) | none=>(bif ok then .tuple #[z,.bool false] else z)):=by
 unfold Gq Lk
 simp only [LU T,h.row.row,T.q,Ct,PF T]
 cases ha:atE keq es k 0 with
 | none=>
  rw [(Tv ha).2]
  simp only [hz]
 | some i=>
  obtain ⟨_,_,e,h3,_,h5⟩:=PW ha
  rw [Nat.sub_zero] at h3
  rw [h5]
  simp only [List.getElem?_map,h3,Option.map_some]
  rfl
theorem OK (hd:∀ {a b},keq a b=true↔a=b) {es:List (En α β)} (hn:(es.map En.k).Nodup) {k:α} {v:β}:Hq keq es k=some v↔∃ e∈es,e.k=k∧e.v=v:=by
 induction es with
 | nil=>simp [Hq]
 | cons e es ih=>
  simp only [Mc,List.nodup_cons] at hn
  unfold Hq
  split
  ·rename_i hk
   have hk:=hd.1 hk
   constructor
   ·intro h
    cases h
    exact ⟨e,List.mem_cons_self,hk.symm,rfl⟩
   ·rintro ⟨x,hx,h1,h2⟩
    rcases List.mem_cons.1 hx with rfl | hx
    ·rw [h2]
    ·exact absurd (List.mem_map.2 ⟨x,hx,by rw [h1,hk]⟩) hn.1
  ·rename_i hk
   rw [ih hn.2]
   constructor
   ·rintro ⟨x,hx,h⟩
    exact ⟨x,List.mem_cons_of_mem _ hx,h⟩
   ·rintro ⟨x,hx,h1,h2⟩
    rcases List.mem_cons.1 hx with rfl | hx
    ·exact absurd (hd.2 h1.symm) hk
    ·exact ⟨x,hx,h1,h2⟩
def K9 (keq:α→α→Bool):List (En α β)→α→β→Nat→List (En α β)
 | [],k,v,c=>[⟨k,v,c⟩]
 | e::es,k,v,c=>if keq k e.k=true then ⟨k,v,e.b⟩::es else e::K9 keq es k v c
theorem TZ (hd:∀ {a b},keq a b=true↔a=b) (es:List (En α β)) (k k':α) (v:β) (c:Nat):Hq keq (K9 keq es k v c) k'=if keq k' k=true then some v else Hq keq es k':=by
 induction es with
 | nil=>rfl
 | cons e es ih=>
  unfold K9
  split
  ·rename_i hk
   have hk:=hd.1 hk
   unfold Hq
   rw [hk]
   split <;> rfl
  ·rename_i hk
   unfold Hq
   rw [ih]
   split
   ·rename_i h1
    split
    ·rename_i h2
     exact absurd (hd.2 ((hd.1 h2).symm.trans (hd.1 h1))) hk
    ·rfl
   ·rfl
theorem SU (k:α) (v:β) (c:Nat):∀ (es:List (En α β)) (i j:Nat),(∀ {a b},keq a b=true↔a=b)→atE keq es k i=some j→GK (es.map (En.entry ke ve)) (j - i) (ke k) (ve v)=(K9 keq es k v c).map (En.entry ke ve)
 | [],i,j,_,h=>by cases h
 | e::es,i,j,hd,h=>by
  unfold atE at h
  unfold K9
  split at h
  ·rename_i hk
   cases h
   rw [if_pos hk,Nat.sub_self]
   rfl
  ·rename_i hk
   have:=(PW h).1
   rw [Ff hk,show j - i=(j - (i+1))+1 by omega]
   show e.entry ke ve::GK (es.map (En.entry ke ve)) (j - (i+1)) (ke k) (ve v)=_
   rw [SU k v c es (i+1) j hd h]
   rfl
theorem Kz {es:List (En α β)} {k:α} (hn:∀ e∈es,keq k e.k=false) (v:β) (c:Nat):K9 keq es k v c=es++[(⟨k,v,c⟩:En α β)]:=by
 induction es with
 | nil=>rfl
 | cons e es ih=>
  unfold K9
  rw [Ff (by rw [hn e List.mem_cons_self];simp),ih fun x hx=>hn x (List.mem_cons_of_mem _ hx)]
  rfl
theorem Qz (k:α) (v:β) (c:Nat):∀ (es:List (En α β)),(∀ {a b},keq a b=true↔a=b)→(∃ e∈es,keq k e.k=true)→(K9 keq es k v c).map En.k=es.map En.k∧(K9 keq es k v c).map En.b=es.map En.b
 | [],_,h=>by obtain ⟨e,he,_⟩:=h;cases he
 | e::es,hd,h=>by
  unfold K9
  split
  ·rename_i hk
   rw [Mc,Mc,Mc,Mc,← hd.1 hk]
   exact ⟨rfl,rfl⟩
  ·rename_i hk
   obtain ⟨x,hx,h2⟩:=h
   rcases List.mem_cons.1 hx with rfl | hx
   ·exact absurd h2 hk
   ·obtain ⟨h3,h4⟩:=Qz k v c es hd ⟨x,hx,h2⟩
    rw [Mc,Mc,Mc,Mc,h3,h4]
    exact ⟨rfl,rfl⟩
theorem Io.put (T:MT P t kt et ke keq) {A:AW} {r:Nat} {es:List (En α β)} {c:Nat} (h:Io ke ve A r es c) (hf:AH A) (hb:A.next≤Ap) {k:α} {v:β} {K:AW→Prop}
  (hk:∀ A' c',Io ke ve A' r (K9 keq es k v c) c'→Ay A A' [r]→A'.next=A.next→AH A'→K A'):Bb (AK P A t (.map (some r)) (ke k) (ve v)) K:=by
 unfold AK
 simp only [LU T,h.row.row,T.q,Ct,PF T]
 cases ha:atE keq es k 0 with
 | none=>
  obtain ⟨h1,h2⟩:=Tv ha
  obtain ⟨g1,g2,g3,g4⟩:=h.row.put (es':=es.map (En.entry ke ve)++[{ key:=ke k,val:=ve v,born:=c }]) (c':=c+1) hf hb
  simp only
  refine Lw.2 (hk _ (c+1) ⟨?_,?_,?_,?_⟩ g2 g3 g4)
  ·rw [Kz h1,List.map_append]
   exact g1
  ·rw [Kz h1]
   intro e he
   rcases List.mem_append.1 he with he | he
   ·have:=h.lt e he;omega
   ·rw [Ms.1 he]
    exact Nat.lt_succ_self c
  ·rw [Kz h1,List.map_append,List.nodup_append]
   refine ⟨h.nb,by simp,fun a ha b hb=>?_⟩
   obtain ⟨e,he,rfl⟩:=List.mem_map.1 ha
   have:=h.lt e he
   simp at hb
   omega
  ·rw [Kz h1,List.map_append,List.nodup_append]
   refine ⟨h.nk,by simp,fun a ha b hb=>?_⟩
   obtain ⟨e,he,rfl⟩:=List.mem_map.1 ha
   have:=h1 e he
   simp at hb
   subst hb
   intro h0
   rw [T.dec.2 h0.symm] at this
   cases this
 | some i=>
  obtain ⟨_,_,e,h3,h4,_⟩:=PW ha
  rw [Nat.sub_zero] at h3
  have hke:k=e.k:=T.dec.1 h4
  simp only [List.getElem?_map,h3,Option.map_some]
  have hs:(AG 4 (e.entry ke ve).key&&Instr.sameBits 10000 (e.entry ke ve).key (ke k))=true:=by
   show (AG 4 (ke e.k)&&Instr.sameBits 10000 (ke e.k) (ke k))=true
   rw [hke]
   exact T.same _
  rw [hs,Ct]
  have hset:=SU (ke:=ke) (ve:=ve) k v c es 0 i T.dec ha
  rw [Nat.sub_zero] at hset
  rw [hset]
  obtain ⟨g1,g2,g3,g4⟩:=h.row.put (es':=(K9 keq es k v c).map (En.entry ke ve)) (c':=c) hf hb
  obtain ⟨p1,p2⟩:=Qz k v c es T.dec ⟨e,List.mem_of_getElem? h3,h4⟩
  refine Lw.2 (hk _ c ⟨g1,fun x hx=>?_,by rw [p2];exact h.nb,by rw [p1];exact h.nk⟩ g2 g3 g4)
  have:x.b∈(K9 keq es k v c).map En.b:=List.mem_map.2 ⟨x,hx,rfl⟩
  rw [p2] at this
  obtain ⟨y,hy,hyb⟩:=List.mem_map.1 this
  have:=h.lt y hy
  omega
structure Iter (A:AW) (it m c:Nat) (vs:List (En α β)):Prop where
 get:A.get it=some (.mit (some m) c (vs.map En.b) c)
 lt:it < A.next
theorem U8 {A:AW} {it m c:Nat} {vs:List (En α β)} (h:Iter A it m c vs) (hf:AH A) (hA:A.next≤Ap) (e:En α β):Iter (A.put it (.mit (some m) c (vs.map En.b++[e.b]) c)) it m c (vs++[e])∧Ay A (A.put it (.mit (some m) c (vs.map En.b++[e.b]) c)) [it]∧
  (A.put it (.mit (some m) c (vs.map En.b++[e.b]) c)).next=A.next∧AH (A.put it (.mit (some m) c (vs.map En.b++[e.b]) c)):=by
 have hlt:=h.lt
 have hg:∀ i,(A.put it (.mit (some m) c (vs.map En.b++[e.b]) c)).get i=if i=it then some (.mit (some m) c (vs.map En.b++[e.b]) c) else A.get i:=fun i=>AW.DI A it i _ (by omega)
 refine ⟨⟨by rw [hg,if_pos rfl,List.map_append];rfl,hlt⟩,⟨Nl _,fun i o hi _ hn=>?_,fun f _ _=>rfl⟩,rfl,⟨hf.fams,fun i hi=>?_⟩⟩
 ·rw [hg,Ff (fun e=>?_)]
  ·exact hi
  ·subst e
   rw [h.get] at hi
   cases hi
   exact hn (Ms.2 rfl)
 ·have hi:A.next≤i:=hi
  rw [hg,Ff (by omega)]
  exact hf.get i hi
theorem AaU {es:List (En α β)} (hn:(es.map En.b).Nodup):∀ {x y:En α β},x∈es→y∈es→x.b=y.b→x=y:=by
 induction es with
 | nil=>intro x y hx;cases hx
 | cons e es ih=>
  simp only [Mc,List.nodup_cons] at hn
  intro x y hx hy hxy
  rcases List.mem_cons.1 hx with hx | hx
  ·rcases List.mem_cons.1 hy with hy | hy
   ·rw [hx,hy]
   ·exact absurd (List.mem_map.2 ⟨y,hy,by rw [← hxy,hx]⟩) hn.1
  ·rcases List.mem_cons.1 hy with hy | hy
   ·exact absurd (List.mem_map.2 ⟨x,hx,by rw [hxy,hy]⟩) hn.1
   ·exact ih hn.2 hx hy hxy
theorem QI {γ δ:Type} (f:γ→δ):∀ {l:List γ},(l.map f).Nodup→l.Nodup
 | [],_=>List.nodup_nil
 | x::l,h=>by
  simp only [Mc,List.nodup_cons] at h
  exact List.nodup_cons.2 ⟨fun hx=>h.1 (List.mem_map.2 ⟨x,hx,rfl⟩),QI f h.2⟩
theorem QU (l:List Nat) (x:Nat):Kb (l++[x])=some x:=by
 induction l with
 | nil=>rfl
 | cons a l ih=>
  cases l with
  | nil=>rfl
  | cons b l=>exact ih
theorem Io.entry {A:AW} {r it:Nat} {es vs:List (En α β)} {c:Nat} (h:Io ke ve A r es c) {e:En α β} (hi:Iter A it r c (vs++[e])) (he:e∈es) {K:Value→AW→Prop} (hk:K (.tuple #[ke e.k,ve e.v]) A):
  anW P X W0 m0 (Sn A (.pointer (some ⟨it,0,none⟩))) K:=by
 have hfind:∀ (l:List (En α β)) (i:Nat),e∈l→(l.map En.b).Nodup→∃ j,EB e.b (l.map (En.entry ke ve)) i=some (i+j)∧l[j]? =some e:=by
  intro l
  induction l with
  | nil=>intro i h;cases h
  | cons x l ih=>
   intro i hx hn
   simp only [Mc,List.nodup_cons] at hn
   by_cases hxb:x.b=e.b
   ·rcases List.mem_cons.1 hx with rfl | hx
    ·refine ⟨0,?_,rfl⟩
     show (bif Nat.beq e.b e.b then some i else _)=_
     rw [Nat.beq_refl]
     rfl
    ·exact absurd (List.mem_map.2 ⟨e,hx,hxb.symm⟩) hn.1
   ·rcases List.mem_cons.1 hx with rfl | hx
    ·exact absurd rfl hxb
    ·obtain ⟨j,h1,h2⟩:=ih (i+1) hx hn.2
     refine ⟨j+1,?_,h2⟩
     show (bif Nat.beq x.b e.b then some i else EB e.b (l.map (En.entry ke ve)) (i+1))=_
     have:Nat.beq x.b e.b=false:=by
      cases hb:Nat.beq x.b e.b with
      | false=>rfl
      | true=>exact absurd (Nb hb) hxb
     rw [this,Cf,h1,show i+1+j=i+(j+1) by omega]
 obtain ⟨j,h1,h2⟩:=hfind es 0 he h.nb
 rw [Nat.zero_add] at h1
 have hl:Kb ((vs++[e]).map En.b)=some e.b:=by rw [List.map_append];exact QU _ _
 have e1:Lv A (.pointer (some ⟨it,0,none⟩))=some (.tuple #[ke e.k,ve e.v]):=by
  unfold Lv
  simp only [hi.get,hl,h.row.row,Nat.beq_refl,Ct,h1,List.getElem?_map,h2,Option.map_some]
  rfl
 unfold Sn
 rw [e1]
 exact .inl ⟨_,_,rfl,hk⟩
end
def CM (n:Nat):UInt8:=if n < 10 then UInt8.ofNat (48+n) else UInt8.ofNat (87+n)
def CN (b:UInt8):Bool:=decide (33≤b.toNat∧b.toNat≤126)&&(b.toNat != 37&&b.toNat != 58)
def Ii (b:UInt8):List UInt8:=if CN b then [b] else [37,CM (b.toNat / 16),CM (b.toNat % 16)]
def Dp (l:List UInt8):List UInt8:=l.flatMap Ii
def AV (l:List UInt8):List UInt8:=if l=[] then [37] else Dp l
theorem NG (a b:List UInt8):Dp (a++b)=Dp a++Dp b:=List.flatMap_append
theorem Ra (b:UInt8):Dp [b]=Ii b:=by simp [Dp]
def B0 (b:Nat):Int:=if 48≤b∧b≤57 then (b:Int) - 48 else if 97≤b∧b≤102 then (b:Int) - 87 else -1
theorem Ds:∀ n,n < 16→B0 (CM n).toNat=(n:Int):=by decide
def Iz (x y:UInt8):UInt8:=UInt8.ofNat ((B0 x.toNat * 16+B0 y.toNat) % 256).toNat
theorem NP (b:UInt8):Iz (CM (b.toNat / 16)) (CM (b.toNat % 16))=b:=by
 have hb:=b.toNat_lt
 unfold Iz
 rw [Ds _ (by omega),Ds _ (by omega)]
 have:(((b.toNat / 16:Nat):Int) * 16+((b.toNat % 16:Nat):Int)) % 256=(b.toNat:Int):=by omega
 rw [this]
 simp
def Gw:List UInt8→Option (List UInt8)
 | []=>some []
 | c::r=>if c.toNat=37 then (match r with
  | x::y::r'=>(Gw r').map (Iz x y::·)
  | _=>none) else (Gw r).map (c::·)
def HC:List UInt8→Option (List UInt8)
 | []=>some []
 | c::r=>if c.toNat=37 then (match r with
  | x::y::r'=>if B0 x.toNat < 0∨B0 y.toNat < 0 then none else (HC r').map (Iz x y::·)
  | _=>none) else (HC r).map (c::·)
theorem Rf (x y:UInt8) (r:List UInt8):Gw (37::x::y::r)=(Gw r).map (Iz x y::·):=by
 rw [Gw];exact if_pos rfl
theorem NI (x y:UInt8) (r:List UInt8):HC (37::x::y::r)=if B0 x.toNat < 0∨B0 y.toNat < 0 then none else (HC r).map (Iz x y::·):=by
 rw [HC];exact if_pos rfl
theorem NL {c:UInt8} (r:List UInt8) (h:c.toNat≠37):Gw (c::r)=(Gw r).map (c::·):=by
 match r with
 | []=>simp only [Gw,Ff h]
 | [_]=>simp only [Gw,Ff h]
 | _::_::_=>simp only [Gw,Ff h]
theorem NJ {c:UInt8} (r:List UInt8) (h:c.toNat≠37):HC (c::r)=(HC r).map (c::·):=by
 match r with
 | []=>simp only [HC,Ff h]
 | [_]=>simp only [HC,Ff h]
 | _::_::_=>simp only [HC,Ff h]
theorem F8:∀ l:List UInt8,Gw (Dp l)=some l
 | []=>by rw [show Dp []=[] from rfl,Gw]
 | b::l=>by
  rw [show Dp (b::l)=Ii b++Dp l from by simp [Dp]]
  unfold Ii
  cases hb:CN b with
  | true=>
   have h:b.toNat≠37:=by
    intro h;unfold CN at hb;rw [h] at hb;revert hb;decide
   rw [if_pos rfl,List.singleton_append,NL _ h,F8 l];rfl
  | false=>
   rw [Ff (by decide)]
   simp only [List.cons_append,List.nil_append]
   rw [Rf,NP,F8 l];rfl
theorem KP:∀ l:List UInt8,HC (Dp l)=some l
 | []=>by rw [show Dp []=[] from rfl,HC]
 | b::l=>by
  rw [show Dp (b::l)=Ii b++Dp l from by simp [Dp]]
  unfold Ii
  cases hb:CN b with
  | true=>
   have h:b.toNat≠37:=by
    intro h;unfold CN at hb;rw [h] at hb;revert hb;decide
   rw [if_pos rfl,List.singleton_append,NJ _ h,KP l];rfl
  | false=>
   have hb:=b.toNat_lt
   rw [Ff (by decide)]
   simp only [List.cons_append,List.nil_append]
   rw [NI,NP,KP l,Ds _ (by omega),Ds _ (by omega),Ff (by omega)];rfl
theorem Fw:AV []=[37]:=rfl
theorem CJ {l:List UInt8} (h:l≠[]):AV l=Dp l:=Ff h
theorem J6 {a b:List UInt8} (h:AV a=AV b):a=b:=by
 have hp:∀ l:List UInt8,l≠[]→Dp l≠[37]:=fun l _ he=>by
  have:=F8 l
  rw [he] at this
  have h37:Gw [37]=none:=by simp only [Gw];exact if_pos rfl
  rw [h37] at this;cases this
 by_cases ha:a=[]
 ·by_cases hb:b=[]
  ·rw [ha,hb]
  ·rw [ha,Fw,CJ hb] at h
   exact absurd h.symm (hp b hb)
 ·by_cases hb:b=[]
  ·rw [hb,Fw,CJ ha] at h
   exact absurd h (hp a ha)
  ·rw [CJ ha,CJ hb] at h
   have h1:=F8 a
   rw [h,F8 b] at h1
   exact (Option.some.inj h1).symm
theorem XT {w out:List UInt8} (hw:w≠[37]) (h:Gw w=some out) (h2:AV out≠w) (l:List UInt8):AV l≠w:=by
 intro he
 by_cases hl:l=[]
 ·rw [hl,Fw] at he;exact hw he.symm
 ·rw [CJ hl] at he
  rw [← he,F8 l] at h
  cases h
  exact h2 (by rw [CJ hl,he])
theorem SO {w:List UInt8} (hw:w≠[37]) (h:Gw w=none) (l:List UInt8):AV l≠w:=by
 intro he
 by_cases hl:l=[]
 ·rw [hl,Fw] at he;exact hw he.symm
 ·rw [CJ hl] at he
  rw [← he,F8 l] at h
  cases h
theorem XS {w out:List UInt8} (hw:w≠[37]) (h:HC w=some out) (h2:AV out≠w) (l:List UInt8):AV l≠w:=by
 intro he
 by_cases hl:l=[]
 ·rw [hl,Fw] at he;exact hw he.symm
 ·rw [CJ hl] at he
  rw [← he,KP l] at h
  cases h
  exact h2 (by rw [CJ hl,he])
theorem SM {w:List UInt8} (hw:w≠[37]) (h:HC w=none) (l:List UInt8):AV l≠w:=by
 intro he
 by_cases hl:l=[]
 ·rw [hl,Fw] at he;exact hw he.symm
 ·rw [CJ hl] at he
  rw [← he,KP l] at h
  cases h
theorem YT {n b0 b1 b2 b3:Nat} (h:128≤b0) (hn:1≤n):128≤(Lib.decodeN n b0 b1 b2 b3).1∧1≤(Lib.decodeN n b0 b1 b2 b3).2∧(Lib.decodeN n b0 b1 b2 b3).2≤n∧(Lib.decodeN n b0 b1 b2 b3).2≤4∧
  (2≤(Lib.decodeN n b0 b1 b2 b3).2→128≤b1)∧(3≤(Lib.decodeN n b0 b1 b2 b3).2→128≤b2)∧(4≤(Lib.decodeN n b0 b1 b2 b3).2→128≤b3):=by
 unfold Lib.decodeN
 repeat' split
 all_goals simp only
 all_goals omega
theorem YS {n b0 b1 b2 b3:Nat} (h:b0 < 128):Lib.decodeN n b0 b1 b2 b3=(b0,1):=if_pos h
theorem Vf {b:UInt8} (h:CN b=true):b.toNat < 128:=by
 unfold CN at h
 simp only [Bq,decide_eq_true_eq] at h
 omega
theorem Tr (s:ByteArray) (i:Nat) (h:i < s.data.toList.length):
  (s.data.toList[i].toNat < 128∧Utf8.decode s i=(s.data.toList[i].toNat,1))∨
  (128≤(Utf8.decode s i).1∧1≤(Utf8.decode s i).2∧i+(Utf8.decode s i).2≤s.data.toList.length∧∀ j (hj:i+j < s.data.toList.length),j < (Utf8.decode s i).2→CN (s.data.toList[i+j]'hj)=false):=by
 have hd:∀ k (hk:k < s.data.toList.length),s.data.toList.getD k 0=s.data.toList[k]:=fun k hk=>by simp [List.getD,Ge hk]
 rw [Lib.decode_N]
 by_cases h0:s.data.toList[i].toNat < 128
 ·left
  refine ⟨h0,?_⟩
  rw [hd i h,YS h0]
 ·right
  obtain ⟨a1,a2,a3,a4,a5,a6,a7⟩:=YT (n:=s.data.toList.length - i) (b0:=(s.data.toList.getD i 0).toNat) (b1:=(s.data.toList.getD (i+1) 0).toNat) (b2:=(s.data.toList.getD (i+2) 0).toNat) (b3:=(s.data.toList.getD (i+3) 0).toNat) (by rw [hd i h];omega) (by omega)
  refine ⟨a1,a2,by omega,fun j hj hlt=>?_⟩
  have key:128≤(s.data.toList[i+j]'hj).toNat:=by
   rw [← hd _ hj]
   have:j=0∨j=1∨j=2∨j=3:=by omega
   rcases this with rfl | rfl | rfl | rfl
   ·rw [Nat.add_zero,hd i h];omega
   ·exact a5 (by omega)
   ·exact a6 (by omega)
   ·exact a7 (by omega)
  cases hp:CN (s.data.toList[i+j]'hj) with
  | false=>rfl
  | true=>have:=Vf hp;omega
end Go.Abs
namespace Go.Proofs.YtebidlpekphaoaaGreatDoor
open Go.Abs
theorem Tj (b o:Nat):Ac Tp 70 (pP b o) 0=some (pP b o):=by kernel_rfl
theorem Ie (b o:Nat):Ac Tp 70 (pP b o) 1=some (pP b (o+1)):=by kernel_rfl
theorem YE (A:AW) (a:Addr):At Tp A 3 (.pointer (some a))=A.cell? a:=by kernel_rfl
theorem Pz (A:AW) (a:Addr):At Tp A 5 (.pointer (some a))=A.cell? a:=by kernel_rfl
theorem GS (A:AW) (a:Addr):At Tp A 9 (.pointer (some a))=A.cell? a:=by kernel_rfl
theorem KJ (A:AW) (a:Addr):At Tp A 33 (.pointer (some a))=A.cell? a:=by kernel_rfl
theorem XA (A:AW) (a:Addr):At Tp A 68 (.pointer (some a))=A.cell? a:=by kernel_rfl
theorem Mj (A:AW) (a:Addr) (v:Value):AB Tp A 3 (.pointer (some a)) v=(bif Nat.beq v.cells.toList.length 1 then A.setCells a v.cells.toList else none):=by kernel_rfl
theorem MS (A:AW) (a:Addr) (v:Value):AB Tp A 33 (.pointer (some a)) v=(bif Nat.beq v.cells.toList.length 1 then A.setCells a v.cells.toList else none):=by kernel_rfl
theorem ZS (A:AW) (a:Addr) (v:Value):AB Tp A 68 (.pointer (some a)) v=(bif Nat.beq v.cells.toList.length 1 then A.setCells a v.cells.toList else none):=by kernel_rfl
theorem XD (b o n c i:Nat) (k:IntKind):Am Tp 33 (.slice (some ⟨b,o,none⟩) n c) (.int k (.ofNat i))=(bif Nat.blt i n then some (.pointer (some (Fo ⟨b,o,none⟩ (i * 1)))) else none):=by kernel_rfl
theorem Ef (A:AW) (s:ByteArray):Bn Tp A 9 (.string s)=some (.int .i64 s.data.toList.length):=by kernel_rfl
theorem JJ (A:AW) (a:Option Addr) (n c:Nat):Bn Tp A 33 (.slice a n c)=some (.int .i64 n):=by kernel_rfl
theorem St (A:AW) (n:Int) (k:IntKind):Au Tp A 3 5 (.int k n)=.ok (.int .u8 (IntKind.u8.wrap n)) A:=by kernel_rfl
theorem YU (A:AW) (n:Int) (k:IntKind):Au Tp A 5 3 (.int k n)=.ok (.int .i64 (IntKind.i64.wrap n)) A:=by kernel_rfl
theorem VY (A:AW) (n:Int) (k:IntKind):Au Tp A 21 30 (.int k n)=.ok (.int .u32 (IntKind.u32.wrap n)) A:=by kernel_rfl
theorem WZ (A:AW) (n:Int) (k:IntKind):Au Tp A 21 5 (.int k n)=.ok (.int .u8 (IntKind.u8.wrap n)) A:=by kernel_rfl
theorem WY (A:AW) (s:ByteArray):Au Tp A 9 33 (.string s)=(match A.new (.row (AM s.data.toList) 5 A.next 0 false) with
   | some (b,w')=>.ok (.slice (some ⟨b,0,none⟩) s.data.toList.length (BH+s.data.toList.length)) w'
   | none=>.fail "convert new"):=by kernel_rfl
theorem Up (A:AW) (q:Nat):Au Tp A 68 132 (.pointer (some ⟨q,0,none⟩))=(match A.get q with
   | some (.row cs _ _ _ _)=>bif Nat.blt 0 cs.length then .ok (.pointer (some ⟨q,0,none⟩)) A else .fail "convert away"
   | _=>.fail "convert away"):=by kernel_rfl
theorem Uq (A:AW) (q:Nat):Au Tp A 132 68 (.pointer (some ⟨q,0,none⟩))=(match A.get q with
   | some (.row cs e fam _ _)=>bif Nat.beq fam q&&liesAt Tp Tp.depth e (cs.length / Tp.cellsOf e) 0 70 1 then .ok (.pointer (some ⟨q,0,none⟩)) A else .fail "convert back"
   | _=>.fail "convert back"):=by kernel_rfl
theorem YD:liesAt Tp Tp.depth 70 (2 / Tp.cellsOf 70) 0 70 1=true:=by kernel_rfl
theorem Acv (s:ByteArray) (k:IntKind) (i:Nat):Bj Tp 9 (.string s) (.int k (.ofNat i))=(match s.data.toList[i]? with | some b=>some (.int .u8 b.toNat) | none=>none):=by kernel_rfl
theorem ix9 {s:ByteArray} {k:IntKind} {i:Nat} {b:UInt8} (h:s.data.toList[i]? =some b):Bj Tp 9 (.string s) (.int k (i:Int))=some (.int .u8 (b.toNat:Int)):=by
 show Bj Tp 9 (.string s) (.int k (.ofNat i))=_
 rw [Acv,h]
theorem UL:Tp.underlying 9=some .string:=by kernel_rfl
theorem sl9 {A:AW} {s:ByteArray} {l h:Nat} {k1 k2:IntKind} (h1:l≤h) (h2:h≤s.data.toList.length):Br Tp A 9 (.string s) (some (.int k1 (l:Int))) (some (.int k2 (h:Int))) none=some (.string ⟨⟨(s.data.toList.take h).drop l⟩⟩):=by
 show Br Tp A 9 (.string s) (some (.int k1 (.ofNat l))) (some (.int k2 (.ofNat h))) none=_
 unfold Br
 simp only [UL,bounds,Is,EQ,Option.isSome_some,Bool.true_or,Ct,Bt.2 h2,Bt.2 h1]
theorem ID {a b:ByteArray} {xo yo:Operand} (h:a.data.toList.length+b.data.toList.length < 1099511627776):Ag Tp .add 9 xo yo (.string a) (.string b)=some (.string ⟨⟨a.data.toList++b.data.toList⟩⟩):=by
 show (bif Nat.blt (a.data.toList++b.data.toList).length 1099511627776 then some (Value.string ⟨⟨a.data.toList++b.data.toList⟩⟩) else none)=_
 rw [Lq,AE.2 h,Ct]
theorem DN:BT Tp 5 33 9:=⟨by kernel_rfl,by kernel_rfl,by kernel_rfl,by kernel_rfl,by kernel_rfl,by kernel_rfl,by kernel_rfl,by kernel_rfl,JJ,XD,Pz,fun _ _ _=>by kernel_rfl⟩
theorem SE (A:AW) (n:Int):Ar Tp A 33 1 [(0,.int .u8 n)]=(match A.newRow [.int .u8 n] 5 with | some (a,w')=>.ok (.slice (some a) 1 1) w' | none=>.fail "buildSlice new"):=by kernel_rfl
theorem YZ (A:AW) (n m:Int):Ar Tp A 33 2 [(0,.int .u8 n),(1,.int .u8 m)]=(match A.newRow [.int .u8 n,.int .u8 m] 5 with | some (a,w')=>.ok (.slice (some a) 2 2) w' | none=>.fail "buildSlice new"):=by kernel_rfl
theorem Uc (n:Int):AR Tp (BA (Tm.fill ⟨1,.nil⟩ 0 [.int .u8 n])) (.buildSlice 33 1 #[(0,.tmp 0)])=some (.slice [.int .u8 n] 5 1):=by kernel_rfl
theorem Ub (n m:Int):AR Tp (BA (Tm.fill ⟨2,.nil⟩ 0 [.int .u8 n,.int .u8 m])) (.buildSlice 33 2 #[(0,.tmp 0),(1,.tmp 1)])=some (.slice [.int .u8 n,.int .u8 m] 5 2):=by kernel_rfl
theorem N3 {A:AW} {n:UInt8} {K:Value→AW→Prop} (hf:AH A) (h:A.next < Ap) (hk:∀ A',Made A A' (AM [n]) 5→K (.slice (some ⟨A.next,0,none⟩) 1 1) A'):Al (Ar Tp A 33 1 [(0,.int .u8 (n.toNat:Int))]) K:=by
 rw [SE]
 unfold AW.newRow AW.new
 have hc:([Value.int .u8 (n.toNat:Int)].all AL)=true:=rfl
 simp only [hc,Ct,AE.2 h]
 exact Bg.2 (hk (A.push (.row (AM [n]) 5 A.next 0 false)) ⟨AW.Dv _ h,rfl,by rw [AW.CF _ h,if_pos rfl],hf.alone (Nl _),hf.push _ h⟩)
theorem Z4 {A:AW} {n m:UInt8} {K:Value→AW→Prop} (hf:AH A) (h:A.next < Ap) (hk:∀ A',Made A A' (AM [n,m]) 5→K (.slice (some ⟨A.next,0,none⟩) 2 2) A'):Al (Ar Tp A 33 2 [(0,.int .u8 (n.toNat:Int)),(1,.int .u8 (m.toNat:Int))]) K:=by
 rw [YZ]
 unfold AW.newRow AW.new
 have hc:([Value.int .u8 (n.toNat:Int),.int .u8 (m.toNat:Int)].all AL)=true:=rfl
 simp only [hc,Ct,AE.2 h]
 exact Bg.2 (hk (A.push (.row (AM [n,m]) 5 A.next 0 false)) ⟨AW.Dv _ h,rfl,by rw [AW.CF _ h,if_pos rfl],hf.alone (Nl _),hf.push _ h⟩)
theorem Made.rdB {A A':AW} {l:List UInt8} {c:Nat} (m:Made A A' (AM l) 5):RdB A' (.slice (some ⟨A.next,0,none⟩) l.length c) l [A.next]:=
 .inr ⟨A.next,0,c,AM l,5,A.next,0,false,[],rfl,m.row,by rw [m.next];omega,rfl,by simp⟩
theorem Ua {A:AW} {q:Nat} {n:UInt8} {p:Prop} (h:A.get q=some (.row (AM [n]) 5 q 0 false)) (hp:p):Bz (AR Tp (BA (Tm.fill ⟨1,.nil⟩ 0 [.int .u8 (n.toNat:Int)])) (.buildSlice 33 1 #[(0,.tmp 0)])) A (.slice (some ⟨q,0,none⟩) 1 1) p:=by
 refine ⟨⟨_,Uc _,?_⟩,hp⟩
 have h:A.get q=some (.row [.int .u8 (n.toNat:Int)] 5 q 0 false):=h
 simp only [B8,Eo,h,Em,IQ,Bool.and_self,Option.isNone_none,Bool.true_and,Nat.beq_refl]
theorem Nw {A:AW} {q:Nat} {n m:UInt8} {p:Prop} (h:A.get q=some (.row (AM [n,m]) 5 q 0 false)) (hp:p):Bz (AR Tp (BA (Tm.fill ⟨2,.nil⟩ 0 [.int .u8 (n.toNat:Int),.int .u8 (m.toNat:Int)])) (.buildSlice 33 2 #[(0,.tmp 0),(1,.tmp 1)])) A (.slice (some ⟨q,0,none⟩) 2 2) p:=by
 refine ⟨⟨_,Ub _ _,?_⟩,hp⟩
 have h:A.get q=some (.row [.int .u8 (n.toNat:Int),.int .u8 (m.toNat:Int)] 5 q 0 false):=h
 simp only [B8,Eo,h,Em,IQ,Bool.and_self,Option.isNone_none,Bool.true_and,Nat.beq_refl]
theorem Wy {A:AW} {s:ByteArray} {K:Value→AW→Prop} (hf:AH A) (h:A.next < Ap) (hk:∀ A',Made A A' (AM s.data.toList) 5→K (.slice (some ⟨A.next,0,none⟩) s.data.toList.length (BH+s.data.toList.length)) A'):Al (Au Tp A 9 33 (.string s)) K:=by
 rw [WY]
 unfold AW.new
 simp only [AE.2 h,Ct]
 exact Bg.2 (hk (A.push (.row (AM s.data.toList) 5 A.next 0 false)) ⟨AW.Dv _ h,rfl,by rw [AW.CF _ h,if_pos rfl],hf.alone (Nl _),hf.push _ h⟩)
end Go.Proofs.YtebidlpekphaoaaGreatDoor
