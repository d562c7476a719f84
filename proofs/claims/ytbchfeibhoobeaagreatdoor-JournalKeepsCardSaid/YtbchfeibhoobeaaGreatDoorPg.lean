/-
  This text prints what the functions reached ask of their memory, and shows what they answer. Conditions: none for the last theorem, those that each theorem states for the others.
-/
import Derived.Test.YtbchfeibhoobeaaGreatDoorPf
set_option maxRecDepth 100000
set_option maxHeartbeats 1000000
namespace Go.Proofs.YtbchfeibhoobeaaGreatDoor.Hd
open Go.Abs
def isE (a v:Value):Bool:=match a,v with
 | .string s,.string t=>s.data.toList==t.data.toList
 | .int .i64 a,.int .i64 b=>a==b
 | _,_=>false
noncomputable def sN (n:Nat):ASt:=⟨frOf Tryz.prog 47 [.int .i64 (n:Int)],[],wG 7 []⟩
noncomputable def sF (f:List UInt8):ASt:=⟨frOf Tryz.prog 88 [.string ⟨⟨f⟩⟩],[],wG 7 []⟩
noncomputable def okN (n:Nat):Bool:=match runOk Tryz.prog theX [] (fun _=>[]) (isE (.string ⟨⟨Go.Jr.nm n⟩⟩)) 100000 (sN n) with | some (true,[])=>true | _=>false
noncomputable def okF (f:List UInt8):Bool:=match runOk Tryz.prog theX [] (fun _=>[]) (isE (.int .i64 (Go.Jr.numOf f:Nat))) 100000 (sF f) with | some (true,[])=>true | _=>false
theorem okG0:okG Tryz.prog.globals.size []=true:=by kernel_rfl
theorem kc_of {g:FuncId} {args:List Value} {v0:Value} (hg:g≠sameFn) (hcl:args.all (closedV 4)=true) (he:(enterA Tryz.prog g args .normal).isSome=true) (hself:∀ m args',VRels (P:=Tryz.prog) m args args'→args'=args)
  (hv:∀ (m:Inj Tryz.prog) v v',isE v0 v=true→VRel m v v'→v'=v0) (h:runOk Tryz.prog theX [] (fun _=>[]) (isE v0) 100000 ⟨frOf Tryz.prog g args,[],wG 7 []⟩=some (true,[])) (W0:World) (m0:Inj Tryz.prog):KC.Holds Tryz.prog W0 m0 ⟨g,args,[v0]⟩:=by
 refine ⟨fun e=>absurd e hg,fun _ m args' W _ _ ha=>?_⟩
 rw [hself m args' ha]
 have hW:Holds W []:=fun x hx=>by cases hx
 obtain ⟨fr,hfr⟩:=Option.isSome_iff_exists.1 he
 have hfo:frOf Tryz.prog g args=fr:=by unfold frOf;rw [hfr];rfl
 rw [hfo,← Tryz.nG] at h
 have hx:XOk Tryz.prog theX:=Tryz.xokA [] [] [] []
 have ha:=answers_of_run (W0:=W) (m0:=mG Tryz.prog) hx Tryz.pok h fun k hk=>by cases hk
 refine (calls_of_answers (w:=W) Tryz.pok hfr ha (relG okG0 hW) gG (ownG okG0) (VRels.self fun v hv=>closedV_rel 4 v (List.all_eq_true.1 hcl v hv))).mono ?_
 rintro e w' ⟨v,v',m',A',h1,rfl,h2,h3⟩
 exact ⟨v0,by simp,by rw [hv m' v v' h1 h2],low_of h3 (ownG okG0)⟩
theorem isE_rel (v0:Value) (h0:(∃ s,v0=.string s)∨∃ n,v0=.int .i64 n) (m:Inj Tryz.prog) (v v':Value) (h:isE v0 v=true) (hr:VRel m v v'):v'=v0:=by
 rcases h0 with ⟨s,rfl⟩ | ⟨n,rfl⟩
 ·cases v with
  | string t=>
   have h:(s.data.toList==t.data.toList)=true:=h
   cases hr
   rw [beq_iff_eq] at h
   obtain ⟨⟨a⟩⟩:=s
   obtain ⟨⟨b⟩⟩:=t
   have h:a=b:=h
   rw [h]
  | _=>cases h
 ·cases v with
  | int k b=>
   cases k <;> first | (have h:(n==b)=true:=h;cases hr;rw [beq_iff_eq] at h;rw [h]) | cases h
  | _=>cases h
theorem kN {n:Nat} (h:okN n=true) (W0:World) (m0:Inj Tryz.prog):KC.Holds Tryz.prog W0 m0 ⟨47,[.int .i64 (n:Int)],[.string ⟨⟨Go.Jr.nm n⟩⟩]⟩:=by
 refine kc_of (by decide) rfl (by kernel_rfl) (fun m args' ha=>?_) (fun m v v'=>isE_rel _ (.inl ⟨_,rfl⟩) m v v') ?_ W0 m0
 ·cases ha with | cons h1 h2=>cases h2;cases h1;rfl
 ·unfold okN sN at h
  split at h
  ·rename_i h1;exact h1
  ·cases h
theorem kF {f:List UInt8} (h:okF f=true) (W0:World) (m0:Inj Tryz.prog):KC.Holds Tryz.prog W0 m0 ⟨88,[.string ⟨⟨f⟩⟩],[.int .i64 (Go.Jr.numOf f:Nat)]⟩:=by
 refine kc_of (by decide) rfl (by kernel_rfl) (fun m args' ha=>?_) (fun m v v'=>isE_rel _ (.inr ⟨_,rfl⟩) m v v') ?_ W0 m0
 ·cases ha with | cons h1 h2=>cases h2;cases h1;rfl
 ·unfold okF sF at h
  split at h
  ·rename_i h1;exact h1
  ·cases h
theorem r1:((List.range 8).all fun n=>okN (n+1))=true:=by kernel_rfl
theorem q1:((List.range 8).all fun n=>okF (Go.Jr.nm (n+1)))=true:=by kernel_rfl
end Go.Proofs.YtbchfeibhoobeaaGreatDoor.Hd
