/-
  This text prints what the functions reached ask of their memory, and shows what they answer. Conditions: none for the last theorem, those that each theorem states for the others.
-/
import Derived.Test.YtbchfeibhoobeaaGreatDoorPn
set_option maxRecDepth 100000
set_option maxHeartbeats 1000000
namespace Go.Proofs.YtbchfeibhoobeaaGreatDoor.Hd
open Go.Abs
theorem r6:((List.range 8).all fun n=>okN (n+41))=true:=by kernel_rfl
theorem q6:((List.range 8).all fun n=>okF (Go.Jr.nm (n+41)))=true:=by kernel_rfl
def rowE:List (Nat × List Value × TypeId):=[(1,[.iface 225 (.pointer (some ⟨7,0,none⟩))],142)]
noncomputable def sE:ASt:=⟨frOf Tryz.prog 88 [.string ⟨⟨Go.Jr.fresh⟩⟩],[],wR 7 rowE [((0,0),none)]⟩
theorem runE:runOk Tryz.prog theX [] (fun _=>[]) (isE (.int .i64 0)) 100000 sE=some (true,[]):=by kernel_rfl
def LaidV (W:World):Prop:=∃ (a:Addr) (fr:Nat × Nat),a.spot=none∧W.heap[1]? =some (.cells #[.iface 225 (.pointer (some a))] 142 fr)
theorem LaidV.grow (W W':World) (h:LaidV W) (hb:Go.RowKit.Below W.heap.size W W'):LaidV W':=by
 obtain ⟨a,fr,hs,hc⟩:=h
 exact ⟨a,fr,hs,by rw [hb.block 1 (Array.getElem?_eq_some_iff.1 hc).1];exact hc⟩
theorem fresh_calls (W:World) (hW:LaidV W):Calls Tryz.prog 88 #[.string ⟨⟨Go.Jr.fresh⟩⟩] W fun e W'=>e=.returned (.int .i64 0)∧Low W W':=by
 obtain ⟨a,fr,hs,hc⟩:=hW
 have hk:Tryz.prog.globals.size+[(((a.block,a.off),none):Arg)].length+1≤maxId:=by rw [Tryz.nG];show 7+1+1≤maxId;decide
 have hok:okB Tryz.prog.globals.size rowE=true:=by rw [Tryz.nG];rfl
 obtain ⟨fr0,hfr⟩:=Option.isSome_iff_exists.1 (show (enterA Tryz.prog 88 [.string ⟨⟨Go.Jr.fresh⟩⟩] .normal).isSome=true by kernel_rfl)
 have hfo:frOf Tryz.prog 88 [.string ⟨⟨Go.Jr.fresh⟩⟩]=fr0:=by unfold frOf;rw [hfr];rfl
 have h:runOk Tryz.prog theX [] (fun _=>[]) (isE (.int .i64 0)) 100000 ⟨frOf Tryz.prog 88 [.string ⟨⟨Go.Jr.fresh⟩⟩],[],wR 7 rowE [((a.block,a.off),none)]⟩=some (true,[]):=runE
 rw [hfo,← Tryz.nG] at h
 have hx:XOk Tryz.prog theX:=Tryz.xokA [] [] [] []
 have ha:=answers_of_run (W0:=W) (m0:=mR Tryz.prog [((a.block,a.off),none)]) hx Tryz.pok h fun k hk=>by cases hk
 have hrel:=relR2 (P:=Tryz.prog) (W:=W) (L:=[((a.block,a.off),none)]) hok hk (fun x hx=>?_) (fun j p cs e hj=>?_)
 ·refine (calls_of_answers (w:=W) Tryz.pok hfr ha hrel (fun i hi=>mA_var hi) (ownR2 hok (by omega)) (VRels.self fun v hv=>closedV_rel 4 v (List.all_eq_true.1 (show ([.string ⟨⟨Go.Jr.fresh⟩⟩]:List Value).all (closedV 4)=true from rfl) v hv))).mono ?_
  rintro e w' ⟨v,v',m',A',h1,rfl,h2,h3⟩
  exact ⟨by rw [isE_rel (.int .i64 0) (.inr ⟨_,rfl⟩) m' v v' h1 h2],low_of h3 (ownR2 hok (by omega))⟩
 ·obtain rfl:x=_:=by simpa [rowE] using hx
  refine ⟨_,fr,hc,fun i v hv=>?_⟩
  match i,hv with
  | 0,hv=>
   obtain rfl:Value.iface 225 (.pointer (some ⟨7,0,none⟩))=v:=by simpa using hv
   refine ⟨_,rfl,?_⟩
   have hm:mR Tryz.prog [(((a.block,a.off),none):Arg)] 7=some (a.block,a.off):=by
    have:=mA_arg (P:=Tryz.prog) (l:=[(a.block,a.off)]) (i:=0)
    rw [Tryz.nG] at this
    exact this
   exact .iface 225 (.ptr ⟨rfl,hs,a.off,hm,rfl⟩)
  | i+1,hv=>simp at hv
 ·match j,hj with
  | 0,hj=>simp at hj
  | j+1,hj=>simp at hj
theorem kFresh {W0:World} (hW:LaidV W0) (m0:Inj Tryz.prog):KC.Holds Tryz.prog W0 m0 ⟨88,[.string ⟨⟨Go.Jr.fresh⟩⟩],[.int .i64 (Go.Jr.numOf Go.Jr.fresh:Nat)]⟩:=by
 refine ⟨fun e=>absurd e (by decide),fun _=>?_⟩
 intro m args' W _ hb ha
 have hs:args'=[.string ⟨⟨Go.Jr.fresh⟩⟩]:=by cases ha with | cons h1 h2=>cases h2;cases h1;rfl
 subst hs
 refine (fresh_calls W (LaidV.grow W0 W hW hb)).mono ?_
 rintro e W' ⟨rfl,hb'⟩
 exact ⟨.int .i64 0,by simp [show Go.Jr.numOf Go.Jr.fresh=0 by decide],rfl,hb'⟩
end Go.Proofs.YtbchfeibhoobeaaGreatDoor.Hd
