/-
  This text prints what the functions reached ask of their memory, and shows what they answer. Conditions: none for the last theorem, those that each theorem states for the others.
-/
import Derived.Test.YtdpdajpiadohjaaGreatDoorPc
import Derived.KernelRfl
import Derived.Test.YtdpdajpiadohjaaGreatDoorProg
set_option maxRecDepth 100000
set_option maxHeartbeats 1000000
namespace Go.Proofs.YtdpdajpiadohjaaGreatDoor.Hd
open Go.Abs
def theX:XNames:={ clone:=[],noEscape:=[],noZero:=[] }
def theMg:List FuncId:=[]
def rowsG:List (Nat × List Value × TypeId):=[]
noncomputable def st0:ASt:=⟨frOf Tryz.prog 7 [],[],wG 3 rowsG⟩
theorem runLast:runOk Tryz.prog theX theMg (fun _=>[]) isT 100000 st0=some (true,[]):=by kernel_rfl
theorem Tryz.pok:POk Tryz.prog:=pok_of (by kernel_rfl) (by kernel_rfl)
theorem Tryz.xokA (k fo ask:List FuncId) (sa:List (FuncId × Tmp × Value)):XOk Tryz.prog { theX with known:=k,forks:=fo,asks:=ask,says:=sa }:=
 ⟨fun f h=>by simp [theX,memN] at h,fun f h=>by simp [theX,memN] at h,fun f h=>by simp [theX,memN] at h⟩
theorem Tryz.nG:Tryz.prog.globals.size=3:=by kernel_rfl
theorem Tryz.okG:okG Tryz.prog.globals.size rowsG=true:=by kernel_rfl
theorem head_calls (W:World) (hW:Holds W rowsG):Calls Tryz.prog 7 #[] W fun e W'=>e=.returned (.bool true)∧Low W W':=by
 refine calls_true (X:=theX) (l:=rowsG) (args:=[]) Tryz.pok Tryz.okG rfl (by kernel_rfl) W hW ?_
 rw [Tryz.nG]
 have nk:∀ k∈([]:List KC),KC.Holds Tryz.prog W (mG Tryz.prog) k:=fun k hk=>by cases hk
 have hx:XOk Tryz.prog theX:=Tryz.xokA [] [] [] []
 exact answers_of_run hx Tryz.pok runLast nk
end Go.Proofs.YtdpdajpiadohjaaGreatDoor.Hd
