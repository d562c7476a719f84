/-
  This text prints what the functions reached ask of their memory, and shows what they answer. Conditions: none for the last theorem, those that each theorem states for the others.
-/
import Derived.Test.YtdpdajpiadohjaaGreatDoorPd
import Derived.KernelRfl
import Derived.Test.YtdpdajpiadohjaaGreatDoorProg
set_option maxRecDepth 100000
set_option maxHeartbeats 1000000
namespace Go.Proofs.YtdpdajpiadohjaaGreatDoor.Hd
open Go.Abs
def Ak:Ba:={ clone:=[],noEscape:=[],noZero:=[] }
def Ad4:List FuncId:=[]
def Mi:List (Nat × List Value × TypeId):=[]
noncomputable def st0:ASt:=⟨Q1 Tryz.prog 7 [],[],wG 3 Mi⟩
theorem Aad:XY Tryz.prog Ak Ad4 (fun _=>[]) isT 100000 st0=some (true,[]):=by kernel_rfl
theorem Tryz.pok:POk Tryz.prog:=Ym (by kernel_rfl) (by kernel_rfl)
theorem Tryz.xokA(k fo ask:List FuncId)(sa:List (FuncId × Tmp × Value)):XOk Tryz.prog { Ak with known:=k,forks:=fo,asks:=ask,says:=sa }:=
 ⟨fun f h=>by simp [Ak,DZ] at h,fun f h=>by simp [Ak,DZ] at h,fun f h=>by simp [Ak,DZ] at h⟩
theorem Tryz.nG:Tryz.prog.globals.size=3:=by kernel_rfl
theorem Tryz.okG:okG Tryz.prog.globals.size Mi=true:=by kernel_rfl
theorem J5(W:World)(hW:Holds W Mi):Calls Tryz.prog 7 #[] W fun e W'=>e=.returned (.bool true)∧Low W W':=by
 refine Vd (X:=Ak) (l:=Mi) (args:=[]) Tryz.pok Tryz.okG rfl (by kernel_rfl) W hW ?_;rw [Tryz.nG];have nk:∀ k∈([]:List KC),KC.Holds Tryz.prog W (mG Tryz.prog) k:=fun k hk=>by cases hk
 have hx:XOk Tryz.prog Ak:=Tryz.xokA [] [] [] [];exact OY hx Tryz.pok Aad nk
end Go.Proofs.YtdpdajpiadohjaaGreatDoor.Hd
