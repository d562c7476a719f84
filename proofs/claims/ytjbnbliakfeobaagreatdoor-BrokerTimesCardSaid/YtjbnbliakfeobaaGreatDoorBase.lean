/-
  The program's parts that the texts share. Conditions: none.
-/
import Derived.Test.YtjbnbliakfeobaaGreatDoorAbsI
import Derived.Test.YtjbnbliakfeobaaGreatDoorAbsF
import Derived.Test.YtjbnbliakfeobaaGreatDoorProg
import Derived.KernelRfl
set_option linter.all false

set_option maxRecDepth 100000
namespace Go.Proofs.YtjbnbliakfeobaaGreatDoor
open Go.Abs

def theX : XNames := { clone := [347], noEscape := [450], noZero := [451] }
def theMg : List FuncId := [165, 168]
def crcNums : List Int := [0, 274646895, 549293790, 820201905, 1098587580, 1361435347, 1640403810, 1905808397, 2197175160, 2460548119, 2722870694, 2987750089, 3280807620, 3553878443, 3811616794, 4084100981]
def rowsG : List (Nat × List Value × TypeId) := [(2, crcNums.map (Value.int .u32 ·), 528)]
/-- the part of a code that a path leads to -/
def sub : Code → List Nat → Code
  | c, [] => c
  | .seq a _, 0 :: p => sub a p
  | .seq _ b, _ :: p => sub b p
  | .cond _ a _, 0 :: p => sub a p
  | .cond _ _ b, _ :: p => sub b p
  | .block _ b, _ :: p => sub b p
  | .loop b, _ :: p => sub b p
  | .rangeFunc _ _ a _, 0 :: p => sub a p
  | .rangeFunc _ _ _ b, _ :: p => sub b p
  | .scope b, _ :: p => sub b p
  | c, _ => c
noncomputable def cd (f : FuncId) (p : List Nat) : Code := match Tryz.prog.funcs[f]? with
  | some fn => (match fn.body with | some c => sub c p | none => .skip)
  | none => .skip
def opsOf : Code → Array Oper
  | .region _ ops _ => ops
  | _ => #[]
def zE {α : Type} : Trie α := .nil
def zN {α : Type} (v : α) (l r : Trie α) : Trie α := .node (some v) l r
def zM {α : Type} (l r : Trie α) : Trie α := .node none l r
def zp (b o : Nat) : Value := .pointer (some ⟨b, o, none⟩)
def zo : Value := .pointer none
def zq (b o n c : Nat) : Value := .slice (some ⟨b, o, none⟩) n c
def zn : Value := .slice none 0 0
def zI (n : Int) : Value := .int .i64 n
def zU (n : Int) : Value := .int .u64 n
def zW (n : Int) : Value := .int .u32 n
def zB (n : Int) : Value := .int .u8 n
def zz : Value := .string ⟨⟨[]⟩⟩
def zs (l : List UInt8) : Value := .string ⟨⟨l⟩⟩
def zf : Value := .bool false
def zt : Value := .bool true
def xS (l : List (FuncId × Tmp × Value)) : XNames := { theX with known := [18, 298], says := l }
def ansK : FuncId → List Value := fun _ => [.bool true]
noncomputable def st0 (a b : Int) (p : Bool) : ASt := ⟨frOf Tryz.prog 3 [.int .u8 a, .int .u8 b, .bool p], [], wA 9 0 rowsG⟩
theorem gP : POk Tryz.prog := pok_of (by kernel_rfl) (by kernel_rfl)
end Go.Proofs.YtjbnbliakfeobaaGreatDoor
