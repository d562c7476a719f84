/-
  Part 5 of 6: the abstract machine, then what the program does, then the statement. Printed short by a program of ours. Conditions: those of each theorem.
-/
import Derived.Test.YtebidlpekphaoaaGreatDoorPd
set_option maxRecDepth 100000
namespace Go.Proofs.YtebidlpekphaoaaGreatDoor
open Go.Abs
def Ha (ys:List ByteArray) (w:ByteArray):Bool:=GP w ys 0== -1 || (GP w ys 0==1 || GP w ys 0==3)
def Im (ys:List ByteArray) (w:ByteArray):Bool:=decide (2≤GP w ys 0)
def EQ:List ByteArray:=[txt Ob,txt Jr,txt FA,txt EE]
def KK:List ByteArray:=[txt Jt,txt Js,txt Ek,txt EE]
def BP (h:UInt8) (ws:List ByteArray) (bad:Bool) (c c':Ax) (r:List ByteArray) (bad':Bool):Prop:=
 if h=81 then ∃ (w:ByteArray) (b:Bool) (u:Word) (e:Bool),AK ws bad w r b∧TW (bl w) u e∧c'={ c with queue:=txt u }∧bad'=(b || e)
 else if h=84 then ∃ (w:ByteArray) (b:Bool) (u:Word) (e:Bool),AK ws bad w r b∧TW (bl w) u e∧c'={ c with tag:=txt u }∧bad'=(b || e)
 else if h=66 then ∃ (w:ByteArray) (b:Bool) (u:Word) (e:Bool),AK ws bad w r b∧TW (bl w) u e∧c'={ c with body:=txt u }∧bad'=(b || e)
 else if h=78 then ∃ (w:ByteArray) (b:Bool) (n:Nat) (e:Bool),AK ws bad w r b∧UW 4294967295 (bl w) n e∧c'={ c with n:=n }∧bad'=(b || e)
 else if h=88 then ∃ (w:ByteArray) (b:Bool) (x:Nm) (e:Bool),AK ws bad w r b∧XW (bl w) x e∧c'={ c with x:=x }∧bad'=(b || e)
 else if h=101 then ∃ (w:ByteArray) (b:Bool),AK ws bad w r b∧True∧c'={ c with a:=bl w==Gm }∧bad'=b
 else if h=109 then ∃ (w:ByteArray) (b:Bool),AK ws bad w r b∧True∧c'={ c with a:=bl w==Ih }∧bad'=b
 else if h=100 then ∃ (w:ByteArray) (b:Bool),AK ws bad w r b∧True∧c'={ c with a:=bl w==MU }∧bad'=b
 else if h=115 then ∃ (w:ByteArray) (b:Bool),AK ws bad w r b∧True∧c'={ c with a:=Ha EQ w,b:=Im EQ w }∧bad'=b
 else if h=102 then ∃ (w:ByteArray) (b:Bool),AK ws bad w r b∧True∧c'={ c with a:=Ha KK w,b:=Im KK w }∧bad'=b
 else if h=82 then ∃ (l:List (ByteArray × Nat)),Run RW ws bad l r bad'∧(r=[]∨bad'=true)∧c'={ c with refs:=l }
 else False
def Bj:List UInt8→List ByteArray→Bool→Ax→Ax→List ByteArray→Bool→Prop
 | [],ws,bad,c,c',r,bad'=>c'=c∧r=ws∧bad'=bad
 | h::hs,ws,bad,c,c',r,bad'=>∃ r1 b1 c1,BP h ws bad c c1 r1 b1∧Bj hs r1 b1 c1 c' r bad'
theorem Bj.nil {ws:List ByteArray} {bad:Bool} {c:Ax}:Bj [] ws bad c c ws bad:=⟨rfl,rfl,rfl⟩
theorem Bj.cons {h:UInt8} {hs:List UInt8} {ws r r1:List ByteArray} {bad bad' b1:Bool} {c c' c1:Ax} (h1:BP h ws bad c c1 r1 b1) (h2:Bj hs r1 b1 c1 c' r bad'):Bj (h::hs) ws bad c c' r bad':=⟨r1,b1,c1,h1,h2⟩
theorem tCQ {ws r:List ByteArray} {bad:Bool} {c:Ax} {w:ByteArray} {b:Bool} {u:Word} {e:Bool} (h1:AK ws bad w r b) (h2:TW (bl w) u e):BP 81 ws bad c { c with queue:=txt u } r (b || e):=by
 rw [BP,if_pos rfl];exact ⟨w,b,u,e,h1,h2,rfl,rfl⟩
theorem tCT {ws r:List ByteArray} {bad:Bool} {c:Ax} {w:ByteArray} {b:Bool} {u:Word} {e:Bool} (h1:AK ws bad w r b) (h2:TW (bl w) u e):BP 84 ws bad c { c with tag:=txt u } r (b || e):=by
 rw [BP,if_neg (by decide),if_pos rfl];exact ⟨w,b,u,e,h1,h2,rfl,rfl⟩
theorem tCB {ws r:List ByteArray} {bad:Bool} {c:Ax} {w:ByteArray} {b:Bool} {u:Word} {e:Bool} (h1:AK ws bad w r b) (h2:TW (bl w) u e):BP 66 ws bad c { c with body:=txt u } r (b || e):=by
 rw [BP,if_neg (by decide),if_neg (by decide),if_pos rfl];exact ⟨w,b,u,e,h1,h2,rfl,rfl⟩
theorem tCN {ws r:List ByteArray} {bad:Bool} {c:Ax} {w:ByteArray} {b:Bool} {n:Nat} {e:Bool} (h1:AK ws bad w r b) (h2:UW 4294967295 (bl w) n e):BP 78 ws bad c { c with n:=n } r (b || e):=by
 rw [BP,if_neg (by decide),if_neg (by decide),if_neg (by decide),if_pos rfl];exact ⟨w,b,n,e,h1,h2,rfl,rfl⟩
theorem tCX {ws r:List ByteArray} {bad:Bool} {c:Ax} {w:ByteArray} {b:Bool} {x:Nm} {e:Bool} (h1:AK ws bad w r b) (h2:XW (bl w) x e):BP 88 ws bad c { c with x:=x } r (b || e):=by
 rw [BP,if_neg (by decide),if_neg (by decide),if_neg (by decide),if_neg (by decide),if_pos rfl];exact ⟨w,b,x,e,h1,h2,rfl,rfl⟩
theorem tCE {ws r:List ByteArray} {bad:Bool} {c:Ax} {w:ByteArray} {b:Bool} (h1:AK ws bad w r b) :BP 101 ws bad c { c with a:=bl w==Gm } r b:=by
 rw [BP,if_neg (by decide),if_neg (by decide),if_neg (by decide),if_neg (by decide),if_neg (by decide),if_pos rfl];exact ⟨w,b,h1,trivial,rfl,rfl⟩
theorem tCM {ws r:List ByteArray} {bad:Bool} {c:Ax} {w:ByteArray} {b:Bool} (h1:AK ws bad w r b) :BP 109 ws bad c { c with a:=bl w==Ih } r b:=by
 rw [BP,if_neg (by decide),if_neg (by decide),if_neg (by decide),if_neg (by decide),if_neg (by decide),if_neg (by decide),if_pos rfl];exact ⟨w,b,h1,trivial,rfl,rfl⟩
theorem tCD {ws r:List ByteArray} {bad:Bool} {c:Ax} {w:ByteArray} {b:Bool} (h1:AK ws bad w r b) :BP 100 ws bad c { c with a:=bl w==MU } r b:=by
 rw [BP,if_neg (by decide),if_neg (by decide),if_neg (by decide),if_neg (by decide),if_neg (by decide),if_neg (by decide),if_neg (by decide),if_pos rfl];exact ⟨w,b,h1,trivial,rfl,rfl⟩
theorem tCS {ws r:List ByteArray} {bad:Bool} {c:Ax} {w:ByteArray} {b:Bool} (h1:AK ws bad w r b) :BP 115 ws bad c { c with a:=Ha EQ w,b:=Im EQ w } r b:=by
 rw [BP,if_neg (by decide),if_neg (by decide),if_neg (by decide),if_neg (by decide),if_neg (by decide),if_neg (by decide),if_neg (by decide),if_neg (by decide),if_pos rfl];exact ⟨w,b,h1,trivial,rfl,rfl⟩
theorem tCF {ws r:List ByteArray} {bad:Bool} {c:Ax} {w:ByteArray} {b:Bool} (h1:AK ws bad w r b) :BP 102 ws bad c { c with a:=Ha KK w,b:=Im KK w } r b:=by
 rw [BP,if_neg (by decide),if_neg (by decide),if_neg (by decide),if_neg (by decide),if_neg (by decide),if_neg (by decide),if_neg (by decide),if_neg (by decide),if_neg (by decide),if_pos rfl];exact ⟨w,b,h1,trivial,rfl,rfl⟩
theorem tCR {ws r:List ByteArray} {bad bad':Bool} {c:Ax} {l:List (ByteArray × Nat)} (h1:Run RW ws bad l r bad') (h2:(r=[]∨bad'=true)):BP 82 ws bad c { c with refs:=l } r bad':=by
 rw [BP,if_neg (by decide),if_neg (by decide),if_neg (by decide),if_neg (by decide),if_neg (by decide),if_neg (by decide),if_neg (by decide),if_neg (by decide),if_neg (by decide),if_neg (by decide),if_pos rfl];exact ⟨l,h1,h2,rfl⟩
theorem iCQ {ws r:List ByteArray} {bad bad':Bool} {c c':Ax} (h:BP 81 ws bad c c' r bad'):∃ (w:ByteArray) (b:Bool) (u:Word) (e:Bool),AK ws bad w r b∧TW (bl w) u e∧c'={ c with queue:=txt u }∧bad'=(b || e):=by
 rw [BP,if_pos rfl] at h;exact h
theorem iCT {ws r:List ByteArray} {bad bad':Bool} {c c':Ax} (h:BP 84 ws bad c c' r bad'):∃ (w:ByteArray) (b:Bool) (u:Word) (e:Bool),AK ws bad w r b∧TW (bl w) u e∧c'={ c with tag:=txt u }∧bad'=(b || e):=by
 rw [BP,if_neg (by decide),if_pos rfl] at h;exact h
theorem iCB {ws r:List ByteArray} {bad bad':Bool} {c c':Ax} (h:BP 66 ws bad c c' r bad'):∃ (w:ByteArray) (b:Bool) (u:Word) (e:Bool),AK ws bad w r b∧TW (bl w) u e∧c'={ c with body:=txt u }∧bad'=(b || e):=by
 rw [BP,if_neg (by decide),if_neg (by decide),if_pos rfl] at h;exact h
theorem iCN {ws r:List ByteArray} {bad bad':Bool} {c c':Ax} (h:BP 78 ws bad c c' r bad'):∃ (w:ByteArray) (b:Bool) (n:Nat) (e:Bool),AK ws bad w r b∧UW 4294967295 (bl w) n e∧c'={ c with n:=n }∧bad'=(b || e):=by
 rw [BP,if_neg (by decide),if_neg (by decide),if_neg (by decide),if_pos rfl] at h;exact h
theorem iCX {ws r:List ByteArray} {bad bad':Bool} {c c':Ax} (h:BP 88 ws bad c c' r bad'):∃ (w:ByteArray) (b:Bool) (x:Nm) (e:Bool),AK ws bad w r b∧XW (bl w) x e∧c'={ c with x:=x }∧bad'=(b || e):=by
 rw [BP,if_neg (by decide),if_neg (by decide),if_neg (by decide),if_neg (by decide),if_pos rfl] at h;exact h
theorem iCE {ws r:List ByteArray} {bad bad':Bool} {c c':Ax} (h:BP 101 ws bad c c' r bad'):∃ (w:ByteArray) (b:Bool),AK ws bad w r b∧True∧c'={ c with a:=bl w==Gm }∧bad'=b:=by
 rw [BP,if_neg (by decide),if_neg (by decide),if_neg (by decide),if_neg (by decide),if_neg (by decide),if_pos rfl] at h;exact h
theorem iCM {ws r:List ByteArray} {bad bad':Bool} {c c':Ax} (h:BP 109 ws bad c c' r bad'):∃ (w:ByteArray) (b:Bool),AK ws bad w r b∧True∧c'={ c with a:=bl w==Ih }∧bad'=b:=by
 rw [BP,if_neg (by decide),if_neg (by decide),if_neg (by decide),if_neg (by decide),if_neg (by decide),if_neg (by decide),if_pos rfl] at h;exact h
theorem iCD {ws r:List ByteArray} {bad bad':Bool} {c c':Ax} (h:BP 100 ws bad c c' r bad'):∃ (w:ByteArray) (b:Bool),AK ws bad w r b∧True∧c'={ c with a:=bl w==MU }∧bad'=b:=by
 rw [BP,if_neg (by decide),if_neg (by decide),if_neg (by decide),if_neg (by decide),if_neg (by decide),if_neg (by decide),if_neg (by decide),if_pos rfl] at h;exact h
theorem iCS {ws r:List ByteArray} {bad bad':Bool} {c c':Ax} (h:BP 115 ws bad c c' r bad'):∃ (w:ByteArray) (b:Bool),AK ws bad w r b∧True∧c'={ c with a:=Ha EQ w,b:=Im EQ w }∧bad'=b:=by
 rw [BP,if_neg (by decide),if_neg (by decide),if_neg (by decide),if_neg (by decide),if_neg (by decide),if_neg (by decide),if_neg (by decide),if_neg (by decide),if_pos rfl] at h;exact h
theorem iCF {ws r:List ByteArray} {bad bad':Bool} {c c':Ax} (h:BP 102 ws bad c c' r bad'):∃ (w:ByteArray) (b:Bool),AK ws bad w r b∧True∧c'={ c with a:=Ha KK w,b:=Im KK w }∧bad'=b:=by
 rw [BP,if_neg (by decide),if_neg (by decide),if_neg (by decide),if_neg (by decide),if_neg (by decide),if_neg (by decide),if_neg (by decide),if_neg (by decide),if_neg (by decide),if_pos rfl] at h;exact h
theorem iCR {ws r:List ByteArray} {bad bad':Bool} {c c':Ax} (h:BP 82 ws bad c c' r bad'):∃ (l:List (ByteArray × Nat)),Run RW ws bad l r bad'∧(r=[]∨bad'=true)∧c'={ c with refs:=l }:=by
 rw [BP,if_neg (by decide),if_neg (by decide),if_neg (by decide),if_neg (by decide),if_neg (by decide),if_neg (by decide),if_neg (by decide),if_neg (by decide),if_neg (by decide),if_neg (by decide),if_pos rfl] at h;exact h
def Mk (ws:List ByteArray) (bad:Bool) (c:Ax) (r:List ByteArray) (bad':Bool):Prop:=
 ∃ w r1 b n e w2 r2 b2,AK ws bad w r1 b∧UW 18446744073709551615 (bl w) n e∧AK r1 (b || e) w2 r2 b2∧Bj (partsOf (Jv (bl w2))).2 r2 b2 { Bf with ses:=n,what:=Jv (bl w2) } c r bad'
def B9 (h:UInt8) (ws:List ByteArray) (bad:Bool) (v v':EvD) (r:List ByteArray) (bad':Bool):Prop:=
 if h=110 then ∃ (w:ByteArray) (b:Bool) (n:Nat) (e:Bool),AK ws bad w r b∧UW 255 (bl w) n e∧v'={ v with node:=n }∧bad'=(b || e)
 else if h=116 then ∃ (w:ByteArray) (b:Bool) (n:Nat) (e:Bool),AK ws bad w r b∧UW 255 (bl w) n e∧v'={ v with to:=n }∧bad'=(b || e)
 else if h=105 then ∃ (w:ByteArray) (b:Bool) (n:Int) (e:Bool),AK ws bad w r b∧IW (bl w) n e∧v'={ v with n:=n }∧bad'=(b || e)
 else if h=88 then ∃ (w:ByteArray) (b:Bool) (x:Nm) (e:Bool),AK ws bad w r b∧XW (bl w) x e∧v'={ v with x:=x }∧bad'=(b || e)
 else if h=99 then ∃ (w:ByteArray) (b:Bool),AK ws bad w r b∧True∧v'={ v with a:=bl w==DV }∧bad'=b
 else if h=83 then ∃ (w:ByteArray) (b:Bool) (u:Word) (e:Bool),AK ws bad w r b∧TW (bl w) u e∧v'={ v with s:=txt u }∧bad'=(b || e)
 else if h=98 then ∃ (l:List Nat),Run (UW 255) ws bad l r bad'∧(r=[]∨bad'=true)∧v'={ v with nodes:=l }
 else if h=107 then ∃ (l:List Int),Run IW ws bad l r bad'∧(r=[]∨bad'=true)∧v'={ v with keep:=l }
 else if h=67 then ∃ (c:Ax),Mk ws bad c r bad'∧True∧v'={ v with call:=c }
 else False
def Be:List UInt8→List ByteArray→Bool→EvD→EvD→List ByteArray→Bool→Prop
 | [],ws,bad,c,c',r,bad'=>c'=c∧r=ws∧bad'=bad
 | h::hs,ws,bad,c,c',r,bad'=>∃ r1 b1 c1,B9 h ws bad c c1 r1 b1∧Be hs r1 b1 c1 c' r bad'
theorem Be.nil {ws:List ByteArray} {bad:Bool} {c:EvD}:Be [] ws bad c c ws bad:=⟨rfl,rfl,rfl⟩
theorem Be.cons {h:UInt8} {hs:List UInt8} {ws r r1:List ByteArray} {bad bad' b1:Bool} {c c' c1:EvD} (h1:B9 h ws bad c c1 r1 b1) (h2:Be hs r1 b1 c1 c' r bad'):Be (h::hs) ws bad c c' r bad':=⟨r1,b1,c1,h1,h2⟩
theorem tEn {ws r:List ByteArray} {bad:Bool} {v:EvD} {w:ByteArray} {b:Bool} {n:Nat} {e:Bool} (h1:AK ws bad w r b) (h2:UW 255 (bl w) n e):B9 110 ws bad v { v with node:=n } r (b || e):=by
 rw [B9,if_pos rfl];exact ⟨w,b,n,e,h1,h2,rfl,rfl⟩
theorem tEt {ws r:List ByteArray} {bad:Bool} {v:EvD} {w:ByteArray} {b:Bool} {n:Nat} {e:Bool} (h1:AK ws bad w r b) (h2:UW 255 (bl w) n e):B9 116 ws bad v { v with to:=n } r (b || e):=by
 rw [B9,if_neg (by decide),if_pos rfl];exact ⟨w,b,n,e,h1,h2,rfl,rfl⟩
theorem tEi {ws r:List ByteArray} {bad:Bool} {v:EvD} {w:ByteArray} {b:Bool} {n:Int} {e:Bool} (h1:AK ws bad w r b) (h2:IW (bl w) n e):B9 105 ws bad v { v with n:=n } r (b || e):=by
 rw [B9,if_neg (by decide),if_neg (by decide),if_pos rfl];exact ⟨w,b,n,e,h1,h2,rfl,rfl⟩
theorem tEX {ws r:List ByteArray} {bad:Bool} {v:EvD} {w:ByteArray} {b:Bool} {x:Nm} {e:Bool} (h1:AK ws bad w r b) (h2:XW (bl w) x e):B9 88 ws bad v { v with x:=x } r (b || e):=by
 rw [B9,if_neg (by decide),if_neg (by decide),if_neg (by decide),if_pos rfl];exact ⟨w,b,x,e,h1,h2,rfl,rfl⟩
theorem tEc {ws r:List ByteArray} {bad:Bool} {v:EvD} {w:ByteArray} {b:Bool} (h1:AK ws bad w r b) :B9 99 ws bad v { v with a:=bl w==DV } r b:=by
 rw [B9,if_neg (by decide),if_neg (by decide),if_neg (by decide),if_neg (by decide),if_pos rfl];exact ⟨w,b,h1,trivial,rfl,rfl⟩
theorem tES {ws r:List ByteArray} {bad:Bool} {v:EvD} {w:ByteArray} {b:Bool} {u:Word} {e:Bool} (h1:AK ws bad w r b) (h2:TW (bl w) u e):B9 83 ws bad v { v with s:=txt u } r (b || e):=by
 rw [B9,if_neg (by decide),if_neg (by decide),if_neg (by decide),if_neg (by decide),if_neg (by decide),if_pos rfl];exact ⟨w,b,u,e,h1,h2,rfl,rfl⟩
theorem tEb {ws r:List ByteArray} {bad bad':Bool} {v:EvD} {l:List Nat} (h1:Run (UW 255) ws bad l r bad') (h2:(r=[]∨bad'=true)):B9 98 ws bad v { v with nodes:=l } r bad':=by
 rw [B9,if_neg (by decide),if_neg (by decide),if_neg (by decide),if_neg (by decide),if_neg (by decide),if_neg (by decide),if_pos rfl];exact ⟨l,h1,h2,rfl⟩
theorem tEk {ws r:List ByteArray} {bad bad':Bool} {v:EvD} {l:List Int} (h1:Run IW ws bad l r bad') (h2:(r=[]∨bad'=true)):B9 107 ws bad v { v with keep:=l } r bad':=by
 rw [B9,if_neg (by decide),if_neg (by decide),if_neg (by decide),if_neg (by decide),if_neg (by decide),if_neg (by decide),if_neg (by decide),if_pos rfl];exact ⟨l,h1,h2,rfl⟩
theorem tEC {ws r:List ByteArray} {bad bad':Bool} {v:EvD} {c:Ax} (h1:Mk ws bad c r bad') (h2:True):B9 67 ws bad v { v with call:=c } r bad':=by
 rw [B9,if_neg (by decide),if_neg (by decide),if_neg (by decide),if_neg (by decide),if_neg (by decide),if_neg (by decide),if_neg (by decide),if_neg (by decide),if_pos rfl];exact ⟨c,h1,h2,rfl⟩
theorem iEn {ws r:List ByteArray} {bad bad':Bool} {v v':EvD} (h:B9 110 ws bad v v' r bad'):∃ (w:ByteArray) (b:Bool) (n:Nat) (e:Bool),AK ws bad w r b∧UW 255 (bl w) n e∧v'={ v with node:=n }∧bad'=(b || e):=by
 rw [B9,if_pos rfl] at h;exact h
theorem iEt {ws r:List ByteArray} {bad bad':Bool} {v v':EvD} (h:B9 116 ws bad v v' r bad'):∃ (w:ByteArray) (b:Bool) (n:Nat) (e:Bool),AK ws bad w r b∧UW 255 (bl w) n e∧v'={ v with to:=n }∧bad'=(b || e):=by
 rw [B9,if_neg (by decide),if_pos rfl] at h;exact h
theorem iEi {ws r:List ByteArray} {bad bad':Bool} {v v':EvD} (h:B9 105 ws bad v v' r bad'):∃ (w:ByteArray) (b:Bool) (n:Int) (e:Bool),AK ws bad w r b∧IW (bl w) n e∧v'={ v with n:=n }∧bad'=(b || e):=by
 rw [B9,if_neg (by decide),if_neg (by decide),if_pos rfl] at h;exact h
theorem iEX {ws r:List ByteArray} {bad bad':Bool} {v v':EvD} (h:B9 88 ws bad v v' r bad'):∃ (w:ByteArray) (b:Bool) (x:Nm) (e:Bool),AK ws bad w r b∧XW (bl w) x e∧v'={ v with x:=x }∧bad'=(b || e):=by
 rw [B9,if_neg (by decide),if_neg (by decide),if_neg (by decide),if_pos rfl] at h;exact h
theorem iEc {ws r:List ByteArray} {bad bad':Bool} {v v':EvD} (h:B9 99 ws bad v v' r bad'):∃ (w:ByteArray) (b:Bool),AK ws bad w r b∧True∧v'={ v with a:=bl w==DV }∧bad'=b:=by
 rw [B9,if_neg (by decide),if_neg (by decide),if_neg (by decide),if_neg (by decide),if_pos rfl] at h;exact h
theorem iES {ws r:List ByteArray} {bad bad':Bool} {v v':EvD} (h:B9 83 ws bad v v' r bad'):∃ (w:ByteArray) (b:Bool) (u:Word) (e:Bool),AK ws bad w r b∧TW (bl w) u e∧v'={ v with s:=txt u }∧bad'=(b || e):=by
 rw [B9,if_neg (by decide),if_neg (by decide),if_neg (by decide),if_neg (by decide),if_neg (by decide),if_pos rfl] at h;exact h
theorem iEb {ws r:List ByteArray} {bad bad':Bool} {v v':EvD} (h:B9 98 ws bad v v' r bad'):∃ (l:List Nat),Run (UW 255) ws bad l r bad'∧(r=[]∨bad'=true)∧v'={ v with nodes:=l }:=by
 rw [B9,if_neg (by decide),if_neg (by decide),if_neg (by decide),if_neg (by decide),if_neg (by decide),if_neg (by decide),if_pos rfl] at h;exact h
theorem iEk {ws r:List ByteArray} {bad bad':Bool} {v v':EvD} (h:B9 107 ws bad v v' r bad'):∃ (l:List Int),Run IW ws bad l r bad'∧(r=[]∨bad'=true)∧v'={ v with keep:=l }:=by
 rw [B9,if_neg (by decide),if_neg (by decide),if_neg (by decide),if_neg (by decide),if_neg (by decide),if_neg (by decide),if_neg (by decide),if_pos rfl] at h;exact h
theorem iEC {ws r:List ByteArray} {bad bad':Bool} {v v':EvD} (h:B9 67 ws bad v v' r bad'):∃ (c:Ax),Mk ws bad c r bad'∧True∧v'={ v with call:=c }:=by
 rw [B9,if_neg (by decide),if_neg (by decide),if_neg (by decide),if_neg (by decide),if_neg (by decide),if_neg (by decide),if_neg (by decide),if_neg (by decide),if_pos rfl] at h;exact h
def EvT (ws:List ByteArray) (v:EvD) (r:List ByteArray) (bad':Bool):Prop:=
 ∃ w r1 b,AK ws false w r1 b∧Be (Aj (Ju (bl w))).2 r1 b { Cl with kind:=Ju (bl w) } v r bad'
def Ax.cells (c:Ax) (vr:Value):List Value:=[.int .u8 (c.what:Int),.int .u64 (c.ses:Int),.string c.queue,.string c.tag,.int .u32 (c.x.f:Int),.string c.x.g,.string c.x.b,.int .u32 (c.n:Int),.bool c.a,.bool c.b,vr,.string c.body]
def EvD.cells (v:EvD) (vn vk vr:Value):List Value:=[.int .u8 (v.kind:Int),.int .u8 (v.node:Int),.int .u8 (v.to:Int),.int .i64 v.n,.int .u32 (v.x.f:Int),.string v.x.g,.string v.x.b,vn,vk,.string v.s,.bool v.a,
 .int .u8 (v.call.what:Int),.int .u64 (v.call.ses:Int),.string v.call.queue,.string v.call.tag,.int .u32 (v.call.x.f:Int),.string v.call.x.g,.string v.call.x.b,.int .u32 (v.call.n:Int),.bool v.call.a,.bool v.call.b,vr,.string v.call.body]
def vN:Value:=.slice none 0 0
theorem Eo (c:Ax) {vr:Value} (h:isTuple vr=false):(c.cells vr).all (fun v=>!isTuple v)=true:=by simp [Ax.cells,h,TO,NA,Rl]
theorem Fk (v:EvD) {vn vk vr:Value} (h1:isTuple vn=false) (h2:isTuple vk=false) (h3:isTuple vr=false):(v.cells vn vk vr).all (fun v=>!isTuple v)=true:=by simp [EvD.cells,h1,h2,h3,TO,NA,Rl]
theorem C4 (c:Ax) {vr:Value} (h:AL vr=true):(c.cells vr).all AL=true:=by simp [Ax.cells,h,TF,Nl,Nn]
theorem D7 (v:EvD) {vn vk vr:Value} (h1:AL vn=true) (h2:AL vk=true) (h3:AL vr=true):(v.cells vn vk vr).all AL=true:=by simp [EvD.cells,h1,h2,h3,TF,Nl,Nn]
theorem DI (b o:Nat):Ac Tp 38 (.pointer (some ⟨b,o,none⟩)) 0=some (.pointer (some ⟨b,o,none⟩)):=by kernel_rfl
theorem Gb (b o:Nat):Ac Tp 38 (.pointer (some ⟨b,o,none⟩)) 1=some (.pointer (some ⟨b,o+1,none⟩)):=by kernel_rfl
theorem Ct (b o:Nat):Ac Tp 38 (.pointer (some ⟨b,o,none⟩)) 2=some (.pointer (some ⟨b,o+2,none⟩)):=by kernel_rfl
theorem CA (b o:Nat):Ac Tp 38 (.pointer (some ⟨b,o,none⟩)) 3=some (.pointer (some ⟨b,o+3,none⟩)):=by kernel_rfl
theorem Du (b o:Nat):Ac Tp 38 (.pointer (some ⟨b,o,none⟩)) 4=some (.pointer (some ⟨b,o+4,none⟩)):=by kernel_rfl
theorem CU (b o:Nat):Ac Tp 38 (.pointer (some ⟨b,o,none⟩)) 5=some (.pointer (some ⟨b,o+7,none⟩)):=by kernel_rfl
theorem BZ (b o:Nat):Ac Tp 38 (.pointer (some ⟨b,o,none⟩)) 6=some (.pointer (some ⟨b,o+8,none⟩)):=by kernel_rfl
theorem Dj (b o:Nat):Ac Tp 38 (.pointer (some ⟨b,o,none⟩)) 7=some (.pointer (some ⟨b,o+9,none⟩)):=by kernel_rfl
theorem Di (b o:Nat):Ac Tp 38 (.pointer (some ⟨b,o,none⟩)) 8=some (.pointer (some ⟨b,o+10,none⟩)):=by kernel_rfl
theorem Eh (b o:Nat):Ac Tp 38 (.pointer (some ⟨b,o,none⟩)) 9=some (.pointer (some ⟨b,o+11,none⟩)):=by kernel_rfl
theorem D2 (b o:Nat):Ac Tp 40 (.pointer (some ⟨b,o,none⟩)) 0=some (.pointer (some ⟨b,o,none⟩)):=by kernel_rfl
theorem Bw (b o:Nat):Ac Tp 40 (.pointer (some ⟨b,o,none⟩)) 1=some (.pointer (some ⟨b,o+1,none⟩)):=by kernel_rfl
theorem CM (b o:Nat):Ac Tp 40 (.pointer (some ⟨b,o,none⟩)) 2=some (.pointer (some ⟨b,o+2,none⟩)):=by kernel_rfl
theorem BC (b o:Nat):Ac Tp 40 (.pointer (some ⟨b,o,none⟩)) 3=some (.pointer (some ⟨b,o+3,none⟩)):=by kernel_rfl
theorem Dt (b o:Nat):Ac Tp 40 (.pointer (some ⟨b,o,none⟩)) 4=some (.pointer (some ⟨b,o+4,none⟩)):=by kernel_rfl
theorem D1 (b o:Nat):Ac Tp 40 (.pointer (some ⟨b,o,none⟩)) 5=some (.pointer (some ⟨b,o+7,none⟩)):=by kernel_rfl
theorem D0 (b o:Nat):Ac Tp 40 (.pointer (some ⟨b,o,none⟩)) 6=some (.pointer (some ⟨b,o+8,none⟩)):=by kernel_rfl
theorem DZ (b o:Nat):Ac Tp 40 (.pointer (some ⟨b,o,none⟩)) 7=some (.pointer (some ⟨b,o+9,none⟩)):=by kernel_rfl
theorem Ds (b o:Nat):Ac Tp 40 (.pointer (some ⟨b,o,none⟩)) 8=some (.pointer (some ⟨b,o+10,none⟩)):=by kernel_rfl
theorem CJ (b o:Nat):Ac Tp 40 (.pointer (some ⟨b,o,none⟩)) 9=some (.pointer (some ⟨b,o+11,none⟩)):=by kernel_rfl
theorem Hy (A:AW) (a:Addr) (v:Value):AZ Tp A 5 (.pointer (some a)) v=(bif Nat.beq v.cells.toList.length 1 then A.setCells a v.cells.toList else none):=by kernel_rfl
theorem Ty (A:AW) (a:Addr) (v:Value):AZ Tp A 30 (.pointer (some a)) v=(bif Nat.beq v.cells.toList.length 1 then A.setCells a v.cells.toList else none):=by kernel_rfl
theorem Yi (A:AW) (a:Addr) (v:Value):AZ Tp A 34 (.pointer (some a)) v=(bif Nat.beq v.cells.toList.length 1 then A.setCells a v.cells.toList else none):=by kernel_rfl
theorem Tx (A:AW) (a:Addr) (v:Value):AZ Tp A 36 (.pointer (some a)) v=(bif Nat.beq v.cells.toList.length 1 then A.setCells a v.cells.toList else none):=by kernel_rfl
theorem Hz (A:AW) (a:Addr) (v:Value):AZ Tp A 38 (.pointer (some a)) v=(bif Nat.beq v.cells.toList.length 12 then A.setCells a v.cells.toList else none):=by kernel_rfl
theorem Jw (A:AW) (a:Addr) (v:Value):AZ Tp A 40 (.pointer (some a)) v=(bif Nat.beq v.cells.toList.length 23 then A.setCells a v.cells.toList else none):=by kernel_rfl
theorem AaY (A:AW) (a:Addr):Au Tp A 34 (.pointer (some a))=A.cell? a:=by kernel_rfl
theorem Yv (A:AW) (a:Addr):Au Tp A 36 (.pointer (some a))=A.cell? a:=by kernel_rfl
theorem JD (A:AW) (a:Addr):Au Tp A 38 (.pointer (some a))=(match A.cells? a 12 with | some l=>some (.agg ⟨l⟩) | none=>none):=by kernel_rfl
theorem HF (A:AW) (a:Addr):Au Tp A 40 (.pointer (some a))=(match A.cells? a 23 with | some l=>some (.agg ⟨l⟩) | none=>none):=by kernel_rfl
theorem Hh:Dv Tp 38=some (.agg #[.int .u8 0,.int .u64 0,.string .empty,.string .empty,.int .u32 0,.string .empty,.string .empty,.int .u32 0,.bool false,.bool false,.slice none 0 0,.string .empty]):=by kernel_rfl
theorem Hg:Dv Tp 40=some (.agg #[.int .u8 0,.int .u8 0,.int .u8 0,.int .i64 0,.int .u32 0,.string .empty,.string .empty,.slice none 0 0,.slice none 0 0,.string .empty,.bool false,.int .u8 0,.int .u64 0,.string .empty,.string .empty,.int .u32 0,.string .empty,.string .empty,.int .u32 0,.bool false,.bool false,.slice none 0 0,.string .empty]):=by kernel_rfl
theorem Adt (n:Int):B0 Tp 38 [(1,.int .u64 n)]=some (.agg ⟨[.int .u8 0,.int .u64 n,.string .empty,.string .empty,.int .u32 0,.string .empty,.string .empty,.int .u32 0,.bool false,.bool false,.slice none 0 0,.string .empty]⟩):=by kernel_rfl
theorem Ads (n:Int):B0 Tp 40 [(0,.int .u8 n)]=some (.agg ⟨[.int .u8 n,.int .u8 0,.int .u8 0,.int .i64 0,.int .u32 0,.string .empty,.string .empty,.slice none 0 0,.slice none 0 0,.string .empty,.bool false,.int .u8 0,.int .u64 0,.string .empty,.string .empty,.int .u32 0,.string .empty,.string .empty,.int .u32 0,.bool false,.bool false,.slice none 0 0,.string .empty]⟩):=by kernel_rfl
theorem Cj {A:AW} {b:Nat} {cs:List Value} {e:TypeId} {n:Nat} {r:Option Value} (h:Go.Abs.AQ A b cs e) (hc:cs.all (fun v=>!isTuple v)=true) (hn:cs.length=n) (hr:r=(match A.cells? ⟨b,0,none⟩ n with | some l=>some (.agg ⟨l⟩) | none=>none)):r=some (.agg ⟨cs⟩):=by
 have:=CI cs [] hc
 rw [List.append_nil,hn] at this
 rw [hr,CD h.row,List.drop_zero,this]
structure SW (A0 A:AW) (q p0 p3:Nat) (z cs:List Value) (ty:TypeId) (F:List Nat) (ws:List ByteArray) (bad:Bool):Prop where
 r0:Go.Abs.AQ A p0 z ty
 r3:Go.Abs.AQ A p3 cs ty
 tk:TK A q ws bad F
 k:Aw A0 A [q]
 f:AJ A
 n0:A0.next≤p0
 n3:p0 < p3
 nq:q < A0.next
 nF:∀ x∈F,x < A0.next
theorem SW.take {A0 A A':AW} {q p0 p3:Nat} {z cs:List Value} {ty:TypeId} {F:List Nat} {ws ws':List ByteArray} {bad bad':Bool} (h:SW A0 A q p0 p3 z cs ty F ws bad) (tk:TK A' q ws' bad' F) (k:Aw A A' [q]) (f:AJ A'):SW A0 A' q p0 p3 z cs ty F ws' bad':=by
 have h0:=h.n0
 have h3:=h.n3
 have hq:=h.nq
 exact ⟨h.r0.keeps k (by simp;omega),h.r3.keeps k (by simp;omega),tk,h.k.trans k fun x hx=>.inl hx,f,h.n0,h.n3,h.nq,h.nF⟩
theorem SW.grow {A0 A A':AW} {q p0 p3:Nat} {z cs:List Value} {ty:TypeId} {F:List Nat} {ws:List ByteArray} {bad:Bool} (h:SW A0 A q p0 p3 z cs ty F ws bad) (k:Aw A A' []) (f:AJ A'):SW A0 A' q p0 p3 z cs ty F ws bad:=
 h.take (h.tk.keeps k (by simp) (by simp)) (k.more (by simp)) f
theorem SW.ge {A0 A:AW} {q p0 p3:Nat} {z cs:List Value} {ty:TypeId} {F:List Nat} {ws:List ByteArray} {bad:Bool} (h:SW A0 A q p0 p3 z cs ty F ws bad) (hg:GE A0) (hq:8≤q):GE A:=hg.keeps h.k fun x hx=>by rw [List.mem_singleton.1 hx];exact hq
theorem SW.fam {A0 A:AW} {q p0 p3:Nat} {z cs:List Value} {ty:TypeId} {F:List Nat} {ws:List ByteArray} {bad:Bool} (h:SW A0 A q p0 p3 z cs ty F ws bad):∀ x∈F,x < A.next:=fun x hx=>Nat.lt_of_lt_of_le (h.nF x hx) h.k.next
theorem SW.set {A0 A:AW} {q p0 p3 n off:Nat} {z cs:List Value} {ty:TypeId} {F:List Nat} {ws:List ByteArray} {bad:Bool} {v:Value} {r:Option AW} {K:AW→Prop} (h:SW A0 A q p0 p3 z cs ty F ws bad) (hA:A.next≤Al) (hr:r=(bif Nat.beq v.cells.toList.length n then A.setCells ⟨p3,off,none⟩ v.cells.toList else none))
  (hv:v.cells.toList.length=n) (hl:off+n≤cs.length) (ho:v.cells.toList.all AL=true) (hk:∀ A',SW A0 A' q p0 p3 z (Ip cs off v.cells.toList) ty F ws bad→Aw A A' [p3]→A'.next=A.next→K A'):Bp r K:=by
 have h0:=h.n0
 have h3:=h.n3
 have hq:=h.nq
 refine Go.Abs.AQ.store h.r3 h.f hA hr hv hl ho fun A' r' k n f=>?_
 refine hk A' ⟨h.r0.keeps k (by simp;omega),r',h.tk.keeps k (by simp;omega) (fun x hx=>by have:=h.nF x hx;simp;omega),h.k.trans k fun x hx=>.inr (by rw [List.mem_singleton.1 hx];omega),f,h.n0,h.n3,h.nq,h.nF⟩ k n
def Co (c:Ax) (h:UInt8):List Word:=(J4 c h).getD [[]]
def Bv (c:Ax):List Word:=Lib.decDigits c.ses::(partsOf c.what).1::(partsOf c.what).2.flatMap (Co c)
def Ce (v:EvD) (h:UInt8):List Word:=if h=67 then Bv v.call else (Ir v h).getD [[]]
def Bg (v:EvD):List Word:=(Aj v.kind).1::(Aj v.kind).2.flatMap (Ce v)
theorem Pd {c:Ax}:∀ {hs:List UInt8} {ws ws':List Word} {l l':Ax},goC c hs ws l=some (ws',l')→ws'=ws++hs.flatMap (Co c)
 | [],ws,ws',l,l',h=>by
  simp only [goC,Option.some.injEq,Prod.mk.injEq] at h
  simp [h.1]
 | x::hs,ws,ws',l,l',h=>by
  unfold goC at h
  cases hx:J4 c x with
  | none=>rw [hx] at h;cases h
  | some w=>
   rw [hx] at h
   have hw:Co c x=w:=by unfold Co;rw [hx];rfl
   rw [Pd h,List.flatMap_cons,List.append_assoc,hw]
theorem LF {c l:Ax} {ws:List Word} (h:CT c=some (ws,l)):ws=Bv c:=by
 have:=Pd h
 rw [this];rfl
theorem Li {v:EvD} {x:UInt8} {w:List Word} (h:Ir v x=some w):Ce v x=w:=by
 unfold Ce
 split
 ·rename_i hx
  subst hx
  have h:(match CT v.call with | some (ws,_)=>if (partsOf v.call.what).1=[] then none else some ws | none=>none)=some w:=h
  cases hc:CT v.call with
  | none=>rw [hc] at h;cases h
  | some p=>
   rw [hc] at h
   obtain ⟨ws,l⟩:=p
   simp only at h
   split at h
   ·cases h
   ·cases h
    exact (LF hc).symm
 ·rw [h];rfl
theorem Lk {v:EvD}:∀ {hs:List UInt8} {ws ws':List Word} {l l':EvD},goE v hs ws l=some (ws',l')→ws'=ws++hs.flatMap (Ce v)
 | [],ws,ws',l,l',h=>by
  simp only [goE,Option.some.injEq,Prod.mk.injEq] at h
  simp [h.1]
 | x::hs,ws,ws',l,l',h=>by
  unfold goE at h
  cases hx:Ir v x with
  | none=>rw [hx] at h;cases h
  | some w=>
   rw [hx] at h
   rw [Lk h,List.flatMap_cons,List.append_assoc,Li hx]
theorem C0 {v:EvD} {ws:List Word}:DE v=some ws↔ws=Bg v∧goE v (Aj v.kind).2 [(Aj v.kind).1] { v with kind:=0 }=some (ws,Cl)∧(Aj v.kind).1≠[]:=by
 unfold DE
 cases hg:goE v (Aj v.kind).2 [(Aj v.kind).1] { v with kind:=0 } with
 | none=>simp
 | some p=>
  obtain ⟨w,l⟩:=p
  simp only [Option.some.injEq,Prod.mk.injEq]
  constructor
  ·intro h
   split at h
   ·rename_i h2
    cases h
    exact ⟨Lk hg,⟨rfl,h2.2⟩,h2.1⟩
   ·cases h
  ·rintro ⟨_,⟨h2,h3⟩,h4⟩
   rw [if_pos ⟨h4,h3⟩,h2]
theorem NT {n:Nat} (h:(Aj n).1≠[]):1≤n∧n≤17:=by
 refine ⟨?_,?_⟩
 ·rcases Nat.eq_zero_or_pos n with rfl | h2
  ·exact absurd rfl h
  ·exact h2
 ·rcases Nat.lt_or_ge 17 n with h2 | h2
  ·exact absurd (by rw [Cn h2]) h
  ·exact h2
theorem Sp {n:Nat} (h:(partsOf n).1≠[]):1≤n∧n≤21:=by
 refine ⟨?_,?_⟩
 ·rcases Nat.eq_zero_or_pos n with rfl | h2
  ·exact absurd rfl h
  ·exact h2
 ·rcases Nat.lt_or_ge 21 n with h2 | h2
  ·exact absurd (by rw [Cv h2]) h
  ·exact h2
theorem Uh:∀ i < 21,(partsOf (i+1)).1≠[]:=by decide
theorem Ui:∀ i < 17,(Aj (i+1)).1≠[]:=by decide
theorem PI {n:Nat} (h1:1≤n) (h2:n≤21):(partsOf n).1≠[]:=by have:=Uh (n - 1) (by omega);rwa [show n - 1+1=n by omega] at this
theorem P3 {n:Nat} (h1:1≤n) (h2:n≤17):(Aj n).1≠[]:=by have:=Ui (n - 1) (by omega);rwa [show n - 1+1=n by omega] at this
def Ri:List UInt8→Bool
 | []=>true
 | x::hs=>(x != 82 || hs.isEmpty)&&Ri hs
def Nz:List UInt8→Bool
 | []=>true
 | x::hs=>(!(x==98 || x==107 || x==67) || hs.isEmpty)&&Nz hs
theorem Wk (n:Nat):Ri (partsOf n).2=true:=by
 rcases Nat.lt_or_ge 21 n with h | h
 ·rw [Cv h];rfl
 ·have:∀ i < 22,Ri (partsOf i).2=true:=by decide
  exact this n (by omega)
theorem Rh (n:Nat):Nz (Aj n).2=true:=by
 rcases Nat.lt_or_ge 17 n with h | h
 ·rw [Cn h];rfl
 ·have:∀ i < 18,Nz (Aj i).2=true:=by decide
  exact this n (by omega)
theorem Cx {w w':ByteArray} {rest r:List ByteArray} {b:Bool} (h:AK (w::rest) false w' r b):w'=w∧r=rest∧b=false:=by
 rcases h with ⟨h,rfl⟩ | ⟨h,_⟩
 ·cases h;exact ⟨rfl,rfl,rfl⟩
 ·cases h
structure MC (v left c:Ax):Prop where
 what:v.what=c.what
 ses:v.ses=c.ses
 queue:left.queue=.empty→v.queue=c.queue
 tag:left.tag=.empty→v.tag=c.tag
 x:left.x=EM→v.x=c.x
 n:left.n=0→v.n=c.n
 a:left.a=false→v.a=c.a
 b:left.b=false→v.b=c.b
 refs:left.refs=[]→v.refs=c.refs
 body:left.body=.empty→v.body=c.body
theorem MC.done {v c:Ax} (m:MC v Bf c):v=c:=by
 obtain ⟨h1,h2,h3,h4,h5,h6,h7,h8,h9,h10⟩:=m
 cases v;cases c
 simp only at h1 h2 h3 h4 h5 h6 h7 h8 h9 h10
 rw [h1,h2,h3 rfl,h4 rfl,h5 rfl,h6 rfl,h7 rfl,h8 rfl,h9 rfl,h10 rfl]
theorem Wu (a b:Bool):Ha EQ (txt (FV a b Ob Jr FA EE))=a∧Im EQ (txt (FV a b Ob Jr FA EE))=b:=by
 cases a <;> cases b <;> exact ⟨by kernel_rfl,by kernel_rfl⟩
theorem Wv (a b:Bool):Ha KK (txt (FV a b Jt Js Ek EE))=a∧Im KK (txt (FV a b Jt Js Ek EE))=b:=by
 cases a <;> cases b <;> exact ⟨by kernel_rfl,by kernel_rfl⟩
theorem PH (a:Bool):(bl (txt (CL a Gm Vt))==Gm)=a∧(bl (txt (CL a Ih Qx))==Ih)=a∧(bl (txt (CL a MU MS))==MU)=a∧(bl (txt (CL a DV OG))==DV)=a:=by
 cases a <;> decide
theorem AaA {h:UInt8} {wl:List Word} {rest r:List ByteArray} {b:Bool} {v v' left c:Ax} (hl:J4 c h=some wl) (ht:BP h (wl.map txt++rest) false v v' r b) (m:MC v left c) (hw:c.Wf) (hr:h=82→rest=[]):MC v' (Dp left h) c∧r=rest∧b=false:=by
 by_cases z1:h=81
 ·subst z1
  replace ht:=iCQ ht
  cases hl
  obtain ⟨w,b1,u,e,h1,h2,rfl,rfl⟩:=ht
  obtain ⟨rfl,rfl,rfl⟩:=Cx h1
  obtain ⟨rfl,rfl⟩:=h2.2 _ rfl
  exact ⟨⟨m.what,m.ses,fun _=>Hi _,m.tag,m.x,m.n,m.a,m.b,m.refs,m.body⟩,rfl,rfl⟩
 by_cases z2:h=84
 ·subst z2
  replace ht:=iCT ht
  cases hl
  obtain ⟨w,b1,u,e,h1,h2,rfl,rfl⟩:=ht
  obtain ⟨rfl,rfl,rfl⟩:=Cx h1
  obtain ⟨rfl,rfl⟩:=h2.2 _ rfl
  exact ⟨⟨m.what,m.ses,m.queue,fun _=>Hi _,m.x,m.n,m.a,m.b,m.refs,m.body⟩,rfl,rfl⟩
 by_cases z3:h=66
 ·subst z3
  replace ht:=iCB ht
  cases hl
  obtain ⟨w,b1,u,e,h1,h2,rfl,rfl⟩:=ht
  obtain ⟨rfl,rfl,rfl⟩:=Cx h1
  obtain ⟨rfl,rfl⟩:=h2.2 _ rfl
  exact ⟨⟨m.what,m.ses,m.queue,m.tag,m.x,m.n,m.a,m.b,m.refs,fun _=>Hi _⟩,rfl,rfl⟩
 by_cases z4:h=78
 ·subst z4
  replace ht:=iCN ht
  cases hl
  obtain ⟨w,b1,u,e,h1,h2,rfl,rfl⟩:=ht
  obtain ⟨rfl,rfl,rfl⟩:=Cx h1
  obtain ⟨rfl,rfl⟩:=h2.2 _ (Nat.le_of_lt_succ hw.n) rfl
  exact ⟨⟨m.what,m.ses,m.queue,m.tag,m.x,fun _=>rfl,m.a,m.b,m.refs,m.body⟩,rfl,rfl⟩
 by_cases z5:h=88
 ·subst z5
  replace ht:=iCX ht
  have hl:(if okX c.x=true then some [C7 c.x] else none)=some wl:=hl
  split at hl
  ·rename_i hx
   cases hl
   obtain ⟨w,b1,u,e,h1,h2,rfl,rfl⟩:=ht
   obtain ⟨rfl,rfl,rfl⟩:=Cx h1
   obtain ⟨rfl,rfl⟩:=h2.2.2 _ hw.x hx rfl
   exact ⟨⟨m.what,m.ses,m.queue,m.tag,fun _=>rfl,m.n,m.a,m.b,m.refs,m.body⟩,rfl,rfl⟩
  ·cases hl
 by_cases z6:h=101
 ·subst z6
  replace ht:=iCE ht
  cases hl
  obtain ⟨w,b1,h1,_,rfl,rfl⟩:=ht
  obtain ⟨rfl,rfl,rfl⟩:=Cx h1
  exact ⟨⟨m.what,m.ses,m.queue,m.tag,m.x,m.n,fun _=>(PH c.a).1,m.b,m.refs,m.body⟩,rfl,rfl⟩
 by_cases z7:h=109
 ·subst z7
  replace ht:=iCM ht
  cases hl
  obtain ⟨w,b1,h1,_,rfl,rfl⟩:=ht
  obtain ⟨rfl,rfl,rfl⟩:=Cx h1
  exact ⟨⟨m.what,m.ses,m.queue,m.tag,m.x,m.n,fun _=>(PH c.a).2.1,m.b,m.refs,m.body⟩,rfl,rfl⟩
 by_cases z8:h=100
 ·subst z8
  replace ht:=iCD ht
  cases hl
  obtain ⟨w,b1,h1,_,rfl,rfl⟩:=ht
  obtain ⟨rfl,rfl,rfl⟩:=Cx h1
  exact ⟨⟨m.what,m.ses,m.queue,m.tag,m.x,m.n,fun _=>(PH c.a).2.2.1,m.b,m.refs,m.body⟩,rfl,rfl⟩
 by_cases z9:h=115
 ·subst z9
  replace ht:=iCS ht
  cases hl
  obtain ⟨w,b1,h1,_,rfl,rfl⟩:=ht
  obtain ⟨rfl,rfl,rfl⟩:=Cx h1
  exact ⟨⟨m.what,m.ses,m.queue,m.tag,m.x,m.n,fun _=>(Wu c.a c.b).1,fun _=>(Wu c.a c.b).2,m.refs,m.body⟩,rfl,rfl⟩
 by_cases z10:h=102
 ·subst z10
  replace ht:=iCF ht
  cases hl
  obtain ⟨w,b1,h1,_,rfl,rfl⟩:=ht
  obtain ⟨rfl,rfl,rfl⟩:=Cx h1
  exact ⟨⟨m.what,m.ses,m.queue,m.tag,m.x,m.n,fun _=>(Wv c.a c.b).1,fun _=>(Wv c.a c.b).2,m.refs,m.body⟩,rfl,rfl⟩
 by_cases z11:h=82
 ·subst z11
  replace ht:=iCR ht
  cases hl
  obtain rfl:=hr rfl
  obtain ⟨l,h1,h2,rfl⟩:=ht
  rw [List.append_nil,List.map_map] at h1
  obtain ⟨rfl,rfl,rfl⟩:=Run.all (f:=DA) (P:=fun r=>U64 r.2) (fun w x b y hR hy he=>hR.2.2 y hy he) hw.refs h1 h2
  exact ⟨⟨m.what,m.ses,m.queue,m.tag,m.x,m.n,m.a,m.b,fun _=>rfl,m.body⟩,rfl,rfl⟩
 ·rw [BP,if_neg z1,if_neg z2,if_neg z3,if_neg z4,if_neg z5,if_neg z6,if_neg z7,if_neg z8,if_neg z9,if_neg z10,if_neg z11] at ht
  exact ht.elim
theorem VB {c:Ax} (hw:c.Wf):∀ {hs:List UInt8} {ws ws':List Word} {v v' left left':Ax} {r:List ByteArray} {b:Bool},goC c hs ws left=some (ws',left')→Ri hs=true→Bj hs ((hs.flatMap (Co c)).map txt) false v v' r b→MC v left c→MC v' left' c∧r=[]∧b=false
 | [],ws,ws',v,v',left,left',r,b,hg,_,ht,m=>by
  simp only [goC,Option.some.injEq,Prod.mk.injEq] at hg
  obtain ⟨rfl,rfl,rfl⟩:=ht
  rw [← hg.2]
  exact ⟨m,rfl,rfl⟩
 | x::hs,ws,ws',v,v',left,left',r,b,hg,hl,ht,m=>by
  unfold goC at hg
  cases hx:J4 c x with
  | none=>rw [hx] at hg;cases hg
  | some w=>
   rw [hx] at hg
   obtain ⟨r1,b1,c1,h1,h2⟩:=ht
   simp only [Ri,Bool.and_eq_true,Bool.or_eq_true,bne_iff_ne,ne_eq,List.isEmpty_iff] at hl
   have hwx:Co c x=w:=by unfold Co;rw [hx];rfl
   rw [List.flatMap_cons,List.map_append,hwx] at h1
   obtain ⟨m1,rfl,rfl⟩:=AaA hx h1 m hw fun h=>by
    rcases hl.1 with h3 | rfl
    ·exact absurd h h3
    ·rfl
   exact VB hw hg hl.2 h2 m1
theorem ZQ {c c' left:Ax} {ws:List Word} {r:List ByteArray} {b:Bool} (hw:c.Wf) (hg:CT c=some (ws,left)) (hv:(partsOf c.what).1≠[]) (h:Mk (ws.map txt) false c' r b):r=[]∧b=false∧(left=Bf→c'=c):=by
 have hl:=LF hg
 subst hl
 obtain ⟨w,r1,b1,n,e,w2,r2,b2,h1,h2,h3,h4⟩:=h
 obtain ⟨rfl,rfl,rfl⟩:=Cx h1
 obtain ⟨rfl,rfl⟩:=h2.2 _ (Nat.le_of_lt_succ hw.ses) rfl
 obtain ⟨rfl,rfl,rfl⟩:=Cx h3
 obtain ⟨k1,k2⟩:=Sp hv
 rw [C8,Vv k1 k2] at h4
 obtain ⟨m,rfl,rfl⟩:=VB hw hg (Wk _) h4 ⟨rfl,rfl,fun h=>h.symm,fun h=>h.symm,fun h=>h.symm,fun h=>h.symm,fun h=>h.symm,fun h=>h.symm,fun h=>h.symm,fun h=>h.symm⟩
 exact ⟨rfl,rfl,fun h=>by subst h;exact m.done⟩
structure ME (v left e:EvD):Prop where
 kind:v.kind=e.kind
 node:left.node=0→v.node=e.node
 to:left.to=0→v.to=e.to
 n:left.n=0→v.n=e.n
 x:left.x=EM→v.x=e.x
 nodes:left.nodes=[]→v.nodes=e.nodes
 keep:left.keep=[]→v.keep=e.keep
 s:left.s=.empty→v.s=e.s
 a:left.a=false→v.a=e.a
 call:left.call=Bf→v.call=e.call
theorem ME.done {v e:EvD} (m:ME v Cl e):v=e:=by
 obtain ⟨h1,h2,h3,h4,h5,h6,h7,h8,h9,h10⟩:=m
 cases v;cases e
 simp only at h1 h2 h3 h4 h5 h6 h7 h8 h9 h10
 rw [h1,h2 rfl,h3 rfl,h4 rfl,h5 rfl,h6 rfl,h7 rfl,h8 rfl,h9 rfl,h10 rfl]
theorem Aaz {h:UInt8} {wl:List Word} {rest r:List ByteArray} {b:Bool} {v v' left e:EvD} (hl:Ir e h=some wl) (ht:B9 h (wl.map txt++rest) false v v' r b) (m:ME v left e) (hw:e.Wf) (hr:h=98∨h=107∨h=67→rest=[]):ME v' (MD e h left) e∧r=rest∧b=false:=by
 by_cases z1:h=110
 ·subst z1
  replace ht:=iEn ht
  cases hl
  obtain ⟨w,b1,u,e1,h1,h2,rfl,rfl⟩:=ht
  obtain ⟨rfl,rfl,rfl⟩:=Cx h1
  obtain ⟨rfl,rfl⟩:=h2.2 _ (Nat.le_of_lt_succ hw.node) rfl
  exact ⟨⟨m.kind,fun _=>rfl,m.to,m.n,m.x,m.nodes,m.keep,m.s,m.a,m.call⟩,rfl,rfl⟩
 by_cases z2:h=116
 ·subst z2
  replace ht:=iEt ht
  cases hl
  obtain ⟨w,b1,u,e1,h1,h2,rfl,rfl⟩:=ht
  obtain ⟨rfl,rfl,rfl⟩:=Cx h1
  obtain ⟨rfl,rfl⟩:=h2.2 _ (Nat.le_of_lt_succ hw.to) rfl
  exact ⟨⟨m.kind,m.node,fun _=>rfl,m.n,m.x,m.nodes,m.keep,m.s,m.a,m.call⟩,rfl,rfl⟩
 by_cases z3:h=105
 ·subst z3
  replace ht:=iEi ht
  cases hl
  obtain ⟨w,b1,u,e1,h1,h2,rfl,rfl⟩:=ht
  obtain ⟨rfl,rfl,rfl⟩:=Cx h1
  obtain ⟨rfl,rfl⟩:=h2.2 _ hw.n rfl
  exact ⟨⟨m.kind,m.node,m.to,fun _=>rfl,m.x,m.nodes,m.keep,m.s,m.a,m.call⟩,rfl,rfl⟩
 by_cases z4:h=88
 ·subst z4
  replace ht:=iEX ht
  have hl:(if okX e.x=true then some [C7 e.x] else none)=some wl:=hl
  split at hl
  ·rename_i hx
   cases hl
   obtain ⟨w,b1,u,e1,h1,h2,rfl,rfl⟩:=ht
   obtain ⟨rfl,rfl,rfl⟩:=Cx h1
   obtain ⟨rfl,rfl⟩:=h2.2.2 _ hw.x hx rfl
   exact ⟨⟨m.kind,m.node,m.to,m.n,fun _=>rfl,m.nodes,m.keep,m.s,m.a,m.call⟩,rfl,rfl⟩
  ·cases hl
 by_cases z5:h=99
 ·subst z5
  replace ht:=iEc ht
  cases hl
  obtain ⟨w,b1,h1,_,rfl,rfl⟩:=ht
  obtain ⟨rfl,rfl,rfl⟩:=Cx h1
  exact ⟨⟨m.kind,m.node,m.to,m.n,m.x,m.nodes,m.keep,m.s,fun _=>(PH e.a).2.2.2,m.call⟩,rfl,rfl⟩
 by_cases z6:h=83
 ·subst z6
  replace ht:=iES ht
  cases hl
  obtain ⟨w,b1,u,e1,h1,h2,rfl,rfl⟩:=ht
  obtain ⟨rfl,rfl,rfl⟩:=Cx h1
  obtain ⟨rfl,rfl⟩:=h2.2 _ rfl
  exact ⟨⟨m.kind,m.node,m.to,m.n,m.x,m.nodes,m.keep,fun _=>Hi _,m.a,m.call⟩,rfl,rfl⟩
 by_cases z7:h=98
 ·subst z7
  replace ht:=iEb ht
  cases hl
  obtain rfl:=hr (.inl rfl)
  obtain ⟨l,h1,h2,rfl⟩:=ht
  rw [List.append_nil,List.map_map] at h1
  obtain ⟨rfl,rfl,rfl⟩:=Run.all (f:=Lib.decDigits) (P:=fun k=>k≤255) (fun w x b y hR hy he=>hR.2 y hy he) (fun k hk=>Nat.le_of_lt_succ (hw.nodes k hk)) h1 h2
  exact ⟨⟨m.kind,m.node,m.to,m.n,m.x,fun _=>rfl,m.keep,m.s,m.a,m.call⟩,rfl,rfl⟩
 by_cases z8:h=107
 ·subst z8
  replace ht:=iEk ht
  cases hl
  obtain rfl:=hr (.inr (.inl rfl))
  obtain ⟨l,h1,h2,rfl⟩:=ht
  rw [List.append_nil,List.map_map] at h1
  obtain ⟨rfl,rfl,rfl⟩:=Run.all (f:=Lib.itoa) (P:=fun k=>To k) (fun w x b y hR hy he=>hR.2 y hy he) hw.keep h1 h2
  exact ⟨⟨m.kind,m.node,m.to,m.n,m.x,m.nodes,fun _=>rfl,m.s,m.a,m.call⟩,rfl,rfl⟩
 by_cases z9:h=67
 ·subst z9
  replace ht:=iEC ht
  obtain rfl:=hr (.inr (.inr rfl))
  obtain ⟨c,h1,_,rfl⟩:=ht
  have hl:(match CT e.call with | some (ws,_)=>if (partsOf e.call.what).1=[] then none else some ws | none=>none)=some wl:=hl
  cases hc:CT e.call with
  | none=>rw [hc] at hl;cases hl
  | some p=>
   rw [hc] at hl
   obtain ⟨ws,l⟩:=p
   simp only at hl
   split at hl
   ·cases hl
   ·rename_i hv
    cases hl
    rw [List.append_nil] at h1
    obtain ⟨rfl,rfl,h2⟩:=ZQ hw.call hc hv h1
    refine ⟨?_,rfl,rfl⟩
    have hcl:MD e 67 left={ left with call:=l }:=by
     show (match CT e.call with | some (_,c)=>{ left with call:=c } | none=>left)=_
     rw [hc]
    rw [hcl]
    exact ⟨m.kind,m.node,m.to,m.n,m.x,m.nodes,m.keep,m.s,m.a,h2⟩
 ·rw [B9,if_neg z1,if_neg z2,if_neg z3,if_neg z4,if_neg z5,if_neg z6,if_neg z7,if_neg z8,if_neg z9] at ht
  exact ht.elim
theorem VA {e:EvD} (hw:e.Wf):∀ {hs:List UInt8} {ws ws':List Word} {v v' left left':EvD} {r:List ByteArray} {b:Bool},goE e hs ws left=some (ws',left')→Nz hs=true→Be hs ((hs.flatMap (Ce e)).map txt) false v v' r b→ME v left e→ME v' left' e∧r=[]∧b=false
 | [],ws,ws',v,v',left,left',r,b,hg,_,ht,m=>by
  simp only [goE,Option.some.injEq,Prod.mk.injEq] at hg
  obtain ⟨rfl,rfl,rfl⟩:=ht
  rw [← hg.2]
  exact ⟨m,rfl,rfl⟩
 | x::hs,ws,ws',v,v',left,left',r,b,hg,hl,ht,m=>by
  unfold goE at hg
  cases hx:Ir e x with
  | none=>rw [hx] at hg;cases hg
  | some w=>
   rw [hx] at hg
   obtain ⟨r1,b1,c1,h1,h2⟩:=ht
   simp only [Nz,Bool.and_eq_true,Bool.or_eq_true,Bool.not_eq_true',Bool.or_eq_false_iff,beq_eq_false_iff_ne,ne_eq,List.isEmpty_iff] at hl
   rw [List.flatMap_cons,List.map_append,Li hx] at h1
   obtain ⟨m1,rfl,rfl⟩:=Aaz hx h1 m hw fun h=>by
    rcases hl.1 with h3 | rfl
    ·rcases h with h | h | h
     ·exact absurd h h3.1.1
     ·exact absurd h h3.1.2
     ·exact absurd h h3.2
    ·rfl
   exact VA hw hg hl.2 h2 m1
theorem Ade {e v:EvD} {ws:List Word} {r:List ByteArray} {b:Bool} (hw:e.Wf) (hg:DE e=some ws) (h:EvT (ws.map txt) v r b):v=e∧r=[]∧b=false:=by
 obtain ⟨hl,hg,hv⟩:=C0.1 hg
 rw [hl] at h
 obtain ⟨w,r1,b1,h1,h4⟩:=h
 obtain ⟨rfl,rfl,rfl⟩:=Cx h1
 obtain ⟨k1,k2⟩:=NT hv
 rw [C8,Vu k1 k2] at h4
 obtain ⟨m,rfl,rfl⟩:=VA hw hg (Rh _) h4 ⟨rfl,fun h=>h.symm,fun h=>h.symm,fun h=>h.symm,fun h=>h.symm,fun h=>h.symm,fun h=>h.symm,fun h=>h.symm,fun h=>h.symm,fun h=>h.symm⟩
 exact ⟨m.done,rfl,rfl⟩
theorem CF {ws r:List ByteArray} {w:ByteArray} {bad b:Bool} (h:AK ws bad w r b) (hb:b=false):bad=false:=by
 rcases h with ⟨_,rfl⟩ | ⟨_,_,_,rfl⟩
 ·exact hb
 ·cases hb
theorem Le {a b:Bool} (h:(a || b)=false):a=false∧b=false:=by cases a <;> cases b <;> simp_all
theorem Run.bad {α:Type} {R:Word→α→Bool→Prop}:∀ {l:List α} {ws:List ByteArray} {bad:Bool} {ws':List ByteArray} {bad':Bool},Run R ws bad l ws' bad'→bad'=false→bad=false
 | [],ws,bad,ws',bad',h,hb=>by rw [h.2];exact hb
 | x::l,ws,bad,ws',bad',⟨w,r,b,_,h2,_,_⟩,_=>h2
def zC (c:Ax):Ax:={ c with what:=0,ses:=0 }
theorem IJ {α:Type} (p q:Prop) [Decidable p] [Decidable q] (z c:α):(if p then z else if q then z else c)=(if q then z else if p then z else c):=by
 by_cases hp:p <;> by_cases hq:q <;> simp [hp,hq]
theorem KN (c:Ax) (h:UInt8):Dp c h=⟨c.what,c.ses,if h=81 then .empty else c.queue,if h=84 then .empty else c.tag,if h=88 then EM else c.x,if h=78 then 0 else c.n,if h=101∨h=109∨h=100∨h=115∨h=102 then false else c.a,if h=115∨h=102 then false else c.b,if h=82 then [] else c.refs,if h=66 then .empty else c.body⟩:=by
 by_cases z1:h=81
 ·subst z1;rfl
 by_cases z2:h=84
 ·subst z2;rfl
 by_cases z3:h=66
 ·subst z3;rfl
 by_cases z4:h=78
 ·subst z4;rfl
 by_cases z5:h=88
 ·subst z5;rfl
 by_cases z6:h=101
 ·subst z6;rfl
 by_cases z7:h=109
 ·subst z7;rfl
 by_cases z8:h=100
 ·subst z8;rfl
 by_cases z9:h=115
 ·subst z9;rfl
 by_cases z10:h=102
 ·subst z10;rfl
 by_cases z11:h=82
 ·subst z11;rfl
 unfold Dp
 simp only [z1,z2,z3,z4,z5,z6,z7,z8,z9,z10,z11,if_false,or_self]
theorem U6 (c:Ax) (x y:UInt8):Dp (Dp c x) y=Dp (Dp c y) x:=by
 rw [KN (Dp c x),KN c x,KN (Dp c y),KN c y]
 simp only [IJ (y=81),IJ (y=84),IJ (y=88),IJ (y=78),IJ (y=101∨_),IJ (y=115∨y=102),IJ (y=82),IJ (y=66)]
theorem Lo (x:UInt8):∀ (hs:List UInt8) (c:Ax),hs.foldl Dp (Dp c x)=Dp (hs.foldl Dp c) x
 | [],c=>rfl
 | y::hs,c=>by
  show hs.foldl Dp (Dp (Dp c x) y)=Dp (hs.foldl Dp (Dp c y)) x
  rw [U6,Lo x hs]
theorem S9 (x:UInt8):Dp Bf x=Bf:=by
 rw [KN]
 simp only [Bf,ite_self]
theorem L0:∀ (hs:List UInt8),hs.foldl Dp Bf=Bf
 | []=>rfl
 | y::hs=>by
  show hs.foldl Dp (Dp Bf y)=Bf
  rw [S9,L0 hs]
structure ChC (h:UInt8) (v v':Ax):Prop where
 what:v'.what=v.what
 ses:v'.ses=v.ses
 clr:Dp (zC v') h=Dp (zC v) h
theorem BP.ch {h:UInt8} {ws r:List ByteArray} {bad b:Bool} {v v':Ax} (ht:BP h ws bad v v' r b):ChC h v v'∧(b=false→bad=false∧(h=88→okX v'.x=true)∧(h≠88→v'.x=v.x)):=by
 by_cases z1:h=81
 ·subst z1
  replace ht:=iCQ ht
  obtain ⟨w,b1,u,e,h1,h2,rfl,rfl⟩:=ht
  exact ⟨⟨rfl,rfl,rfl⟩,fun hb=>⟨CF h1 (Le hb).1,fun h=>absurd h (by decide),fun _=>rfl⟩⟩
 by_cases z2:h=84
 ·subst z2
  replace ht:=iCT ht
  obtain ⟨w,b1,u,e,h1,h2,rfl,rfl⟩:=ht
  exact ⟨⟨rfl,rfl,rfl⟩,fun hb=>⟨CF h1 (Le hb).1,fun h=>absurd h (by decide),fun _=>rfl⟩⟩
 by_cases z3:h=66
 ·subst z3
  replace ht:=iCB ht
  obtain ⟨w,b1,u,e,h1,h2,rfl,rfl⟩:=ht
  exact ⟨⟨rfl,rfl,rfl⟩,fun hb=>⟨CF h1 (Le hb).1,fun h=>absurd h (by decide),fun _=>rfl⟩⟩
 by_cases z4:h=78
 ·subst z4
  replace ht:=iCN ht
  obtain ⟨w,b1,u,e,h1,h2,rfl,rfl⟩:=ht
  exact ⟨⟨rfl,rfl,rfl⟩,fun hb=>⟨CF h1 (Le hb).1,fun h=>absurd h (by decide),fun _=>rfl⟩⟩
 by_cases z5:h=88
 ·subst z5
  replace ht:=iCX ht
  obtain ⟨w,b1,u,e,h1,h2,rfl,rfl⟩:=ht
  exact ⟨⟨rfl,rfl,rfl⟩,fun hb=>⟨CF h1 (Le hb).1,fun _=>h2.2.1 (Le hb).2,fun h=>absurd rfl h⟩⟩
 by_cases z6:h=101
 ·subst z6
  replace ht:=iCE ht
  obtain ⟨w,b1,h1,_,rfl,rfl⟩:=ht
  exact ⟨⟨rfl,rfl,rfl⟩,fun hb=>⟨CF h1 hb,fun h=>absurd h (by decide),fun _=>rfl⟩⟩
 by_cases z7:h=109
 ·subst z7
  replace ht:=iCM ht
  obtain ⟨w,b1,h1,_,rfl,rfl⟩:=ht
  exact ⟨⟨rfl,rfl,rfl⟩,fun hb=>⟨CF h1 hb,fun h=>absurd h (by decide),fun _=>rfl⟩⟩
 by_cases z8:h=100
 ·subst z8
  replace ht:=iCD ht
  obtain ⟨w,b1,h1,_,rfl,rfl⟩:=ht
  exact ⟨⟨rfl,rfl,rfl⟩,fun hb=>⟨CF h1 hb,fun h=>absurd h (by decide),fun _=>rfl⟩⟩
 by_cases z9:h=115
 ·subst z9
  replace ht:=iCS ht
  obtain ⟨w,b1,h1,_,rfl,rfl⟩:=ht
  exact ⟨⟨rfl,rfl,rfl⟩,fun hb=>⟨CF h1 hb,fun h=>absurd h (by decide),fun _=>rfl⟩⟩
 by_cases z10:h=102
 ·subst z10
  replace ht:=iCF ht
  obtain ⟨w,b1,h1,_,rfl,rfl⟩:=ht
  exact ⟨⟨rfl,rfl,rfl⟩,fun hb=>⟨CF h1 hb,fun h=>absurd h (by decide),fun _=>rfl⟩⟩
 by_cases z11:h=82
 ·subst z11
  replace ht:=iCR ht
  obtain ⟨l,h1,h2,rfl⟩:=ht
  exact ⟨⟨rfl,rfl,rfl⟩,fun hb=>⟨h1.bad hb,fun h=>absurd h (by decide),fun _=>rfl⟩⟩
 ·rw [BP,if_neg z1,if_neg z2,if_neg z3,if_neg z4,if_neg z5,if_neg z6,if_neg z7,if_neg z8,if_neg z9,if_neg z10,if_neg z11] at ht
  exact ht.elim
theorem Bj.ch:∀ {hs:List UInt8} {ws r:List ByteArray} {bad b:Bool} {v v':Ax},Bj hs ws bad v v' r b→v'.what=v.what∧v'.ses=v.ses∧hs.foldl Dp (zC v')=hs.foldl Dp (zC v)∧(b=false→bad=false∧((88:UInt8)∈hs∨okX v.x=true→okX v'.x=true))
 | [],ws,r,bad,b,v,v',⟨h1,h2,h3⟩=>by
  subst h1
  exact ⟨rfl,rfl,rfl,fun hb=>⟨by rw [← h3];exact hb,fun h=>by rcases h with h | h;cases h;exact h⟩⟩
 | x::hs,ws,r,bad,b,v,v',⟨r1,b1,c1,h1,h2⟩=>by
  obtain ⟨c,h3⟩:=BP.ch h1
  obtain ⟨k1,k2,k3,k4⟩:=Bj.ch h2
  refine ⟨k1.trans c.what,k2.trans c.ses,?_,fun hb=>?_⟩
  ·show hs.foldl Dp (Dp (zC v') x)=hs.foldl Dp (Dp (zC v) x)
   rw [Lo,k3,← Lo,c.clr]
  ·obtain ⟨k5,k6⟩:=k4 hb
   obtain ⟨h4,h5,h6⟩:=h3 k5
   refine ⟨h4,fun h=>k6 ?_⟩
   by_cases hx:x=88
   ·exact .inr (h5 hx)
   ·rcases h with h | h
    ·rcases List.mem_cons.1 h with h | h
     ·exact absurd h.symm hx
     ·exact .inl h
    ·exact .inr (by rw [h6 hx];exact h)
theorem Rq {c:Ax}:∀ {hs:List UInt8} {ws:List Word} {l:Ax},((88:UInt8)∈hs→okX c.x=true)→∃ ws',goC c hs ws l=some (ws',hs.foldl Dp l)
 | [],ws,l,_=>⟨ws,rfl⟩
 | x::hs,ws,l,h=>by
  have:∃ w,J4 c x=some w:=by
   by_cases hx:x=88
   ·subst hx
    exact ⟨[C7 c.x],by show (if okX c.x=true then _ else _)=_;rw [if_pos (h (by simp))]⟩
   ·unfold J4
    simp only [hx,if_false]
    repeat' split
    all_goals exact ⟨_,rfl⟩
  obtain ⟨w,hw⟩:=this
  obtain ⟨ws',h2⟩:=Rq (c:=c) (hs:=hs) (ws:=ws++w) (l:=Dp l x) fun h3=>h (List.mem_cons_of_mem _ h3)
  refine ⟨ws',?_⟩
  unfold goC
  rw [hw]
  exact h2
theorem WU {c:Ax} {ws r:List ByteArray} {bad:Bool} (h:Mk ws bad c r false) (hc:c.what≠0):bad=false∧(∃ ws',CT c=some (ws',Bf))∧(partsOf c.what).1≠[]:=by
 obtain ⟨w,r1,b1,n,e,w2,r2,b2,h1,h2,h3,h4⟩:=h
 obtain ⟨k1,k2,k3,k4⟩:=Bj.ch h4
 obtain ⟨k5,k6⟩:=k4 rfl
 have k1:c.what=Jv (bl w2):=k1
 have h21:=MW (bl w2)
 have hb:=Le (CF h3 k5)
 refine ⟨CF h1 hb.1,?_,PI (by omega) (by omega)⟩
 rw [← k1] at k3 k6
 obtain ⟨ws',h5⟩:=Rq (c:=c) (hs:=(partsOf c.what).2) (ws:=[Lib.decDigits c.ses,(partsOf c.what).1]) (l:=zC c) fun h6=>k6 (.inl h6)
 refine ⟨ws',?_⟩
 have k3:(partsOf c.what).2.foldl Dp (zC c)=(partsOf c.what).2.foldl Dp Bf:=k3
 rw [k3,L0] at h5
 exact h5
def ZN (h:UInt8) (left:EvD):EvD:=
 if h=110 then { left with node:=0 } else if h=116 then { left with to:=0 } else if h=105 then { left with n:=0 } else if h=88 then { left with x:=EM }
 else if h=99 then { left with a:=false } else if h=83 then { left with s:=.empty } else if h=98 then { left with nodes:=[] } else if h=107 then { left with keep:=[] }
 else if h=67 then { left with call:=Bf } else left
def CH (c:EvD) (h:UInt8):EvD:=ZN h c
def zE (v:EvD):EvD:={ v with kind:=0 }
theorem KM (c:EvD) (h:UInt8):CH c h=⟨c.kind,if h=110 then 0 else c.node,if h=116 then 0 else c.to,if h=105 then 0 else c.n,if h=88 then EM else c.x,if h=98 then [] else c.nodes,if h=107 then [] else c.keep,if h=83 then .empty else c.s,if h=99 then false else c.a,if h=67 then Bf else c.call⟩:=by
 by_cases z1:h=110
 ·subst z1;rfl
 by_cases z2:h=116
 ·subst z2;rfl
 by_cases z3:h=105
 ·subst z3;rfl
 by_cases z4:h=88
 ·subst z4;rfl
 by_cases z5:h=99
 ·subst z5;rfl
 by_cases z6:h=83
 ·subst z6;rfl
 by_cases z7:h=98
 ·subst z7;rfl
 by_cases z8:h=107
 ·subst z8;rfl
 by_cases z9:h=67
 ·subst z9;rfl
 unfold CH ZN
 simp only [z1,z2,z3,z4,z5,z6,z7,z8,z9,if_false]
theorem U4 (c:EvD) (x y:UInt8):CH (CH c x) y=CH (CH c y) x:=by
 rw [KM (CH c x),KM c x,KM (CH c y),KM c y]
 simp only [IJ (y=110),IJ (y=116),IJ (y=88),IJ (y=105),IJ (y=98),IJ (y=107),IJ (y=83),IJ (y=99),IJ (y=67)]
theorem Ln (x:UInt8):∀ (hs:List UInt8) (c:EvD),hs.foldl CH (CH c x)=CH (hs.foldl CH c) x
 | [],c=>rfl
 | y::hs,c=>by
  show hs.foldl CH (CH (CH c x) y)=CH (hs.foldl CH (CH c y)) x
  rw [U4,Ln x hs]
theorem WM (x:UInt8):CH Cl x=Cl:=by
 rw [KM]
 simp only [Cl,ite_self]
theorem Pf:∀ (hs:List UInt8),hs.foldl CH Cl=Cl
 | []=>rfl
 | y::hs=>by
  show hs.foldl CH (CH Cl y)=Cl
  rw [WM,Pf hs]
def Whole (c:Ax):Prop:=c.what≠0→(∃ ws',CT c=some (ws',Bf))∧(partsOf c.what).1≠[]
theorem B9.ch {h:UInt8} {ws r:List ByteArray} {bad b:Bool} {v v':EvD} (ht:B9 h ws bad v v' r b):v'.kind=v.kind∧CH (zE v') h=CH (zE v) h∧(b=false→(v'.call.what≠0∨h≠67→bad=false)∧(h=88→okX v'.x=true)∧(h≠88→v'.x=v.x)∧(h=67→Whole v'.call)∧(h≠67→v'.call=v.call)):=by
 by_cases z1:h=110
 ·subst z1
  replace ht:=iEn ht
  obtain ⟨w,b1,u,e,h1,h2,rfl,rfl⟩:=ht
  exact ⟨rfl,rfl,fun hb=>⟨fun _=>CF h1 (Le hb).1,fun h=>absurd h (by decide),fun _=>rfl,fun h=>absurd h (by decide),fun _=>rfl⟩⟩
 by_cases z2:h=116
 ·subst z2
  replace ht:=iEt ht
  obtain ⟨w,b1,u,e,h1,h2,rfl,rfl⟩:=ht
  exact ⟨rfl,rfl,fun hb=>⟨fun _=>CF h1 (Le hb).1,fun h=>absurd h (by decide),fun _=>rfl,fun h=>absurd h (by decide),fun _=>rfl⟩⟩
 by_cases z3:h=105
 ·subst z3
  replace ht:=iEi ht
  obtain ⟨w,b1,u,e,h1,h2,rfl,rfl⟩:=ht
  exact ⟨rfl,rfl,fun hb=>⟨fun _=>CF h1 (Le hb).1,fun h=>absurd h (by decide),fun _=>rfl,fun h=>absurd h (by decide),fun _=>rfl⟩⟩
 by_cases z4:h=88
 ·subst z4
  replace ht:=iEX ht
  obtain ⟨w,b1,u,e,h1,h2,rfl,rfl⟩:=ht
  exact ⟨rfl,rfl,fun hb=>⟨fun _=>CF h1 (Le hb).1,fun _=>h2.2.1 (Le hb).2,fun h=>absurd rfl h,fun h=>absurd h (by decide),fun _=>rfl⟩⟩
 by_cases z5:h=99
 ·subst z5
  replace ht:=iEc ht
  obtain ⟨w,b1,h1,_,rfl,rfl⟩:=ht
  exact ⟨rfl,rfl,fun hb=>⟨fun _=>CF h1 hb,fun h=>absurd h (by decide),fun _=>rfl,fun h=>absurd h (by decide),fun _=>rfl⟩⟩
 by_cases z6:h=83
 ·subst z6
  replace ht:=iES ht
  obtain ⟨w,b1,u,e,h1,h2,rfl,rfl⟩:=ht
  exact ⟨rfl,rfl,fun hb=>⟨fun _=>CF h1 (Le hb).1,fun h=>absurd h (by decide),fun _=>rfl,fun h=>absurd h (by decide),fun _=>rfl⟩⟩
 by_cases z7:h=98
 ·subst z7
  replace ht:=iEb ht
  obtain ⟨l,h1,h2,rfl⟩:=ht
  exact ⟨rfl,rfl,fun hb=>⟨fun _=>h1.bad hb,fun h=>absurd h (by decide),fun _=>rfl,fun h=>absurd h (by decide),fun _=>rfl⟩⟩
 by_cases z8:h=107
 ·subst z8
  replace ht:=iEk ht
  obtain ⟨l,h1,h2,rfl⟩:=ht
  exact ⟨rfl,rfl,fun hb=>⟨fun _=>h1.bad hb,fun h=>absurd h (by decide),fun _=>rfl,fun h=>absurd h (by decide),fun _=>rfl⟩⟩
 by_cases z9:h=67
 ·subst z9
  replace ht:=iEC ht
  obtain ⟨c,h1,_,rfl⟩:=ht
  refine ⟨rfl,rfl,fun hb=>?_⟩
  subst hb
  exact ⟨fun h=>(WU h1 (h.resolve_right fun h=>h rfl)).1,fun h=>absurd h (by decide),fun _=>rfl,fun _ hc=>(WU h1 hc).2,fun h=>absurd rfl h⟩
 ·rw [B9,if_neg z1,if_neg z2,if_neg z3,if_neg z4,if_neg z5,if_neg z6,if_neg z7,if_neg z8,if_neg z9] at ht
  exact ht.elim
theorem Be.ch:∀ {hs:List UInt8} {ws r:List ByteArray} {bad b:Bool} {v v':EvD},Be hs ws bad v v' r b→v'.kind=v.kind∧hs.foldl CH (zE v')=hs.foldl CH (zE v)∧(Nz hs=true→b=false→(((67:UInt8)∈hs→v'.call.what≠0)→bad=false∧((88:UInt8)∈hs∨okX v.x=true→okX v'.x=true)∧((67:UInt8)∈hs→Whole v'.call))∧(hs=[]→v'=v))
 | [],ws,r,bad,b,v,v',⟨h1,h2,h3⟩=>by
  subst h1
  exact ⟨rfl,rfl,fun _ hb=>⟨fun _=>⟨by rw [← h3];exact hb,fun h=>by rcases h with h | h;cases h;exact h,fun h=>by cases h⟩,fun _=>rfl⟩⟩
 | x::hs,ws,r,bad,b,v,v',⟨r1,b1,c1,h1,h2⟩=>by
  obtain ⟨c,hz,h3⟩:=B9.ch h1
  obtain ⟨k1,k3,k4⟩:=Be.ch h2
  refine ⟨k1.trans c,?_,fun hl hb=>⟨fun hw=>?_,fun h=>by cases h⟩⟩
  ·show hs.foldl CH (CH (zE v') x)=hs.foldl CH (CH (zE v) x)
   rw [Ln,k3,← Ln,hz]
  ·simp only [Nz,Bool.and_eq_true,Bool.or_eq_true,Bool.not_eq_true',Bool.or_eq_false_iff,beq_eq_false_iff_ne,ne_eq,List.isEmpty_iff] at hl
   obtain ⟨k5,k7⟩:=k4 hl.2 hb
   obtain ⟨k5,k6,k8⟩:=k5 fun h=>hw (List.mem_cons_of_mem _ h)
   obtain ⟨h4,h5,h6,h7,h8⟩:=h3 k5
   refine ⟨h4 ?_,fun h=>k6 ?_,fun h=>?_⟩
   ·by_cases hx:x=67
    ·have:hs=[]:=by
      rcases hl.1 with h | h
      ·exact absurd hx h.2
      ·exact h
     left
     rw [← k7 this]
     exact hw (by rw [hx];simp)
    ·exact .inr hx
   ·by_cases hx:x=88
    ·exact .inr (h5 hx)
    ·rcases h with h | h
     ·rcases List.mem_cons.1 h with h | h
      ·exact absurd h.symm hx
      ·exact .inl h
     ·exact .inr (by rw [h6 hx];exact h)
   ·by_cases hx:x=67
    ·have:hs=[]:=by
      rcases hl.1 with h | h
      ·exact absurd hx h.2
      ·exact h
     rw [k7 this]
     exact h7 hx
    ·rcases List.mem_cons.1 h with h | h
     ·exact absurd h.symm hx
     ·exact k8 h
theorem Rp {v:EvD}:∀ {hs:List UInt8} {ws:List Word} {l:EvD},((88:UInt8)∈hs→okX v.x=true)→((67:UInt8)∈hs→(∃ ws',CT v.call=some (ws',Bf))∧(partsOf v.call.what).1≠[])→∃ ws',goE v hs ws l=some (ws',hs.foldl CH l)
 | [],ws,l,_,_=>⟨ws,rfl⟩
 | x::hs,ws,l,h,hc=>by
  have:∃ w,Ir v x=some w:=by
   by_cases hx:x=67
   ·subst hx
    obtain ⟨⟨ws',h1⟩,h2⟩:=hc (by simp)
    refine ⟨ws',?_⟩
    show (match CT v.call with | some (ws,_)=>if (partsOf v.call.what).1=[] then none else some ws | none=>none)=some ws'
    rw [h1]
    show (if _ then _ else _)=_
    rw [if_neg h2]
   ·by_cases hy:x=88
    ·subst hy
     exact ⟨[C7 v.x],by show (if okX v.x=true then _ else _)=_;rw [if_pos (h (by simp))]⟩
    ·unfold Ir
     simp only [hx,hy,if_false]
     repeat' split
     all_goals exact ⟨_,rfl⟩
  obtain ⟨w,hw⟩:=this
  have hcl:MD v x l=CH l x:=by
   by_cases hx:x=67
   ·subst hx
    obtain ⟨⟨ws',h1⟩,h2⟩:=hc (by simp)
    show (match CT v.call with | some (_,c)=>{ l with call:=c } | none=>l)=_
    rw [h1];rfl
   ·unfold MD CH ZN
    simp only [hx,if_false]
  obtain ⟨ws',h2⟩:=Rp (v:=v) (hs:=hs) (ws:=ws++w) (l:=CH l x) (fun h3=>h (List.mem_cons_of_mem _ h3)) (fun h3=>hc (List.mem_cons_of_mem _ h3))
  refine ⟨ws',?_⟩
  unfold goE
  rw [hw]
  show goE v hs (ws++w) (MD v x l)=_
  rw [hcl]
  exact h2
theorem Yh:∀ i < 18,(67:UInt8)∈(Aj i).2→i=16:=by decide
theorem Adc {v:EvD} {ws r:List ByteArray} (h:EvT ws v r false) (hk:v.kind≠0) (hc:v.kind=16→v.call.what≠0):DE v=some (Bg v):=by
 obtain ⟨w,r1,b1,h1,h4⟩:=h
 obtain ⟨k1,k3,k4⟩:=Be.ch h4
 have k1:v.kind=Ju (bl w):=k1
 have h17:=MV (bl w)
 rw [← k1] at k3 k4
 have hC:(67:UInt8)∈(Aj v.kind).2→v.call.what≠0:=fun h=>hc (Yh v.kind (by omega) h)
 obtain ⟨k5,_⟩:=k4 (Rh _) rfl
 obtain ⟨k5,k6,k7⟩:=k5 hC
 obtain ⟨ws',h5⟩:=Rp (v:=v) (hs:=(Aj v.kind).2) (ws:=[(Aj v.kind).1]) (l:=zE v) (fun h6=>k6 (.inl h6)) (fun h6=>k7 h6 (hC h6))
 have k3:(Aj v.kind).2.foldl CH (zE v)=(Aj v.kind).2.foldl CH Cl:=k3
 rw [k3,Pf] at h5
 have:=Lk h5
 refine C0.2 ⟨rfl,?_,P3 (by omega) (by omega)⟩
 have e:ws'=Bg v:=by rw [this];rfl
 rw [← e]
 exact h5
def szR (l:List (ByteArray × Nat)):Nat:=(l.map fun r=>(bl r.1).length+1).sum
def szC (c:Ax):Nat:=(bl c.queue).length+(bl c.tag).length+(bl c.body).length+szR c.refs
def szV (v:EvD):Nat:=(bl v.s).length+v.nodes.length+v.keep.length+szC v.call
theorem Cy {ws r:List ByteArray} {w:ByteArray} {bad b:Bool} (h:AK ws bad w r b):(bl w).length+BY r≤BY ws:=(AK.sum h).1
theorem Run.sz {α:Type} {R:Word→α→Bool→Prop} {f:α→Nat} (hR:∀ w x b,R w x b→f x≤w.length):∀ {l:List α} {ws:List ByteArray} {bad:Bool} {ws':List ByteArray} {bad':Bool},Run R ws bad l ws' bad'→(l.map fun x=>f x+1).sum+BY ws'≤BY ws
 | [],ws,bad,ws',bad',h=>by rw [h.1];simp
 | x::l,ws,bad,ws',bad',⟨w,r,b,h1,_,h3,h4⟩=>by
  have:=Run.sz hR h4
  have h5:=hR _ _ _ h3
  rw [h1,List.map_cons,List.sum_cons]
  show _≤(bl w).length+1+BY r
  omega
theorem VZ {α:Type} (l:List α):(l.map fun _=>0+1).sum=l.length:=by
 induction l with
 | nil=>rfl
 | cons a l ih=>rw [List.map_cons,List.sum_cons,List.length_cons,ih];omega
theorem Run.AaW {α:Type} {R:Word→α→Bool→Prop} {l:List α} {ws:List ByteArray} {bad:Bool} {ws':List ByteArray} {bad':Bool} (h:Run R ws bad l ws' bad'):l.length+BY ws'≤BY ws:=by
 have:=Run.sz (f:=fun _=>0) (fun _ _ _ _=>Nat.zero_le _) h
 have e:=VZ l
 omega
theorem BP.sz {h:UInt8} {ws r:List ByteArray} {bad b:Bool} {v v':Ax} (ht:BP h ws bad v v' r b):(v.Wf→v'.Wf)∧szC v'+BY r≤szC v+BY ws:=by
 by_cases z1:h=81
 ·subst z1
  replace ht:=iCQ ht
  obtain ⟨w,b1,u,e,h1,h2,rfl,rfl⟩:=ht
  refine ⟨fun h=>⟨h.what,h.ses,h.x,h.n,h.refs⟩,?_⟩
  have:=Cy h1
  have:=h2.1
  simp only [szC,C8]
  omega
 by_cases z2:h=84
 ·subst z2
  replace ht:=iCT ht
  obtain ⟨w,b1,u,e,h1,h2,rfl,rfl⟩:=ht
  refine ⟨fun h=>⟨h.what,h.ses,h.x,h.n,h.refs⟩,?_⟩
  have:=Cy h1
  have:=h2.1
  simp only [szC,C8]
  omega
 by_cases z3:h=66
 ·subst z3
  replace ht:=iCB ht
  obtain ⟨w,b1,u,e,h1,h2,rfl,rfl⟩:=ht
  refine ⟨fun h=>⟨h.what,h.ses,h.x,h.n,h.refs⟩,?_⟩
  have:=Cy h1
  have:=h2.1
  simp only [szC,C8]
  omega
 by_cases z4:h=78
 ·subst z4
  replace ht:=iCN ht
  obtain ⟨w,b1,u,e,h1,h2,rfl,rfl⟩:=ht
  refine ⟨fun h=>⟨h.what,h.ses,h.x,Nat.lt_succ_of_le h2.1,h.refs⟩,?_⟩
  have:=Cy h1
  simp only [szC]
  omega
 by_cases z5:h=88
 ·subst z5
  replace ht:=iCX ht
  obtain ⟨w,b1,u,e,h1,h2,rfl,rfl⟩:=ht
  refine ⟨fun h=>⟨h.what,h.ses,h2.1,h.n,h.refs⟩,?_⟩
  have:=Cy h1
  simp only [szC]
  omega
 by_cases z6:h=101
 ·subst z6
  replace ht:=iCE ht
  obtain ⟨w,b1,h1,_,rfl,rfl⟩:=ht
  refine ⟨fun h=>⟨h.what,h.ses,h.x,h.n,h.refs⟩,?_⟩
  have:=Cy h1
  simp only [szC]
  omega
 by_cases z7:h=109
 ·subst z7
  replace ht:=iCM ht
  obtain ⟨w,b1,h1,_,rfl,rfl⟩:=ht
  refine ⟨fun h=>⟨h.what,h.ses,h.x,h.n,h.refs⟩,?_⟩
  have:=Cy h1
  simp only [szC]
  omega
 by_cases z8:h=100
 ·subst z8
  replace ht:=iCD ht
  obtain ⟨w,b1,h1,_,rfl,rfl⟩:=ht
  refine ⟨fun h=>⟨h.what,h.ses,h.x,h.n,h.refs⟩,?_⟩
  have:=Cy h1
  simp only [szC]
  omega
 by_cases z9:h=115
 ·subst z9
  replace ht:=iCS ht
  obtain ⟨w,b1,h1,_,rfl,rfl⟩:=ht
  refine ⟨fun h=>⟨h.what,h.ses,h.x,h.n,h.refs⟩,?_⟩
  have:=Cy h1
  simp only [szC]
  omega
 by_cases z10:h=102
 ·subst z10
  replace ht:=iCF ht
  obtain ⟨w,b1,h1,_,rfl,rfl⟩:=ht
  refine ⟨fun h=>⟨h.what,h.ses,h.x,h.n,h.refs⟩,?_⟩
  have:=Cy h1
  simp only [szC]
  omega
 by_cases z11:h=82
 ·subst z11
  replace ht:=iCR ht
  obtain ⟨l,h1,h2,rfl⟩:=ht
  refine ⟨fun h=>⟨h.what,h.ses,h.x,h.n,h1.mem (P:=fun r=>U64 r.2) fun w x b hR=>hR.1⟩,?_⟩
  have:=h1.sz (f:=fun r=>(bl r.1).length) fun w x b hR=>hR.2.1
  simp only [szC,szR]
  omega
 ·rw [BP,if_neg z1,if_neg z2,if_neg z3,if_neg z4,if_neg z5,if_neg z6,if_neg z7,if_neg z8,if_neg z9,if_neg z10,if_neg z11] at ht
  exact ht.elim
theorem Bj.sz:∀ {hs:List UInt8} {ws r:List ByteArray} {bad b:Bool} {v v':Ax},Bj hs ws bad v v' r b→(v.Wf→v'.Wf)∧szC v'+BY r≤szC v+BY ws
 | [],ws,r,bad,b,v,v',⟨h1,h2,h3⟩=>by
  subst h1;subst h2
  exact ⟨fun h=>h,Nat.le_refl _⟩
 | x::hs,ws,r,bad,b,v,v',⟨r1,b1,c1,h1,h2⟩=>by
  obtain ⟨a1,a2⟩:=BP.sz h1
  obtain ⟨b1,b2⟩:=Bj.sz h2
  exact ⟨fun h=>b1 (a1 h),by omega⟩
theorem Mk.sz {c:Ax} {ws r:List ByteArray} {bad b:Bool} (h:Mk ws bad c r b):c.Wf∧szC c+BY r≤BY ws:=by
 obtain ⟨w,r1,b1,n,e,w2,r2,b2,h1,h2,h3,h4⟩:=h
 obtain ⟨k1,k2⟩:=Bj.sz h4
 have e1:=Cy h1
 have e2:=Cy h3
 have h21:=MW (bl w2)
 refine ⟨k1 ⟨by show Jv (bl w2) < 256;omega,Nat.lt_succ_of_le h2.1,show EM.f < _ by decide,by show (0:Nat) < _;omega,fun r hr=>(by cases hr)⟩,?_⟩
 have k2:szC c+BY r≤0+BY r2:=k2
 omega
theorem B9.sz {h:UInt8} {ws r:List ByteArray} {bad b:Bool} {v v':EvD} (ht:B9 h ws bad v v' r b):(v.Wf→v'.Wf)∧szV v'+BY r≤szV v+BY ws:=by
 by_cases z1:h=110
 ·subst z1
  replace ht:=iEn ht
  obtain ⟨w,b1,u,e,h1,h2,rfl,rfl⟩:=ht
  refine ⟨fun h=>⟨h.kind,Nat.lt_succ_of_le h2.1,h.to,h.n,h.x,h.nodes,h.keep,h.call⟩,?_⟩
  have:=Cy h1
  simp only [szV]
  omega
 by_cases z2:h=116
 ·subst z2
  replace ht:=iEt ht
  obtain ⟨w,b1,u,e,h1,h2,rfl,rfl⟩:=ht
  refine ⟨fun h=>⟨h.kind,h.node,Nat.lt_succ_of_le h2.1,h.n,h.x,h.nodes,h.keep,h.call⟩,?_⟩
  have:=Cy h1
  simp only [szV]
  omega
 by_cases z3:h=105
 ·subst z3
  replace ht:=iEi ht
  obtain ⟨w,b1,u,e,h1,h2,rfl,rfl⟩:=ht
  refine ⟨fun h=>⟨h.kind,h.node,h.to,h2.1,h.x,h.nodes,h.keep,h.call⟩,?_⟩
  have:=Cy h1
  simp only [szV]
  omega
 by_cases z4:h=88
 ·subst z4
  replace ht:=iEX ht
  obtain ⟨w,b1,u,e,h1,h2,rfl,rfl⟩:=ht
  refine ⟨fun h=>⟨h.kind,h.node,h.to,h.n,h2.1,h.nodes,h.keep,h.call⟩,?_⟩
  have:=Cy h1
  simp only [szV]
  omega
 by_cases z5:h=99
 ·subst z5
  replace ht:=iEc ht
  obtain ⟨w,b1,h1,_,rfl,rfl⟩:=ht
  refine ⟨fun h=>⟨h.kind,h.node,h.to,h.n,h.x,h.nodes,h.keep,h.call⟩,?_⟩
  have:=Cy h1
  simp only [szV]
  omega
 by_cases z6:h=83
 ·subst z6
  replace ht:=iES ht
  obtain ⟨w,b1,u,e,h1,h2,rfl,rfl⟩:=ht
  refine ⟨fun h=>⟨h.kind,h.node,h.to,h.n,h.x,h.nodes,h.keep,h.call⟩,?_⟩
  have:=Cy h1
  have:=h2.1
  simp only [szV,C8]
  omega
 by_cases z7:h=98
 ·subst z7
  replace ht:=iEb ht
  obtain ⟨l,h1,h2,rfl⟩:=ht
  refine ⟨fun h=>⟨h.kind,h.node,h.to,h.n,h.x,h1.mem (P:=fun k=>k < 256) fun w x b hR=>Nat.lt_succ_of_le hR.1,h.keep,h.call⟩,?_⟩
  have:=h1.AaW
  simp only [szV]
  omega
 by_cases z8:h=107
 ·subst z8
  replace ht:=iEk ht
  obtain ⟨l,h1,h2,rfl⟩:=ht
  refine ⟨fun h=>⟨h.kind,h.node,h.to,h.n,h.x,h.nodes,h1.mem (P:=fun k=>To k) fun w x b hR=>hR.1,h.call⟩,?_⟩
  have:=h1.AaW
  simp only [szV]
  omega
 by_cases z9:h=67
 ·subst z9
  replace ht:=iEC ht
  obtain ⟨c,h1,_,rfl⟩:=ht
  obtain ⟨h2,h3⟩:=h1.sz
  refine ⟨fun h=>⟨h.kind,h.node,h.to,h.n,h.x,h.nodes,h.keep,h2⟩,?_⟩
  simp only [szV]
  omega
 ·rw [B9,if_neg z1,if_neg z2,if_neg z3,if_neg z4,if_neg z5,if_neg z6,if_neg z7,if_neg z8,if_neg z9] at ht
  exact ht.elim
theorem Be.sz:∀ {hs:List UInt8} {ws r:List ByteArray} {bad b:Bool} {v v':EvD},Be hs ws bad v v' r b→(v.Wf→v'.Wf)∧szV v'+BY r≤szV v+BY ws
 | [],ws,r,bad,b,v,v',⟨h1,h2,h3⟩=>by
  subst h1;subst h2
  exact ⟨fun h=>h,Nat.le_refl _⟩
 | x::hs,ws,r,bad,b,v,v',⟨r1,b1,c1,h1,h2⟩=>by
  obtain ⟨a1,a2⟩:=B9.sz h1
  obtain ⟨b1,b2⟩:=Be.sz h2
  exact ⟨fun h=>b1 (a1 h),by omega⟩
theorem Uw:Bf.Wf:=⟨by decide,by decide,show EM.f < _ by decide,by decide,fun r hr=>by cases hr⟩
theorem EvT.sz {v:EvD} {ws r:List ByteArray} {b:Bool} (h:EvT ws v r b):v.Wf∧szV v+BY r≤BY ws:=by
 obtain ⟨w,r1,b1,h1,h4⟩:=h
 obtain ⟨k1,k2⟩:=Be.sz h4
 have e1:=Cy h1
 have h17:=MV (bl w)
 have wf0:Cl.Wf:=⟨by decide,by decide,by decide,by decide,show EM.f < _ by decide,fun r hr=>(by cases hr),fun r hr=>(by cases hr),Uw⟩
 refine ⟨k1 ⟨by show Ju (bl w) < 256;omega,wf0.node,wf0.to,wf0.n,wf0.x,wf0.nodes,wf0.keep,wf0.call⟩,?_⟩
 have k2:szV v+BY r≤0+BY r1:=k2
 omega
end Go.Proofs.YtebidlpekphaoaaGreatDoor
namespace Go.Abs
section
variable {P:Program} {ts te:TypeId} {n:Nat} {β:Type} {f:β→List Value}
theorem TR (hlen:∀ x,(f x).length=n+1) {cs:List Value}:∀ (l:List β) (o:Nat),(∀ (i:Nat) p,l[i]? =some p→∃ rest,cs.drop (o+i * (n+1))=f p++rest)→∃ rest,cs.drop o=flat f l++rest
 | [],o,_=>⟨cs.drop o,by simp [flat]⟩
 | p::r,o,h=>by
  obtain ⟨rest0,h0⟩:=h 0 p rfl
  obtain ⟨rest,h1⟩:=TR hlen r (o+(n+1)) fun i q hq=>by
   have:=h (i+1) q (by simpa using hq)
   rwa [Nat.succ_mul,show o+(i * (n+1)+(n+1))=o+(n+1)+i * (n+1) by omega] at this
  refine ⟨rest,?_⟩
  rw [Nat.zero_mul,Nat.add_zero] at h0
  have h2:cs.drop (o+(n+1))=rest0:=by
   rw [← List.drop_drop,h0,← hlen p,List.drop_left]
  rw [h2] at h1
  rw [h0,h1]
  simp [flat]
theorem Ws (h:∀ x,(f x).all (fun v=>!isTuple v)=true) (l:List β):(flat f l).all (fun v=>!isTuple v)=true:=by
 rw [List.all_eq_true]
 intro v hv
 obtain ⟨b,_,hb⟩:=List.mem_flatMap.1 hv
 exact List.all_eq_true.1 (h b) v hb
theorem Wr (h:∀ x,(f x).all AL=true) (l:List β):(flat f l).all AL=true:=by
 rw [List.all_eq_true]
 intro v hv
 obtain ⟨b,_,hb⟩:=List.mem_flatMap.1 hv
 exact List.all_eq_true.1 (h b) v hb
end
end Go.Abs
namespace Go.Abs
section
variable {P:Program} {ts te:TypeId} {β:Type} {f:β→List Value}
theorem ES.AcJ (T:ES P ts te f) {A:AW} {x:Value} {l:List β} {F:List Nat} (h:RdE 0 f A x l F):B6 P A te ts 1 x=some (l.length,flat f l):=by
 unfold B6
 simp only [T.us]
 rcases h with ⟨rfl,_,o,c,rfl⟩ | ⟨r,o,c,cs,e,g,b,ro,rfl,h2,h3,_,h4⟩
 ·cases o with
  | none=>rfl
  | some a=>
   unfold Er
   simp only [Nat.zero_mul]
   rfl
 ·show Er A 1 _=_
  unfold Er
  obtain ⟨rest,hr⟩:=TR (n:=0) T.len l o h4
  have:=El (flat f l) rest (Ws T.noT l)
  rw [EJ T.len] at this
  simp only [CD h2,hr,this]
theorem EN.Zc {A:AW} {v:Value} {l:List β} {F:List Nat} (h:EN te 0 f A v l F):∃ o c,v=.slice o l.length c:=by
 rcases h with ⟨rfl,h2,_⟩ | ⟨b',g,rfl,_⟩
 ·exact ⟨_,_,by rw [h2]⟩
 ·exact ⟨_,_,rfl⟩
def I2 (te:TypeId) (f:β→List Value) (A:AW) (v:Value) (l:List β) (F:List Nat):Prop:=
 EN te 0 f A v l F∨∃ b,v=.slice (some ⟨b,0,none⟩) l.length l.length∧AQ A b (flat f l) te∧l≠[]∧l.length < 100000000∧F=[b]
theorem I2.slice {A:AW} {v:Value} {l:List β} {F:List Nat} (h:I2 te f A v l F):∃ o c,v=.slice o l.length c:=by
 rcases h with h | ⟨b,rfl,_⟩
 ·exact h.Zc
 ·exact ⟨_,_,rfl⟩
theorem I2.keeps {A A':AW} {v:Value} {l:List β} {F S:List Nat} (h:I2 te f A v l F) (k:Aw A A' S) (hd:∀ x∈F,x∉S):I2 te f A' v l F:=by
 rcases h with h | ⟨b,h1,h2,h3,h4,rfl⟩
 ·exact .inl (h.keeps k hd)
 ·exact .inr ⟨b,h1,h2.keeps k (hd b (by simp)),h3,h4,rfl⟩
theorem I2.one {A:AW} {v:Value} {l:List β} {F:List Nat} (h:I2 te f A v l F):v.cells.toList=[v]∧AL v=true:=by
 obtain ⟨o,c,rfl⟩:=h.slice
 exact ⟨rfl,rfl⟩
theorem I2.append (T:ES P ts te f) {A:AW} {v x:Value} {l l2:List β} {F F2:List Nat} {K:Value→AW→Prop} (h:I2 te f A v l F) (hx:RdE 0 f A x l2 F2) (hf:AJ A) (hA:A.next < Al) (hl:l.length < 10000000) (hl2:l2.length < 10000000)
  (hk:∀ v' A' F',I2 te f A' v' (l++l2) F'→Aw A A' F→(∀ x∈F',x∈F∨x=A.next)→A'.next≤A.next+1→AJ A'→K v' A'):Ap (Bh P A ts ts v x) K:=by
 have hroom:room=68719476736:=rfl
 have hcap:Bu=18446744073709551616:=rfl
 obtain ⟨b,hb,hb2⟩:=T.by'
 have hse:BF P ts=some te:=by unfold BF;rw [T.us]
 have hsrc:=T.AcJ hx
 cases l2 with
 | nil=>
  obtain ⟨o,c,rfl⟩:=h.slice
  have hm:(l.length+0) * b≤(l.length+0) * 256:=Nat.mul_le_mul_left _ hb2
  have e:Bh P A ts ts (.slice o l.length c) x=.ok (.slice o l.length c) A:=by
   have hsrc:B6 P A te ts 1 x=some (0,[]):=hsrc
   unfold Bh
   simp only [hse,T.sz,hb,hsrc]
   rw [AA.2 (show l.length+0 < room by omega),AA.2 (show (l.length+0) * b < room by omega),T.hz]
   rfl
  rw [e]
  refine Bi.2 (hk _ A F ?_ (.refl _ _) (fun x hx=>.inl hx) (by omega) hf)
  rw [List.append_nil]
  exact h
 | cons p r=>
  rw [List.length_cons] at hl2
  have hm:(l.length+(r.length+1)) * b≤(l.length+(r.length+1)) * 256:=Nat.mul_le_mul_left _ hb2
  rcases h with h | ⟨q,rfl,h2,h3,h4,rfl⟩
  ·refine MO (m:=r.length) (size:=0) hse T.sz hb T.hz hsrc (by rw [EJ T.len];rfl) (Wr T.one _) h hf hA (by omega) (by omega) fun v' A' F' h1 h2 h3 h4 h5=>?_
   refine hk v' A' F' (.inl ?_) h2 h3 (by omega) h5
   show Ig A' te (0+1) v' (l++p::r).length (flat f (l++p::r)) F'
   rw [List.length_append,Jh]
   exact h1
  ·have hsrc:B6 P A te ts 1 x=some (r.length+1,flat f (p::r)):=hsrc
   have hold:A.C6 ⟨q,0,none⟩ (l.length * 1)=some (flat f l):=by
    rw [Nat.mul_one]
    unfold AW.C6
    cases hl3:l.length with
    | zero=>exact absurd (List.eq_nil_of_length_eq_zero hl3) h3
    | succ k=>
     simp only [h2.row,List.drop_zero]
     have:=Iy (flat f l) []
     rw [EJ T.len,Nat.mul_one,hl3,List.append_nil] at this
     exact this
   have hnew:A.new (.row (flat f l++flat f (p::r)) te A.next 0 false)=some (A.next,A.push (.row (flat f l++flat f (p::r)) te A.next 0 false)):=by
    unfold AW.new
    simp only [AA.2 hA,cond_true]
    rfl
   have e:Bh P A ts ts (.slice (some ⟨q,0,none⟩) l.length l.length) x=.ok (.slice (some ⟨A.next,0,none⟩) (l.length+(r.length+1)) (Bu+(l.length+(r.length+1)))) (A.push (.row (flat f l++flat f (p::r)) te A.next 0 false)):=by
    unfold Bh
    simp only [hse,T.sz,hb,hsrc]
    rw [AA.2 (show l.length+(r.length+1) < room by omega),AA.2 (show (l.length+(r.length+1)) * b < room by omega),T.hz]
    have hcu:Nat.ble Bu l.length=false:=BU.2 (by omega)
    have hfit':Nat.ble (l.length+(r.length+1)) l.length=false:=BU.2 (by omega)
    simp only [hcu,cond_false,hfit',Bool.not_true,Bool.and_self]
    rw [hold]
    simp only [hnew]
   rw [e]
   have hrow:(A.push (.row (flat f l++flat f (p::r)) te A.next 0 false)).get A.next=some (.row (flat f l++flat f (p::r)) te A.next 0 false):=by rw [AW.Cz _ hA,if_pos rfl]
   have hfp:=hf.push (.row (flat f l++flat f (p::r)) te A.next 0 false) hA
   refine Bi.2 (hk _ _ [A.next] (.inl (.inr ⟨A.next,A.next,by rw [List.length_append,List.length_cons],?_,rfl⟩)) (((AW.Df _ hA).keeps hf).more (by simp)) (fun x hx=>.inr (by simpa using hx)) (by rw [AW.CC];omega) hfp)
   refine ⟨by rw [List.length_append,List.length_cons];omega,by rw [hrow,Jh],by rw [EJ T.len],Nat.zero_le _,Nat.zero_le _,by rw [AW.CC];omega,fun i hi=>?_⟩
   have:(A.push (.row (flat f l++flat f (p::r)) te A.next 0 false)).members A.next=[A.next]:=hf.alone (Nat.le_refl _)
   rw [this] at hi
   obtain rfl:i=A.next:=by simpa using hi
   exact ⟨Nat.zero_le _,by rw [AW.CC];omega,_,_,_,_,hrow⟩
end
end Go.Abs
namespace Go.Proofs.YtebidlpekphaoaaGreatDoor
open Go.Abs
def cS (s:ByteArray):List Value:=[.string s]
theorem ZD:ES Tp 56 9 cS:=⟨by kernel_rfl,by kernel_rfl,⟨16,by kernel_rfl,by decide⟩,by kernel_rfl,FH,fun _=>rfl,fun _=>rfl,fun _=>rfl⟩
theorem PV (ws:List ByteArray):flat cS ws=ws.map Value.string:=by
 induction ws with
 | nil=>rfl
 | cons w r ih=>
  show cS w++flat cS r=_
  rw [ih];rfl
theorem PT {ws:List ByteArray} {i:Nat} {s:ByteArray} (h:ws[i]? =some s):(flat cS ws)[i]? =some (.string s):=by
 rw [PV,List.getElem?_map,h];rfl
theorem Cu {A A':AW} {ws:List ByteArray} (m:Made A A' (ws.map Value.string) 9):RdE 0 cS A' (.slice (some ⟨A.next,0,none⟩) ws.length ws.length) ws [A.next]:=by
 refine .inr ⟨A.next,0,_,_,_,A.next,0,false,rfl,m.row,by rw [m.next];omega,rfl,fun i p hi=>?_⟩
 rw [← PV,Nat.zero_add]
 exact Fm (n:=1) (fun _=>rfl) ws i p hi
theorem TE {A A':AW} {ws:List ByteArray} (m:Made A A' (ws.map Value.string) 9) (h:ws≠[]) (hl:ws.length < 100000000):I2 9 cS A' (.slice (some ⟨A.next,0,none⟩) ws.length ws.length) ws [A.next]:=
 .inr ⟨A.next,rfl,by rw [PV];exact m.B7,h,hl,rfl⟩
theorem Yo {A:AW} {v:Value} {x:ByteArray} {r:List ByteArray} {F:List Nat} (h:I2 9 cS A v (x::r) F):RdT A v (x::r) F:=by
 rcases h with (⟨_,h2,_⟩ | ⟨b,f,rfl,h2,rfl⟩) | ⟨b,rfl,h2,_,_,rfl⟩
 ·cases h2
 ·exact ⟨b,0,_,_,_,f,0,false,rfl,h2.row,h2.ltf,rfl,fun i s hi=>by rw [Nat.zero_add];exact PT hi⟩
 ·exact ⟨b,0,_,_,_,b,0,false,rfl,h2.row,h2.lt,rfl,fun i s hi=>by rw [Nat.zero_add];exact PT hi⟩
theorem Xm {A:AW} {b m:Nat} {cs:List Value} {g b0:Nat} {ro:Bool} (hr:A.get b=some (.row cs 9 g b0 ro)):BM Tp A 56 (.slice (some ⟨b,0,none⟩) (m+2) (Bu+(m+2))) (some (.int .i64 1)) none none=some (.slice (some ⟨b,1,none⟩) (m+1) (Bu+(m+1))):=by
 have hrow:LM A (some ⟨b,0,none⟩) 9=true:=by unfold LM;simp only [hr];exact beq_true.2 rfl
 have hm:Ky (some ⟨b,0,none⟩) (1 * 1)=some ⟨b,1,none⟩:=rfl
 show BM Tp A 56 _ (some (.int .i64 (.ofNat 1))) none none=_
 unfold BM
 simp only [YX,sz9,Bo.2 (show Bu≤Bu+(m+2) by omega),cond_true,bounds,IF,E8,Nat.add_sub_cancel_left,Bo.2 (show 1≤m+2 by omega),Bo.2 (Nat.le_refl (m+2)),Option.isSome_none,Bool.not_false,Bool.or_true,hrow,Bool.and_self,hm]
 rfl
section
variable {W0:World} {m0:Inj Tp}
theorem Abr {A:AW} {v:Value} {x:ByteArray} {r:List ByteArray} {F:List Nat} {K:Value→AW→Prop} (h:I2 9 cS A v (x::r) F) (hr:r.length < 10000000) (hsum:DS (x::r) < 900000000) (hf:AJ A) (hA:A.next+10 < Al)
  (hk:∀ A',Grow A A' 2→K (.string (txt (BS (x::r)))) A'):Wc Tp Ai W0 m0 45 [v,.string ⟨⟨[32]⟩⟩] A K:=by
 cases r with
 | nil=>
  refine Aab (Yo h) ?_
  have e:txt (BS [x])=x:=by
   show txt (bl x++[])=x
   rw [List.append_nil];exact Hi x
  have:=hk A ((Grow.refl hf).more (by omega))
  rwa [e] at this
 | cons y r=>
  refine Aac (n:=r.length) (F:=F) rfl (by simp only [List.length_cons] at hr;omega) hsum (fun {B} k=>Yo (I2.keeps h k (by simp))) (fun {B} k=>?_) hf hA hk
  rcases h with (⟨_,h2,_⟩ | ⟨b,f,rfl,h2,rfl⟩) | ⟨b,rfl,h2,_,h4,rfl⟩
  ·cases h2
  ·have hrow:=k.get b _ h2.row h2.ltf (by simp)
   refine ⟨_,Xm hrow,fun {C} kc=>⟨b,1,_,_,_,f,0,false,rfl,kc.get b _ h2.row h2.ltf (by simp),Nat.lt_of_lt_of_le h2.ltf kc.next,rfl,fun i s hi=>?_⟩⟩
   rw [Nat.add_comm]
   exact PT (ws:=x::y::r) (by simpa using hi)
  ·simp only [List.length_cons] at h4
   refine ⟨_,AcK (by omega),fun {C} kc=>⟨b,1,_,_,_,b,0,false,rfl,(h2.keeps kc (by simp)).row,Nat.lt_of_lt_of_le h2.lt kc.next,rfl,fun i s hi=>?_⟩⟩
   rw [Nat.add_comm]
   exact PT (ws:=x::y::r) (by simpa using hi)
structure LW (A0 A:AW) (b:Nat) (cs:List Value) (te:TypeId) (p:Nat) (ws:List ByteArray) (N:Nat):Prop where
 ev:Go.Abs.AQ A b cs te
 out:∃ v F,Go.Abs.AQ A p [v] 56∧I2 9 cS A v ws F∧p∉F∧b∉F∧∀ x∈F,A0.next≤x
 g:Grow A0 A N
 le:A0.next≤p
 ne:b≠p
theorem LW.f {A0 A:AW} {b:Nat} {cs:List Value} {te:TypeId} {p N:Nat} {ws:List ByteArray} (h:LW A0 A b cs te p ws N):AJ A:=h.g.AG
theorem LW.n {A0 A:AW} {b:Nat} {cs:List Value} {te:TypeId} {p N:Nat} {ws:List ByteArray} (h:LW A0 A b cs te p ws N):A.next≤A0.next+N:=h.g.next
theorem LW.grow {A0 A A':AW} {b:Nat} {cs:List Value} {te:TypeId} {p N m:Nat} {ws:List ByteArray} (h:LW A0 A b cs te p ws N) (k:Grow A A' m):LW A0 A' b cs te p ws (N+m):=by
 obtain ⟨v,F,h1,h2,h3,h4,h5⟩:=h.out
 exact ⟨h.ev.keeps k.keeps (by simp),⟨v,F,h1.keeps k.keeps (by simp),h2.keeps k.keeps (by simp),h3,h4,h5⟩,h.g.trans k,h.le,h.ne⟩
theorem LW.more {A0 A:AW} {b:Nat} {cs:List Value} {te:TypeId} {p N m:Nat} {ws:List ByteArray} (h:LW A0 A b cs te p ws N) (hm:N≤m):LW A0 A b cs te p ws m:=⟨h.ev,h.out,h.g.more hm,h.le,h.ne⟩
theorem LW.add {A0 A:AW} {b:Nat} {cs:List Value} {te:TypeId} {p N:Nat} {ws us:List ByteArray} {x:Value} {F2:List Nat} {f:FuncId} {K:Value→AW→Prop} (h:LW A0 A b cs te p ws N) (hf:f=55∨f=84) (hx:RdE 0 cS A x us F2) (hw:ws.length < 10000000) (hu:us.length < 10000000) (hA:A0.next+N+1 < Al)
  (hk:∀ A',LW A0 A' b cs te p (ws++us) (N+1)→K (.tuple ⟨[]⟩) A'):Wc Tp Ai W0 m0 f [x,.pointer (some ⟨p,0,none⟩)] A K:=by
 obtain ⟨v,F,h1,h2,h3,h4,h5⟩:=h.out
 have hn:=h.n
 have hone:=h2.one
 have l1:Au Tp A 56 (.pointer (some ⟨p,0,none⟩))=some v:=by
  rw [LX,Ay h1.row]
  obtain ⟨o,c,rfl⟩:=h2.slice
  rfl
 have main:Ab (Au Tp A 56 (.pointer (some ⟨p,0,none⟩))) fun t0=>Ap (Bh Tp A 56 56 t0 x) fun t1 At1=>Bp (AZ Tp At1 56 (.pointer (some ⟨p,0,none⟩)) t1) fun At2=>K (.tuple ⟨[]⟩) At2:=by
  refine Aa l1 (h2.append ZD hx h.f (by omega) hw hu fun v' A1 F' o1 k1 hF n1 f1=>?_)
  have hp:p∉F':=fun hm=>by
   rcases hF p hm with e | e
   ·exact h3 e
   ·have:=h1.lt;omega
  have hb:b∉F':=fun hm=>by
   rcases hF b hm with e | e
   ·exact h4 e
   ·have:=h.ev.lt;omega
  have hone':=o1.one
  refine Go.Abs.AQ.store (n:=1) (off:=0) (v:=v') (h1.keeps k1 h3) f1 (by omega) (Tv _ _ _) (by rw [hone'.1];rfl) (show 0+1≤1 by decide) (by rw [hone'.1];simp [hone'.2]) fun A2 r2 k2 n2 f2=>?_
  rw [hone'.1] at r2
  have hle:A0.next≤A.next:=h.g.le
  have K1:Aw A A2 (p::F):=(k1.more (T:=p::F) fun y hy=>.inl (List.mem_cons_of_mem _ hy)).trans k2 fun y hy=>.inl (by rw [List.mem_singleton.1 hy];simp)
  refine hk A2 ⟨h.ev.keeps K1 ?_,⟨v',F',r2,o1.keeps k2 fun y hy hm=>hp (by rw [← List.mem_singleton.1 hm];exact hy),hp,hb,fun y hy=>?_⟩,h.g.own K1 (fun y hy=>?_) (by omega) f2,h.le,h.ne⟩
  ·intro hm
   rcases List.mem_cons.1 hm with e | e
   ·exact h.ne e
   ·exact h4 e
  ·rcases hF y hy with e | e
   ·exact h5 y e
   ·omega
  ·rcases List.mem_cons.1 hy with e | e
   ·rw [e];exact h.le
   ·exact h5 y e
 rcases hf with rfl | rfl
 ·refine w55 _ _ _ (At (S:=fun _ _ _=>False) fun _ _ _ h=>h) ?_
  rw [e55];exact main
 ·refine w84 _ _ _ (At (S:=fun _ _ _=>False) fun _ _ _ h=>h) ?_
  rw [e84];exact main
theorem AbI (A:AW) (p:Nat) (x:Value):Fo Tp Ai A (.func (.func 55) ⟨[]⟩ ⟨[.pointer (some ⟨p,0,none⟩)]⟩) [x]=.ok (.enter 55 [x,.pointer (some ⟨p,0,none⟩)]) A:=by kernel_rfl
theorem AbF (A:AW) (p:Nat) (x:Value):Fo Tp Ai A (.func (.func 84) ⟨[]⟩ ⟨[.pointer (some ⟨p,0,none⟩)]⟩) [x]=.ok (.enter 84 [x,.pointer (some ⟨p,0,none⟩)]) A:=by kernel_rfl
theorem LW.FN {A0 A:AW} {b:Nat} {cs:List Value} {te:TypeId} {p N:Nat} {ws us:List ByteArray} {x:Value} {F2:List Nat} {K:Value→AW→Prop} (h:LW A0 A b cs te p ws N) (hx:RdE 0 cS A x us F2) (hw:ws.length < 10000000) (hu:us.length < 10000000) (hA:A0.next+N+1 < Al)
  (hk:∀ A',LW A0 A' b cs te p (ws++us) (N+1)→K (.tuple ⟨[]⟩) A'):anW Tp Ai W0 m0 (Fo Tp Ai A (.func (.func 55) ⟨[]⟩ ⟨[.pointer (some ⟨p,0,none⟩)]⟩) [x]) K:=by
 rw [AbI]
 refine .inr (.inl ⟨_,_,_,rfl,?_⟩)
 show Wc Tp Ai W0 m0 55 _ A _
 exact h.add (.inl rfl) hx hw hu hA hk
theorem LW.FM {A0 A:AW} {b:Nat} {cs:List Value} {te:TypeId} {p N:Nat} {ws us:List ByteArray} {x:Value} {F2:List Nat} {K:Value→AW→Prop} (h:LW A0 A b cs te p ws N) (hx:RdE 0 cS A x us F2) (hw:ws.length < 10000000) (hu:us.length < 10000000) (hA:A0.next+N+1 < Al)
  (hk:∀ A',LW A0 A' b cs te p (ws++us) (N+1)→K (.tuple ⟨[]⟩) A'):anW Tp Ai W0 m0 (Fo Tp Ai A (.func (.func 84) ⟨[]⟩ ⟨[.pointer (some ⟨p,0,none⟩)]⟩) [x]) K:=by
 rw [AbF]
 refine .inr (.inl ⟨_,_,_,rfl,?_⟩)
 show Wc Tp Ai W0 m0 84 _ A _
 exact h.add (.inr rfl) hx hw hu hA hk
theorem LW.join {A0 A:AW} {b:Nat} {cs:List Value} {te:TypeId} {p N:Nat} {ws:List ByteArray} {K:Value→AW→Prop} (h:LW A0 A b cs te p ws N) (h0:ws≠[]) (hw:ws.length < 10000000) (hsum:DS ws < 900000000) (hA:A0.next+N+10 < Al)
  (hk:∀ A',Grow A0 A' (N+2)→K (.string (txt (BS ws))) A'):Ab (Au Tp A 56 (.pointer (some ⟨p,0,none⟩))) fun t=>Wc Tp Ai W0 m0 45 [t,.string ⟨⟨[32]⟩⟩] A K:=by
 obtain ⟨v,F,h1,h2,h3,h4,h5⟩:=h.out
 have hn:=h.n
 have l1:Au Tp A 56 (.pointer (some ⟨p,0,none⟩))=some v:=by
  rw [LX,Ay h1.row]
  obtain ⟨o,c,rfl⟩:=h2.slice
  rfl
 refine Aa l1 ?_
 cases ws with
 | nil=>exact absurd rfl h0
 | cons x r=>
  simp only [List.length_cons] at hw
  exact Abr h2 (by omega) hsum h.f (by omega) fun A' g=>hk A' (h.g.trans g)
end
theorem EB (A:AW) (s:ByteArray):Ar Tp A 56 1 [(0,.string s)]=(match A.newRow [.string s] 9 with | some (a,w')=>.ok (.slice (some a) 1 1) w' | none=>.fail "buildSlice new"):=by kernel_rfl
theorem LA (A:AW) (s t u:ByteArray):Ar Tp A 56 3 [(0,.string s),(1,.string t),(2,.string u)]=(match A.newRow [.string s,.string t,.string u] 9 with | some (a,w')=>.ok (.slice (some a) 3 3) w' | none=>.fail "buildSlice new"):=by kernel_rfl
theorem Ac8 (s:ByteArray):AT Tp (By (Tm.fill ⟨1,.nil⟩ 0 [.string s])) (.buildSlice 56 1 #[(0,.tmp 0)])=some (.slice [.string s] 9 1):=by kernel_rfl
theorem Ac7 (s t:ByteArray):AT Tp (By (Tm.fill ⟨2,.nil⟩ 0 [.string s,.string t])) (.buildSlice 56 2 #[(0,.tmp 0),(1,.tmp 1)])=some (.slice [.string s,.string t] 9 2):=by kernel_rfl
theorem Ac6 (s t u:ByteArray):AT Tp (By (Tm.fill ⟨3,.nil⟩ 0 [.string s,.string t,.string u])) (.buildSlice 56 3 #[(0,.tmp 0),(1,.tmp 1),(2,.tmp 2)])=some (.slice [.string s,.string t,.string u] 9 3):=by kernel_rfl
theorem Abx {A:AW} {q:Nat} {s:ByteArray} {p:Prop} (h:A.get q=some (.row [.string s] 9 q 0 false)) (hp:p):Bz (AT Tp (By (Tm.fill ⟨1,.nil⟩ 0 [.string s])) (.buildSlice 56 1 #[(0,.tmp 0)])) A (.slice (some ⟨q,0,none⟩) 1 1) p:=by
 refine ⟨⟨_,Ac8 _,?_⟩,hp⟩
 simp only [Ck,Fh,h,ER,GW,Bool.and_self,Option.isNone_none,Nat.beq_refl]
theorem Mv {A:AW} {q:Nat} {s t:ByteArray} {p:Prop} (h:A.get q=some (.row [.string s,.string t] 9 q 0 false)) (hp:p):Bz (AT Tp (By (Tm.fill ⟨2,.nil⟩ 0 [.string s,.string t])) (.buildSlice 56 2 #[(0,.tmp 0),(1,.tmp 1)])) A (.slice (some ⟨q,0,none⟩) 2 2) p:=by
 refine ⟨⟨_,Ac7 _ _,?_⟩,hp⟩
 simp only [Ck,Fh,h,ER,GW,Bool.and_self,Option.isNone_none,Nat.beq_refl]
theorem UO {A:AW} {q:Nat} {s t u:ByteArray} {p:Prop} (h:A.get q=some (.row [.string s,.string t,.string u] 9 q 0 false)) (hp:p):Bz (AT Tp (By (Tm.fill ⟨3,.nil⟩ 0 [.string s,.string t,.string u])) (.buildSlice 56 3 #[(0,.tmp 0),(1,.tmp 1),(2,.tmp 2)])) A (.slice (some ⟨q,0,none⟩) 3 3) p:=by
 refine ⟨⟨_,Ac6 _ _ _,?_⟩,hp⟩
 simp only [Ck,Fh,h,ER,GW,Bool.and_self,Option.isNone_none,Nat.beq_refl]
theorem Ac9:AT Tp (fun _=>undef) (.alloc 56)=some (.row [.slice none 0 0] 56):=by kernel_rfl
theorem PU {A:AW} {q:Nat} {p:Prop} (h:A.get q=some (.row [.slice none 0 0] 56 q 0 false)) (hp:p):Bz (AT Tp (fun _=>undef) (.alloc 56)) A (.pointer (some ⟨q,0,none⟩)) p:=by
 refine ⟨⟨_,Ac9,?_⟩,hp⟩
 simp only [Ck,Fh,h,ER,Bool.true_and,Nat.beq_refl]
 rfl
end Go.Proofs.YtebidlpekphaoaaGreatDoor
namespace Go.Proofs.YtebidlpekphaoaaGreatDoor
open Go.Abs
section
variable {W0:World} {m0:Inj Tp}
theorem Qb (A:AW) (s t u v:ByteArray):Ar Tp A 56 4 [(0,.string s),(1,.string t),(2,.string u),(3,.string v)]=(match A.newRow [.string s,.string t,.string u,.string v] 9 with | some (a,w')=>.ok (.slice (some a) 4 4) w' | none=>.fail "buildSlice new"):=by kernel_rfl
theorem rd4 {A A':AW} {s t u v:ByteArray} (m:Made A A' [.string s,.string t,.string u,.string v] 9):RdT A' (.slice (some ⟨A.next,0,none⟩) 4 4) [s,t,u,v] [A.next]:=
 ⟨A.next,0,4,_,9,A.next,0,false,rfl,m.row,by rw [m.next];omega,rfl,fun i x hi=>by
  match i with
  | 0=>cases hi;rfl
  | 1=>cases hi;rfl
  | 2=>cases hi;rfl
  | 3=>cases hi;rfl
  | i+4=>simp at hi⟩
set_option maxHeartbeats 4000000 in
theorem Ab2 {q:Nat} {ws:List ByteArray} {bad:Bool} {F:List Nat} {A:AW} {K:Value→AW→Prop} (hp:Pow W0) (h:TK A q ws bad F) (hF:∀ x∈F,x < A.next) (hg:GE A) (hq:8≤q) (hs:DT ws) (hwl:BY ws < 50000000) (hf:AJ A) (hA:A.next+100 * BY ws+4000 < Al)
  (hk:∀ A' c vr G ws' bad',Mk ws bad c ws' bad'→RdE 1 cR A' vr c.refs G→(∀ x∈G,A.next≤x)→TK A' q ws' bad' F→Aw A A' [q]→A'.next+100 * BY ws'≤A.next+100 * BY ws+2000→AJ A'→K (.agg ⟨c.cells vr⟩) A'):
  Wc Tp Ai W0 m0 72 [.pointer (some ⟨q,0,none⟩)] A K:=by
 have hqA:q < A.next:=by obtain ⟨⟨v,r,_⟩,_⟩:=h;exact r.lt
 refine w72 _ _ (At (S:=fun _ _ _=>False) fun _ _ _ h=>h) ?_
 rw [e72]
 refine AV Hh hf (by omega) rfl fun Y1 y1=>?_
 have ny1:=y1.next
 have ky1:=y1.keeps hf
 refine Ub (.inr (.inr rfl)) (h.keeps ky1 (by simp) (by simp)) (hg.keeps ky1 (by simp)) hq hs y1.AG (by omega) fun Y2 w r b n e ht hu tk2 k2 n2 f2=>?_
 have hu:UW 18446744073709551615 (bl w) n e:=hu
 have hw:=AK.sum ht
 have hs1:=(AK.short ht hs).2
 have le2:=k2.next
 refine Aa (Adt _) (AV Hh f2 (by omega) rfl fun Y3 y3=>?_)
 have ny3:=y3.next
 have ky3:=y3.keeps f2
 have K13:Aw A Y3 [q]:=((ky1.more (T:=[q]) (by simp)).trans k2 fun x hx=>.inl hx).trans ky3 (by simp)
 have s0:SW A Y3 q A.next Y2.next (Bf.cells vN) (Bf.cells vN) 38 F r (b || e):=
  ⟨(y1.B7.keeps k2 (by simp;omega)).keeps ky3 (by simp),y3.B7,tk2.keeps ky3 (by simp) (by simp),K13,y3.AG,Nat.le_refl _,by omega,hqA,hF⟩
 refine s0.set (n:=12) (off:=0) (v:=.agg ⟨({ Bf with ses:=n }:Ax).cells vN⟩) (by omega) (Hz _ _ _) rfl (by decide) rfl fun Y4 z4 k4 n4=>?_
 have s0:SW A Y4 q A.next Y2.next (Bf.cells vN) (({ Bf with ses:=n }:Ax).cells vN) 38 F r (b || e):=z4
 refine Z3 s0.f (by omega) fun Y5 vm g5=>?_
 have n5:=g5.next
 have s0:=s0.grow g5.keeps g5.AG
 refine Kg s0.tk s0.f (by omega) fun Y6 w2 r0 b0 ht0 tk6 k6 n6 f6=>?_
 have hw0:=AK.sum ht0
 have hs0:=(AK.short ht0 hs1).2
 have le5:=g5.le
 have vm:=vm.keeps k6 (by simp;omega)
 have s0:=s0.take tk6 k6 f6
 refine Aa (vm.look w2) (Aa (DI Y2.next 0) ?_)
 have hk21:=MW (bl w2)
 have hdef:((Dy IZ (bl w2)).getD 0)=Jv (bl w2):=rfl
 rw [hdef]
 generalize hkk:Jv (bl w2)=kk at hk21 ⊢
 refine s0.set (n:=1) (off:=0) (v:=.int .u8 (kk:Int)) (by omega) (Hy _ _ _) rfl (show 0+1≤12 by decide) rfl fun Y7 z7 k7 n7=>?_
 have s0:SW A Y7 q A.next Y2.next (Bf.cells vN) (({ Bf with ses:=n,what:=kk }:Ax).cells vN) 38 F r0 b0:=z7
 have l7:Au Tp Y7 5 (.pointer (some ⟨Y2.next,0,none⟩))=some (.int .u8 (kk:Int)):=by
  rw [PQ,Ay s0.r3.row];rfl
 have fin:∀ {B:AW} {c:Ax} {vr:Value} {G:List Nat} {r':List ByteArray} {b':Bool},SW A B q A.next Y2.next (Bf.cells vN) (c.cells vr) 38 F r' b'→RdE 1 cR B vr c.refs G→(∀ x∈G,Y2.next < x)→Bj (partsOf kk).2 r0 b0 { Bf with ses:=n,what:=kk } c r' b'→
   B.next+100 * BY r'≤A.next+100 * BY ws+2000→(Ab (Au Tp B 38 (.pointer (some ⟨Y2.next,0,none⟩))) fun t=>Bp (AZ Tp B 38 (.pointer (some ⟨A.next,0,none⟩)) t) fun B2=>Ab (Au Tp B2 38 (.pointer (some ⟨A.next,0,none⟩))) fun v=>K v B2):=fun {B c vr G r' b'} s hrd hG htk hn=>by
  have hone:=hrd.one
  refine Aa (Cj s.r3 (Eo c hone.2) rfl (JD _ _)) ?_
  refine Go.Abs.AQ.store (n:=12) (off:=0) (v:=.agg ⟨c.cells vr⟩) s.r0 s.f (by omega) (Hz _ _ _) rfl (show 0+12≤12 by decide) (C4 c hone.1) fun B2 rb kb nb fb=>?_
  have rb:Go.Abs.AQ B2 A.next (c.cells vr) 38:=rb
  refine Aa (Cj rb (Eo c hone.2) rfl (JD _ _)) ?_
  refine hk B2 c vr G r' b' ⟨w,r,b,n,e,w2,r0,b0,ht,hu,ht0,by rw [hkk];exact htk⟩ (hrd.keeps kb (fun x hx=>by have:=hG x hx;simp;omega)) (fun x hx=>by have:=hG x hx;omega) (s.tk.keeps kb (by simp;omega) (fun x hx=>by have:=hF x hx;simp;omega)) (s.k.trans kb fun x hx=>.inr (by rw [List.mem_singleton.1 hx];exact Nat.le_refl _)) (by omega) fb
 refine Aa (DI Y2.next 0) (Aa l7 ?_)
 generalize hp3:Y2.next=p3 at *
 refine Aa Ah (Ae.2 ⟨fun hc=>?_,fun hc3=>?_⟩)
 ·obtain rfl:kk=3:=by omega
  refine Kf s0.tk hs0 s0.f (by omega) fun A1 w1 r1 b1 u1 e1 ht1 hu1 tk1 k1 n1 f1=>?_
  have s1:=s0.take tk1 k1 f1
  have hw1:=AK.sum ht1
  have hs1:=(AK.short ht1 hs0).2
  refine Ub (.inr (.inl rfl)) s1.tk (s1.ge hg hq) hq hs1 s1.f (by omega) fun A2 w2 r2 b2 u2 e2 ht2 hu2 tk2 k2 n2 f2=>?_
  have hu2:UW 4294967295 (bl w2) u2 e2:=hu2
  have hm2:=hu2.1
  refine DO (KL _ _ _) ?_
  rw [wrap_u32 (by omega) (by omega)]
  have s2:=s1.take tk2 k2 f2
  have hw2:=AK.sum ht2
  have hs2:=(AK.short ht2 hs1).2
  refine Aa (Ct p3 0) ?_
  refine s2.set (n:=1) (off:=2) (v:=(.string (txt u1))) (by omega) (HW _ _ _) rfl (show 2+1≤12 by decide) rfl fun C1 z1 kc1 nc1=>?_
  have s2:SW A C1 q A.next p3 _ (Ax.cells { Bf with ses:=n,what:=3,queue:=txt u1 } vN) 38 F r2 _:=z1
  refine Aa (CU p3 0) ?_
  refine s2.set (n:=1) (off:=7) (v:=(.int .u32 (u2:Int))) (by omega) (Ty _ _ _) rfl (show 7+1≤12 by decide) rfl fun C2 z2 kc2 nc2=>?_
  have s2:SW A C2 q A.next p3 _ (Ax.cells { Bf with ses:=n,what:=3,queue:=txt u1,n:=u2 } vN) 38 F r2 _:=z2
  exact fin s2 (.nil _ _ _) (by simp) (Bj.cons (tCQ ht1 hu1) (Bj.cons (tCN ht2 hu2) (Bj.nil))) (by omega)
 refine Aa Ah (Ae.2 ⟨fun hc=>?_,fun hc4=>?_⟩)
 ·obtain rfl:kk=4:=by omega
  refine Kf s0.tk hs0 s0.f (by omega) fun A1 w1 r1 b1 u1 e1 ht1 hu1 tk1 k1 n1 f1=>?_
  have s1:=s0.take tk1 k1 f1
  have hw1:=AK.sum ht1
  have hs1:=(AK.short ht1 hs0).2
  refine Vl s1.tk s1.f (by omega) fun A2 w2 r2 b2 ht2 tk2 k2 n2 f2=>?_
  have s2:=s1.take tk2 k2 f2
  have hw2:=AK.sum ht2
  have hs2:=(AK.short ht2 hs1).2
  refine Aa (Ct p3 0) ?_
  refine s2.set (n:=1) (off:=2) (v:=(.string (txt u1))) (by omega) (HW _ _ _) rfl (show 2+1≤12 by decide) rfl fun C1 z1 kc1 nc1=>?_
  have s2:SW A C1 q A.next p3 _ (Ax.cells { Bf with ses:=n,what:=4,queue:=txt u1 } vN) 38 F r2 _:=z1
  refine Aa (BZ p3 0) ?_
  refine s2.set (n:=1) (off:=8) (v:=(.bool (bl w2==Gm))) (by omega) (HX _ _ _) rfl (show 8+1≤12 by decide) rfl fun C2 z2 kc2 nc2=>?_
  have s2:SW A C2 q A.next p3 _ (Ax.cells { Bf with ses:=n,what:=4,queue:=txt u1,a:=bl w2==Gm } vN) 38 F r2 _:=z2
  exact fin s2 (.nil _ _ _) (by simp) (Bj.cons (tCQ ht1 hu1) (Bj.cons (tCE ht2) (Bj.nil))) (by omega)
 refine Aa Ah (Ae.2 ⟨fun hc=>?_,fun hc5=>?_⟩)
 ·obtain rfl:kk=5:=by omega
  refine Kf s0.tk hs0 s0.f (by omega) fun A1 w1 r1 b1 u1 e1 ht1 hu1 tk1 k1 n1 f1=>?_
  have s1:=s0.take tk1 k1 f1
  have hw1:=AK.sum ht1
  have hs1:=(AK.short ht1 hs0).2
  refine Aa (Ct p3 0) ?_
  refine s1.set (n:=1) (off:=2) (v:=(.string (txt u1))) (by omega) (HW _ _ _) rfl (show 2+1≤12 by decide) rfl fun C1 z1 kc1 nc1=>?_
  have s1:SW A C1 q A.next p3 _ (Ax.cells { Bf with ses:=n,what:=5,queue:=txt u1 } vN) 38 F r1 _:=z1
  exact fin s1 (.nil _ _ _) (by simp) (Bj.cons (tCQ ht1 hu1) (Bj.nil)) (by omega)
 refine Aa Ah (Ae.2 ⟨fun hc=>?_,fun hc6=>?_⟩)
 ·obtain rfl:kk=6:=by omega
  refine Kf s0.tk hs0 s0.f (by omega) fun A1 w1 r1 b1 u1 e1 ht1 hu1 tk1 k1 n1 f1=>?_
  have s1:=s0.take tk1 k1 f1
  have hw1:=AK.sum ht1
  have hs1:=(AK.short ht1 hs0).2
  refine Aa (Ct p3 0) ?_
  refine s1.set (n:=1) (off:=2) (v:=(.string (txt u1))) (by omega) (HW _ _ _) rfl (show 2+1≤12 by decide) rfl fun C1 z1 kc1 nc1=>?_
  have s1:SW A C1 q A.next p3 _ (Ax.cells { Bf with ses:=n,what:=6,queue:=txt u1 } vN) 38 F r1 _:=z1
  exact fin s1 (.nil _ _ _) (by simp) (Bj.cons (tCQ ht1 hu1) (Bj.nil)) (by omega)
 refine Aa Ah (Ae.2 ⟨fun hc=>?_,fun hc7=>?_⟩)
 ·obtain rfl:kk=7:=by omega
  refine Kf s0.tk hs0 s0.f (by omega) fun A1 w1 r1 b1 u1 e1 ht1 hu1 tk1 k1 n1 f1=>?_
  have s1:=s0.take tk1 k1 f1
  have hw1:=AK.sum ht1
  have hs1:=(AK.short ht1 hs0).2
  refine Kf s1.tk hs1 s1.f (by omega) fun A2 w2 r2 b2 u2 e2 ht2 hu2 tk2 k2 n2 f2=>?_
  have s2:=s1.take tk2 k2 f2
  have hw2:=AK.sum ht2
  have hs2:=(AK.short ht2 hs1).2
  refine Kf s2.tk hs2 s2.f (by omega) fun A3 w3 r3 b3 u3 e3 ht3 hu3 tk3 k3 n3 f3=>?_
  have s3:=s2.take tk3 k3 f3
  have hw3:=AK.sum ht3
  have hs3:=(AK.short ht3 hs2).2
  refine Aa (Ct p3 0) ?_
  refine s3.set (n:=1) (off:=2) (v:=(.string (txt u1))) (by omega) (HW _ _ _) rfl (show 2+1≤12 by decide) rfl fun C1 z1 kc1 nc1=>?_
  have s3:SW A C1 q A.next p3 _ (Ax.cells { Bf with ses:=n,what:=7,queue:=txt u1 } vN) 38 F r3 _:=z1
  refine Aa (CA p3 0) ?_
  refine s3.set (n:=1) (off:=3) (v:=(.string (txt u2))) (by omega) (HW _ _ _) rfl (show 3+1≤12 by decide) rfl fun C2 z2 kc2 nc2=>?_
  have s3:SW A C2 q A.next p3 _ (Ax.cells { Bf with ses:=n,what:=7,queue:=txt u1,tag:=txt u2 } vN) 38 F r3 _:=z2
  refine Aa (Eh p3 0) ?_
  refine s3.set (n:=1) (off:=11) (v:=(.string (txt u3))) (by omega) (HW _ _ _) rfl (show 11+1≤12 by decide) rfl fun C3 z3 kc3 nc3=>?_
  have s3:SW A C3 q A.next p3 _ (Ax.cells { Bf with ses:=n,what:=7,queue:=txt u1,tag:=txt u2,body:=txt u3 } vN) 38 F r3 _:=z3
  exact fin s3 (.nil _ _ _) (by simp) (Bj.cons (tCQ ht1 hu1) (Bj.cons (tCT ht2 hu2) (Bj.cons (tCB ht3 hu3) (Bj.nil)))) (by omega)
 refine Aa Ah (Ae.2 ⟨fun hc=>?_,fun hc8=>?_⟩)
 ·obtain rfl:kk=8:=by omega
  refine Kf s0.tk hs0 s0.f (by omega) fun A1 w1 r1 b1 u1 e1 ht1 hu1 tk1 k1 n1 f1=>?_
  have s1:=s0.take tk1 k1 f1
  have hw1:=AK.sum ht1
  have hs1:=(AK.short ht1 hs0).2
  refine Kf s1.tk hs1 s1.f (by omega) fun A2 w2 r2 b2 u2 e2 ht2 hu2 tk2 k2 n2 f2=>?_
  have s2:=s1.take tk2 k2 f2
  have hw2:=AK.sum ht2
  have hs2:=(AK.short ht2 hs1).2
  refine Aa (Ct p3 0) ?_
  refine s2.set (n:=1) (off:=2) (v:=(.string (txt u1))) (by omega) (HW _ _ _) rfl (show 2+1≤12 by decide) rfl fun C1 z1 kc1 nc1=>?_
  have s2:SW A C1 q A.next p3 _ (Ax.cells { Bf with ses:=n,what:=8,queue:=txt u1 } vN) 38 F r2 _:=z1
  refine Aa (CA p3 0) ?_
  refine s2.set (n:=1) (off:=3) (v:=(.string (txt u2))) (by omega) (HW _ _ _) rfl (show 3+1≤12 by decide) rfl fun C2 z2 kc2 nc2=>?_
  have s2:SW A C2 q A.next p3 _ (Ax.cells { Bf with ses:=n,what:=8,queue:=txt u1,tag:=txt u2 } vN) 38 F r2 _:=z2
  exact fin s2 (.nil _ _ _) (by simp) (Bj.cons (tCQ ht1 hu1) (Bj.cons (tCT ht2 hu2) (Bj.nil))) (by omega)
 refine Aa Ah (Ae.2 ⟨fun hc=>?_,fun hc9=>?_⟩)
 ·obtain rfl:kk=9:=by omega
  refine Kf s0.tk hs0 s0.f (by omega) fun A1 w1 r1 b1 u1 e1 ht1 hu1 tk1 k1 n1 f1=>?_
  have s1:=s0.take tk1 k1 f1
  have hw1:=AK.sum ht1
  have hs1:=(AK.short ht1 hs0).2
  refine Aa (CA p3 0) ?_
  refine s1.set (n:=1) (off:=3) (v:=(.string (txt u1))) (by omega) (HW _ _ _) rfl (show 3+1≤12 by decide) rfl fun C1 z1 kc1 nc1=>?_
  have s1:SW A C1 q A.next p3 _ (Ax.cells { Bf with ses:=n,what:=9,tag:=txt u1 } vN) 38 F r1 _:=z1
  exact fin s1 (.nil _ _ _) (by simp) (Bj.cons (tCT ht1 hu1) (Bj.nil)) (by omega)
 refine Aa Ah (Ae.2 ⟨fun hc=>?_,fun hc11=>?_⟩)
 ·obtain rfl:kk=11:=by omega
  refine Kf s0.tk hs0 s0.f (by omega) fun A1 w1 r1 b1 u1 e1 ht1 hu1 tk1 k1 n1 f1=>?_
  have s1:=s0.take tk1 k1 f1
  have hw1:=AK.sum ht1
  have hs1:=(AK.short ht1 hs0).2
  refine Aa (CA p3 0) ?_
  refine s1.set (n:=1) (off:=3) (v:=(.string (txt u1))) (by omega) (HW _ _ _) rfl (show 3+1≤12 by decide) rfl fun C1 z1 kc1 nc1=>?_
  have s1:SW A C1 q A.next p3 _ (Ax.cells { Bf with ses:=n,what:=11,tag:=txt u1 } vN) 38 F r1 _:=z1
  exact fin s1 (.nil _ _ _) (by simp) (Bj.cons (tCT ht1 hu1) (Bj.nil)) (by omega)
 refine Aa Ah (Ae.2 ⟨fun hc=>?_,fun hc10=>?_⟩)
 ·obtain rfl:kk=10:=by omega
  refine Kf s0.tk hs0 s0.f (by omega) fun A1 w1 r1 b1 u1 e1 ht1 hu1 tk1 k1 n1 f1=>?_
  have s1:=s0.take tk1 k1 f1
  have hw1:=AK.sum ht1
  have hs1:=(AK.short ht1 hs0).2
  refine Ub (.inr (.inl rfl)) s1.tk (s1.ge hg hq) hq hs1 s1.f (by omega) fun A2 w2 r2 b2 u2 e2 ht2 hu2 tk2 k2 n2 f2=>?_
  have hu2:UW 4294967295 (bl w2) u2 e2:=hu2
  have hm2:=hu2.1
  refine DO (KL _ _ _) ?_
  rw [wrap_u32 (by omega) (by omega)]
  have s2:=s1.take tk2 k2 f2
  have hw2:=AK.sum ht2
  have hs2:=(AK.short ht2 hs1).2
  refine Aa (CA p3 0) ?_
  refine s2.set (n:=1) (off:=3) (v:=(.string (txt u1))) (by omega) (HW _ _ _) rfl (show 3+1≤12 by decide) rfl fun C1 z1 kc1 nc1=>?_
  have s2:SW A C1 q A.next p3 _ (Ax.cells { Bf with ses:=n,what:=10,tag:=txt u1 } vN) 38 F r2 _:=z1
  refine Aa (CU p3 0) ?_
  refine s2.set (n:=1) (off:=7) (v:=(.int .u32 (u2:Int))) (by omega) (Ty _ _ _) rfl (show 7+1≤12 by decide) rfl fun C2 z2 kc2 nc2=>?_
  have s2:SW A C2 q A.next p3 _ (Ax.cells { Bf with ses:=n,what:=10,tag:=txt u1,n:=u2 } vN) 38 F r2 _:=z2
  exact fin s2 (.nil _ _ _) (by simp) (Bj.cons (tCT ht1 hu1) (Bj.cons (tCN ht2 hu2) (Bj.nil))) (by omega)
 refine Aa Ah (Ae.2 ⟨fun hc=>?_,fun hc14=>?_⟩)
 ·obtain rfl:kk=14:=by omega
  refine Vl s0.tk s0.f (by omega) fun A1 w1 r1 b1 ht1 tk1 k1 n1 f1=>?_
  have s1:=s0.take tk1 k1 f1
  have hw1:=AK.sum ht1
  have hs1:=(AK.short ht1 hs0).2
  refine Aa (BZ p3 0) ?_
  refine s1.set (n:=1) (off:=8) (v:=(.bool (bl w1==Ih))) (by omega) (HX _ _ _) rfl (show 8+1≤12 by decide) rfl fun C1 z1 kc1 nc1=>?_
  have s1:SW A C1 q A.next p3 _ (Ax.cells { Bf with ses:=n,what:=14,a:=bl w1==Ih } vN) 38 F r1 _:=z1
  refine YK s1.tk s1.fam (s1.ge hg hq) hq hs1 (by omega) s1.f (by omega) fun A2 v2 l2 G2 r2 b2 hr2 hst2 ho2 hG2 tk2 k2 n2 f2=>?_
  have s2:=s1.take tk2 k2 f2
  have le2:=k2.next
  have hvc2:v2.cells.toList=[v2]:=by obtain ⟨o,c,e⟩:=(ho2.rd (fun _=>rfl)).slice;rw [e];rfl
  refine Aa (Di p3 0) ?_
  refine s2.set (n:=1) (off:=10) (v:=v2) (by omega) (Tx _ _ _) (by rw [hvc2];rfl) (show 10+1≤12 by decide) (by rw [hvc2];simp [ho2.one.1]) fun C2 z2 kc2 nc2=>?_
  rw [hvc2] at z2
  have s2:SW A C2 q A.next p3 _ (Ax.cells { Bf with ses:=n,what:=14,a:=bl w1==Ih,refs:=l2 } v2) 38 F r2 _:=z2
  exact fin s2 ((ho2.keeps kc2 (fun x hx=>by have:=hG2 x hx;simp;omega)).rd (fun _=>rfl)) (fun x hx=>by have:=hG2 x hx;omega) (Bj.cons (tCM ht1) (Bj.cons (tCR hr2 hst2) (Bj.nil))) (by omega)
 refine Aa Ah (Ae.2 ⟨fun hc=>?_,fun hc13=>?_⟩)
 ·obtain rfl:kk=13:=by omega
  refine YK s0.tk s0.fam (s0.ge hg hq) hq hs0 (by omega) s0.f (by omega) fun A1 v1 l1 G1 r1 b1 hr1 hst1 ho1 hG1 tk1 k1 n1 f1=>?_
  have s1:=s0.take tk1 k1 f1
  have le1:=k1.next
  have hvc1:v1.cells.toList=[v1]:=by obtain ⟨o,c,e⟩:=(ho1.rd (fun _=>rfl)).slice;rw [e];rfl
  refine Aa (Di p3 0) ?_
  refine s1.set (n:=1) (off:=10) (v:=v1) (by omega) (Tx _ _ _) (by rw [hvc1];rfl) (show 10+1≤12 by decide) (by rw [hvc1];simp [ho1.one.1]) fun C1 z1 kc1 nc1=>?_
  rw [hvc1] at z1
  have s1:SW A C1 q A.next p3 _ (Ax.cells { Bf with ses:=n,what:=13,refs:=l1 } v1) 38 F r1 _:=z1
  exact fin s1 ((ho1.keeps kc1 (fun x hx=>by have:=hG1 x hx;simp;omega)).rd (fun _=>rfl)) (fun x hx=>by have:=hG1 x hx;omega) (Bj.cons (tCR hr1 hst1) (Bj.nil)) (by omega)
 refine Aa Ah (Ae.2 ⟨fun hc=>?_,fun hc15=>?_⟩)
 ·obtain rfl:kk=15:=by omega
  refine YK s0.tk s0.fam (s0.ge hg hq) hq hs0 (by omega) s0.f (by omega) fun A1 v1 l1 G1 r1 b1 hr1 hst1 ho1 hG1 tk1 k1 n1 f1=>?_
  have s1:=s0.take tk1 k1 f1
  have le1:=k1.next
  have hvc1:v1.cells.toList=[v1]:=by obtain ⟨o,c,e⟩:=(ho1.rd (fun _=>rfl)).slice;rw [e];rfl
  refine Aa (Di p3 0) ?_
  refine s1.set (n:=1) (off:=10) (v:=v1) (by omega) (Tx _ _ _) (by rw [hvc1];rfl) (show 10+1≤12 by decide) (by rw [hvc1];simp [ho1.one.1]) fun C1 z1 kc1 nc1=>?_
  rw [hvc1] at z1
  have s1:SW A C1 q A.next p3 _ (Ax.cells { Bf with ses:=n,what:=15,refs:=l1 } v1) 38 F r1 _:=z1
  exact fin s1 ((ho1.keeps kc1 (fun x hx=>by have:=hG1 x hx;simp;omega)).rd (fun _=>rfl)) (fun x hx=>by have:=hG1 x hx;omega) (Bj.cons (tCR hr1 hst1) (Bj.nil)) (by omega)
 refine Aa Ah (Ae.2 ⟨fun hc=>?_,fun hc16=>?_⟩)
 ·obtain rfl:kk=16:=by omega
  refine Vl s0.tk s0.f (by omega) fun A1 w1 r1 b1 ht1 tk1 k1 n1 f1=>?_
  have s1:=s0.take tk1 k1 f1
  have hw1:=AK.sum ht1
  have hs1:=(AK.short ht1 hs0).2
  refine Aa (BZ p3 0) ?_
  refine s1.set (n:=1) (off:=8) (v:=(.bool (bl w1==MU))) (by omega) (HX _ _ _) rfl (show 8+1≤12 by decide) rfl fun C1 z1 kc1 nc1=>?_
  have s1:SW A C1 q A.next p3 _ (Ax.cells { Bf with ses:=n,what:=16,a:=bl w1==MU } vN) 38 F r1 _:=z1
  exact fin s1 (.nil _ _ _) (by simp) (Bj.cons (tCD ht1) (Bj.nil)) (by omega)
 refine Aa Ah (Ae.2 ⟨fun hc=>?_,fun hc19=>?_⟩)
 ·obtain rfl:kk=19:=by omega
  refine Ud hp s0.tk s0.fam (s0.ge hg hq) hq hs0 s0.f (by omega) fun A1 w1 r1 b1 u1 e1 ht1 hu1 tk1 k1 n1 f1=>?_
  have s1:=s0.take tk1 k1 f1
  have hw1:=AK.sum ht1
  have hs1:=(AK.short ht1 hs0).2
  refine Aa (Du p3 0) ?_
  refine s1.set (n:=3) (off:=4) (v:=(.agg ⟨u1.cells⟩)) (by omega) (HA _ _ _) rfl (show 4+3≤12 by decide) rfl fun C1 z1 kc1 nc1=>?_
  have s1:SW A C1 q A.next p3 _ (Ax.cells { Bf with ses:=n,what:=19,x:=u1 } vN) 38 F r1 _:=z1
  refine Bq (Qb _ (txt Ob) (txt Jr) (txt FA) (txt EE)) rfl s1.f (by omega) fun B2 m2=>?_
  have nb2:=m2.next
  have kb2:=m2.keeps s1.f
  have sb2:=s1.grow kb2 m2.AG
  refine Z0 (ys:=EQ) sb2.tk (rd4 m2) rfl (by have:=s1.nq;have:=s1.k.next;simp;omega) sb2.f (by omega) fun A2 w2 r2 b2 ht2 tk2 k2 n2 f2=>?_
  refine Aa Eb (Aa Ea ?_)
  have hw2:=AK.sum ht2
  have hs2:=(AK.short ht2 hs1).2
  have s2:=sb2.take tk2 k2 f2
  refine Aa (BZ p3 0) ?_
  refine s2.set (n:=1) (off:=8) (v:=(.bool (Ha EQ w2))) (by omega) (HX _ _ _) rfl (show 8+1≤12 by decide) rfl fun C2 z2 kc2 nc2=>?_
  have s2:SW A C2 q A.next p3 _ (Ax.cells { Bf with ses:=n,what:=19,x:=u1,a:=Ha EQ w2 } vN) 38 F r2 _:=z2
  refine Aa (Dj p3 0) ?_
  refine s2.set (n:=1) (off:=9) (v:=(.bool (Im EQ w2))) (by omega) (HX _ _ _) rfl (show 9+1≤12 by decide) rfl fun C3 z3 kc3 nc3=>?_
  have s2:SW A C3 q A.next p3 _ (Ax.cells { Bf with ses:=n,what:=19,x:=u1,a:=Ha EQ w2,b:=Im EQ w2 } vN) 38 F r2 _:=z3
  exact fin s2 (.nil _ _ _) (by simp) (Bj.cons (tCX ht1 hu1) (Bj.cons (tCS ht2) (Bj.nil))) (by omega)
 refine Aa Ah (Ae.2 ⟨fun hc=>?_,fun hc20=>?_⟩)
 ·obtain rfl:kk=20:=by omega
  refine Ud hp s0.tk s0.fam (s0.ge hg hq) hq hs0 s0.f (by omega) fun A1 w1 r1 b1 u1 e1 ht1 hu1 tk1 k1 n1 f1=>?_
  have s1:=s0.take tk1 k1 f1
  have hw1:=AK.sum ht1
  have hs1:=(AK.short ht1 hs0).2
  refine Aa (Du p3 0) ?_
  refine s1.set (n:=3) (off:=4) (v:=(.agg ⟨u1.cells⟩)) (by omega) (HA _ _ _) rfl (show 4+3≤12 by decide) rfl fun C1 z1 kc1 nc1=>?_
  have s1:SW A C1 q A.next p3 _ (Ax.cells { Bf with ses:=n,what:=20,x:=u1 } vN) 38 F r1 _:=z1
  refine Bq (Qb _ (txt Jt) (txt Js) (txt Ek) (txt EE)) rfl s1.f (by omega) fun B2 m2=>?_
  have nb2:=m2.next
  have kb2:=m2.keeps s1.f
  have sb2:=s1.grow kb2 m2.AG
  refine Z0 (ys:=KK) sb2.tk (rd4 m2) rfl (by have:=s1.nq;have:=s1.k.next;simp;omega) sb2.f (by omega) fun A2 w2 r2 b2 ht2 tk2 k2 n2 f2=>?_
  refine Aa Eb (Aa Ea ?_)
  have hw2:=AK.sum ht2
  have hs2:=(AK.short ht2 hs1).2
  have s2:=sb2.take tk2 k2 f2
  refine Aa (BZ p3 0) ?_
  refine s2.set (n:=1) (off:=8) (v:=(.bool (Ha KK w2))) (by omega) (HX _ _ _) rfl (show 8+1≤12 by decide) rfl fun C2 z2 kc2 nc2=>?_
  have s2:SW A C2 q A.next p3 _ (Ax.cells { Bf with ses:=n,what:=20,x:=u1,a:=Ha KK w2 } vN) 38 F r2 _:=z2
  refine Aa (Dj p3 0) ?_
  refine s2.set (n:=1) (off:=9) (v:=(.bool (Im KK w2))) (by omega) (HX _ _ _) rfl (show 9+1≤12 by decide) rfl fun C3 z3 kc3 nc3=>?_
  have s2:SW A C3 q A.next p3 _ (Ax.cells { Bf with ses:=n,what:=20,x:=u1,a:=Ha KK w2,b:=Im KK w2 } vN) 38 F r2 _:=z3
  exact fin s2 (.nil _ _ _) (by simp) (Bj.cons (tCX ht1 hu1) (Bj.cons (tCF ht2) (Bj.nil))) (by omega)
 refine Aa Ah (Ae.2 ⟨fun hc=>?_,fun hc21=>?_⟩)
 ·obtain rfl:kk=21:=by omega
  refine Ud hp s0.tk s0.fam (s0.ge hg hq) hq hs0 s0.f (by omega) fun A1 w1 r1 b1 u1 e1 ht1 hu1 tk1 k1 n1 f1=>?_
  have s1:=s0.take tk1 k1 f1
  have hw1:=AK.sum ht1
  have hs1:=(AK.short ht1 hs0).2
  refine Ub (.inr (.inl rfl)) s1.tk (s1.ge hg hq) hq hs1 s1.f (by omega) fun A2 w2 r2 b2 u2 e2 ht2 hu2 tk2 k2 n2 f2=>?_
  have hu2:UW 4294967295 (bl w2) u2 e2:=hu2
  have hm2:=hu2.1
  refine DO (KL _ _ _) ?_
  rw [wrap_u32 (by omega) (by omega)]
  have s2:=s1.take tk2 k2 f2
  have hw2:=AK.sum ht2
  have hs2:=(AK.short ht2 hs1).2
  refine Aa (Du p3 0) ?_
  refine s2.set (n:=3) (off:=4) (v:=(.agg ⟨u1.cells⟩)) (by omega) (HA _ _ _) rfl (show 4+3≤12 by decide) rfl fun C1 z1 kc1 nc1=>?_
  have s2:SW A C1 q A.next p3 _ (Ax.cells { Bf with ses:=n,what:=21,x:=u1 } vN) 38 F r2 _:=z1
  refine Aa (CU p3 0) ?_
  refine s2.set (n:=1) (off:=7) (v:=(.int .u32 (u2:Int))) (by omega) (Ty _ _ _) rfl (show 7+1≤12 by decide) rfl fun C2 z2 kc2 nc2=>?_
  have s2:SW A C2 q A.next p3 _ (Ax.cells { Bf with ses:=n,what:=21,x:=u1,n:=u2 } vN) 38 F r2 _:=z2
  exact fin s2 (.nil _ _ _) (by simp) (Bj.cons (tCX ht1 hu1) (Bj.cons (tCN ht2 hu2) (Bj.nil))) (by omega)
 have hc:kk=0∨kk=1∨kk=2∨kk=12∨kk=17∨kk=18:=by omega
 refine fin s0 (.nil _ _ _) (by simp) ?_ (by omega)
 rcases hc with rfl | rfl | rfl | rfl | rfl | rfl <;> exact Bj.nil
end
structure RdV (A:AW) (v:EvD) (vn vk vr:Value) (G:List Nat):Prop where
 n:∃ F,RdE 0 cB A vn v.nodes F∧∀ x∈F,x∈G
 k:∃ F,RdE 0 cI A vk v.keep F∧∀ x∈F,x∈G
 r:∃ F,RdE 1 cR A vr v.call.refs F∧∀ x∈F,x∈G
theorem RdV.keeps {A A':AW} {v:EvD} {vn vk vr:Value} {G S:List Nat} (h:RdV A v vn vk vr G) (k:Aw A A' S) (hd:∀ x∈G,x∉S):RdV A' v vn vk vr G:=by
 obtain ⟨⟨F1,h1,s1⟩,⟨F2,h2,s2⟩,⟨F3,h3,s3⟩⟩:=h
 exact ⟨⟨F1,h1.keeps k fun x hx=>hd x (s1 x hx),s1⟩,⟨F2,h2.keeps k fun x hx=>hd x (s2 x hx),s2⟩,⟨F3,h3.keeps k fun x hx=>hd x (s3 x hx),s3⟩⟩
theorem RdV.one {A:AW} {v:EvD} {vn vk vr:Value} {G:List Nat} (h:RdV A v vn vk vr G):(AL vn=true∧isTuple vn=false)∧(AL vk=true∧isTuple vk=false)∧AL vr=true∧isTuple vr=false:=by
 obtain ⟨⟨F1,h1,s1⟩,⟨F2,h2,s2⟩,⟨F3,h3,s3⟩⟩:=h
 exact ⟨h1.one,h2.one,h3.one⟩
theorem RdV.none (A:AW) {v:EvD} (h1:v.nodes=[]) (h2:v.keep=[]) (h3:v.call.refs=[]):RdV A v vN vN vN []:=by
 refine ⟨⟨[],?_,by simp⟩,⟨[],?_,by simp⟩,⟨[],?_,by simp⟩⟩
 ·rw [h1];exact .nil _ _ _
 ·rw [h2];exact .nil _ _ _
 ·rw [h3];exact .nil _ _ _
theorem QH {cs new:List Value} (h:cs.length=new.length):Ip cs 0 new=new:=by
 have:=HC [] cs new [] h
 simpa using this
theorem SW.all {A0 A:AW} {q p0 p3 n:Nat} {z cs new:List Value} {ty:TypeId} {F:List Nat} {ws:List ByteArray} {bad:Bool} {r:Option AW} {K:AW→Prop} (h:SW A0 A q p0 p3 z cs ty F ws bad) (hA:A.next≤Al) (hr:r=(bif Nat.beq new.length n then A.setCells ⟨p3,0,none⟩ new else none))
  (hv:new.length=n) (hl:cs.length=n) (ho:new.all AL=true) (hk:∀ A',SW A0 A' q p0 p3 z new ty F ws bad→Aw A A' [p3]→A'.next=A.next→K A'):Bp r K:=
 h.set (n:=n) (off:=0) (v:=.agg ⟨new⟩) hA hr hv (by omega) ho fun A' z k n=>by
  have z:SW A0 A' q p0 p3 _ (Ip cs 0 new) ty F ws bad:=z
  rw [QH (by omega)] at z
  exact hk A' z k n
theorem storeAll {A:AW} {b n:Nat} {cs new:List Value} {e:TypeId} {r:Option AW} {K:AW→Prop} (h:Go.Abs.AQ A b cs e) (hf:AJ A) (hb:A.next≤Al)
  (hr:r=(bif Nat.beq new.length n then A.setCells ⟨b,0,none⟩ new else none)) (hv:new.length=n) (hl:cs.length=n) (ho:new.all AL=true)
  (hk:∀ A',Go.Abs.AQ A' b new e→Aw A A' [b]→A'.next=A.next→AJ A'→K A'):Bp r K:=
 Go.Abs.AQ.store (n:=n) (off:=0) (v:=.agg ⟨new⟩) h hf hb hr hv (by omega) ho fun A' r k n f=>by
  have r:Go.Abs.AQ A' b (Ip cs 0 new) e:=r
  rw [QH (by omega)] at r
  exact hk A' r k n f
section
variable {W0:World} {m0:Inj Tp}
set_option maxHeartbeats 4000000 in
theorem Acg {q:Nat} {ws:List ByteArray} {F:List Nat} {A:AW} {K:Value→AW→Prop} (hp:Pow W0) (h:TK A q ws false F) (hF:∀ x∈F,x < A.next) (hg:GE A) (hq:8≤q) (hs:DT ws) (hwl:BY ws < 50000000) (hf:AJ A) (hA:A.next+100 * BY ws+10000 < Al)
  (hk:∀ A' v vn vk vr G ws' bad',EvT ws v ws' bad'→RdV A' v vn vk vr G→(∀ x∈G,A.next≤x)→TK A' q ws' bad' F→Aw A A' [q]→A'.next≤A.next+100 * BY ws+5000→AJ A'→K (.agg ⟨v.cells vn vk vr⟩) A'):
  Wc Tp Ai W0 m0 38 [.pointer (some ⟨q,0,none⟩)] A K:=by
 have hqA:q < A.next:=by obtain ⟨⟨v,r,_⟩,_⟩:=h;exact r.lt
 refine w38 _ _ (At (S:=fun _ _ _=>False) fun _ _ _ h=>h) ?_
 rw [e38]
 refine AV Hg hf (by omega) rfl fun Y1 y1=>?_
 have ny1:=y1.next
 have ky1:=y1.keeps hf
 refine Z5 y1.AG (by omega) fun Y2 vm g2=>?_
 have n2:=g2.next
 have le2:=g2.le
 refine Kg ((h.keeps ky1 (by simp) (by simp)).keeps g2.keeps (by simp) (by simp)) g2.AG (by omega) fun Y3 w r0 b0 ht0 tk3 k3 n3 f3=>?_
 have hw0:=AK.sum ht0
 have hs0:=(AK.short ht0 hs).2
 have vm:=vm.keeps k3 (by simp;omega)
 refine Aa (vm.look w) (Aa (Ads _) (AV Hg f3 (by omega) rfl fun Y4 y4=>?_))
 have ny4:=y4.next
 have ky4:=y4.keeps f3
 have K14:Aw A Y4 [q]:=(((ky1.trans g2.keeps (by simp)).more (T:=[q]) (by simp)).trans k3 fun x hx=>.inl hx).trans ky4 (by simp)
 have s0:SW A Y4 q A.next Y3.next (Cl.cells vN vN vN) (Cl.cells vN vN vN) 40 F r0 b0:=
  ⟨((y1.B7.keeps g2.keeps (by simp)).keeps k3 (by simp;omega)).keeps ky4 (by simp),y4.B7,tk3.keeps ky4 (by simp) (by simp),K14,y4.AG,Nat.le_refl _,by omega,hqA,hF⟩
 have hk17:=MV (bl w)
 have hdef:((Dy Iw (bl w)).getD 0)=Ju (bl w):=rfl
 rw [hdef]
 generalize hkk:Ju (bl w)=kk at hk17 ⊢
 refine s0.all (n:=23) (new:=({ Cl with kind:=kk }:EvD).cells vN vN vN) (by omega) (Jw _ _ _) rfl rfl rfl fun Y7 s0 k7 n7=>?_
 have l7:Au Tp Y7 5 (.pointer (some ⟨Y3.next,0,none⟩))=some (.int .u8 (kk:Int)):=by
  rw [PQ,Ay s0.r3.row];rfl
 have fin:∀ {B:AW} {v:EvD} {vn vk vr:Value} {G:List Nat} {r':List ByteArray} {b':Bool},SW A B q A.next Y3.next (Cl.cells vN vN vN) (v.cells vn vk vr) 40 F r' b'→RdV B v vn vk vr G→(∀ x∈G,Y3.next < x)→Be (Aj kk).2 r0 b0 { Cl with kind:=kk } v r' b'→
   B.next≤A.next+100 * BY ws+5000→(Ab (Au Tp B 40 (.pointer (some ⟨Y3.next,0,none⟩))) fun t=>Bp (AZ Tp B 40 (.pointer (some ⟨A.next,0,none⟩)) t) fun B2=>Ab (Au Tp B2 40 (.pointer (some ⟨A.next,0,none⟩))) fun v=>K v B2):=fun {B v vn vk vr G r' b'} s hrd hG htk hn=>by
  obtain ⟨o1,o2,o3⟩:=hrd.one
  refine Aa (Cj s.r3 (Fk v o1.2 o2.2 o3.2) rfl (HF _ _)) ?_
  refine storeAll (n:=23) (new:=v.cells vn vk vr) s.r0 s.f (by omega) (Jw _ _ _) rfl rfl (D7 v o1.1 o2.1 o3.1) fun B2 rb kb nb fb=>?_
  refine Aa (Cj rb (Fk v o1.2 o2.2 o3.2) rfl (HF _ _)) ?_
  refine hk B2 v vn vk vr G r' b' ⟨w,r0,b0,ht0,by rw [hkk];exact htk⟩ (hrd.keeps kb (fun x hx=>by have:=hG x hx;simp;omega)) (fun x hx=>by have:=hG x hx;omega) (s.tk.keeps kb (by simp;omega) (fun x hx=>by have:=hF x hx;simp;omega)) (s.k.trans kb fun x hx=>.inr (by rw [List.mem_singleton.1 hx];exact Nat.le_refl _)) (by omega) fb
 refine Aa (D2 Y3.next 0) (Aa l7 ?_)
 generalize hp3:Y3.next=p3 at *
 refine Aa Ah (Ae.2 ⟨fun hc=>?_,fun hc1=>?_⟩)
 ·obtain rfl:kk=1:=by omega
  have lt1:=s0.r3.lt
  refine Ab4 s0.tk s0.fam (s0.ge hg hq) hq hs0 (by omega) s0.f (by omega) fun A1 v1 l1 G1 r1 b1 hr1 hst1 ho1 hG1 tk1 k1 n1 f1=>?_
  have s1:=s0.take tk1 k1 f1
  have le1:=k1.next
  have hvc1:v1.cells.toList=[v1]:=by obtain ⟨o,c,e⟩:=(ho1.rd (fun _=>rfl)).slice;rw [e];rfl
  refine Aa (D1 p3 0) ?_
  refine s1.set (n:=1) (off:=7) (v:=v1) (by omega) (ON _ _ _) (by rw [hvc1];rfl) (show 7+1≤23 by decide) (by rw [hvc1];simp [ho1.one.1]) fun C1 z1 kc1 nc1=>?_
  rw [hvc1] at z1
  have s1:SW A C1 q A.next p3 _ (EvD.cells { Cl with kind:=1,nodes:=l1 } v1 vN vN) 40 F r1 _:=z1
  exact fin s1 ⟨⟨_,((ho1.keeps kc1 (fun x hx=>by have:=hG1 x hx;simp;omega)).rd (fun _=>rfl)),fun _ h=>h⟩,⟨[],.nil _ _ _,by simp⟩,⟨[],.nil _ _ _,by simp⟩⟩ (fun x hx=>by have:=hG1 x hx;omega) (Be.cons (tEb hr1 hst1) (Be.nil)) (by omega)
 refine Aa Ah (Ae.2 ⟨fun hc=>?_,fun hc2=>?_⟩)
 ·obtain rfl:kk=2:=by omega
  refine Ud hp s0.tk s0.fam (s0.ge hg hq) hq hs0 s0.f (by omega) fun A1 w1 r1 b1 u1 e1 ht1 hu1 tk1 k1 n1 f1=>?_
  have s1:=s0.take tk1 k1 f1
  have hw1:=AK.sum ht1
  have hs1:=(AK.short ht1 hs0).2
  refine Vl s1.tk s1.f (by omega) fun A2 w2 r2 b2 ht2 tk2 k2 n2 f2=>?_
  have s2:=s1.take tk2 k2 f2
  have hw2:=AK.sum ht2
  have hs2:=(AK.short ht2 hs1).2
  refine Aa (Dt p3 0) ?_
  refine s2.set (n:=3) (off:=4) (v:=(.agg ⟨u1.cells⟩)) (by omega) (HA _ _ _) rfl (show 4+3≤23 by decide) rfl fun C1 z1 kc1 nc1=>?_
  have s2:SW A C1 q A.next p3 _ (EvD.cells { Cl with kind:=2,x:=u1 } vN vN vN) 40 F r2 _:=z1
  refine Aa (Ds p3 0) ?_
  refine s2.set (n:=1) (off:=10) (v:=(.bool (bl w2==DV))) (by omega) (HX _ _ _) rfl (show 10+1≤23 by decide) rfl fun C2 z2 kc2 nc2=>?_
  have s2:SW A C2 q A.next p3 _ (EvD.cells { Cl with kind:=2,x:=u1,a:=bl w2==DV } vN vN vN) 40 F r2 _:=z2
  exact fin s2 (.none _ rfl rfl rfl) (by simp) (Be.cons (tEX ht1 hu1) (Be.cons (tEc ht2) (Be.nil))) (by omega)
 refine Aa Ah (Ae.2 ⟨fun hc=>?_,fun hc10=>?_⟩)
 ·obtain rfl:kk=10:=by omega
  refine Ji s0.tk (s0.ge hg hq) hq hs0 s0.f (by omega) fun A1 w1 r1 b1 u1 e1 ht1 hu1 tk1 k1 n1 f1=>?_
  have s1:=s0.take tk1 k1 f1
  have hw1:=AK.sum ht1
  have hs1:=(AK.short ht1 hs0).2
  refine Ud hp s1.tk s1.fam (s1.ge hg hq) hq hs1 s1.f (by omega) fun A2 w2 r2 b2 u2 e2 ht2 hu2 tk2 k2 n2 f2=>?_
  have s2:=s1.take tk2 k2 f2
  have hw2:=AK.sum ht2
  have hs2:=(AK.short ht2 hs1).2
  refine Vl s2.tk s2.f (by omega) fun A3 w3 r3 b3 ht3 tk3 k3 n3 f3=>?_
  have s3:=s2.take tk3 k3 f3
  have hw3:=AK.sum ht3
  have hs3:=(AK.short ht3 hs2).2
  refine Aa (Bw p3 0) ?_
  refine s3.set (n:=1) (off:=1) (v:=(.int .u8 (u1:Int))) (by omega) (Hy _ _ _) rfl (show 1+1≤23 by decide) rfl fun C1 z1 kc1 nc1=>?_
  have s3:SW A C1 q A.next p3 _ (EvD.cells { Cl with kind:=10,node:=u1 } vN vN vN) 40 F r3 _:=z1
  refine Aa (Dt p3 0) ?_
  refine s3.set (n:=3) (off:=4) (v:=(.agg ⟨u2.cells⟩)) (by omega) (HA _ _ _) rfl (show 4+3≤23 by decide) rfl fun C2 z2 kc2 nc2=>?_
  have s3:SW A C2 q A.next p3 _ (EvD.cells { Cl with kind:=10,node:=u1,x:=u2 } vN vN vN) 40 F r3 _:=z2
  refine Aa (Ds p3 0) ?_
  refine s3.set (n:=1) (off:=10) (v:=(.bool (bl w3==DV))) (by omega) (HX _ _ _) rfl (show 10+1≤23 by decide) rfl fun C3 z3 kc3 nc3=>?_
  have s3:SW A C3 q A.next p3 _ (EvD.cells { Cl with kind:=10,node:=u1,x:=u2,a:=bl w3==DV } vN vN vN) 40 F r3 _:=z3
  exact fin s3 (.none _ rfl rfl rfl) (by simp) (Be.cons (tEn ht1 hu1) (Be.cons (tEX ht2 hu2) (Be.cons (tEc ht3) (Be.nil)))) (by omega)
 refine Aa Ah (Ae.2 ⟨fun hc=>?_,fun hc3=>?_⟩)
 ·obtain rfl:kk=3:=by omega
  refine Ji s0.tk (s0.ge hg hq) hq hs0 s0.f (by omega) fun A1 w1 r1 b1 u1 e1 ht1 hu1 tk1 k1 n1 f1=>?_
  have s1:=s0.take tk1 k1 f1
  have hw1:=AK.sum ht1
  have hs1:=(AK.short ht1 hs0).2
  refine Ji s1.tk (s1.ge hg hq) hq hs1 s1.f (by omega) fun A2 w2 r2 b2 u2 e2 ht2 hu2 tk2 k2 n2 f2=>?_
  have s2:=s1.take tk2 k2 f2
  have hw2:=AK.sum ht2
  have hs2:=(AK.short ht2 hs1).2
  refine Qs s2.tk (s2.ge hg hq) hq hs2 s2.f (by omega) fun A3 w3 r3 b3 u3 e3 ht3 hu3 tk3 k3 n3 f3=>?_
  have s3:=s2.take tk3 k3 f3
  have hw3:=AK.sum ht3
  have hs3:=(AK.short ht3 hs2).2
  refine Aa (Bw p3 0) ?_
  refine s3.set (n:=1) (off:=1) (v:=(.int .u8 (u1:Int))) (by omega) (Hy _ _ _) rfl (show 1+1≤23 by decide) rfl fun C1 z1 kc1 nc1=>?_
  have s3:SW A C1 q A.next p3 _ (EvD.cells { Cl with kind:=3,node:=u1 } vN vN vN) 40 F r3 _:=z1
  refine Aa (CM p3 0) ?_
  refine s3.set (n:=1) (off:=2) (v:=(.int .u8 (u2:Int))) (by omega) (Hy _ _ _) rfl (show 2+1≤23 by decide) rfl fun C2 z2 kc2 nc2=>?_
  have s3:SW A C2 q A.next p3 _ (EvD.cells { Cl with kind:=3,node:=u1,to:=u2 } vN vN vN) 40 F r3 _:=z2
  refine Aa (BC p3 0) ?_
  refine s3.set (n:=1) (off:=3) (v:=(.int .i64 u3)) (by omega) (M0 _ _ _) rfl (show 3+1≤23 by decide) rfl fun C3 z3 kc3 nc3=>?_
  have s3:SW A C3 q A.next p3 _ (EvD.cells { Cl with kind:=3,node:=u1,to:=u2,n:=u3 } vN vN vN) 40 F r3 _:=z3
  exact fin s3 (.none _ rfl rfl rfl) (by simp) (Be.cons (tEn ht1 hu1) (Be.cons (tEt ht2 hu2) (Be.cons (tEi ht3 hu3) (Be.nil)))) (by omega)
 refine Aa Ah (Ae.2 ⟨fun hc=>?_,fun hc4=>?_⟩)
 ·obtain rfl:kk=4:=by omega
  refine Ji s0.tk (s0.ge hg hq) hq hs0 s0.f (by omega) fun A1 w1 r1 b1 u1 e1 ht1 hu1 tk1 k1 n1 f1=>?_
  have s1:=s0.take tk1 k1 f1
  have hw1:=AK.sum ht1
  have hs1:=(AK.short ht1 hs0).2
  refine Ji s1.tk (s1.ge hg hq) hq hs1 s1.f (by omega) fun A2 w2 r2 b2 u2 e2 ht2 hu2 tk2 k2 n2 f2=>?_
  have s2:=s1.take tk2 k2 f2
  have hw2:=AK.sum ht2
  have hs2:=(AK.short ht2 hs1).2
  refine Qs s2.tk (s2.ge hg hq) hq hs2 s2.f (by omega) fun A3 w3 r3 b3 u3 e3 ht3 hu3 tk3 k3 n3 f3=>?_
  have s3:=s2.take tk3 k3 f3
  have hw3:=AK.sum ht3
  have hs3:=(AK.short ht3 hs2).2
  refine Aa (Bw p3 0) ?_
  refine s3.set (n:=1) (off:=1) (v:=(.int .u8 (u1:Int))) (by omega) (Hy _ _ _) rfl (show 1+1≤23 by decide) rfl fun C1 z1 kc1 nc1=>?_
  have s3:SW A C1 q A.next p3 _ (EvD.cells { Cl with kind:=4,node:=u1 } vN vN vN) 40 F r3 _:=z1
  refine Aa (CM p3 0) ?_
  refine s3.set (n:=1) (off:=2) (v:=(.int .u8 (u2:Int))) (by omega) (Hy _ _ _) rfl (show 2+1≤23 by decide) rfl fun C2 z2 kc2 nc2=>?_
  have s3:SW A C2 q A.next p3 _ (EvD.cells { Cl with kind:=4,node:=u1,to:=u2 } vN vN vN) 40 F r3 _:=z2
  refine Aa (BC p3 0) ?_
  refine s3.set (n:=1) (off:=3) (v:=(.int .i64 u3)) (by omega) (M0 _ _ _) rfl (show 3+1≤23 by decide) rfl fun C3 z3 kc3 nc3=>?_
  have s3:SW A C3 q A.next p3 _ (EvD.cells { Cl with kind:=4,node:=u1,to:=u2,n:=u3 } vN vN vN) 40 F r3 _:=z3
  exact fin s3 (.none _ rfl rfl rfl) (by simp) (Be.cons (tEn ht1 hu1) (Be.cons (tEt ht2 hu2) (Be.cons (tEi ht3 hu3) (Be.nil)))) (by omega)
 refine Aa Ah (Ae.2 ⟨fun hc=>?_,fun hc5=>?_⟩)
 ·obtain rfl:kk=5:=by omega
  refine Ji s0.tk (s0.ge hg hq) hq hs0 s0.f (by omega) fun A1 w1 r1 b1 u1 e1 ht1 hu1 tk1 k1 n1 f1=>?_
  have s1:=s0.take tk1 k1 f1
  have hw1:=AK.sum ht1
  have hs1:=(AK.short ht1 hs0).2
  refine Ji s1.tk (s1.ge hg hq) hq hs1 s1.f (by omega) fun A2 w2 r2 b2 u2 e2 ht2 hu2 tk2 k2 n2 f2=>?_
  have s2:=s1.take tk2 k2 f2
  have hw2:=AK.sum ht2
  have hs2:=(AK.short ht2 hs1).2
  refine Qs s2.tk (s2.ge hg hq) hq hs2 s2.f (by omega) fun A3 w3 r3 b3 u3 e3 ht3 hu3 tk3 k3 n3 f3=>?_
  have s3:=s2.take tk3 k3 f3
  have hw3:=AK.sum ht3
  have hs3:=(AK.short ht3 hs2).2
  refine Aa (Bw p3 0) ?_
  refine s3.set (n:=1) (off:=1) (v:=(.int .u8 (u1:Int))) (by omega) (Hy _ _ _) rfl (show 1+1≤23 by decide) rfl fun C1 z1 kc1 nc1=>?_
  have s3:SW A C1 q A.next p3 _ (EvD.cells { Cl with kind:=5,node:=u1 } vN vN vN) 40 F r3 _:=z1
  refine Aa (CM p3 0) ?_
  refine s3.set (n:=1) (off:=2) (v:=(.int .u8 (u2:Int))) (by omega) (Hy _ _ _) rfl (show 2+1≤23 by decide) rfl fun C2 z2 kc2 nc2=>?_
  have s3:SW A C2 q A.next p3 _ (EvD.cells { Cl with kind:=5,node:=u1,to:=u2 } vN vN vN) 40 F r3 _:=z2
  refine Aa (BC p3 0) ?_
  refine s3.set (n:=1) (off:=3) (v:=(.int .i64 u3)) (by omega) (M0 _ _ _) rfl (show 3+1≤23 by decide) rfl fun C3 z3 kc3 nc3=>?_
  have s3:SW A C3 q A.next p3 _ (EvD.cells { Cl with kind:=5,node:=u1,to:=u2,n:=u3 } vN vN vN) 40 F r3 _:=z3
  exact fin s3 (.none _ rfl rfl rfl) (by simp) (Be.cons (tEn ht1 hu1) (Be.cons (tEt ht2 hu2) (Be.cons (tEi ht3 hu3) (Be.nil)))) (by omega)
 refine Aa Ah (Ae.2 ⟨fun hc=>?_,fun hc7=>?_⟩)
 ·obtain rfl:kk=7:=by omega
  refine Ji s0.tk (s0.ge hg hq) hq hs0 s0.f (by omega) fun A1 w1 r1 b1 u1 e1 ht1 hu1 tk1 k1 n1 f1=>?_
  have s1:=s0.take tk1 k1 f1
  have hw1:=AK.sum ht1
  have hs1:=(AK.short ht1 hs0).2
  refine Aa (Bw p3 0) ?_
  refine s1.set (n:=1) (off:=1) (v:=(.int .u8 (u1:Int))) (by omega) (Hy _ _ _) rfl (show 1+1≤23 by decide) rfl fun C1 z1 kc1 nc1=>?_
  have s1:SW A C1 q A.next p3 _ (EvD.cells { Cl with kind:=7,node:=u1 } vN vN vN) 40 F r1 _:=z1
  exact fin s1 (.none _ rfl rfl rfl) (by simp) (Be.cons (tEn ht1 hu1) (Be.nil)) (by omega)
 refine Aa Ah (Ae.2 ⟨fun hc=>?_,fun hc12=>?_⟩)
 ·obtain rfl:kk=12:=by omega
  refine Ji s0.tk (s0.ge hg hq) hq hs0 s0.f (by omega) fun A1 w1 r1 b1 u1 e1 ht1 hu1 tk1 k1 n1 f1=>?_
  have s1:=s0.take tk1 k1 f1
  have hw1:=AK.sum ht1
  have hs1:=(AK.short ht1 hs0).2
  refine Aa (Bw p3 0) ?_
  refine s1.set (n:=1) (off:=1) (v:=(.int .u8 (u1:Int))) (by omega) (Hy _ _ _) rfl (show 1+1≤23 by decide) rfl fun C1 z1 kc1 nc1=>?_
  have s1:SW A C1 q A.next p3 _ (EvD.cells { Cl with kind:=12,node:=u1 } vN vN vN) 40 F r1 _:=z1
  exact fin s1 (.none _ rfl rfl rfl) (by simp) (Be.cons (tEn ht1 hu1) (Be.nil)) (by omega)
 refine Aa Ah (Ae.2 ⟨fun hc=>?_,fun hc8=>?_⟩)
 ·obtain rfl:kk=8:=by omega
  refine Ji s0.tk (s0.ge hg hq) hq hs0 s0.f (by omega) fun A1 w1 r1 b1 u1 e1 ht1 hu1 tk1 k1 n1 f1=>?_
  have s1:=s0.take tk1 k1 f1
  have hw1:=AK.sum ht1
  have hs1:=(AK.short ht1 hs0).2
  refine Aa (Bw p3 0) ?_
  refine s1.set (n:=1) (off:=1) (v:=(.int .u8 (u1:Int))) (by omega) (Hy _ _ _) rfl (show 1+1≤23 by decide) rfl fun C1 z1 kc1 nc1=>?_
  have s1:SW A C1 q A.next p3 _ (EvD.cells { Cl with kind:=8,node:=u1 } vN vN vN) 40 F r1 _:=z1
  have lt2:=s1.r3.lt
  refine Ab3 s1.tk s1.fam (s1.ge hg hq) hq hs1 (by omega) s1.f (by omega) fun A2 v2 l2 G2 r2 b2 hr2 hst2 ho2 hG2 tk2 k2 n2 f2=>?_
  have s2:=s1.take tk2 k2 f2
  have le2:=k2.next
  have hvc2:v2.cells.toList=[v2]:=by obtain ⟨o,c,e⟩:=(ho2.rd (fun _=>rfl)).slice;rw [e];rfl
  refine Aa (D0 p3 0) ?_
  refine s2.set (n:=1) (off:=8) (v:=v2) (by omega) (Yi _ _ _) (by rw [hvc2];rfl) (show 8+1≤23 by decide) (by rw [hvc2];simp [ho2.one.1]) fun C2 z2 kc2 nc2=>?_
  rw [hvc2] at z2
  have s2:SW A C2 q A.next p3 _ (EvD.cells { Cl with kind:=8,node:=u1,keep:=l2 } vN v2 vN) 40 F r2 _:=z2
  exact fin s2 ⟨⟨[],.nil _ _ _,by simp⟩,⟨_,((ho2.keeps kc2 (fun x hx=>by have:=hG2 x hx;simp;omega)).rd (fun _=>rfl)),fun _ h=>h⟩,⟨[],.nil _ _ _,by simp⟩⟩ (fun x hx=>by have:=hG2 x hx;omega) (Be.cons (tEn ht1 hu1) (Be.cons (tEk hr2 hst2) (Be.nil))) (by omega)
 refine Aa Ah (Ae.2 ⟨fun hc=>?_,fun hc9=>?_⟩)
 ·obtain rfl:kk=9:=by omega
  refine Ji s0.tk (s0.ge hg hq) hq hs0 s0.f (by omega) fun A1 w1 r1 b1 u1 e1 ht1 hu1 tk1 k1 n1 f1=>?_
  have s1:=s0.take tk1 k1 f1
  have hw1:=AK.sum ht1
  have hs1:=(AK.short ht1 hs0).2
  refine Qs s1.tk (s1.ge hg hq) hq hs1 s1.f (by omega) fun A2 w2 r2 b2 u2 e2 ht2 hu2 tk2 k2 n2 f2=>?_
  have s2:=s1.take tk2 k2 f2
  have hw2:=AK.sum ht2
  have hs2:=(AK.short ht2 hs1).2
  refine Aa (Bw p3 0) ?_
  refine s2.set (n:=1) (off:=1) (v:=(.int .u8 (u1:Int))) (by omega) (Hy _ _ _) rfl (show 1+1≤23 by decide) rfl fun C1 z1 kc1 nc1=>?_
  have s2:SW A C1 q A.next p3 _ (EvD.cells { Cl with kind:=9,node:=u1 } vN vN vN) 40 F r2 _:=z1
  refine Aa (BC p3 0) ?_
  refine s2.set (n:=1) (off:=3) (v:=(.int .i64 u2)) (by omega) (M0 _ _ _) rfl (show 3+1≤23 by decide) rfl fun C2 z2 kc2 nc2=>?_
  have s2:SW A C2 q A.next p3 _ (EvD.cells { Cl with kind:=9,node:=u1,n:=u2 } vN vN vN) 40 F r2 _:=z2
  exact fin s2 (.none _ rfl rfl rfl) (by simp) (Be.cons (tEn ht1 hu1) (Be.cons (tEi ht2 hu2) (Be.nil))) (by omega)
 refine Aa Ah (Ae.2 ⟨fun hc=>?_,fun hc14=>?_⟩)
 ·obtain rfl:kk=14:=by omega
  refine Ji s0.tk (s0.ge hg hq) hq hs0 s0.f (by omega) fun A1 w1 r1 b1 u1 e1 ht1 hu1 tk1 k1 n1 f1=>?_
  have s1:=s0.take tk1 k1 f1
  have hw1:=AK.sum ht1
  have hs1:=(AK.short ht1 hs0).2
  refine Qs s1.tk (s1.ge hg hq) hq hs1 s1.f (by omega) fun A2 w2 r2 b2 u2 e2 ht2 hu2 tk2 k2 n2 f2=>?_
  have s2:=s1.take tk2 k2 f2
  have hw2:=AK.sum ht2
  have hs2:=(AK.short ht2 hs1).2
  refine Aa (Bw p3 0) ?_
  refine s2.set (n:=1) (off:=1) (v:=(.int .u8 (u1:Int))) (by omega) (Hy _ _ _) rfl (show 1+1≤23 by decide) rfl fun C1 z1 kc1 nc1=>?_
  have s2:SW A C1 q A.next p3 _ (EvD.cells { Cl with kind:=14,node:=u1 } vN vN vN) 40 F r2 _:=z1
  refine Aa (BC p3 0) ?_
  refine s2.set (n:=1) (off:=3) (v:=(.int .i64 u2)) (by omega) (M0 _ _ _) rfl (show 3+1≤23 by decide) rfl fun C2 z2 kc2 nc2=>?_
  have s2:SW A C2 q A.next p3 _ (EvD.cells { Cl with kind:=14,node:=u1,n:=u2 } vN vN vN) 40 F r2 _:=z2
  exact fin s2 (.none _ rfl rfl rfl) (by simp) (Be.cons (tEn ht1 hu1) (Be.cons (tEi ht2 hu2) (Be.nil))) (by omega)
 refine Aa Ah (Ae.2 ⟨fun hc=>?_,fun hc15=>?_⟩)
 ·obtain rfl:kk=15:=by omega
  refine Ji s0.tk (s0.ge hg hq) hq hs0 s0.f (by omega) fun A1 w1 r1 b1 u1 e1 ht1 hu1 tk1 k1 n1 f1=>?_
  have s1:=s0.take tk1 k1 f1
  have hw1:=AK.sum ht1
  have hs1:=(AK.short ht1 hs0).2
  refine Qs s1.tk (s1.ge hg hq) hq hs1 s1.f (by omega) fun A2 w2 r2 b2 u2 e2 ht2 hu2 tk2 k2 n2 f2=>?_
  have s2:=s1.take tk2 k2 f2
  have hw2:=AK.sum ht2
  have hs2:=(AK.short ht2 hs1).2
  refine Aa (Bw p3 0) ?_
  refine s2.set (n:=1) (off:=1) (v:=(.int .u8 (u1:Int))) (by omega) (Hy _ _ _) rfl (show 1+1≤23 by decide) rfl fun C1 z1 kc1 nc1=>?_
  have s2:SW A C1 q A.next p3 _ (EvD.cells { Cl with kind:=15,node:=u1 } vN vN vN) 40 F r2 _:=z1
  refine Aa (BC p3 0) ?_
  refine s2.set (n:=1) (off:=3) (v:=(.int .i64 u2)) (by omega) (M0 _ _ _) rfl (show 3+1≤23 by decide) rfl fun C2 z2 kc2 nc2=>?_
  have s2:SW A C2 q A.next p3 _ (EvD.cells { Cl with kind:=15,node:=u1,n:=u2 } vN vN vN) 40 F r2 _:=z2
  exact fin s2 (.none _ rfl rfl rfl) (by simp) (Be.cons (tEn ht1 hu1) (Be.cons (tEi ht2 hu2) (Be.nil))) (by omega)
 refine Aa Ah (Ae.2 ⟨fun hc=>?_,fun hc11=>?_⟩)
 ·obtain rfl:kk=11:=by omega
  refine Ud hp s0.tk s0.fam (s0.ge hg hq) hq hs0 s0.f (by omega) fun A1 w1 r1 b1 u1 e1 ht1 hu1 tk1 k1 n1 f1=>?_
  have s1:=s0.take tk1 k1 f1
  have hw1:=AK.sum ht1
  have hs1:=(AK.short ht1 hs0).2
  refine Aa (Dt p3 0) ?_
  refine s1.set (n:=3) (off:=4) (v:=(.agg ⟨u1.cells⟩)) (by omega) (HA _ _ _) rfl (show 4+3≤23 by decide) rfl fun C1 z1 kc1 nc1=>?_
  have s1:SW A C1 q A.next p3 _ (EvD.cells { Cl with kind:=11,x:=u1 } vN vN vN) 40 F r1 _:=z1
  exact fin s1 (.none _ rfl rfl rfl) (by simp) (Be.cons (tEX ht1 hu1) (Be.nil)) (by omega)
 refine Aa Ah (Ae.2 ⟨fun hc=>?_,fun hc13=>?_⟩)
 ·obtain rfl:kk=13:=by omega
  refine Ji s0.tk (s0.ge hg hq) hq hs0 s0.f (by omega) fun A1 w1 r1 b1 u1 e1 ht1 hu1 tk1 k1 n1 f1=>?_
  have s1:=s0.take tk1 k1 f1
  have hw1:=AK.sum ht1
  have hs1:=(AK.short ht1 hs0).2
  refine Qs s1.tk (s1.ge hg hq) hq hs1 s1.f (by omega) fun A2 w2 r2 b2 u2 e2 ht2 hu2 tk2 k2 n2 f2=>?_
  have s2:=s1.take tk2 k2 f2
  have hw2:=AK.sum ht2
  have hs2:=(AK.short ht2 hs1).2
  refine Kf s2.tk hs2 s2.f (by omega) fun A3 w3 r3 b3 u3 e3 ht3 hu3 tk3 k3 n3 f3=>?_
  have s3:=s2.take tk3 k3 f3
  have hw3:=AK.sum ht3
  have hs3:=(AK.short ht3 hs2).2
  refine Aa (Bw p3 0) ?_
  refine s3.set (n:=1) (off:=1) (v:=(.int .u8 (u1:Int))) (by omega) (Hy _ _ _) rfl (show 1+1≤23 by decide) rfl fun C1 z1 kc1 nc1=>?_
  have s3:SW A C1 q A.next p3 _ (EvD.cells { Cl with kind:=13,node:=u1 } vN vN vN) 40 F r3 _:=z1
  refine Aa (BC p3 0) ?_
  refine s3.set (n:=1) (off:=3) (v:=(.int .i64 u2)) (by omega) (M0 _ _ _) rfl (show 3+1≤23 by decide) rfl fun C2 z2 kc2 nc2=>?_
  have s3:SW A C2 q A.next p3 _ (EvD.cells { Cl with kind:=13,node:=u1,n:=u2 } vN vN vN) 40 F r3 _:=z2
  refine Aa (DZ p3 0) ?_
  refine s3.set (n:=1) (off:=9) (v:=(.string (txt u3))) (by omega) (HW _ _ _) rfl (show 9+1≤23 by decide) rfl fun C3 z3 kc3 nc3=>?_
  have s3:SW A C3 q A.next p3 _ (EvD.cells { Cl with kind:=13,node:=u1,n:=u2,s:=txt u3 } vN vN vN) 40 F r3 _:=z3
  exact fin s3 (.none _ rfl rfl rfl) (by simp) (Be.cons (tEn ht1 hu1) (Be.cons (tEi ht2 hu2) (Be.cons (tES ht3 hu3) (Be.nil)))) (by omega)
 refine Aa Ah (Ae.2 ⟨fun hc=>?_,fun hc16=>?_⟩)
 ·obtain rfl:kk=16:=by omega
  refine Ji s0.tk (s0.ge hg hq) hq hs0 s0.f (by omega) fun A1 w1 r1 b1 u1 e1 ht1 hu1 tk1 k1 n1 f1=>?_
  have s1:=s0.take tk1 k1 f1
  have hw1:=AK.sum ht1
  have hs1:=(AK.short ht1 hs0).2
  have lt2:=s1.r3.lt
  refine Ab2 hp s1.tk s1.fam (s1.ge hg hq) hq hs1 (by omega) s1.f (by omega) fun A2 c2 v2 G2 r2 b2 hc2 ho2 hG2 tk2 k2 n2 f2=>?_
  have s2:=s1.take tk2 k2 f2
  have le2:=k2.next
  refine Aa (Bw p3 0) ?_
  refine s2.set (n:=1) (off:=1) (v:=(.int .u8 (u1:Int))) (by omega) (Hy _ _ _) rfl (show 1+1≤23 by decide) rfl fun C1 z1 kc1 nc1=>?_
  have s2:SW A C1 q A.next p3 _ (EvD.cells { Cl with kind:=16,node:=u1 } vN vN vN) 40 F r2 _:=z1
  refine Aa (CJ p3 0) ?_
  refine s2.set (n:=12) (off:=11) (v:=(.agg ⟨c2.cells v2⟩)) (by omega) (Hz _ _ _) rfl (show 11+12≤23 by decide) (C4 _ ho2.one.1) fun C2 z2 kc2 nc2=>?_
  have s2:SW A C2 q A.next p3 _ (EvD.cells { Cl with kind:=16,node:=u1,call:=c2 } vN vN v2) 40 F r2 _:=z2
  exact fin s2 ⟨⟨[],.nil _ _ _,by simp⟩,⟨[],.nil _ _ _,by simp⟩,⟨_,((ho2.keeps kc1 (fun x hx=>by have:=hG2 x hx;simp;omega)).keeps kc2 (fun x hx=>by have:=hG2 x hx;simp;omega)),fun _ h=>h⟩⟩ (fun x hx=>by have:=hG2 x hx;omega) (Be.cons (tEn ht1 hu1) (Be.cons (tEC hc2 trivial) (Be.nil))) (by omega)
 have hc:kk=0∨kk=6∨kk=17:=by omega
 refine fin s0 (.none _ rfl rfl rfl) (by simp) ?_ (by omega)
 rcases hc with rfl | rfl | rfl <;> exact Be.nil
end
def BE (ws:List Word):Nat:=(ws.map List.length).sum
theorem AM (a b:List Word):BE (a++b)=BE a+BE b:=by simp [BE]
theorem AS (a:Word) (b:List Word):BE (a::b)=a.length+BE b:=by simp [BE]
theorem Kj (ws:List Word):DS (ws.map txt)=BE ws:=by
 unfold DS BE
 rw [List.map_map]
 rfl
theorem IY {n:Nat} (h:n < 18446744073709551616):(Lib.decDigits n).length≤20:=FK h
theorem QA {p:Nm} (h:KS p):(bl (tx p)).length≤300:=by
 show (if okX p=true then C7 p else []).length≤300
 split
 ·rename_i hk
  have hk:1≤(bl p.g).length∧(bl p.g).length≤64∧(bl p.b).length≤64:=of_decide_eq_true hk
  have h1:=FK (n:=p.f) (by have:p.f < 4294967296:=h;omega)
  have h2:∀ l:List UInt8,(B8 l).length=2 * l.length:=fun l=>by
   induction l with
   | nil=>rfl
   | cons b l ih=>rw [show B8 (b::l)=[CQ (b.toNat / 16),CQ (b.toNat % 16)]++B8 l from rfl,List.length_append,ih];simp;omega
  simp only [C7,List.length_append,h2,List.length_cons,List.length_nil]
  omega
 ·simp
theorem I5 (c:Ax):Co c 88=[bl (tx c.x)]:=by
 show (if okX c.x=true then some [C7 c.x] else none).getD [[]]=[if okX c.x=true then C7 c.x else []]
 split <;> rfl
theorem I4 (c:EvD):Ce c 88=[bl (tx c.x)]:=by
 show (if okX c.x=true then some [C7 c.x] else none).getD [[]]=[if okX c.x=true then C7 c.x else []]
 split <;> rfl
theorem QO:∀ (l:List (ByteArray × Nat)),(∀ r∈l,U64 r.2)→BE (l.map DA)+l.length≤3 * szR l+22 * l.length
 | [],_=>by simp [BE,szR]
 | r::l,h=>by
  have h1:=QO l fun r hr=>h r (List.mem_cons_of_mem _ hr)
  have h2:=IY (h r (by simp))
  have h3:=Fi (bl r.1)
  have e:szR (r::l)=(bl r.1).length+1+szR l:=by simp [szR]
  rw [List.map_cons,AS,e,List.length_cons]
  simp only [DA,List.length_append,List.length_cons,List.length_nil]
  omega
theorem LS (n:Nat):(partsOf n).2=[]∨(partsOf n).2=[81,78]∨(partsOf n).2=[81,101]∨(partsOf n).2=[81]∨(partsOf n).2=[81,84,66]∨(partsOf n).2=[81,84]∨(partsOf n).2=[84]∨(partsOf n).2=[84,78]∨(partsOf n).2=[82]∨(partsOf n).2=[109,82]∨(partsOf n).2=[100]∨(partsOf n).2=[88,115]∨(partsOf n).2=[88,102]∨(partsOf n).2=[88,78]:=by
 rcases Nat.lt_or_ge 21 n with h | h
 ·rw [Cv h];exact .inl rfl
 ·have:∀ n < 22,(partsOf n).2=[]∨(partsOf n).2=[81,78]∨(partsOf n).2=[81,101]∨(partsOf n).2=[81]∨(partsOf n).2=[81,84,66]∨(partsOf n).2=[81,84]∨(partsOf n).2=[84]∨(partsOf n).2=[84,78]∨(partsOf n).2=[82]∨(partsOf n).2=[109,82]∨(partsOf n).2=[100]∨(partsOf n).2=[88,115]∨(partsOf n).2=[88,102]∨(partsOf n).2=[88,78]:=by decide
  exact this n (by omega)
theorem L6 (n:Nat):(Aj n).2=[]∨(Aj n).2=[98]∨(Aj n).2=[88,99]∨(Aj n).2=[110,116,105]∨(Aj n).2=[110]∨(Aj n).2=[110,107]∨(Aj n).2=[110,105]∨(Aj n).2=[110,88,99]∨(Aj n).2=[88]∨(Aj n).2=[110,105,83]∨(Aj n).2=[110,67]:=by
 rcases Nat.lt_or_ge 17 n with h | h
 ·rw [Cn h];exact .inl rfl
 ·have:∀ n < 18,(Aj n).2=[]∨(Aj n).2=[98]∨(Aj n).2=[88,99]∨(Aj n).2=[110,116,105]∨(Aj n).2=[110]∨(Aj n).2=[110,107]∨(Aj n).2=[110,105]∨(Aj n).2=[110,88,99]∨(Aj n).2=[88]∨(Aj n).2=[110,105,83]∨(Aj n).2=[110,67]:=by decide
  exact this n (by omega)
theorem OJ (n:Nat):(partsOf n).1.length≤12:=by
 rcases Nat.lt_or_ge 21 n with h | h
 ·rw [Cv h];decide
 ·have:∀ n < 22,(partsOf n).1.length≤12:=by decide
  exact this n (by omega)
theorem OI (n:Nat):(Aj n).1.length≤12:=by
 rcases Nat.lt_or_ge 17 n with h | h
 ·rw [Cn h];decide
 ·have:∀ n < 18,(Aj n).1.length≤12:=by decide
  exact this n (by omega)
theorem O3 {c:Ax} (h:c.Wf):BE (Bv c)+(Bv c).length≤3 * szC c+22 * c.refs.length+500:=by
 have h1:=IY h.ses
 have h2:=OJ c.what
 have hn:=IY (n:=c.n) (by have:=h.n;omega)
 have hx:=QA h.x
 have hq:=Fi (bl c.queue)
 have ht:=Fi (bl c.tag)
 have hb:=Fi (bl c.body)
 have hr:=QO c.refs h.refs
 have e81:Co c 81=[AY (bl c.queue)]:=rfl
 have e84:Co c 84=[AY (bl c.tag)]:=rfl
 have e66:Co c 66=[AY (bl c.body)]:=rfl
 have e78:Co c 78=[Lib.decDigits c.n]:=rfl
 have e88:=I5 c
 have e82:Co c 82=c.refs.map DA:=rfl
 have ZJ:Co c 101=[CL c.a Gm Vt]:=rfl
 have ZH:Co c 109=[CL c.a Ih Qx]:=rfl
 have ZK:Co c 100=[CL c.a MU MS]:=rfl
 have ZG:Co c 115=[FV c.a c.b Ob Jr FA EE]:=rfl
 have ZI:Co c 102=[FV c.a c.b Jt Js Ek EE]:=rfl
 have f1:(CL c.a Gm Vt).length≤7:=by cases c.a <;> decide
 have f2:(CL c.a Ih Qx).length≤7:=by cases c.a <;> decide
 have f3:(CL c.a MU MS).length≤7:=by cases c.a <;> decide
 have f4:(FV c.a c.b Ob Jr FA EE).length≤7:=by cases c.a <;> cases c.b <;> decide
 have f5:(FV c.a c.b Jt Js Ek EE).length≤7:=by cases c.a <;> cases c.b <;> decide
 have e0:BE []=0:=rfl
 unfold szC
 rcases LS c.what with e | e | e | e | e | e | e | e | e | e | e | e | e | e <;>
 ·unfold Bv
  rw [e]
  simp only [List.flatMap_cons,List.flatMap_nil,List.append_nil,AS,AM,List.length_cons,List.length_append,List.length_nil,List.length_map,e81,e84,e66,e78,e88,e82,ZJ,ZH,ZK,ZG,ZI,e0]
  omega
theorem O4 (c:Ax):(Bv c).length≤c.refs.length+5:=by
 have e88:=I5 c
 have e82:Co c 82=c.refs.map DA:=rfl
 have e1:∀ h:UInt8,h≠82→h≠88→(Co c h).length≤1:=fun h h1 h2=>by
  unfold Co J4
  simp only [h1,h2,if_false]
  repeat' split
  all_goals simp
 have q1:=e1 81 (by decide) (by decide)
 have q2:=e1 84 (by decide) (by decide)
 have q3:=e1 66 (by decide) (by decide)
 have q4:=e1 78 (by decide) (by decide)
 have q5:=e1 101 (by decide) (by decide)
 have q6:=e1 109 (by decide) (by decide)
 have q7:=e1 100 (by decide) (by decide)
 have q8:=e1 115 (by decide) (by decide)
 have q9:=e1 102 (by decide) (by decide)
 rcases LS c.what with e | e | e | e | e | e | e | e | e | e | e | e | e | e <;>
 ·unfold Bv
  rw [e]
  simp only [List.flatMap_cons,List.flatMap_nil,List.append_nil,List.length_cons,List.length_append,List.length_nil,List.length_map,e88,e82]
  omega
theorem OX:∀ (l:List Nat),(∀ k∈l,k < 256)→BE (l.map Lib.decDigits)≤20 * l.length
 | [],_=>by simp [BE]
 | r::l,h=>by
  have h1:=OX l fun r hr=>h r (List.mem_cons_of_mem _ hr)
  have h2:=IY (n:=r) (by have:=h r (by simp);omega)
  rw [List.map_cons,AS,List.length_cons]
  omega
theorem Rk:∀ (l:List Int),(∀ k∈l,-9223372036854775808≤k∧k≤9223372036854775807)→BE (l.map Lib.itoa)≤21 * l.length
 | [],_=>by simp [BE]
 | r::l,h=>by
  have h1:=Rk l fun r hr=>h r (List.mem_cons_of_mem _ hr)
  have h2:=h r (by simp)
  have h3:=TN h2.1 h2.2
  rw [List.map_cons,AS,List.length_cons]
  omega
theorem Lh {v:EvD} (h:v.Wf):BE (Bg v)+(Bg v).length≤3 * szV v+22 * (v.call.refs.length+v.nodes.length+v.keep.length)+1000:=by
 have h2:=OI v.kind
 have hn:=IY (n:=v.node) (by have:=h.node;omega)
 have ht:=IY (n:=v.to) (by have:=h.to;omega)
 have hi:=TN h.n.1 h.n.2
 have hx:=QA h.x
 have hs:=Fi (bl v.s)
 have hb:=OX v.nodes h.nodes
 have hk:=Rk v.keep h.keep
 have hc:=O3 h.call
 have WD:Ce v 110=[Lib.decDigits v.node]:=rfl
 have e116:Ce v 116=[Lib.decDigits v.to]:=rfl
 have WE:Ce v 105=[Lib.itoa v.n]:=rfl
 have e88:=I4 v
 have e99:Ce v 99=[CL v.a DV OG]:=rfl
 have e83:Ce v 83=[AY (bl v.s)]:=rfl
 have e98:Ce v 98=v.nodes.map Lib.decDigits:=rfl
 have e107:Ce v 107=v.keep.map Lib.itoa:=rfl
 have e67:Ce v 67=Bv v.call:=rfl
 have f1:(CL v.a DV OG).length≤7:=by cases v.a <;> decide
 have e0:BE []=0:=rfl
 unfold szV
 rcases L6 v.kind with e | e | e | e | e | e | e | e | e | e | e <;>
 ·unfold Bg
  rw [e]
  simp only [List.flatMap_cons,List.flatMap_nil,List.append_nil,AS,AM,List.length_cons,List.length_append,List.length_nil,List.length_map,WD,e116,WE,e88,e99,e83,e98,e107,e67,e0]
  omega
theorem UD (v:EvD):(Bg v).length≤v.call.refs.length+v.nodes.length+v.keep.length+9:=by
 have hc:=O4 v.call
 have WD:Ce v 110=[Lib.decDigits v.node]:=rfl
 have e116:Ce v 116=[Lib.decDigits v.to]:=rfl
 have WE:Ce v 105=[Lib.itoa v.n]:=rfl
 have e88:=I4 v
 have e99:Ce v 99=[CL v.a DV OG]:=rfl
 have e83:Ce v 83=[AY (bl v.s)]:=rfl
 have e98:Ce v 98=v.nodes.map Lib.decDigits:=rfl
 have e107:Ce v 107=v.keep.map Lib.itoa:=rfl
 have e67:Ce v 67=Bv v.call:=rfl
 rcases L6 v.kind with e | e | e | e | e | e | e | e | e | e | e <;>
 ·unfold Bg
  rw [e]
  simp only [List.flatMap_cons,List.flatMap_nil,List.append_nil,List.length_cons,List.length_append,List.length_nil,List.length_map,WD,e116,WE,e88,e99,e83,e98,e107,e67]
  omega
theorem Iz (l:List (ByteArray × Nat)):l.length≤szR l:=by
 induction l with
 | nil=>simp
 | cons r l ih=>rw [show szR (r::l)=(bl r.1).length+1+szR l by simp [szR],List.length_cons];omega
theorem QB (l:List (ByteArray × Nat)) (i:Nat):szR (l.take i)≤szR l:=by
 have:szR l=szR (l.take i)+szR (l.drop i):=by
  conv=>lhs;rw [← List.take_append_drop i l]
  unfold szR
  rw [List.map_append,List.sum_append]
 omega
theorem VC {l:List (ByteArray × Nat)} {i:Nat} {r:ByteArray × Nat} (h:l[i]? =some r):szR (l.take (i+1))=szR (l.take i)+((bl r.1).length+1):=by
 rw [BH h];simp [szR]
theorem Tu {l:List (ByteArray × Nat)} {r:ByteArray × Nat} (h:r∈l):(bl r.1).length+1≤szR l:=by
 induction l with
 | nil=>cases h
 | cons x l ih=>
  have e:szR (x::l)=(bl x.1).length+1+szR l:=by simp [szR]
  rcases List.mem_cons.1 h with rfl | h
  ·omega
  ·have:=ih h;omega
theorem Pk {n:Nat} (h:n < 4294967296) (A:AW):AD Tp A 30 35 (.int .u32 (n:Int))=.ok (.int .u64 (n:Int)) A:=by
 rw [N0,wrap_u64 (by omega) (by omega)]
section
variable {W0:World} {m0:Inj Tp}
theorem YM {u:Nat} {A:AW} {K:Value→AW→Prop} (hp:Pow W0) (hu:u < 4294967296) (hk:K (.string ⟨⟨Lib.decDigits u⟩⟩) A):Wc Tp Ai W0 m0 85 [.int .u32 (u:Int)] A K:=by
 refine w85 _ _ (At (S:=fun _ _ _=>False) fun _ _ _ h=>h) ?_
 rw [e85]
 simp only [kW,BD,Ad,Av]
 refine ⟨fun h=>absurd h (by omega),fun _=>?_⟩
 rw [Pk hu]
 exact Bi.2 (Uc hp (by omega) hk)
theorem LG {b:Bool} {x y:Word} {A:AW} {K:Value→AW→Prop} (hk:K (.string (txt (CL b x y))) A):Wc Tp Ai W0 m0 49 [.bool b,.string ⟨⟨x⟩⟩,.string ⟨⟨y⟩⟩] A K:=by
 refine Acf ?_
 cases b <;> exact hk
theorem XT {A:AW} {b:Nat} {w0 w1 w2 w3:ByteArray} (h:Go.Abs.AQ A b [.string w0,.string w1,.string w2,.string w3] 9) {i:Nat} {s:ByteArray} (hi:[w0,w1,w2,w3][i]? =some s):∃ a,Ao Tp 56 (.slice (some ⟨b,0,none⟩) 4 4) (.int .i64 (i:Int))=some (.pointer (some a))∧Au Tp A 9 (.pointer (some a))=some (.string s):=by
 refine ES.at ZD (l:=[w0,w1,w2,w3]) (F:=[b]) (p:=s) (.inr ⟨b,0,4,_,9,b,0,false,rfl,h.row,h.lt,rfl,fun i p hi=>?_⟩) hi rfl
 rw [Nat.zero_add]
 exact Fm (f:=cS) (n:=1) (fun _=>rfl) [w0,w1,w2,w3] i p hi
theorem Z2 {a b:Bool} {q:Nat} {w0 w1 w2 w3:Word} {A:AW} {K:Value→AW→Prop} (h:Go.Abs.AQ A q [.string (txt w0),.string (txt w1),.string (txt w2),.string (txt w3)] 9) (hk:K (.string (txt (FV a b w0 w1 w2 w3))) A):
  Wc Tp Ai W0 m0 87 [.bool a,.bool b,.slice (some ⟨q,0,none⟩) 4 4] A K:=by
 refine w87 _ _ _ _ (At (S:=fun _ _ _=>False) fun _ _ _ h=>h) ?_
 rw [e87]
 obtain ⟨a3,i3,l3⟩:=XT h (i:=3) rfl
 obtain ⟨a2,i2,l2⟩:=XT h (i:=2) rfl
 obtain ⟨a1,i1,l1⟩:=XT h (i:=1) rfl
 obtain ⟨a0,i0,l0⟩:=XT h (i:=0) rfl
 refine Aa i3 (Aa l3 (Aa i2 (Aa l2 (Aa i1 (Aa l1 (Aa i0 (Aa l0 (LG ?_))))))))
 refine ck l0 (ck i0 (Am.2 (ck l1 (ck i1 (Am.2 (Am.2 (Am.2 (LG (Am.2 (LG ?_))))))))))
 cases a <;> cases b <;> exact hk
theorem VI (l:List (ByteArray × Nat)) {i:Nat} {r:ByteArray × Nat} (h:l[i]? =some r):(l.take (i+1)).map (fun r=>txt (DA r))=(l.take i).map (fun r=>txt (DA r))++[txt (DA r)]:=by
 rw [BH h,List.map_append];rfl
theorem YL {v:Value} {l:List (ByteArray × Nat)} {F:List Nat} {A:AW} {K:Value→AW→Prop} (hp:Pow W0) (h:RdE 1 cR A v l F) (hl:l.length < 10000000) (hu:∀ r∈l,U64 r.2) (hs:szR l < 10000000) (hf:AJ A) (hA:A.next+30 * szR l+200 < Al)
  (hk:∀ A' w G,EN 9 0 cS A' w (l.map fun r=>txt (DA r)) G→(∀ x∈G,A.next≤x)→Grow A A' (30 * szR l)→K w A'):Wc Tp Ai W0 m0 86 [v] A K:=by
 let I:Nat→Nat→List Value→AW→Prop:=fun g id vals A'=>id=0∧∃ (i:Nat) (w:Value) (G:List Nat),vals=[w,v,.int .i64 (l.length:Int),.int .i64 (i:Int)]∧i≤l.length∧EN 9 0 cS A' w ((l.take i).map fun r=>txt (DA r)) G∧(∀ x∈G,A.next≤x)∧Grow A A' (30 * szR (l.take i))∧g=l.length - i
 refine w86 _ _ (c86 (I:=I) ?_) ?_
 ·rintro g id vals A' d ⟨rfl,i,w,G,rfl,hi,ho,hG,gr,rfl⟩ hd
  rw [Aa1]
  simp only [L86,List.map_cons,List.map_nil,List.cons.injEq,and_true] at hd
  obtain ⟨d3,d6,d7,d8⟩:=hd
  simp only [d3,d6,d7,d8]
  refine Aa BD (Av.2 ⟨fun hlt=>?_,fun hge=>?_⟩)
  ·have hlt:i < l.length:=by omega
   have hp0:=List.getElem?_eq_getElem hlt
   generalize hr:l[i]=r at hp0
   have hm:r∈l:=by rw [← hr];exact List.getElem_mem hlt
   have hu:=hu r hm
   have hsz:=Tu hm
   have hst:=QB l i
   have hsn:=VC hp0
   have hst1:=QB l (i+1)
   have ng:=gr.next
   have h':=h.keeps gr.keeps (by simp)
   obtain ⟨b,o,a1,_,a2⟩:=h'.at IQ hp0
   refine Aa a1 (Aa a2 (AV RV gr.AG (by omega) rfl fun A1 m1=>?_))
   have n1:=m1.next
   refine Go.Abs.AQ.store (n:=2) (off:=0) (v:=.agg ⟨cR r⟩) m1.B7 m1.AG (by omega) (Tw _ _ _) rfl (Nat.le_refl 2) rfl fun A2 r2 k2 n2 f2=>?_
   have r2:Go.Abs.AQ A2 A'.next (cR r) 54:=r2
   have g2:Grow A' A2 1:=(((Grow.made m1 gr.AG).own k2 (fun x hx=>by rw [List.mem_singleton.1 hx];exact Nat.le_refl _) (m:=0) (by omega) f2)).more (by omega)
   have l9:∀ {B:AW},Go.Abs.AQ B A'.next (cR r) 54→Au Tp B 9 (.pointer (some ⟨A'.next,0,none⟩))=some (.string r.1):=fun {B} q=>by rw [FH,Ay q.row];rfl
   have l35:∀ {B:AW},Go.Abs.AQ B A'.next (cR r) 54→Au Tp B 35 (.pointer (some ⟨A'.next,1,none⟩))=some (.int .u64 (r.2:Int)):=fun {B} q=>by rw [Wh,Ay q.row];rfl
   have f0:Ac Tp 54 (.pointer (some ⟨A'.next,0,none⟩)) 0=some (.pointer (some ⟨A'.next,0,none⟩)):=TV _ 0
   have f1:Ac Tp 54 (.pointer (some ⟨A'.next,0,none⟩)) 1=some (.pointer (some ⟨A'.next,1,none⟩)):=PZ _ 0
   refine Aa f0 (Aa (l9 r2) (Aa f1 (Aa (l35 r2) ?_)))
   refine wc8 (s:=r.1) (by show (bl r.1).length < _;omega) f2 (by show _+100+10 * (bl r.1).length < _;omega) fun A3 g3=>?_
   have g3:Grow A2 A3 (20+10 * (bl r.1).length):=g3
   have n3:=g3.next
   have r3:=r2.keeps g3.keeps (by simp)
   have hql:=Fi (bl r.1)
   have hdl:=IY hu
   obtain ⟨S1,e1,a1⟩:=AbL (x:=txt (AY (bl r.1))) (y:=txt [58]) (by rw [C8,C8];simp only [List.length_cons,List.length_nil];omega)
   obtain ⟨S2,e2,a2⟩:=AbL (x:=S1) (y:=txt (Lib.decDigits r.2)) (by rw [e1,C8,C8,C8];simp only [List.length_append,List.length_cons,List.length_nil];omega)
   have hS:S2=txt (DA r):=by
    rw [← Hi S2,e2,e1];rfl
   subst hS
   refine ck (l35 r3) (ck f1 (Am.2 (Aa (a1 _ _) (Aaa hp hu (ck (a1 _ _) (Am.2 (Aa (a2 _ _) ?_)))))))
   refine Bq (EB _ _) rfl g3.AG (by omega) fun A4 m4=>?_
   have n4:=m4.next
   have r4:=r3.keeps (m4.keeps g3.AG) (by simp)
   refine Abx m4.row (ck (a2 _ _) (ck (l35 r4) (ck f1 (ck (a1 _ _) (ck (l9 r4) (ck f0 (Am.2 ?_)))))))
   have K14:Aw A' A4 []:=(g2.keeps.trans g3.keeps (by simp)).trans (m4.keeps g3.AG) (by simp)
   refine ES.append ZD (p:=txt (DA r)) (ho.keeps K14 (by simp)) m4.B7 m4.AG (by omega) (by rw [List.length_map,List.length_take];omega) fun v' A5 G' o5 k5 hG5 n5 f5=>?_
   have e2:IntKind.i64.wrap ((i:Int)+1)=((i+1:Nat):Int):=wrap_i64 (by omega) (by omega)
   simp only [AU,Ad,e2]
   have hle:A.next≤A'.next:=gr.le
   have hle2:=K14.next
   refine Aq.2 ⟨l.length - (i+1),by omega,rfl,i+1,v',G',rfl,by omega,?_,fun x hx=>?_,?_,rfl⟩
   ·rw [VI l hp0];exact o5
   ·rcases hG5 x hx with e | e
    ·exact hG x e
    ·omega
   ·refine ⟨(gr.keeps.trans K14 (by simp)).trans k5 fun x hx=>.inr (hG x hx),f5,by omega⟩
  ·have:i=l.length:=by omega
   subst this
   rw [List.take_length] at ho gr
   exact hk A' w G ho hG gr
 ·rw [e86]
  exact Aa (h.len IQ) (Aq.2 ⟨l.length,rfl,0,_,[],rfl,by omega,.nil _,by simp,⟨.refl _ _,hf,by omega⟩,rfl⟩)
end
theorem N1 {c:Ax} {vr:Value} {A:AW} {b:Nat} {e:TypeId} (h:Go.Abs.AQ A b (c.cells vr) e):Au Tp A 5 (.pointer (some ⟨b,0,none⟩))=some (.int .u8 (c.what:Int)):=by
 rw [PQ,Ay h.row];rfl
theorem RH {c:Ax} {vr:Value} {A:AW} {b:Nat} {e:TypeId} (h:Go.Abs.AQ A b (c.cells vr) e):Au Tp A 35 (.pointer (some ⟨b,1,none⟩))=some (.int .u64 (c.ses:Int)):=by
 rw [Wh,Ay h.row];rfl
theorem Jq {c:Ax} {vr:Value} {A:AW} {b:Nat} {e:TypeId} (h:Go.Abs.AQ A b (c.cells vr) e):Au Tp A 9 (.pointer (some ⟨b,2,none⟩))=some (.string c.queue):=by
 rw [FH,Ay h.row];rfl
theorem Jp {c:Ax} {vr:Value} {A:AW} {b:Nat} {e:TypeId} (h:Go.Abs.AQ A b (c.cells vr) e):Au Tp A 9 (.pointer (some ⟨b,3,none⟩))=some (.string c.tag):=by
 rw [FH,Ay h.row];rfl
theorem MF {c:Ax} {vr:Value} {A:AW} {b:Nat} {e:TypeId} (h:Go.Abs.AQ A b (c.cells vr) e):Au Tp A 32 (.pointer (some ⟨b,4,none⟩))=some (.agg ⟨c.x.cells⟩):=by
 rw [Wi,CD h.row];rfl
theorem Ka {c:Ax} {vr:Value} {A:AW} {b:Nat} {e:TypeId} (h:Go.Abs.AQ A b (c.cells vr) e):Au Tp A 30 (.pointer (some ⟨b,7,none⟩))=some (.int .u32 (c.n:Int)):=by
 rw [Wj,Ay h.row];rfl
theorem Hr {c:Ax} {vr:Value} {A:AW} {b:Nat} {e:TypeId} (h:Go.Abs.AQ A b (c.cells vr) e):Au Tp A 4 (.pointer (some ⟨b,8,none⟩))=some (.bool c.a):=by
 rw [Xx,Ay h.row];rfl
theorem Lx {c:Ax} {vr:Value} {A:AW} {b:Nat} {e:TypeId} (h:Go.Abs.AQ A b (c.cells vr) e):Au Tp A 4 (.pointer (some ⟨b,9,none⟩))=some (.bool c.b):=by
 rw [Xx,Ay h.row];rfl
theorem JM {c:Ax} {vr:Value} {A:AW} {b:Nat} {e:TypeId} (h:Go.Abs.AQ A b (c.cells vr) e) (hv:isTuple vr=false):Au Tp A 36 (.pointer (some ⟨b,10,none⟩))=some (vr):=by
 rw [Yv,Ay h.row]
 exact Cd rfl hv
theorem JL {c:Ax} {vr:Value} {A:AW} {b:Nat} {e:TypeId} (h:Go.Abs.AQ A b (c.cells vr) e):Au Tp A 9 (.pointer (some ⟨b,11,none⟩))=some (.string c.body):=by
 rw [FH,Ay h.row];rfl
theorem Mp {v:EvD} {vn vk vr:Value} {A:AW} {b:Nat} {e:TypeId} (h:Go.Abs.AQ A b (v.cells vn vk vr) e):Au Tp A 5 (.pointer (some ⟨b,0,none⟩))=some (.int .u8 (v.kind:Int)):=by
 rw [PQ,Ay h.row];rfl
theorem FF {v:EvD} {vn vk vr:Value} {A:AW} {b:Nat} {e:TypeId} (h:Go.Abs.AQ A b (v.cells vn vk vr) e):Au Tp A 5 (.pointer (some ⟨b,1,none⟩))=some (.int .u8 (v.node:Int)):=by
 rw [PQ,Ay h.row];rfl
theorem Jk {v:EvD} {vn vk vr:Value} {A:AW} {b:Nat} {e:TypeId} (h:Go.Abs.AQ A b (v.cells vn vk vr) e):Au Tp A 5 (.pointer (some ⟨b,2,none⟩))=some (.int .u8 (v.to:Int)):=by
 rw [PQ,Ay h.row];rfl
theorem EL {v:EvD} {vn vk vr:Value} {A:AW} {b:Nat} {e:TypeId} (h:Go.Abs.AQ A b (v.cells vn vk vr) e):Au Tp A 3 (.pointer (some ⟨b,3,none⟩))=some (.int .i64 v.n):=by
 rw [Zw,Ay h.row];rfl
theorem Mo {v:EvD} {vn vk vr:Value} {A:AW} {b:Nat} {e:TypeId} (h:Go.Abs.AQ A b (v.cells vn vk vr) e):Au Tp A 32 (.pointer (some ⟨b,4,none⟩))=some (.agg ⟨v.x.cells⟩):=by
 rw [Wi,CD h.row];rfl
theorem Mn {v:EvD} {vn vk vr:Value} {A:AW} {b:Nat} {e:TypeId} (h:Go.Abs.AQ A b (v.cells vn vk vr) e) (hv:isTuple vn=false):Au Tp A 33 (.pointer (some ⟨b,7,none⟩))=some (vn):=by
 rw [KE,Ay h.row]
 exact Cd rfl hv
theorem Mm {v:EvD} {vn vk vr:Value} {A:AW} {b:Nat} {e:TypeId} (h:Go.Abs.AQ A b (v.cells vn vk vr) e) (hv:isTuple vk=false):Au Tp A 34 (.pointer (some ⟨b,8,none⟩))=some (vk):=by
 rw [AaY,Ay h.row]
 exact Cd rfl hv
theorem Ml {v:EvD} {vn vk vr:Value} {A:AW} {b:Nat} {e:TypeId} (h:Go.Abs.AQ A b (v.cells vn vk vr) e):Au Tp A 9 (.pointer (some ⟨b,9,none⟩))=some (.string v.s):=by
 rw [FH,Ay h.row];rfl
theorem Hv {v:EvD} {vn vk vr:Value} {A:AW} {b:Nat} {e:TypeId} (h:Go.Abs.AQ A b (v.cells vn vk vr) e):Au Tp A 4 (.pointer (some ⟨b,10,none⟩))=some (.bool v.a):=by
 rw [Xx,Ay h.row];rfl
theorem Ki {v:EvD} {vn vk vr:Value} {A:AW} {b:Nat} {e:TypeId} (h:Go.Abs.AQ A b (v.cells vn vk vr) e) (hv:isTuple vr=false):Au Tp A 38 (.pointer (some ⟨b,11,none⟩))=some (.agg ⟨v.call.cells vr⟩):=by
 rw [JD,CD h.row]
 have:=CI (v.call.cells vr) [] (Eo v.call hv)
 rw [List.append_nil] at this
 show (match Cg (v.call.cells vr) 12 with | some l=>some (Value.agg ⟨l⟩) | none=>none)=_
 rw [show Cg (v.call.cells vr) 12=some (v.call.cells vr) from this]
theorem Tt (c:Ax):Co c 82=c.refs.map DA:=rfl
theorem Aar (v:EvD):Ce v 67=Bv v.call:=rfl
theorem Vj:Dv Tp 56=some (.slice none 0 0):=by kernel_rfl
theorem Ac5 (s t u v:ByteArray):AT Tp (By (Tm.fill ⟨4,.nil⟩ 0 [.string s,.string t,.string u,.string v])) (.buildSlice 56 4 #[(0,.tmp 0),(1,.tmp 1),(2,.tmp 2),(3,.tmp 3)])=some (.slice [.string s,.string t,.string u,.string v] 9 4):=by kernel_rfl
theorem UN {A:AW} {q:Nat} {s t u v:ByteArray} {p:Prop} (h:A.get q=some (.row [.string s,.string t,.string u,.string v] 9 q 0 false)) (hp:p):Bz (AT Tp (By (Tm.fill ⟨4,.nil⟩ 0 [.string s,.string t,.string u,.string v])) (.buildSlice 56 4 #[(0,.tmp 0),(1,.tmp 1),(2,.tmp 2),(3,.tmp 3)])) A (.slice (some ⟨q,0,none⟩) 4 4) p:=by
 refine ⟨⟨_,Ac5 _ _ _ _,?_⟩,hp⟩
 simp only [Ck,Fh,h,ER,GW,Bool.and_self,Option.isNone_none,Nat.beq_refl]
theorem Zl {A:AW} {v:Value} {l:List ByteArray} {F:List Nat} (h:I2 9 cS A v l F):RdE 0 cS A v l F:=by
 rcases h with h | ⟨b,rfl,h2,_,_,rfl⟩
 ·exact EN.rd (fun _=>rfl) h
 ·exact .inr ⟨b,0,_,_,_,b,0,false,rfl,h2.row,h2.lt,rfl,fun i p hi=>by rw [Nat.zero_add];exact Fm (n:=1) (fun _=>rfl) l i p hi⟩
section
variable {W0:World} {m0:Inj Tp}
set_option maxHeartbeats 4000000 in
theorem Acb {c:Ax} {vr:Value} {F:List Nat} {A:AW} {K:Value→AW→Prop} (hp:Pow W0) (hw:c.Wf) (hrd:RdE 1 cR A vr c.refs F) (hz:szC c < 8000000) (hf:AJ A) (hA:A.next+100 * szC c+8000 < Al)
  (hk:∀ A' w G,I2 9 cS A' w ((Bv c).map txt) G→(∀ x∈G,A.next≤x)→Grow A A' (100 * szC c+5000)→K w A'):Wc Tp Ai W0 m0 56 [.agg ⟨c.cells vr⟩] A K:=by
 have hvr:=hrd.one.2
 have hrl:=Iz c.refs
 have hsz:szC c=(bl c.queue).length+(bl c.tag).length+(bl c.body).length+szR c.refs:=rfl
 refine w56 _ _ (At (S:=fun _ _ _=>False) fun _ _ _ h=>h) ?_
 rw [e56]
 refine BI (cs:=c.cells vr) hf (by omega) (C4 c hrd.one.1) fun A1 m1=>?_
 have n1:=m1.next
 refine AV Vj m1.AG (by omega) rfl fun A2 m2=>PU m2.row ?_
 have n2:=m2.next
 have ev2:Go.Abs.AQ A2 A.next (c.cells vr) 38:=m1.B7.keeps (m2.keeps m1.AG) (by simp)
 refine Aa (Gb _ 0) (Aa (RH ev2) (Aa (DI _ 0) (Aa (N1 ev2) (Aaa hp hw.ses (PU m2.row (ck (N1 ev2) (ck (DI _ 0) ?_)))))))
 refine Z3 m2.AG (by omega) fun A3 vm g3=>?_
 have n3:=g3.next
 have p3:Go.Abs.AQ A3 A1.next [.slice none 0 0] 56:=m2.B7.keeps g3.keeps (by simp)
 have ev3:=ev2.keeps g3.keeps (by simp)
 refine PU p3.row (ck (N1 ev3) (ck (DI _ 0) (Z7 vm g3.AG (by omega) fun A4 g4=>?_)))
 have n4:=g4.next
 have p4:=p3.keeps g4.keeps (by simp)
 have ev4:=ev3.keeps g4.keeps (by simp)
 refine PU p4.row (Bq (Fv _ _ _) rfl g4.AG (by omega) fun A5 m5=>?_)
 have n5:=m5.next
 have k5:=m5.keeps g4.AG
 have p5:=p4.keeps k5 (by simp)
 have ev5:=ev4.keeps k5 (by simp)
 have le3:=g3.le
 have le4:=g4.le
 refine PU p5.row (Mv m5.row (ck (N1 ev5) (ck (DI _ 0) (ck (RH ev5) (ck (Gb _ 0) ?_)))))
 refine Go.Abs.AQ.store (n:=1) (off:=0) (v:=.slice (some ⟨A4.next,0,none⟩) 2 2) p5 m5.AG (by omega) (Tv _ _ _) rfl (show 0+1≤1 by decide) rfl fun A6 p6 k6 n6 f6=>?_
 have s6:LW A A6 A.next (c.cells vr) 38 A1.next [txt (Lib.decDigits c.ses),txt (partsOf c.what).1] 10:=by
  refine ⟨ev5.keeps k6 (by simp;omega),⟨_,[A4.next],p6,(TE (ws:=[txt (Lib.decDigits c.ses),txt (partsOf c.what).1]) m5 (by simp) (by simp)).keeps k6 (by simp;omega),by simp;omega,by simp;omega,by simp;omega⟩,⟨?_,f6,by omega⟩,by omega,by omega⟩
  refine Aw.trans ?_ k6 fun x hx=>.inr (by rw [List.mem_singleton.1 hx];omega)
  exact ((((m1.keeps hf).trans (m2.keeps m1.AG) (by simp)).trans g3.keeps (by simp)).trans g4.keeps (by simp)).trans k5 (by simp)
 have fin:∀ {B:AW} {ws:List ByteArray} {N:Nat},LW A B A.next (c.cells vr) 38 A1.next ws N→ws=(Bv c).map txt→N≤100 * szC c+5000→Ab (Au Tp B 56 (.pointer (some ⟨A1.next,0,none⟩))) fun t=>K t B:=fun {B ws N} s e hN=>by
  obtain ⟨v,G,h1,h2,h3,h4,h5⟩:=s.out
  have l1:Au Tp B 56 (.pointer (some ⟨A1.next,0,none⟩))=some v:=by
   rw [LX,Ay h1.row]
   obtain ⟨o,c,rfl⟩:=h2.slice
   rfl
  refine Aa l1 (hk B v G ?_ h5 (s.g.more hN))
  rw [← e];exact h2
 refine Aa (DI _ 0) (Aa (N1 s6.ev) ?_)
 refine Aa Ah (Ae.2 ⟨fun hc=>?_,fun hc3=>?_⟩)
 ·have hc:c.what=3:=by omega
  refine Aa (v:=.pointer (some ⟨A.next,2,none⟩)) (Ct A.next 0) (Aa (v:=.string c.queue) (Jq s6.ev) (Aa (v:=.pointer (some ⟨A.next,7,none⟩)) (CU A.next 0) (Aa (v:=.int .u32 (c.n:Int)) (Ka s6.ev) ?_)))
  refine wc8 (s:=c.queue) (by show (bl c.queue).length < _;omega) s6.f (by have:=s6.n;show _+100+10 * (bl c.queue).length < _;omega) fun A7 g7=>?_
  have g7:Grow A6 A7 (20+10 * (bl c.queue).length):=g7
  have s7:=s6.grow g7
  refine ck (Ka s7.ev) (ck (CU A.next 0) (Am.2 ?_))
  refine YM hp hw.n ?_
  refine Am.2 ?_
  refine Bq (Fv _ _ _) rfl s7.f (by have:=s7.n;omega) fun A8 m8=>?_
  have s8:=s7.grow (Grow.made m8 s7.f)
  refine Mv m8.row (ck (Ka s8.ev) (ck (CU A.next 0) (ck (Jq s8.ev) (ck (Ct A.next 0) (Am.2 ?_)))))
  refine s8.FM (us:=[(txt (AY (bl c.queue))),(txt (Lib.decDigits c.n))]) (Cu (ws:=[(txt (AY (bl c.queue))),(txt (Lib.decDigits c.n))]) m8) (by simp) (by simp) (by have:=s8.n;omega) fun A9 s9=>?_
  exact fin s9 (by rw [Bv,hc];rfl) (by have:=s9.n;omega)
 refine Aa Ah (Ae.2 ⟨fun hc=>?_,fun hc4=>?_⟩)
 ·have hc:c.what=4:=by omega
  refine Aa (v:=.pointer (some ⟨A.next,2,none⟩)) (Ct A.next 0) (Aa (v:=.string c.queue) (Jq s6.ev) (Aa (v:=.pointer (some ⟨A.next,8,none⟩)) (BZ A.next 0) (Aa (v:=.bool c.a) (Hr s6.ev) ?_)))
  refine wc8 (s:=c.queue) (by show (bl c.queue).length < _;omega) s6.f (by have:=s6.n;show _+100+10 * (bl c.queue).length < _;omega) fun A7 g7=>?_
  have g7:Grow A6 A7 (20+10 * (bl c.queue).length):=g7
  have s7:=s6.grow g7
  refine ck (Hr s7.ev) (ck (BZ A.next 0) (Am.2 ?_))
  refine LG ?_
  refine Am.2 ?_
  refine Bq (Fv _ _ _) rfl s7.f (by have:=s7.n;omega) fun A8 m8=>?_
  have s8:=s7.grow (Grow.made m8 s7.f)
  refine Mv m8.row (ck (Hr s8.ev) (ck (BZ A.next 0) (ck (Jq s8.ev) (ck (Ct A.next 0) (Am.2 ?_)))))
  refine s8.FM (us:=[(txt (AY (bl c.queue))),(txt (CL c.a [101,109,112,116,121] [97,110,121]))]) (Cu (ws:=[(txt (AY (bl c.queue))),(txt (CL c.a [101,109,112,116,121] [97,110,121]))]) m8) (by simp) (by simp) (by have:=s8.n;omega) fun A9 s9=>?_
  exact fin s9 (by rw [Bv,hc];rfl) (by have:=s9.n;omega)
 refine Aa Ah (Ae.2 ⟨fun hc=>?_,fun hc5=>?_⟩)
 ·have hc:c.what=5:=by omega
  refine Aa (v:=.pointer (some ⟨A.next,2,none⟩)) (Ct A.next 0) (Aa (v:=.string c.queue) (Jq s6.ev) ?_)
  refine wc8 (s:=c.queue) (by show (bl c.queue).length < _;omega) s6.f (by have:=s6.n;show _+100+10 * (bl c.queue).length < _;omega) fun A7 g7=>?_
  have g7:Grow A6 A7 (20+10 * (bl c.queue).length):=g7
  have s7:=s6.grow g7
  refine Bq (EB _ _) rfl s7.f (by have:=s7.n;omega) fun A8 m8=>?_
  have s8:=s7.grow (Grow.made m8 s7.f)
  refine s8.FM (us:=[(txt (AY (bl c.queue)))]) (Cu (ws:=[(txt (AY (bl c.queue)))]) m8) (by simp) (by simp) (by have:=s8.n;omega) fun A9 s9=>?_
  exact fin s9 (by rw [Bv,hc];rfl) (by have:=s9.n;omega)
 refine Aa Ah (Ae.2 ⟨fun hc=>?_,fun hc6=>?_⟩)
 ·have hc:c.what=6:=by omega
  refine Aa (v:=.pointer (some ⟨A.next,2,none⟩)) (Ct A.next 0) (Aa (v:=.string c.queue) (Jq s6.ev) ?_)
  refine wc8 (s:=c.queue) (by show (bl c.queue).length < _;omega) s6.f (by have:=s6.n;show _+100+10 * (bl c.queue).length < _;omega) fun A7 g7=>?_
  have g7:Grow A6 A7 (20+10 * (bl c.queue).length):=g7
  have s7:=s6.grow g7
  refine Bq (EB _ _) rfl s7.f (by have:=s7.n;omega) fun A8 m8=>?_
  have s8:=s7.grow (Grow.made m8 s7.f)
  refine s8.FM (us:=[(txt (AY (bl c.queue)))]) (Cu (ws:=[(txt (AY (bl c.queue)))]) m8) (by simp) (by simp) (by have:=s8.n;omega) fun A9 s9=>?_
  exact fin s9 (by rw [Bv,hc];rfl) (by have:=s9.n;omega)
 refine Aa Ah (Ae.2 ⟨fun hc=>?_,fun hc7=>?_⟩)
 ·have hc:c.what=7:=by omega
  refine Aa (v:=.pointer (some ⟨A.next,2,none⟩)) (Ct A.next 0) (Aa (v:=.string c.queue) (Jq s6.ev) (Aa (v:=.pointer (some ⟨A.next,3,none⟩)) (CA A.next 0) (Aa (v:=.string c.tag) (Jp s6.ev) (Aa (v:=.pointer (some ⟨A.next,11,none⟩)) (Eh A.next 0) (Aa (v:=.string c.body) (JL s6.ev) ?_)))))
  refine wc8 (s:=c.queue) (by show (bl c.queue).length < _;omega) s6.f (by have:=s6.n;show _+100+10 * (bl c.queue).length < _;omega) fun A7 g7=>?_
  have g7:Grow A6 A7 (20+10 * (bl c.queue).length):=g7
  have s7:=s6.grow g7
  refine ck (JL s7.ev) (ck (Eh A.next 0) (ck (Jp s7.ev) (ck (CA A.next 0) (Am.2 ?_))))
  refine wc8 (s:=c.tag) (by show (bl c.tag).length < _;omega) s7.f (by have:=s7.n;show _+100+10 * (bl c.tag).length < _;omega) fun A8 g8=>?_
  have g8:Grow A7 A8 (20+10 * (bl c.tag).length):=g8
  have s8:=s7.grow g8
  refine ck (JL s8.ev) (ck (Eh A.next 0) (Am.2 ?_))
  refine wc8 (s:=c.body) (by show (bl c.body).length < _;omega) s8.f (by have:=s8.n;show _+100+10 * (bl c.body).length < _;omega) fun A9 g9=>?_
  have g9:Grow A8 A9 (20+10 * (bl c.body).length):=g9
  have s9:=s8.grow g9
  refine Am.2 ?_
  refine Bq (LA _ _ _ _) rfl s9.f (by have:=s9.n;omega) fun A10 m10=>?_
  have s10:=s9.grow (Grow.made m10 s9.f)
  refine UO m10.row (ck (JL s10.ev) (ck (Eh A.next 0) (ck (Jp s10.ev) (ck (CA A.next 0) (ck (Jq s10.ev) (ck (Ct A.next 0) (Am.2 ?_)))))))
  refine s10.FM (us:=[(txt (AY (bl c.queue))),(txt (AY (bl c.tag))),(txt (AY (bl c.body)))]) (Cu (ws:=[(txt (AY (bl c.queue))),(txt (AY (bl c.tag))),(txt (AY (bl c.body)))]) m10) (by simp) (by simp) (by have:=s10.n;omega) fun A11 s11=>?_
  exact fin s11 (by rw [Bv,hc];rfl) (by have:=s11.n;omega)
 refine Aa Ah (Ae.2 ⟨fun hc=>?_,fun hc8=>?_⟩)
 ·have hc:c.what=8:=by omega
  refine Aa (v:=.pointer (some ⟨A.next,2,none⟩)) (Ct A.next 0) (Aa (v:=.string c.queue) (Jq s6.ev) (Aa (v:=.pointer (some ⟨A.next,3,none⟩)) (CA A.next 0) (Aa (v:=.string c.tag) (Jp s6.ev) ?_)))
  refine wc8 (s:=c.queue) (by show (bl c.queue).length < _;omega) s6.f (by have:=s6.n;show _+100+10 * (bl c.queue).length < _;omega) fun A7 g7=>?_
  have g7:Grow A6 A7 (20+10 * (bl c.queue).length):=g7
  have s7:=s6.grow g7
  refine ck (Jp s7.ev) (ck (CA A.next 0) (Am.2 ?_))
  refine wc8 (s:=c.tag) (by show (bl c.tag).length < _;omega) s7.f (by have:=s7.n;show _+100+10 * (bl c.tag).length < _;omega) fun A8 g8=>?_
  have g8:Grow A7 A8 (20+10 * (bl c.tag).length):=g8
  have s8:=s7.grow g8
  refine Am.2 ?_
  refine Bq (Fv _ _ _) rfl s8.f (by have:=s8.n;omega) fun A9 m9=>?_
  have s9:=s8.grow (Grow.made m9 s8.f)
  refine Mv m9.row (ck (Jp s9.ev) (ck (CA A.next 0) (ck (Jq s9.ev) (ck (Ct A.next 0) (Am.2 ?_)))))
  refine s9.FM (us:=[(txt (AY (bl c.queue))),(txt (AY (bl c.tag)))]) (Cu (ws:=[(txt (AY (bl c.queue))),(txt (AY (bl c.tag)))]) m9) (by simp) (by simp) (by have:=s9.n;omega) fun A10 s10=>?_
  exact fin s10 (by rw [Bv,hc];rfl) (by have:=s10.n;omega)
 refine Aa Ah (Ae.2 ⟨fun hc=>?_,fun hc9=>?_⟩)
 ·have hc:c.what=9:=by omega
  refine Aa (v:=.pointer (some ⟨A.next,3,none⟩)) (CA A.next 0) (Aa (v:=.string c.tag) (Jp s6.ev) ?_)
  refine wc8 (s:=c.tag) (by show (bl c.tag).length < _;omega) s6.f (by have:=s6.n;show _+100+10 * (bl c.tag).length < _;omega) fun A7 g7=>?_
  have g7:Grow A6 A7 (20+10 * (bl c.tag).length):=g7
  have s7:=s6.grow g7
  refine Bq (EB _ _) rfl s7.f (by have:=s7.n;omega) fun A8 m8=>?_
  have s8:=s7.grow (Grow.made m8 s7.f)
  refine s8.FM (us:=[(txt (AY (bl c.tag)))]) (Cu (ws:=[(txt (AY (bl c.tag)))]) m8) (by simp) (by simp) (by have:=s8.n;omega) fun A9 s9=>?_
  exact fin s9 (by rw [Bv,hc];rfl) (by have:=s9.n;omega)
 refine Aa Ah (Ae.2 ⟨fun hc=>?_,fun hc11=>?_⟩)
 ·have hc:c.what=11:=by omega
  refine Aa (v:=.pointer (some ⟨A.next,3,none⟩)) (CA A.next 0) (Aa (v:=.string c.tag) (Jp s6.ev) ?_)
  refine wc8 (s:=c.tag) (by show (bl c.tag).length < _;omega) s6.f (by have:=s6.n;show _+100+10 * (bl c.tag).length < _;omega) fun A7 g7=>?_
  have g7:Grow A6 A7 (20+10 * (bl c.tag).length):=g7
  have s7:=s6.grow g7
  refine Bq (EB _ _) rfl s7.f (by have:=s7.n;omega) fun A8 m8=>?_
  have s8:=s7.grow (Grow.made m8 s7.f)
  refine s8.FM (us:=[(txt (AY (bl c.tag)))]) (Cu (ws:=[(txt (AY (bl c.tag)))]) m8) (by simp) (by simp) (by have:=s8.n;omega) fun A9 s9=>?_
  exact fin s9 (by rw [Bv,hc];rfl) (by have:=s9.n;omega)
 refine Aa Ah (Ae.2 ⟨fun hc=>?_,fun hc10=>?_⟩)
 ·have hc:c.what=10:=by omega
  refine Aa (v:=.pointer (some ⟨A.next,3,none⟩)) (CA A.next 0) (Aa (v:=.string c.tag) (Jp s6.ev) (Aa (v:=.pointer (some ⟨A.next,7,none⟩)) (CU A.next 0) (Aa (v:=.int .u32 (c.n:Int)) (Ka s6.ev) ?_)))
  refine wc8 (s:=c.tag) (by show (bl c.tag).length < _;omega) s6.f (by have:=s6.n;show _+100+10 * (bl c.tag).length < _;omega) fun A7 g7=>?_
  have g7:Grow A6 A7 (20+10 * (bl c.tag).length):=g7
  have s7:=s6.grow g7
  refine ck (Ka s7.ev) (ck (CU A.next 0) (Am.2 ?_))
  refine YM hp hw.n ?_
  refine Am.2 ?_
  refine Bq (Fv _ _ _) rfl s7.f (by have:=s7.n;omega) fun A8 m8=>?_
  have s8:=s7.grow (Grow.made m8 s7.f)
  refine Mv m8.row (ck (Ka s8.ev) (ck (CU A.next 0) (ck (Jp s8.ev) (ck (CA A.next 0) (Am.2 ?_)))))
  refine s8.FM (us:=[(txt (AY (bl c.tag))),(txt (Lib.decDigits c.n))]) (Cu (ws:=[(txt (AY (bl c.tag))),(txt (Lib.decDigits c.n))]) m8) (by simp) (by simp) (by have:=s8.n;omega) fun A9 s9=>?_
  exact fin s9 (by rw [Bv,hc];rfl) (by have:=s9.n;omega)
 refine Aa Ah (Ae.2 ⟨fun hc=>?_,fun hc14=>?_⟩)
 ·have hc:c.what=14:=by omega
  refine Aa (v:=.pointer (some ⟨A.next,8,none⟩)) (BZ A.next 0) (Aa (v:=.bool c.a) (Hr s6.ev) ?_)
  refine LG ?_
  refine Bq (EB _ _) rfl s6.f (by have:=s6.n;omega) fun A7 m7=>?_
  have s7:=s6.grow (Grow.made m7 s6.f)
  refine s7.FM (us:=[(txt (CL c.a [109,97,114,107] [107,101,101,112]))]) (Cu (ws:=[(txt (CL c.a [109,97,114,107] [107,101,101,112]))]) m7) (by simp) (by simp) (by have:=s7.n;omega) fun A8 s8=>?_
  refine Aa (v:=.pointer (some ⟨A.next,10,none⟩)) (Di A.next 0) (Aa (v:=vr) (JM s8.ev hvr) ?_)
  have hr8:=hrd.keeps s8.g.keeps (by simp)
  refine YL hp hr8 (by omega) hw.refs (by omega) s8.f (by have:=s8.n;omega) fun A9 w9 G9 o9 hG9 g9=>?_
  have s9:=s8.grow g9
  refine s9.FM (us:=c.refs.map fun r=>txt (DA r)) (EN.rd (fun _=>rfl) o9) (by simp) (by rw [List.length_map];omega) (by have:=s9.n;omega) fun A10 s10=>?_
  exact fin s10 (by rw [Bv,hc];show _=List.map txt (_::_::(Co c 109++(Co c 82++[])));rw [Tt];simp only [List.map_cons,List.map_append,List.append_nil,List.map_map,List.cons_append,List.nil_append];rfl) (by have:=s10.n;omega)
 refine Aa Ah (Ae.2 ⟨fun hc=>?_,fun hc13=>?_⟩)
 ·have hc:c.what=13:=by omega
  refine Aa (v:=.pointer (some ⟨A.next,10,none⟩)) (Di A.next 0) (Aa (v:=vr) (JM s6.ev hvr) ?_)
  have hr6:=hrd.keeps s6.g.keeps (by simp)
  refine YL hp hr6 (by omega) hw.refs (by omega) s6.f (by have:=s6.n;omega) fun A7 w7 G7 o7 hG7 g7=>?_
  have s7:=s6.grow g7
  refine s7.FM (us:=c.refs.map fun r=>txt (DA r)) (EN.rd (fun _=>rfl) o7) (by simp) (by rw [List.length_map];omega) (by have:=s7.n;omega) fun A8 s8=>?_
  exact fin s8 (by rw [Bv,hc];show _=List.map txt (_::_::(Co c 82++[]));rw [Tt];simp only [List.map_cons,List.append_nil,List.map_map,List.cons_append,List.nil_append];rfl) (by have:=s8.n;omega)
 refine Aa Ah (Ae.2 ⟨fun hc=>?_,fun hc15=>?_⟩)
 ·have hc:c.what=15:=by omega
  refine Aa (v:=.pointer (some ⟨A.next,10,none⟩)) (Di A.next 0) (Aa (v:=vr) (JM s6.ev hvr) ?_)
  have hr6:=hrd.keeps s6.g.keeps (by simp)
  refine YL hp hr6 (by omega) hw.refs (by omega) s6.f (by have:=s6.n;omega) fun A7 w7 G7 o7 hG7 g7=>?_
  have s7:=s6.grow g7
  refine s7.FM (us:=c.refs.map fun r=>txt (DA r)) (EN.rd (fun _=>rfl) o7) (by simp) (by rw [List.length_map];omega) (by have:=s7.n;omega) fun A8 s8=>?_
  exact fin s8 (by rw [Bv,hc];show _=List.map txt (_::_::(Co c 82++[]));rw [Tt];simp only [List.map_cons,List.append_nil,List.map_map,List.cons_append,List.nil_append];rfl) (by have:=s8.n;omega)
 refine Aa Ah (Ae.2 ⟨fun hc=>?_,fun hc16=>?_⟩)
 ·have hc:c.what=16:=by omega
  refine Aa (v:=.pointer (some ⟨A.next,8,none⟩)) (BZ A.next 0) (Aa (v:=.bool c.a) (Hr s6.ev) ?_)
  refine LG ?_
  refine Bq (EB _ _) rfl s6.f (by have:=s6.n;omega) fun A7 m7=>?_
  have s7:=s6.grow (Grow.made m7 s6.f)
  refine s7.FM (us:=[(txt (CL c.a [100,116,120] [108,111,99,97,108]))]) (Cu (ws:=[(txt (CL c.a [100,116,120] [108,111,99,97,108]))]) m7) (by simp) (by simp) (by have:=s7.n;omega) fun A8 s8=>?_
  exact fin s8 (by rw [Bv,hc];rfl) (by have:=s8.n;omega)
 refine Aa Ah (Ae.2 ⟨fun hc=>?_,fun hc19=>?_⟩)
 ·have hc:c.what=19:=by omega
  refine Bq (Qb _ _ _ _ _) rfl s6.f (by have:=s6.n;omega) fun A7 m7=>?_
  have s7:=s6.grow (Grow.made m7 s6.f)
  have q7:=m7.B7
  refine UN q7.row (Aa (v:=.pointer (some ⟨A.next,4,none⟩)) (Du A.next 0) (Aa (v:=.agg ⟨c.x.cells⟩) (MF s7.ev) (Aa (v:=.pointer (some ⟨A.next,8,none⟩)) (BZ A.next 0) (Aa (v:=.bool c.a) (Hr s7.ev) (Aa (v:=.pointer (some ⟨A.next,9,none⟩)) (Dj A.next 0) (Aa (v:=.bool c.b) (Lx s7.ev) ?_))))))
  refine Ue hp hw.x s7.f (by have:=s7.n;omega) fun A8 g8=>?_
  have s8:=s7.grow g8
  have q8:=q7.keeps g8.keeps (by simp)
  refine UN q8.row (ck (Lx s8.ev) (ck (Dj A.next 0) (ck (Hr s8.ev) (ck (BZ A.next 0) (Am.2 ?_)))))
  refine Z2 q8 ?_
  refine Am.2 ?_
  refine Bq (Fv _ _ _) rfl s8.f (by have:=s8.n;omega) fun A9 m9=>?_
  have s9:=s8.grow (Grow.made m9 s8.f)
  have q9:=q8.keeps (m9.keeps s8.f) (by simp)
  refine Mv m9.row (UN q9.row (ck (Lx s9.ev) (ck (Dj A.next 0) (ck (Hr s9.ev) (ck (BZ A.next 0) (ck (MF s9.ev) (ck (Du A.next 0) (Am.2 ?_))))))))
  refine s9.FM (us:=[(tx c.x),(txt (FV c.a c.b Ob Jr FA EE))]) (Cu (ws:=[(tx c.x),(txt (FV c.a c.b Ob Jr FA EE))]) m9) (by simp) (by simp) (by have:=s9.n;omega) fun A10 s10=>?_
  exact fin s10 (by rw [Bv,hc];show _=List.map txt (_::_::(Co c 88++(Co c 115++[])));rw [I5];rfl) (by have:=s10.n;omega)
 refine Aa Ah (Ae.2 ⟨fun hc=>?_,fun hc20=>?_⟩)
 ·have hc:c.what=20:=by omega
  refine Bq (Qb _ _ _ _ _) rfl s6.f (by have:=s6.n;omega) fun A7 m7=>?_
  have s7:=s6.grow (Grow.made m7 s6.f)
  have q7:=m7.B7
  refine UN q7.row (Aa (v:=.pointer (some ⟨A.next,4,none⟩)) (Du A.next 0) (Aa (v:=.agg ⟨c.x.cells⟩) (MF s7.ev) (Aa (v:=.pointer (some ⟨A.next,8,none⟩)) (BZ A.next 0) (Aa (v:=.bool c.a) (Hr s7.ev) (Aa (v:=.pointer (some ⟨A.next,9,none⟩)) (Dj A.next 0) (Aa (v:=.bool c.b) (Lx s7.ev) ?_))))))
  refine Ue hp hw.x s7.f (by have:=s7.n;omega) fun A8 g8=>?_
  have s8:=s7.grow g8
  have q8:=q7.keeps g8.keeps (by simp)
  refine UN q8.row (ck (Lx s8.ev) (ck (Dj A.next 0) (ck (Hr s8.ev) (ck (BZ A.next 0) (Am.2 ?_)))))
  refine Z2 q8 ?_
  refine Am.2 ?_
  refine Bq (Fv _ _ _) rfl s8.f (by have:=s8.n;omega) fun A9 m9=>?_
  have s9:=s8.grow (Grow.made m9 s8.f)
  have q9:=q8.keeps (m9.keeps s8.f) (by simp)
  refine Mv m9.row (UN q9.row (ck (Lx s9.ev) (ck (Dj A.next 0) (ck (Hr s9.ev) (ck (BZ A.next 0) (ck (MF s9.ev) (ck (Du A.next 0) (Am.2 ?_))))))))
  refine s9.FM (us:=[(tx c.x),(txt (FV c.a c.b Jt Js Ek EE))]) (Cu (ws:=[(tx c.x),(txt (FV c.a c.b Jt Js Ek EE))]) m9) (by simp) (by simp) (by have:=s9.n;omega) fun A10 s10=>?_
  exact fin s10 (by rw [Bv,hc];show _=List.map txt (_::_::(Co c 88++(Co c 102++[])));rw [I5];rfl) (by have:=s10.n;omega)
 refine Aa Ah (Ae.2 ⟨fun hc=>?_,fun hc21=>?_⟩)
 ·have hc:c.what=21:=by omega
  refine Aa (v:=.pointer (some ⟨A.next,4,none⟩)) (Du A.next 0) (Aa (v:=.agg ⟨c.x.cells⟩) (MF s6.ev) (Aa (v:=.pointer (some ⟨A.next,7,none⟩)) (CU A.next 0) (Aa (v:=.int .u32 (c.n:Int)) (Ka s6.ev) ?_)))
  refine Ue hp hw.x s6.f (by have:=s6.n;omega) fun A7 g7=>?_
  have s7:=s6.grow g7
  refine ck (Ka s7.ev) (ck (CU A.next 0) (Am.2 ?_))
  refine YM hp hw.n ?_
  refine Am.2 ?_
  refine Bq (Fv _ _ _) rfl s7.f (by have:=s7.n;omega) fun A8 m8=>?_
  have s8:=s7.grow (Grow.made m8 s7.f)
  refine Mv m8.row (ck (Ka s8.ev) (ck (CU A.next 0) (ck (MF s8.ev) (ck (Du A.next 0) (Am.2 ?_)))))
  refine s8.FM (us:=[(tx c.x),(txt (Lib.decDigits c.n))]) (Cu (ws:=[(tx c.x),(txt (Lib.decDigits c.n))]) m8) (by simp) (by simp) (by have:=s8.n;omega) fun A9 s9=>?_
  exact fin s9 (by rw [Bv,hc];show _=List.map txt (_::_::(Co c 88++(Co c 78++[])));rw [I5];rfl) (by have:=s9.n;omega)
 refine fin s6 ?_ (by omega)
 have hC:(partsOf c.what).2=[]:=by
  have h:c.what=0∨c.what=1∨c.what=2∨c.what=12∨c.what=17∨c.what=18∨21 < c.what:=by omega
  rcases h with h | h | h | h | h | h | h
  all_goals first | (rw [h];rfl) | rw [Cv h]
 rw [Bv,hC]
 rfl
theorem Uv (l:List Nat) {i:Nat} {r:Nat} (h:l[i]? =some r):(l.take (i+1)).map (fun r=>txt (Lib.decDigits r))=(l.take i).map (fun r=>txt (Lib.decDigits r))++[txt (Lib.decDigits r)]:=by
 rw [BH h,List.map_append];rfl
theorem Wm (l:List Int) {i:Nat} {r:Int} (h:l[i]? =some r):(l.take (i+1)).map (fun r=>txt (Lib.itoa r))=(l.take i).map (fun r=>txt (Lib.itoa r))++[txt (Lib.itoa r)]:=by
 rw [BH h,List.map_append];rfl
set_option maxHeartbeats 4000000 in
theorem Aag {v:EvD} {vn vk vr:Value} {G:List Nat} {A:AW} {K:Value→AW→Prop} (hp:Pow W0) (hw:v.Wf) (hrd:RdV A v vn vk vr G) (hz:szV v < 8000000) (hf:AJ A) (hA:A.next+200 * szV v+20000 < Al)
  (hk:∀ A',Grow A A' (200 * szV v+15000)→K (.string (txt (BS ((Bg v).map txt)))) A'):Wc Tp Ai W0 m0 28 [.agg ⟨v.cells vn vk vr⟩] A K:=by
 obtain ⟨⟨on,hvn⟩,⟨ok,hvk⟩,or,hvr⟩:=hrd.one
 obtain ⟨⟨F1,hrn,_⟩,⟨F2,hrk,_⟩,F3,hrd,_⟩:=hrd
 have hrl:=Iz v.call.refs
 have hsz:szV v=(bl v.s).length+v.nodes.length+v.keep.length+szC v.call:=rfl
 have hsum:=Lh hw
 have hlen:=UD v
 have hlenC:=O4 v.call
 have hszc:szC v.call=(bl v.call.queue).length+(bl v.call.tag).length+(bl v.call.body).length+szR v.call.refs:=rfl
 have fin:∀ {B:AW} {ws:List ByteArray} {N:Nat},LW A B A.next (v.cells vn vk vr) 40 (A.next+1) ws N→ws=(Bg v).map txt→N≤200 * szV v+14000→Ab (Au Tp B 56 (.pointer (some ⟨A.next+1,0,none⟩))) fun t=>Wc Tp Ai W0 m0 45 [t,.string ⟨⟨[32]⟩⟩] B K:=fun {B ws N} s e hN=>by
  subst e
  refine s.join (by unfold Bg;simp) (by rw [List.length_map];omega) (by rw [Kj];omega) (by omega) fun A' g=>hk A' (g.more (by omega))
 let I:Nat→Nat→List Value→AW→Prop:=fun g id vals A'=>
  (id=1∧v.kind=1∧∃ i:Nat,vals=[.pointer (some ⟨A.next+1,0,none⟩),.func (.func 55) ⟨[]⟩ ⟨[.pointer (some ⟨A.next+1,0,none⟩)]⟩,vn,.int .i64 (v.nodes.length:Int),.int .i64 (i:Int)]∧i≤v.nodes.length∧LW A A' A.next (v.cells vn vk vr) 40 (A.next+1) ([txt (Aj v.kind).1]++(v.nodes.take i).map fun r=>txt (Lib.decDigits r)) (20+2 * i)∧g=v.nodes.length - i)∨
  (id=3∧v.kind=8∧∃ i:Nat,vals=[.pointer (some ⟨A.next+1,0,none⟩),.func (.func 55) ⟨[]⟩ ⟨[.pointer (some ⟨A.next+1,0,none⟩)]⟩,vk,.int .i64 (v.keep.length:Int),.int .i64 (i:Int)]∧i≤v.keep.length∧LW A A' A.next (v.cells vn vk vr) 40 (A.next+1) ([txt (Aj v.kind).1]++[txt (Lib.decDigits v.node)]++(v.keep.take i).map fun r=>txt (Lib.itoa r)) (20+2 * i)∧g=v.keep.length - i)
 refine w28 _ _ (c28 (I:=I) ?_) ?_
 ·rintro g id vals A' d (⟨rfl,hc,i,rfl,hi,s,rfl⟩ | ⟨rfl,hc,i,rfl,hi,s,rfl⟩) hd
  ·rw [Abf]
   simp only [L28,List.map_cons,List.map_nil,List.cons.injEq,and_true] at hd
   obtain ⟨d3,d4,d20,d21,d22⟩:=hd
   simp only [d3,d4,d20,d21,d22]
   have hn:=s.n
   refine Aa BD (Av.2 ⟨fun hlt=>?_,fun hge=>?_⟩)
   ·have hlt:i < v.nodes.length:=by omega
    have hp0:=List.getElem?_eq_getElem hlt
    have hm:=hw.nodes _ (List.getElem_mem hlt)
    generalize v.nodes[i]=r at hp0 hm
    obtain ⟨a,a1,a2⟩:=ES.at IV (hrn.keeps s.g.keeps (by simp)) hp0 rfl
    refine Aa a1 (Aa a2 (Jj hp hm (Bq (EB _ _) rfl s.f (by omega) fun A1 m1=>?_)))
    have s1:=s.grow (Grow.made m1 s.f)
    refine s1.FN (us:=[txt (Lib.decDigits r)]) (Cu (ws:=[txt (Lib.decDigits r)]) m1) (by simp only [List.length_append,List.length_cons,List.length_nil,List.length_map,List.length_take];omega) (by simp) (by omega) fun A2 s2=>?_
    have e2:IntKind.i64.wrap ((i:Int)+1)=((i+1:Nat):Int):=wrap_i64 (by omega) (by omega)
    simp only [AU,Ad,e2]
    refine Aq.2 ⟨v.nodes.length - (i+1),by omega,.inl ⟨rfl,hc,i+1,rfl,by omega,?_,rfl⟩⟩
    rw [Uv _ hp0,← List.append_assoc]
    exact s2.more (by omega)
   ·have:i=v.nodes.length:=by omega
    subst this
    rw [List.take_length] at s
    exact fin s (by rw [Bg,hc];show _=List.map txt (_::(v.nodes.map Lib.decDigits++[]));simp only [List.map_cons,List.append_nil,List.map_map,List.cons_append,List.nil_append];rfl) (by omega)
  ·rw [Abe]
   simp only [L28,List.map_cons,List.map_nil,List.cons.injEq,and_true] at hd
   obtain ⟨d3,d4,d20,d21,d22⟩:=hd
   simp only [d3,d4,d20,d21,d22]
   have hn:=s.n
   refine Aa BD (Av.2 ⟨fun hlt=>?_,fun hge=>?_⟩)
   ·have hlt:i < v.keep.length:=by omega
    have hp0:=List.getElem?_eq_getElem hlt
    have hm:=hw.keep _ (List.getElem_mem hlt)
    generalize v.keep[i]=r at hp0 hm
    obtain ⟨a,a1,a2⟩:=ES.at IU (hrk.keeps s.g.keeps (by simp)) hp0 rfl
    refine Aa a1 (Aa a2 (Qt hp hm.1 hm.2 (Bq (EB _ _) rfl s.f (by omega) fun A1 m1=>?_)))
    have s1:=s.grow (Grow.made m1 s.f)
    refine s1.FN (us:=[txt (Lib.itoa r)]) (Cu (ws:=[txt (Lib.itoa r)]) m1) (by simp only [List.length_append,List.length_cons,List.length_nil,List.length_map,List.length_take];omega) (by simp) (by omega) fun A2 s2=>?_
    have e2:IntKind.i64.wrap ((i:Int)+1)=((i+1:Nat):Int):=wrap_i64 (by omega) (by omega)
    simp only [AU,Ad,e2]
    refine Aq.2 ⟨v.keep.length - (i+1),by omega,.inr ⟨rfl,hc,i+1,rfl,by omega,?_,rfl⟩⟩
    rw [Wm _ hp0,← List.append_assoc]
    exact s2.more (by omega)
   ·have:i=v.keep.length:=by omega
    subst this
    rw [List.take_length] at s
    exact fin s (by rw [Bg,hc];show _=List.map txt (_::(Ce v 110++(v.keep.map Lib.itoa++[])));simp only [List.map_cons,List.map_append,List.append_nil,List.map_map,List.cons_append,List.nil_append];rfl) (by omega)
 rw [e28]
 refine BI (cs:=v.cells vn vk vr) hf (by omega) (D7 v on ok or) fun A1 m1=>?_
 have n1:=m1.next
 refine AV Vj m1.AG (by omega) rfl fun A2 m2=>?_
 rw [n1]
 have r2:Go.Abs.AQ A2 (A.next+1) [.slice none 0 0] 56:=by rw [← n1];exact m2.B7
 refine PU r2.row ?_
 have n2:=m2.next
 have ev2:Go.Abs.AQ A2 A.next (v.cells vn vk vr) 40:=m1.B7.keeps (m2.keeps m1.AG) (by simp)
 refine Aa (D2 _ 0) (Aa (Mp ev2) ?_)
 refine Z5 m2.AG (by omega) fun A3 vm g3=>?_
 have n3:=g3.next
 have p3:=r2.keeps g3.keeps (by simp)
 have ev3:=ev2.keeps g3.keeps (by simp)
 refine PU p3.row (ck (Mp ev3) (ck (D2 _ 0) (Z6 vm g3.AG (by omega) fun A4 g4=>?_)))
 have n4:=g4.next
 have p4:=p3.keeps g4.keeps (by simp)
 have ev4:=ev3.keeps g4.keeps (by simp)
 refine PU p4.row (Bq (EB _ _) rfl g4.AG (by omega) fun A5 m5=>?_)
 have n5:=m5.next
 have k5:=m5.keeps g4.AG
 have p5:=p4.keeps k5 (by simp)
 have ev5:=ev4.keeps k5 (by simp)
 have le3:=g3.le
 have le4:=g4.le
 refine PU p5.row (Abx m5.row (ck (Mp ev5) (ck (D2 _ 0) ?_)))
 refine Go.Abs.AQ.store (n:=1) (off:=0) (v:=.slice (some ⟨A4.next,0,none⟩) 1 1) p5 m5.AG (by omega) (Tv _ _ _) rfl (show 0+1≤1 by decide) rfl fun A6 p6 k6 n6 f6=>?_
 have s6:LW A A6 A.next (v.cells vn vk vr) 40 (A.next+1) [txt (Aj v.kind).1] 10:=by
  refine ⟨ev5.keeps k6 (by simp),⟨_,[A4.next],p6,(TE (ws:=[txt (Aj v.kind).1]) m5 (by simp) (by simp)).keeps k6 (by simp;omega),by simp;omega,by simp;omega,by simp;omega⟩,⟨?_,f6,by omega⟩,by omega,by omega⟩
  refine Aw.trans ?_ k6 fun x hx=>.inr (by rw [List.mem_singleton.1 hx];omega)
  exact ((((m1.keeps hf).trans (m2.keeps m1.AG) (by simp)).trans g3.keeps (by simp)).trans g4.keeps (by simp)).trans k5 (by simp)
 refine Aa (D2 _ 0) (Aa (Mp s6.ev) ?_)
 refine Aa Ah (Ae.2 ⟨fun hc=>?_,fun hc1=>?_⟩)
 ·have hc:v.kind=1:=by omega
  refine Aa (v:=.pointer (some ⟨A.next,7,none⟩)) (D1 A.next 0) (Aa (v:=vn) (Mn s6.ev hvn) ?_)
  exact Aa (IV.HE (hrn.keeps s6.g.keeps (by simp))) (Aq.2 ⟨v.nodes.length,.inl ⟨rfl,hc,0,rfl,Nat.zero_le _,s6.more (by omega),rfl⟩⟩)
 refine Aa Ah (Ae.2 ⟨fun hc=>?_,fun hc2=>?_⟩)
 ·have hc:v.kind=2:=by omega
  refine Aa (v:=.pointer (some ⟨A.next,4,none⟩)) (Dt A.next 0) (Aa (v:=.agg ⟨v.x.cells⟩) (Mo s6.ev) (Aa (v:=.pointer (some ⟨A.next,10,none⟩)) (Ds A.next 0) (Aa (v:=.bool v.a) (Hv s6.ev) ?_)))
  refine Ue hp hw.x s6.f (by have:=s6.n;omega) fun A7 g7=>?_
  have s7:=s6.grow g7
  refine ck (Hv s7.ev) (ck (Ds A.next 0) (Am.2 ?_))
  refine LG ?_
  refine Am.2 ?_
  refine Bq (Fv _ _ _) rfl s7.f (by have:=s7.n;omega) fun A8 m8=>?_
  have s8:=s7.grow (Grow.made m8 s7.f)
  refine Mv m8.row (ck (Hv s8.ev) (ck (Ds A.next 0) (ck (Mo s8.ev) (ck (Dt A.next 0) (Am.2 ?_)))))
  refine s8.FN (us:=[(tx v.x),(txt (CL v.a [99,111,109,109,105,116] [98,97,99,107]))]) (Cu (ws:=[(tx v.x),(txt (CL v.a [99,111,109,109,105,116] [98,97,99,107]))]) m8) (by simp) (by simp) (by have:=s8.n;omega) fun A9 s9=>?_
  exact fin s9 (by rw [Bg,hc];show _=List.map txt (_::(Ce v 88++(Ce v 99++[])));rw [I4];rfl) (by have:=s9.n;omega)
 refine Aa Ah (Ae.2 ⟨fun hc=>?_,fun hc10=>?_⟩)
 ·have hc:v.kind=10:=by omega
  refine Aa (v:=.pointer (some ⟨A.next,1,none⟩)) (Bw A.next 0) (Aa (v:=.int .u8 (v.node:Int)) (FF s6.ev) (Aa (v:=.pointer (some ⟨A.next,4,none⟩)) (Dt A.next 0) (Aa (v:=.agg ⟨v.x.cells⟩) (Mo s6.ev) (Aa (v:=.pointer (some ⟨A.next,10,none⟩)) (Ds A.next 0) (Aa (v:=.bool v.a) (Hv s6.ev) ?_)))))
  refine Jj hp hw.node ?_
  refine ck (Hv s6.ev) (ck (Ds A.next 0) (ck (Mo s6.ev) (ck (Dt A.next 0) (Am.2 ?_))))
  refine Ue hp hw.x s6.f (by have:=s6.n;omega) fun A7 g7=>?_
  have s7:=s6.grow g7
  refine ck (Hv s7.ev) (ck (Ds A.next 0) (Am.2 ?_))
  refine LG ?_
  refine Am.2 ?_
  refine Bq (LA _ _ _ _) rfl s7.f (by have:=s7.n;omega) fun A8 m8=>?_
  have s8:=s7.grow (Grow.made m8 s7.f)
  refine UO m8.row (ck (Hv s8.ev) (ck (Ds A.next 0) (ck (Mo s8.ev) (ck (Dt A.next 0) (ck (FF s8.ev) (ck (Bw A.next 0) (Am.2 ?_)))))))
  refine s8.FN (us:=[(txt (Lib.decDigits v.node)),(tx v.x),(txt (CL v.a [99,111,109,109,105,116] [98,97,99,107]))]) (Cu (ws:=[(txt (Lib.decDigits v.node)),(tx v.x),(txt (CL v.a [99,111,109,109,105,116] [98,97,99,107]))]) m8) (by simp) (by simp) (by have:=s8.n;omega) fun A9 s9=>?_
  exact fin s9 (by rw [Bg,hc];show _=List.map txt (_::(Ce v 110++(Ce v 88++(Ce v 99++[]))));rw [I4];rfl) (by have:=s9.n;omega)
 refine Aa Ah (Ae.2 ⟨fun hc=>?_,fun hc3=>?_⟩)
 ·have hc:v.kind=3:=by omega
  refine Aa (v:=.pointer (some ⟨A.next,1,none⟩)) (Bw A.next 0) (Aa (v:=.int .u8 (v.node:Int)) (FF s6.ev) (Aa (v:=.pointer (some ⟨A.next,2,none⟩)) (CM A.next 0) (Aa (v:=.int .u8 (v.to:Int)) (Jk s6.ev) (Aa (v:=.pointer (some ⟨A.next,3,none⟩)) (BC A.next 0) (Aa (v:=.int .i64 v.n) (EL s6.ev) ?_)))))
  refine Jj hp hw.node ?_
  refine ck (EL s6.ev) (ck (BC A.next 0) (ck (Jk s6.ev) (ck (CM A.next 0) (Am.2 ?_))))
  refine Jj hp hw.to ?_
  refine ck (EL s6.ev) (ck (BC A.next 0) (Am.2 ?_))
  refine Qt hp hw.n.1 hw.n.2 ?_
  refine Am.2 ?_
  refine Bq (LA _ _ _ _) rfl s6.f (by have:=s6.n;omega) fun A7 m7=>?_
  have s7:=s6.grow (Grow.made m7 s6.f)
  refine UO m7.row (ck (EL s7.ev) (ck (BC A.next 0) (ck (Jk s7.ev) (ck (CM A.next 0) (ck (FF s7.ev) (ck (Bw A.next 0) (Am.2 ?_)))))))
  refine s7.FN (us:=[(txt (Lib.decDigits v.node)),(txt (Lib.decDigits v.to)),(txt (Lib.itoa v.n))]) (Cu (ws:=[(txt (Lib.decDigits v.node)),(txt (Lib.decDigits v.to)),(txt (Lib.itoa v.n))]) m7) (by simp) (by simp) (by have:=s7.n;omega) fun A8 s8=>?_
  exact fin s8 (by rw [Bg,hc];rfl) (by have:=s8.n;omega)
 refine Aa Ah (Ae.2 ⟨fun hc=>?_,fun hc4=>?_⟩)
 ·have hc:v.kind=4:=by omega
  refine Aa (v:=.pointer (some ⟨A.next,1,none⟩)) (Bw A.next 0) (Aa (v:=.int .u8 (v.node:Int)) (FF s6.ev) (Aa (v:=.pointer (some ⟨A.next,2,none⟩)) (CM A.next 0) (Aa (v:=.int .u8 (v.to:Int)) (Jk s6.ev) (Aa (v:=.pointer (some ⟨A.next,3,none⟩)) (BC A.next 0) (Aa (v:=.int .i64 v.n) (EL s6.ev) ?_)))))
  refine Jj hp hw.node ?_
  refine ck (EL s6.ev) (ck (BC A.next 0) (ck (Jk s6.ev) (ck (CM A.next 0) (Am.2 ?_))))
  refine Jj hp hw.to ?_
  refine ck (EL s6.ev) (ck (BC A.next 0) (Am.2 ?_))
  refine Qt hp hw.n.1 hw.n.2 ?_
  refine Am.2 ?_
  refine Bq (LA _ _ _ _) rfl s6.f (by have:=s6.n;omega) fun A7 m7=>?_
  have s7:=s6.grow (Grow.made m7 s6.f)
  refine UO m7.row (ck (EL s7.ev) (ck (BC A.next 0) (ck (Jk s7.ev) (ck (CM A.next 0) (ck (FF s7.ev) (ck (Bw A.next 0) (Am.2 ?_)))))))
  refine s7.FN (us:=[(txt (Lib.decDigits v.node)),(txt (Lib.decDigits v.to)),(txt (Lib.itoa v.n))]) (Cu (ws:=[(txt (Lib.decDigits v.node)),(txt (Lib.decDigits v.to)),(txt (Lib.itoa v.n))]) m7) (by simp) (by simp) (by have:=s7.n;omega) fun A8 s8=>?_
  exact fin s8 (by rw [Bg,hc];rfl) (by have:=s8.n;omega)
 refine Aa Ah (Ae.2 ⟨fun hc=>?_,fun hc5=>?_⟩)
 ·have hc:v.kind=5:=by omega
  refine Aa (v:=.pointer (some ⟨A.next,1,none⟩)) (Bw A.next 0) (Aa (v:=.int .u8 (v.node:Int)) (FF s6.ev) (Aa (v:=.pointer (some ⟨A.next,2,none⟩)) (CM A.next 0) (Aa (v:=.int .u8 (v.to:Int)) (Jk s6.ev) (Aa (v:=.pointer (some ⟨A.next,3,none⟩)) (BC A.next 0) (Aa (v:=.int .i64 v.n) (EL s6.ev) ?_)))))
  refine Jj hp hw.node ?_
  refine ck (EL s6.ev) (ck (BC A.next 0) (ck (Jk s6.ev) (ck (CM A.next 0) (Am.2 ?_))))
  refine Jj hp hw.to ?_
  refine ck (EL s6.ev) (ck (BC A.next 0) (Am.2 ?_))
  refine Qt hp hw.n.1 hw.n.2 ?_
  refine Am.2 ?_
  refine Bq (LA _ _ _ _) rfl s6.f (by have:=s6.n;omega) fun A7 m7=>?_
  have s7:=s6.grow (Grow.made m7 s6.f)
  refine UO m7.row (ck (EL s7.ev) (ck (BC A.next 0) (ck (Jk s7.ev) (ck (CM A.next 0) (ck (FF s7.ev) (ck (Bw A.next 0) (Am.2 ?_)))))))
  refine s7.FN (us:=[(txt (Lib.decDigits v.node)),(txt (Lib.decDigits v.to)),(txt (Lib.itoa v.n))]) (Cu (ws:=[(txt (Lib.decDigits v.node)),(txt (Lib.decDigits v.to)),(txt (Lib.itoa v.n))]) m7) (by simp) (by simp) (by have:=s7.n;omega) fun A8 s8=>?_
  exact fin s8 (by rw [Bg,hc];rfl) (by have:=s8.n;omega)
 refine Aa Ah (Ae.2 ⟨fun hc=>?_,fun hc7=>?_⟩)
 ·have hc:v.kind=7:=by omega
  refine Aa (v:=.pointer (some ⟨A.next,1,none⟩)) (Bw A.next 0) (Aa (v:=.int .u8 (v.node:Int)) (FF s6.ev) ?_)
  refine Jj hp hw.node ?_
  refine Bq (EB _ _) rfl s6.f (by have:=s6.n;omega) fun A7 m7=>?_
  have s7:=s6.grow (Grow.made m7 s6.f)
  refine s7.FN (us:=[(txt (Lib.decDigits v.node))]) (Cu (ws:=[(txt (Lib.decDigits v.node))]) m7) (by simp) (by simp) (by have:=s7.n;omega) fun A8 s8=>?_
  exact fin s8 (by rw [Bg,hc];rfl) (by have:=s8.n;omega)
 refine Aa Ah (Ae.2 ⟨fun hc=>?_,fun hc12=>?_⟩)
 ·have hc:v.kind=12:=by omega
  refine Aa (v:=.pointer (some ⟨A.next,1,none⟩)) (Bw A.next 0) (Aa (v:=.int .u8 (v.node:Int)) (FF s6.ev) ?_)
  refine Jj hp hw.node ?_
  refine Bq (EB _ _) rfl s6.f (by have:=s6.n;omega) fun A7 m7=>?_
  have s7:=s6.grow (Grow.made m7 s6.f)
  refine s7.FN (us:=[(txt (Lib.decDigits v.node))]) (Cu (ws:=[(txt (Lib.decDigits v.node))]) m7) (by simp) (by simp) (by have:=s7.n;omega) fun A8 s8=>?_
  exact fin s8 (by rw [Bg,hc];rfl) (by have:=s8.n;omega)
 refine Aa Ah (Ae.2 ⟨fun hc=>?_,fun hc8=>?_⟩)
 ·have hc:v.kind=8:=by omega
  refine Aa (v:=.pointer (some ⟨A.next,1,none⟩)) (Bw A.next 0) (Aa (v:=.int .u8 (v.node:Int)) (FF s6.ev) ?_)
  refine Jj hp hw.node ?_
  refine Bq (EB _ _) rfl s6.f (by have:=s6.n;omega) fun A7 m7=>?_
  have s7:=s6.grow (Grow.made m7 s6.f)
  refine s7.FN (us:=[(txt (Lib.decDigits v.node))]) (Cu (ws:=[(txt (Lib.decDigits v.node))]) m7) (by simp) (by simp) (by have:=s7.n;omega) fun A8 s8=>?_
  refine Aa (v:=.pointer (some ⟨A.next,8,none⟩)) (D0 A.next 0) (Aa (v:=vk) (Mm s8.ev hvk) ?_)
  exact Aa (IU.HE (hrk.keeps s8.g.keeps (by simp))) (Aq.2 ⟨v.keep.length,.inr ⟨rfl,hc,0,rfl,Nat.zero_le _,s8.more (by omega),rfl⟩⟩)
 refine Aa Ah (Ae.2 ⟨fun hc=>?_,fun hc9=>?_⟩)
 ·have hc:v.kind=9:=by omega
  refine Aa (v:=.pointer (some ⟨A.next,1,none⟩)) (Bw A.next 0) (Aa (v:=.int .u8 (v.node:Int)) (FF s6.ev) (Aa (v:=.pointer (some ⟨A.next,3,none⟩)) (BC A.next 0) (Aa (v:=.int .i64 v.n) (EL s6.ev) ?_)))
  refine Jj hp hw.node ?_
  refine ck (EL s6.ev) (ck (BC A.next 0) (Am.2 ?_))
  refine Qt hp hw.n.1 hw.n.2 ?_
  refine Am.2 ?_
  refine Bq (Fv _ _ _) rfl s6.f (by have:=s6.n;omega) fun A7 m7=>?_
  have s7:=s6.grow (Grow.made m7 s6.f)
  refine Mv m7.row (ck (EL s7.ev) (ck (BC A.next 0) (ck (FF s7.ev) (ck (Bw A.next 0) (Am.2 ?_)))))
  refine s7.FN (us:=[(txt (Lib.decDigits v.node)),(txt (Lib.itoa v.n))]) (Cu (ws:=[(txt (Lib.decDigits v.node)),(txt (Lib.itoa v.n))]) m7) (by simp) (by simp) (by have:=s7.n;omega) fun A8 s8=>?_
  exact fin s8 (by rw [Bg,hc];rfl) (by have:=s8.n;omega)
 refine Aa Ah (Ae.2 ⟨fun hc=>?_,fun hc14=>?_⟩)
 ·have hc:v.kind=14:=by omega
  refine Aa (v:=.pointer (some ⟨A.next,1,none⟩)) (Bw A.next 0) (Aa (v:=.int .u8 (v.node:Int)) (FF s6.ev) (Aa (v:=.pointer (some ⟨A.next,3,none⟩)) (BC A.next 0) (Aa (v:=.int .i64 v.n) (EL s6.ev) ?_)))
  refine Jj hp hw.node ?_
  refine ck (EL s6.ev) (ck (BC A.next 0) (Am.2 ?_))
  refine Qt hp hw.n.1 hw.n.2 ?_
  refine Am.2 ?_
  refine Bq (Fv _ _ _) rfl s6.f (by have:=s6.n;omega) fun A7 m7=>?_
  have s7:=s6.grow (Grow.made m7 s6.f)
  refine Mv m7.row (ck (EL s7.ev) (ck (BC A.next 0) (ck (FF s7.ev) (ck (Bw A.next 0) (Am.2 ?_)))))
  refine s7.FN (us:=[(txt (Lib.decDigits v.node)),(txt (Lib.itoa v.n))]) (Cu (ws:=[(txt (Lib.decDigits v.node)),(txt (Lib.itoa v.n))]) m7) (by simp) (by simp) (by have:=s7.n;omega) fun A8 s8=>?_
  exact fin s8 (by rw [Bg,hc];rfl) (by have:=s8.n;omega)
 refine Aa Ah (Ae.2 ⟨fun hc=>?_,fun hc15=>?_⟩)
 ·have hc:v.kind=15:=by omega
  refine Aa (v:=.pointer (some ⟨A.next,1,none⟩)) (Bw A.next 0) (Aa (v:=.int .u8 (v.node:Int)) (FF s6.ev) (Aa (v:=.pointer (some ⟨A.next,3,none⟩)) (BC A.next 0) (Aa (v:=.int .i64 v.n) (EL s6.ev) ?_)))
  refine Jj hp hw.node ?_
  refine ck (EL s6.ev) (ck (BC A.next 0) (Am.2 ?_))
  refine Qt hp hw.n.1 hw.n.2 ?_
  refine Am.2 ?_
  refine Bq (Fv _ _ _) rfl s6.f (by have:=s6.n;omega) fun A7 m7=>?_
  have s7:=s6.grow (Grow.made m7 s6.f)
  refine Mv m7.row (ck (EL s7.ev) (ck (BC A.next 0) (ck (FF s7.ev) (ck (Bw A.next 0) (Am.2 ?_)))))
  refine s7.FN (us:=[(txt (Lib.decDigits v.node)),(txt (Lib.itoa v.n))]) (Cu (ws:=[(txt (Lib.decDigits v.node)),(txt (Lib.itoa v.n))]) m7) (by simp) (by simp) (by have:=s7.n;omega) fun A8 s8=>?_
  exact fin s8 (by rw [Bg,hc];rfl) (by have:=s8.n;omega)
 refine Aa Ah (Ae.2 ⟨fun hc=>?_,fun hc11=>?_⟩)
 ·have hc:v.kind=11:=by omega
  refine Aa (v:=.pointer (some ⟨A.next,4,none⟩)) (Dt A.next 0) (Aa (v:=.agg ⟨v.x.cells⟩) (Mo s6.ev) ?_)
  refine Ue hp hw.x s6.f (by have:=s6.n;omega) fun A7 g7=>?_
  have s7:=s6.grow g7
  refine Bq (EB _ _) rfl s7.f (by have:=s7.n;omega) fun A8 m8=>?_
  have s8:=s7.grow (Grow.made m8 s7.f)
  refine s8.FN (us:=[(tx v.x)]) (Cu (ws:=[(tx v.x)]) m8) (by simp) (by simp) (by have:=s8.n;omega) fun A9 s9=>?_
  exact fin s9 (by rw [Bg,hc];show _=List.map txt (_::(Ce v 88++[]));rw [I4];rfl) (by have:=s9.n;omega)
 refine Aa Ah (Ae.2 ⟨fun hc=>?_,fun hc13=>?_⟩)
 ·have hc:v.kind=13:=by omega
  refine Aa (v:=.pointer (some ⟨A.next,1,none⟩)) (Bw A.next 0) (Aa (v:=.int .u8 (v.node:Int)) (FF s6.ev) (Aa (v:=.pointer (some ⟨A.next,3,none⟩)) (BC A.next 0) (Aa (v:=.int .i64 v.n) (EL s6.ev) (Aa (v:=.pointer (some ⟨A.next,9,none⟩)) (DZ A.next 0) (Aa (v:=.string v.s) (Ml s6.ev) ?_)))))
  refine Jj hp hw.node ?_
  refine ck (Ml s6.ev) (ck (DZ A.next 0) (ck (EL s6.ev) (ck (BC A.next 0) (Am.2 ?_))))
  refine Qt hp hw.n.1 hw.n.2 ?_
  refine ck (Ml s6.ev) (ck (DZ A.next 0) (Am.2 ?_))
  refine wc8 (s:=v.s) (by show (bl v.s).length < _;omega) s6.f (by have:=s6.n;show _+100+10 * (bl v.s).length < _;omega) fun A7 g7=>?_
  have g7:Grow A6 A7 (20+10 * (bl v.s).length):=g7
  have s7:=s6.grow g7
  refine Am.2 ?_
  refine Bq (LA _ _ _ _) rfl s7.f (by have:=s7.n;omega) fun A8 m8=>?_
  have s8:=s7.grow (Grow.made m8 s7.f)
  refine UO m8.row (ck (Ml s8.ev) (ck (DZ A.next 0) (ck (EL s8.ev) (ck (BC A.next 0) (ck (FF s8.ev) (ck (Bw A.next 0) (Am.2 ?_)))))))
  refine s8.FN (us:=[(txt (Lib.decDigits v.node)),(txt (Lib.itoa v.n)),(txt (AY (bl v.s)))]) (Cu (ws:=[(txt (Lib.decDigits v.node)),(txt (Lib.itoa v.n)),(txt (AY (bl v.s)))]) m8) (by simp) (by simp) (by have:=s8.n;omega) fun A9 s9=>?_
  exact fin s9 (by rw [Bg,hc];rfl) (by have:=s9.n;omega)
 refine Aa Ah (Ae.2 ⟨fun hc=>?_,fun hc16=>?_⟩)
 ·have hc:v.kind=16:=by omega
  refine Aa (v:=.pointer (some ⟨A.next,1,none⟩)) (Bw A.next 0) (Aa (v:=.int .u8 (v.node:Int)) (FF s6.ev) ?_)
  refine Jj hp hw.node ?_
  refine Bq (EB _ _) rfl s6.f (by have:=s6.n;omega) fun A7 m7=>?_
  have s7:=s6.grow (Grow.made m7 s6.f)
  refine s7.FN (us:=[(txt (Lib.decDigits v.node))]) (Cu (ws:=[(txt (Lib.decDigits v.node))]) m7) (by simp) (by simp) (by have:=s7.n;omega) fun A8 s8=>?_
  refine Aa (v:=.pointer (some ⟨A.next,11,none⟩)) (CJ A.next 0) (Aa (v:=.agg ⟨v.call.cells vr⟩) (Ki s8.ev hvr) ?_)
  have hr8:=hrd.keeps s8.g.keeps (by simp)
  refine Acb hp hw.call hr8 (by unfold szC;omega) s8.f (by have:=s8.n;unfold szC;omega) fun A9 w9 G9 o9 hG9 g9=>?_
  have s9:=s8.grow g9
  refine s9.FN (us:=(Bv v.call).map txt) (Zl o9) (by simp) (by rw [List.length_map];omega) (by have:=s9.n;omega) fun A10 s10=>?_
  exact fin s10 (by rw [Bg,hc];show _=List.map txt (_::(Ce v 110++(Ce v 67++[])));rw [Aar];simp only [List.map_cons,List.map_append,List.append_nil,List.map_map,List.cons_append,List.nil_append];rfl) (by have:=s10.n;omega)
 refine fin s6 ?_ (by omega)
 have hC:(Aj v.kind).2=[]:=by
  have h:v.kind=0∨v.kind=6∨v.kind=17∨17 < v.kind:=by omega
  rcases h with h | h | h | h
  all_goals first | (rw [h];rfl) | rw [Cn h]
 rw [Bg,hC]
 rfl
end
theorem H4 (n:Nat):(32:UInt8)∉Lib.decDigits n:=TG (by decide) n
theorem TH (n:Int):(32:UInt8)∉Lib.itoa n:=by
 rcases Int.lt_or_le n 0 with h | h
 ·obtain ⟨u,rfl⟩:∃ u:Nat,n= -(u:Int):=⟨(-n).toNat,by omega⟩
  rw [Lib.itoa_neg _ (by omega)]
  intro hm
  rcases List.mem_cons.1 hm with e | e
  ·exact absurd e (by decide)
  ·exact H4 _ e
 ·obtain ⟨u,rfl⟩:∃ u:Nat,n=(u:Int):=⟨n.toNat,by omega⟩
  rw [Lib.itoa_nonneg]
  exact H4 _
theorem II (l:Word):(32:UInt8)∉AY l:=OV (by decide) (by decide) (by decide) l
theorem Zq (r:ByteArray × Nat):(32:UInt8)∉DA r:=by
 unfold DA
 simp only [List.mem_append,List.mem_singleton,not_or]
 exact ⟨⟨II _,by decide⟩,H4 _⟩
theorem Yq (p:Nm):(32:UInt8)∉bl (tx p):=by
 show (32:UInt8)∉(if okX p=true then C7 p else [])
 split
 ·unfold C7
  simp only [List.mem_append,List.mem_singleton,not_or]
  exact ⟨⟨⟨⟨H4 _,by decide⟩,MJ (by decide) _⟩,by decide⟩,MJ (by decide) _⟩
 ·simp
theorem V8 (n:Nat):(32:UInt8)∉(partsOf n).1:=by
 rcases Nat.lt_or_ge 21 n with h | h
 ·rw [Cv h];simp
 ·have:∀ n < 22,(32:UInt8)∉(partsOf n).1:=by decide
  exact this n (by omega)
theorem V7 (n:Nat):(32:UInt8)∉(Aj n).1:=by
 rcases Nat.lt_or_ge 17 n with h | h
 ·rw [Cn h];simp
 ·have:∀ n < 18,(32:UInt8)∉(Aj n).1:=by decide
  exact this n (by omega)
theorem Wa (c:Ax):∀ w∈Bv c,(32:UInt8)∉w:=by
 intro w hw
 unfold Bv at hw
 rcases List.mem_cons.1 hw with rfl | hw
 ·exact H4 _
 rcases List.mem_cons.1 hw with rfl | hw
 ·exact V8 _
 obtain ⟨h,_,hw⟩:=List.mem_flatMap.1 hw
 by_cases h88:h=88
 ·subst h88
  rw [I5,List.mem_singleton] at hw
  rw [hw];exact Yq _
 by_cases h82:h=82
 ·subst h82
  rw [Tt] at hw
  obtain ⟨r,_,rfl⟩:=List.mem_map.1 hw
  exact Zq r
 unfold Co J4 at hw
 simp only [h88,h82,if_false] at hw
 repeat' split at hw
 all_goals (simp only [Option.getD_some,List.mem_singleton] at hw;subst hw)
 ·exact II _
 ·exact II _
 ·exact II _
 ·exact H4 _
 ·cases c.a <;> decide
 ·cases c.a <;> decide
 ·cases c.a <;> decide
 ·cases c.a <;> cases c.b <;> decide
 ·cases c.a <;> cases c.b <;> decide
 ·simp
theorem V9 (v:EvD):∀ w∈Bg v,(32:UInt8)∉w:=by
 intro w hw
 unfold Bg at hw
 rcases List.mem_cons.1 hw with rfl | hw
 ·exact V7 _
 obtain ⟨h,_,hw⟩:=List.mem_flatMap.1 hw
 by_cases h88:h=88
 ·subst h88
  rw [I4,List.mem_singleton] at hw
  rw [hw];exact Yq _
 by_cases h67:h=67
 ·subst h67
  exact Wa _ w hw
 by_cases h98:h=98
 ·subst h98
  have hw:w∈v.nodes.map Lib.decDigits:=hw
  obtain ⟨r,_,rfl⟩:=List.mem_map.1 hw
  exact H4 r
 by_cases h107:h=107
 ·subst h107
  have hw:w∈v.keep.map Lib.itoa:=hw
  obtain ⟨r,_,rfl⟩:=List.mem_map.1 hw
  exact TH r
 unfold Ce Ir at hw
 simp only [h88,h67,h98,h107,if_false] at hw
 repeat' split at hw
 all_goals (simp only [Option.getD_some,List.mem_singleton] at hw;subst hw)
 ·exact H4 _
 ·exact H4 _
 ·exact TH _
 ·cases v.a <;> decide
 ·exact II _
 ·simp
theorem R7 {x:Word} {r:List Word} (h:∀ w∈x::r,(32:UInt8)∉w):Bs 32 (BS ((x::r).map txt))=x::r:=by
 induction r generalizing x with
 | nil=>
  show Bs 32 (x++[])=_
  rw [List.append_nil,GV (h x (by simp))]
 | cons y r ih=>
  have e:BS ((x::y::r).map txt)=x++[32]++BS ((y::r).map txt):=by
   show x++(32::y++CZ (r.map txt))=x++[32]++(y++CZ (r.map txt))
   simp
  rw [e,Gp (h x (by simp)),ih fun w hw=>h w (List.mem_cons_of_mem _ hw)]
theorem LK (v:EvD):Bs 32 (BS ((Bg v).map txt))=Bg v:=by
 have h:=V9 v
 unfold Bg at *
 exact R7 h
theorem Ac1:quiet Tp (underlying 54)=some (.struct (Tp.fieldsOf 54)):=by kernel_rfl
noncomputable def F54 (i:Nat):Field:=(Tp.fieldsOf 54).toList.getD i default
theorem Ac3:(Tp.fieldsOf 54).toList=[F54 0,F54 1]:=by kernel_rfl
theorem VQ (f:Int) (g:ByteArray):quiet Tp (part (F54 0).type ⟨[.string g,.int .u64 f]⟩ (F54 0).offset)=some (.string g):=by kernel_rfl
theorem VP (f:Int) (g:ByteArray):quiet Tp (part (F54 1).type ⟨[.string g,.int .u64 f]⟩ (F54 1).offset)=some (.int .u64 f):=by kernel_rfl
theorem Y0:(F54 0).type=9:=by kernel_rfl
theorem YZ:(F54 1).type=35:=by kernel_rfl
theorem AcH:quiet Tp (underlying 35)=some (.int .u64):=by kernel_rfl
def OO (f f':Int) (g g':ByteArray):Bool:=g.data.toList==g'.data.toList&&f==f'
theorem Xs (n:Nat) (f f':Int) (g g':ByteArray):quiet Tp (Op.equalIn (n+1+1) 54 (.agg ⟨[.string g,.int .u64 f]⟩) (.agg ⟨[.string g',.int .u64 f']⟩))=some (OO f f' g g'):=by
 rw [Ks (n+1) 54 _ _ Ac1 (by kernel_rfl),Ac3]
 rw [EW (by kernel_rfl) (VQ f g) (VQ f' g') (by rw [Y0];exact Jb ut9)]
 rw [EW (by kernel_rfl) (VP f g) (VP f' g') (by rw [YZ];exact Kt n 35 _ _ _ _ AcH)]
 unfold OO
 cases g.data.toList==g'.data.toList <;> cases f==f' <;> rfl
theorem Ja {p q:ByteArray × Nat}:OO (p.2:Int) (q.2:Int) p.1 q.1=true↔p=q:=by
 obtain ⟨a,b⟩:=p
 obtain ⟨c,d⟩:=q
 unfold OO
 simp only [Bool.and_eq_true,beq_iff_eq,Prod.mk.injEq]
 exact ⟨fun ⟨h1,h2⟩=>⟨Fg h1,by omega⟩,fun ⟨h1,h2⟩=>by subst h1;subst h2;exact ⟨rfl,rfl⟩⟩
def kR (p:ByteArray × Nat):Value:=.agg ⟨cR p⟩
theorem eqR (p q:ByteArray × Nat):eqA Tp 54 (kR p) (kR q)=some (OO (p.2:Int) (q.2:Int) p.1 q.1):=by
 unfold eqA
 have hc:(AB 4 (kR p)&&AB 4 (kR q))=true:=rfl
 rw [hc,cond_true]
 exact Xs 9998 _ _ _ _
theorem AaS (p q:ByteArray × Nat) (xo yo:Operand):Ag Tp .neq 54 xo yo (.agg ⟨cR p⟩) (.agg ⟨cR q⟩)=some (.bool !(OO (p.2:Int) (q.2:Int) p.1 q.1)):=by
 have hg:DN Tp 54 xo yo (kR p) (kR q)=true:=by
  show (!Tp.eqGuardType Tp.depth 54)=true
  kernel_rfl
 show (bif DN Tp 54 xo yo (kR p) (kR q) then (match eqA Tp 54 (kR p) (kR q) with | some b=>some (Value.bool !b) | none=>none) else none)=_
 rw [hg,cond_true,eqR]
theorem WB (p q:Nm) (xo yo:Operand):Ag Tp .eql 32 xo yo (.agg ⟨p.cells⟩) (.agg ⟨q.cells⟩)=some (.bool (M6 (p.f:Int) (q.f:Int) p.g q.g p.b q.b)):=by
 have hg:DN Tp 32 xo yo (kX p) (kX q)=true:=by
  show (!Tp.eqGuardType Tp.depth 32)=true
  kernel_rfl
 show (bif DN Tp 32 xo yo (kX p) (kX q) then (match eqA Tp 32 (kX p) (kX q) with | some b=>some (Value.bool b) | none=>none) else none)=_
 rw [hg,cond_true,eqX]
theorem Db {p q:Nm}:M6 (p.f:Int) (q.f:Int) p.g q.g p.b q.b=true↔p=q:=by
 obtain ⟨a,b,c⟩:=p
 obtain ⟨d,e,f⟩:=q
 unfold M6
 simp only [Bool.and_eq_true,beq_iff_eq,Nm.mk.injEq]
 exact ⟨fun ⟨h1,h2,h3⟩=>⟨by omega,Fg h2,Fg h3⟩,fun ⟨h1,h2,h3⟩=>by subst h1;subst h2;subst h3;exact ⟨rfl,rfl,rfl⟩⟩
theorem I6 {α:Type} {l m:List α} {i:Nat} {x y:α} (hx:l[i]? =some x) (hy:m[i]? =some y) (h:l.take i=m.take i) (he:x=y):l.take (i+1)=m.take (i+1):=by
 rw [BH hx,BH hy,h,he]
section
variable {W0:World} {m0:Inj Tp}
theorem Aca {u v:Value} {l m:List Nat} {F G:List Nat} {A:AW} {K:Value→AW→Prop} (hu:RdE 0 cB A u l F) (hv:RdE 0 cB A v m G) (hl:l.length < 1000000000) (hm:m.length < 1000000000) (hk:∀ b:Bool,(b=true↔l=m)→K (.bool b) A):Wc Tp Ai W0 m0 57 [u,v] A K:=by
 let I:Nat→Nat→List Value→AW→Prop:=fun g id vals A'=>id=0∧∃ i:Nat,vals=[u,v,.int .i64 (l.length:Int),.int .i64 (i:Int)]∧i≤l.length∧l.length=m.length∧A'=A∧l.take i=m.take i∧g=l.length - i
 refine w57 _ _ _ (c57 (I:=I) ?_) ?_
 ·rintro g id vals A' d ⟨rfl,i,rfl,hi,hlm,rfl,he,rfl⟩ hd
  rw [Aa7]
  simp only [L57,List.map_cons,List.map_nil,List.cons.injEq,and_true] at hd
  obtain ⟨d0,d1,d12,d13⟩:=hd
  simp only [d0,d1,d12,d13]
  refine Aa BD (Av.2 ⟨fun hlt=>?_,fun hge=>?_⟩)
  ·have hlt:i < l.length:=by omega
   have hp:=List.getElem?_eq_getElem hlt
   have hq:=List.getElem?_eq_getElem (l:=m) (i:=i) (by omega)
   have e2:IntKind.i64.wrap ((i:Int)+1)=((i+1:Nat):Int):=wrap_i64 (by omega) (by omega)
   obtain ⟨a,a1,a2⟩:=ES.at IV hu hp rfl
   obtain ⟨b,b1,b2⟩:=ES.at IV hv hq rfl
   refine Aa a1 (Aa a2 (Aa b1 (Aa b2 (Aa Cm (BO.2 ⟨fun hn=>?_,fun hn=>?_⟩)))))
   ·exact hk false ⟨fun h=>(by cases h),fun h=>absurd (by subst h;rfl) hn⟩
   ·simp only [AU,Ad,e2]
    exact Aq.2 ⟨l.length - (i+1),by omega,rfl,i+1,rfl,by omega,hlm,rfl,I6 hp hq he (by omega),rfl⟩
  ·have:i=l.length:=by omega
   subst this
   refine hk true ⟨fun _=>?_,fun _=>rfl⟩
   rwa [List.take_length,hlm,List.take_length] at he
 ·rw [e57]
  refine Aa (IV.HE hu) (Aa (IV.HE hv) (Aa Cm (BO.2 ⟨fun hn=>?_,fun hn=>?_⟩)))
  ·exact hk false ⟨fun h=>(by cases h),fun h=>absurd (by rw [h]) hn⟩
  ·exact Aa (IV.HE hu) (Aq.2 ⟨l.length,rfl,0,rfl,by omega,by omega,rfl,rfl,rfl⟩)
theorem Ab9 {u v:Value} {l m:List Int} {F G:List Nat} {A:AW} {K:Value→AW→Prop} (hu:RdE 0 cI A u l F) (hv:RdE 0 cI A v m G) (hl:l.length < 1000000000) (hm:m.length < 1000000000) (hk:∀ b:Bool,(b=true↔l=m)→K (.bool b) A):Wc Tp Ai W0 m0 58 [u,v] A K:=by
 let I:Nat→Nat→List Value→AW→Prop:=fun g id vals A'=>id=0∧∃ i:Nat,vals=[u,v,.int .i64 (l.length:Int),.int .i64 (i:Int)]∧i≤l.length∧l.length=m.length∧A'=A∧l.take i=m.take i∧g=l.length - i
 refine w58 _ _ _ (c58 (I:=I) ?_) ?_
 ·rintro g id vals A' d ⟨rfl,i,rfl,hi,hlm,rfl,he,rfl⟩ hd
  rw [Aa6]
  simp only [L58,List.map_cons,List.map_nil,List.cons.injEq,and_true] at hd
  obtain ⟨d0,d1,d12,d13⟩:=hd
  simp only [d0,d1,d12,d13]
  refine Aa BD (Av.2 ⟨fun hlt=>?_,fun hge=>?_⟩)
  ·have hlt:i < l.length:=by omega
   have hp:=List.getElem?_eq_getElem hlt
   have hq:=List.getElem?_eq_getElem (l:=m) (i:=i) (by omega)
   have e2:IntKind.i64.wrap ((i:Int)+1)=((i+1:Nat):Int):=wrap_i64 (by omega) (by omega)
   obtain ⟨a,a1,a2⟩:=ES.at IU hu hp rfl
   obtain ⟨b,b1,b2⟩:=ES.at IU hv hq rfl
   refine Aa a1 (Aa a2 (Aa b1 (Aa b2 (Aa Cm (BO.2 ⟨fun hn=>?_,fun hn=>?_⟩)))))
   ·exact hk false ⟨fun h=>(by cases h),fun h=>absurd (by subst h;rfl) hn⟩
   ·simp only [AU,Ad,e2]
    exact Aq.2 ⟨l.length - (i+1),by omega,rfl,i+1,rfl,by omega,hlm,rfl,I6 hp hq he (by omega),rfl⟩
  ·have:i=l.length:=by omega
   subst this
   refine hk true ⟨fun _=>?_,fun _=>rfl⟩
   rwa [List.take_length,hlm,List.take_length] at he
 ·rw [e58]
  refine Aa (IU.HE hu) (Aa (IU.HE hv) (Aa Cm (BO.2 ⟨fun hn=>?_,fun hn=>?_⟩)))
  ·exact hk false ⟨fun h=>(by cases h),fun h=>absurd (by rw [h]) hn⟩
  ·exact Aa (IU.HE hu) (Aq.2 ⟨l.length,rfl,0,rfl,by omega,by omega,rfl,rfl,rfl⟩)
theorem Ab8 {u v:Value} {l m:List (ByteArray × Nat)} {F G:List Nat} {A:AW} {K:Value→AW→Prop} (hu:RdE 1 cR A u l F) (hv:RdE 1 cR A v m G) (hl:l.length < 1000000000) (hm:m.length < 1000000000) (hk:∀ b:Bool,(b=true↔l=m)→K (.bool b) A):Wc Tp Ai W0 m0 59 [u,v] A K:=by
 let I:Nat→Nat→List Value→AW→Prop:=fun g id vals A'=>id=0∧∃ i:Nat,vals=[u,v,.int .i64 (l.length:Int),.int .i64 (i:Int)]∧i≤l.length∧l.length=m.length∧A'=A∧l.take i=m.take i∧g=l.length - i
 refine w59 _ _ _ (c59 (I:=I) ?_) ?_
 ·rintro g id vals A' d ⟨rfl,i,rfl,hi,hlm,rfl,he,rfl⟩ hd
  rw [Aa5]
  simp only [L59,List.map_cons,List.map_nil,List.cons.injEq,and_true] at hd
  obtain ⟨d0,d1,d12,d13⟩:=hd
  simp only [d0,d1,d12,d13]
  refine Aa BD (Av.2 ⟨fun hlt=>?_,fun hge=>?_⟩)
  ·have hlt:i < l.length:=by omega
   have hp:=List.getElem?_eq_getElem hlt
   have hq:=List.getElem?_eq_getElem (l:=m) (i:=i) (by omega)
   have e2:IntKind.i64.wrap ((i:Int)+1)=((i+1:Nat):Int):=wrap_i64 (by omega) (by omega)
   obtain ⟨a,o,a1,_,a2⟩:=hu.at IQ hp
   obtain ⟨b,o',b1,_,b2⟩:=hv.at IQ hq
   refine Aa a1 (Aa a2 (Aa b1 (Aa b2 (Aa (AaS _ _ _ _) (Ak.2 ⟨fun hn=>?_,fun hn=>?_⟩)))))
   ·exact hk false ⟨fun h=>(by cases h),fun h=>by subst h;rw [Ja.2 rfl] at hn;cases hn⟩
   ·simp only [AU,Ad,e2]
    exact Aq.2 ⟨l.length - (i+1),by omega,rfl,i+1,rfl,by omega,hlm,rfl,I6 hp hq he (Ja.1 (by simpa using hn)),rfl⟩
  ·have:i=l.length:=by omega
   subst this
   refine hk true ⟨fun _=>?_,fun _=>rfl⟩
   rwa [List.take_length,hlm,List.take_length] at he
 ·rw [e59]
  refine Aa (hu.len IQ) (Aa (hv.len IQ) (Aa Cm (BO.2 ⟨fun hn=>?_,fun hn=>?_⟩)))
  ·exact hk false ⟨fun h=>(by cases h),fun h=>absurd (by rw [h]) hn⟩
  ·exact Aa (hu.len IQ) (Aq.2 ⟨l.length,rfl,0,rfl,by omega,by omega,rfl,rfl,rfl⟩)
theorem eqB (a b:Bool) (xo yo:Operand):Ag Tp .eql 4 xo yo (.bool a) (.bool b)=some (.bool (a==b)):=by
 cases a <;> cases b <;> kernel_rfl
theorem Ada:AT Tp (fun _=>undef) (.alloc 38)=some (.row (Bf.cells vN) 38):=by kernel_rfl
theorem Pe {A:AW} {q:Nat} {p:Prop} (h:A.get q=some (.row (Bf.cells vN) 38 q 0 false)) (hp:p):Bz (AT Tp (fun _=>undef) (.alloc 38)) A (.pointer (some ⟨q,0,none⟩)) p:=by
 refine ⟨⟨_,Ada,?_⟩,hp⟩
 simp only [Ck,Fh,h,ER,Bool.true_and,Nat.beq_refl]
 kernel_rfl
set_option maxHeartbeats 4000000 in
theorem Acl {v w:EvD} {vn vk vr wn wk wr:Value} {G H:List Nat} {A:AW} {K:Value→AW→Prop} (hv:RdV A v vn vk vr G) (hw:RdV A w wn wk wr H) (hf:AJ A) (hA:A.next+10 < Al) (hl:szV v < 900000000) (hm:szV w < 900000000)
  (hk:∀ A' (b:Bool),(b=true↔v=w)→Grow A A' 10→K (.bool b) A'):Wc Tp Ai W0 m0 29 [.agg ⟨v.cells vn vk vr⟩,.agg ⟨w.cells wn wk wr⟩] A K:=by
 obtain ⟨⟨vn1,vn2⟩,⟨vk1,vk2⟩,vr1,vr2⟩:=hv.one
 obtain ⟨⟨wn1,wn2⟩,⟨wk1,wk2⟩,wr1,wr2⟩:=hw.one
 have hl1:=Iz v.call.refs
 have hl2:szV v=(bl v.s).length+v.nodes.length+v.keep.length+((bl v.call.queue).length+(bl v.call.tag).length+(bl v.call.body).length+szR v.call.refs):=rfl
 have hm1:=Iz w.call.refs
 have hm2:szV w=(bl w.s).length+w.nodes.length+w.keep.length+((bl w.call.queue).length+(bl w.call.tag).length+(bl w.call.body).length+szR w.call.refs):=rfl
 refine w29 _ _ _ (At (S:=fun _ _ _=>False) fun _ _ _ h=>h) ?_
 rw [e29]
 refine BI (cs:=v.cells vn vk vr) hf (by omega) (D7 v vn1 vk1 vr1) fun A1 m1=>?_
 have n1:=m1.next
 refine BI (cs:=w.cells wn wk wr) m1.AG (by omega) (D7 w wn1 wk1 wr1) fun A2 m2=>?_
 have n2:=m2.next
 refine AV Hh m2.AG (by omega) rfl fun A3 m3=>Pe m3.row ?_
 have n3:=m3.next
 refine AV Hh m3.AG (by omega) rfl fun A4 m4=>Pe m4.row ?_
 have n4:=m4.next
 have k2:=m2.keeps m1.AG
 have k3:=m3.keeps m2.AG
 have k4:=m4.keeps m3.AG
 have c4:=m3.B7.keeps k4 (by simp)
 have e4:=((m1.B7.keeps k2 (by simp)).keeps k3 (by simp)).keeps k4 (by simp)
 have f4:=(m2.B7.keeps k3 (by simp)).keeps k4 (by simp)
 refine Pe c4.row (Aa (CJ _ 0) (Aa (Ki e4 vr2) (Aa (CJ _ 0) (Aa (Ki f4 wr2) ?_))))
 refine storeAll (n:=12) (new:=v.call.cells vr) c4 m4.AG (by omega) (Hz _ _ _) rfl rfl (C4 _ vr1) fun A5 c5 k5 n5 f5=>?_
 have q5:=f4.keeps k5 (by simp;omega)
 refine ck (Ki q5 wr2) (ck (CJ _ 0) ?_)
 refine storeAll (n:=12) (new:=w.call.cells wr) (m4.B7.keeps k5 (by simp;omega)) f5 (by omega) (Hz _ _ _) rfl rfl (C4 _ wr1) fun A6 d6 k6 n6 f6=>?_
 have c6:=c5.keeps k6 (by simp;omega)
 have e6:=(e4.keeps k5 (by simp;omega)).keeps k6 (by simp;omega)
 have q6:=q5.keeps k6 (by simp;omega)
 have g6:Grow A A6 10:=by
  refine ⟨?_,f6,by omega⟩
  have a:=(((m1.keeps hf).trans k2 (by simp)).trans k3 (by simp)).trans k4 (by simp)
  exact (a.trans k5 fun x hx=>.inr (by rw [List.mem_singleton.1 hx];omega)).trans k6 fun x hx=>.inr (by rw [List.mem_singleton.1 hx];omega)
 have no:∀ {P:Prop},(v=w→P)→¬ P→K (.bool false) A6:=fun h1 h2=>hk A6 false ⟨fun h=>(by cases h),fun h=>absurd (h1 h) h2⟩ g6
 have hv6:=hv.keeps g6.keeps (by simp)
 have hw6:=hw.keeps g6.keeps (by simp)
 refine Aa (D2 _ 0) (Aa (Mp e6) (Aa (D2 _ 0) (Aa (Mp q6) (Aa Ah (Ae.2 ⟨fun he_kind=>?_,fun h=>no (P:=v.kind=w.kind) (fun e=>by rw [e]) fun e=>h (by rw [e])⟩)))))
 have he_kind:v.kind=w.kind:=by omega
 refine Aa (Bw _ 0) (Aa (FF e6) (Aa (Bw _ 0) (Aa (FF q6) (Aa Ah (Ae.2 ⟨fun he_node=>?_,fun h=>no (P:=v.node=w.node) (fun e=>by rw [e]) fun e=>h (by rw [e])⟩)))))
 have he_node:v.node=w.node:=by omega
 refine Aa (CM _ 0) (Aa (Jk e6) (Aa (CM _ 0) (Aa (Jk q6) (Aa Ah (Ae.2 ⟨fun he_to=>?_,fun h=>no (P:=v.to=w.to) (fun e=>by rw [e]) fun e=>h (by rw [e])⟩)))))
 have he_to:v.to=w.to:=by omega
 refine Aa (BC _ 0) (Aa (EL e6) (Aa (BC _ 0) (Aa (EL q6) (Aa Ah (Ae.2 ⟨fun he_n=>?_,fun h=>no (P:=v.n=w.n) (fun e=>by rw [e]) fun e=>h (by rw [e])⟩)))))
 refine Aa (Dt _ 0) (Aa (Mo e6) (Aa (Dt _ 0) (Aa (Mo q6) (Aa (WB _ _ _ _) (Ak.2 ⟨fun he_x=>?_,fun h=>no (P:=v.x=w.x) (fun e=>by rw [e]) fun e=>by rw [e,Db.2 rfl] at h;cases h⟩)))))
 have he_x:v.x=w.x:=Db.1 he_x
 obtain ⟨Fv57,hv57,_⟩:=hv6.n
 obtain ⟨Fw57,hw57,_⟩:=hw6.n
 refine Aa (D1 _ 0) (Aa (Mn e6 vn2) (Aa (D1 _ 0) (Aa (Mn q6 wn2) (Aca hv57 hw57 (by omega) (by omega) fun b hb=>Ak.2 ⟨fun he_nodes=>?_,fun h=>no (P:=v.nodes=w.nodes) (fun e=>by rw [e]) fun e=>by rw [hb.2 e] at h;cases h⟩))))
 replace he_nodes:=hb.1 he_nodes
 obtain ⟨Fv58,hv58,_⟩:=hv6.k
 obtain ⟨Fw58,hw58,_⟩:=hw6.k
 refine Aa (D0 _ 0) (Aa (Mm e6 vk2) (Aa (D0 _ 0) (Aa (Mm q6 wk2) (Ab9 hv58 hw58 (by omega) (by omega) fun b hb=>Ak.2 ⟨fun he_keep=>?_,fun h=>no (P:=v.keep=w.keep) (fun e=>by rw [e]) fun e=>by rw [hb.2 e] at h;cases h⟩))))
 replace he_keep:=hb.1 he_keep
 refine Aa (DZ _ 0) (Aa (Ml e6) (Aa (DZ _ 0) (Aa (Ml q6) (Aa B4 (Ak.2 ⟨fun he_s=>?_,fun h=>no (P:=v.s=w.s) (fun e=>by rw [e]) fun e=>by rw [e] at h;simp at h⟩)))))
 have he_s:v.s=w.s:=Fg (eq_of_beq he_s)
 refine Aa (Ds _ 0) (Aa (Hv e6) (Aa (Ds _ 0) (Aa (Hv q6) (Aa (eqB _ _ _ _) (Ak.2 ⟨fun he_a=>?_,fun h=>no (P:=v.a=w.a) (fun e=>by rw [e]) fun e=>by rw [e] at h;simp at h⟩)))))
 have he_a:v.a=w.a:=eq_of_beq he_a
 refine Aa (DI _ 0) (Aa (N1 c6) (Aa (DI _ 0) (Aa (N1 d6) (Aa Ah (Ae.2 ⟨fun hc_what=>?_,fun h=>no (P:=v.call.what=w.call.what) (fun e=>by rw [e]) fun e=>h (by rw [e])⟩)))))
 have hc_what:v.call.what=w.call.what:=by omega
 refine Aa (Gb _ 0) (Aa (RH c6) (Aa (Gb _ 0) (Aa (RH d6) (Aa Ah (Ae.2 ⟨fun hc_ses=>?_,fun h=>no (P:=v.call.ses=w.call.ses) (fun e=>by rw [e]) fun e=>h (by rw [e])⟩)))))
 have hc_ses:v.call.ses=w.call.ses:=by omega
 refine Aa (Ct _ 0) (Aa (Jq c6) (Aa (Ct _ 0) (Aa (Jq d6) (Aa B4 (Ak.2 ⟨fun hc_queue=>?_,fun h=>no (P:=v.call.queue=w.call.queue) (fun e=>by rw [e]) fun e=>by rw [e] at h;simp at h⟩)))))
 have hc_queue:v.call.queue=w.call.queue:=Fg (eq_of_beq hc_queue)
 refine Aa (CA _ 0) (Aa (Jp c6) (Aa (CA _ 0) (Aa (Jp d6) (Aa B4 (Ak.2 ⟨fun hc_tag=>?_,fun h=>no (P:=v.call.tag=w.call.tag) (fun e=>by rw [e]) fun e=>by rw [e] at h;simp at h⟩)))))
 have hc_tag:v.call.tag=w.call.tag:=Fg (eq_of_beq hc_tag)
 refine Aa (Du _ 0) (Aa (MF c6) (Aa (Du _ 0) (Aa (MF d6) (Aa (WB _ _ _ _) (Ak.2 ⟨fun hc_x=>?_,fun h=>no (P:=v.call.x=w.call.x) (fun e=>by rw [e]) fun e=>by rw [e,Db.2 rfl] at h;cases h⟩)))))
 have hc_x:v.call.x=w.call.x:=Db.1 hc_x
 refine Aa (CU _ 0) (Aa (Ka c6) (Aa (CU _ 0) (Aa (Ka d6) (Aa Ah (Ae.2 ⟨fun hc_n=>?_,fun h=>no (P:=v.call.n=w.call.n) (fun e=>by rw [e]) fun e=>h (by rw [e])⟩)))))
 have hc_n:v.call.n=w.call.n:=by omega
 refine Aa (BZ _ 0) (Aa (Hr c6) (Aa (BZ _ 0) (Aa (Hr d6) (Aa (eqB _ _ _ _) (Ak.2 ⟨fun hc_a=>?_,fun h=>no (P:=v.call.a=w.call.a) (fun e=>by rw [e]) fun e=>by rw [e] at h;simp at h⟩)))))
 have hc_a:v.call.a=w.call.a:=eq_of_beq hc_a
 refine Aa (Dj _ 0) (Aa (Lx c6) (Aa (Dj _ 0) (Aa (Lx d6) (Aa (eqB _ _ _ _) (Ak.2 ⟨fun hc_b=>?_,fun h=>no (P:=v.call.b=w.call.b) (fun e=>by rw [e]) fun e=>by rw [e] at h;simp at h⟩)))))
 have hc_b:v.call.b=w.call.b:=eq_of_beq hc_b
 obtain ⟨Fv59,hv59,_⟩:=hv6.r
 obtain ⟨Fw59,hw59,_⟩:=hw6.r
 refine Aa (Di _ 0) (Aa (JM c6 vr2) (Aa (Di _ 0) (Aa (JM d6 wr2) (Ab8 hv59 hw59 (by omega) (by omega) fun b hb=>Ak.2 ⟨fun hc_refs=>?_,fun h=>no (P:=v.call.refs=w.call.refs) (fun e=>by rw [e]) fun e=>by rw [hb.2 e] at h;cases h⟩))))
 replace hc_refs:=hb.1 hc_refs
 refine Aa (Eh _ 0) (Aa (JL c6) (Aa (Eh _ 0) (Aa (JL d6) ?_)))
 refine Aa B4 (hk A6 _ ⟨fun h=>?_,fun h=>by rw [h];exact beq_self_eq_true _⟩ g6)
 have hc_body:v.call.body=w.call.body:=Fg (eq_of_beq h)
 have hcall:v.call=w.call:=by
  generalize v.call=c at *
  generalize w.call=d at *
  cases c;cases d
  simp only at hc_what hc_ses hc_queue hc_tag hc_x hc_n hc_a hc_b hc_refs hc_body
  simp only [hc_what,hc_ses,hc_queue,hc_tag,hc_x,hc_n,hc_a,hc_b,hc_refs,hc_body]
 clear hv6 hw6 hv hw no hk hc_what hc_ses hc_queue hc_tag hc_x hc_n hc_a hc_b hc_refs hc_body h
 cases v;cases w
 simp only at he_kind he_node he_to he_n he_x he_nodes he_keep he_s he_a hcall
 simp only [he_kind,he_node,he_to,he_n,he_x,he_nodes,he_keep,he_s,he_a,hcall]
end
def Ht (v:EvD) (l:Word):Prop:=v.Wf∧DE v=some (Bg v)∧BS ((Bg v).map txt)=l
theorem Xd {v:EvD} {ws:List Word} (h:DE v=some ws) (hk:v.kind=16) (hw:v.call.what=0):False:=by
 have h2:=(C0.1 h).2.1
 have hl:Ir v 67=none:=by
  show (match CT v.call with | some (ws,_)=>if (partsOf v.call.what).1=[] then none else some ws | none=>none)=none
  rw [hw]
  cases CT v.call <;> rfl
 have h3:goE v [110,67] [(Aj v.kind).1] { v with kind:=0 }=some (ws,Cl):=by
  have e:(Aj v.kind).2=[110,67]:=by rw [hk];rfl
  rw [← e];exact h2
 have h4:goE v [110,67] [(Aj v.kind).1] { v with kind:=0 }=none:=by
  show goE v [67] _ _=none
  unfold goE
  rw [hl]
 rw [h4] at h3
 cases h3
theorem Xb:B0 Tp 40 []=some (.agg ⟨Cl.cells vN vN vN⟩):=by kernel_rfl
theorem OY (a:Addr):Ca (.pointer (some a))=some (.pointer (some a)):=rfl
theorem RdV.tight {A:AW} {v:EvD} {vn vk vr:Value} {G:List Nat} (h:RdV A v vn vk vr G):∃ H,RdV A v vn vk vr H∧(∀ x∈H,x∈G)∧∀ x∈H,x < A.next:=by
 obtain ⟨⟨F1,q1,s1⟩,⟨F2,q2,s2⟩,⟨F3,q3,s3⟩⟩:=h
 refine ⟨F1++F2++F3,⟨⟨F1,q1,fun x hx=>by simp [hx]⟩,⟨F2,q2,fun x hx=>by simp [hx]⟩,⟨F3,q3,fun x hx=>by simp [hx]⟩⟩,fun x hx=>?_,fun x hx=>?_⟩
 ·simp only [List.mem_append] at hx
  rcases hx with (hx | hx) | hx
  ·exact s1 x hx
  ·exact s2 x hx
  ·exact s3 x hx
 ·simp only [List.mem_append] at hx
  rcases hx with (hx | hx) | hx
  ·exact q1.fam x hx
  ·exact q2.fam x hx
  ·exact q3.fam x hx
section
variable {W0:World} {m0:Inj Tp}
theorem Yj {A A':AW} {b N:Nat} {v:EvD} {vn vk vr e:Value} {z:List Value} {K:Value→AW→Prop} (g:Grow A A' N) (r:Go.Abs.AQ A' b z 40) (hz:z.length=23) (hb:A.next≤b) (hA:A'.next≤Al) (h1:(v.cells vn vk vr).all AL=true) (h2:(v.cells vn vk vr).all (fun v=>!isTuple v)=true)
  (hk:∀ B,Grow A B N→Aw A' B [b]→K (.tuple ⟨[.agg ⟨v.cells vn vk vr⟩,e]⟩) B):Bp (AZ Tp A' 40 (.pointer (some ⟨b,0,none⟩)) (.agg ⟨v.cells vn vk vr⟩)) fun B=>Ab (Au Tp B 40 (.pointer (some ⟨b,0,none⟩))) fun t=>K (.tuple ⟨[t,e]⟩) B:=by
 refine storeAll (n:=23) (new:=v.cells vn vk vr) r g.AG hA (Jw _ _ _) rfl hz h1 fun B r2 k2 n2 f2=>?_
 refine Aa (Cj r2 h2 rfl (HF _ _)) (hk B ((g.own k2 (fun x hx=>by rw [List.mem_singleton.1 hx];exact hb) (m:=0) (by omega) f2).more (by omega)) k2)
theorem Xf {s:ByteArray} {A:AW} {K:Value→AW→Prop} (hp:Pow W0) (hg:GE A) (hl:(bl s).length < 5000000) (hf:AJ A) (hA:A.next+500 * (bl s).length+100000 < Al)
  (h0:(∀ v,¬ Ht v (bl s))→∀ A',Grow A A' (400 * (bl s).length+50000)→K (.tuple ⟨[.agg ⟨Cl.cells vN vN vN⟩,.int .i64 310]⟩) A')
  (h1:∀ v vn vk vr G A',Ht v (bl s)→(∀ u,Ht u (bl s)→u=v)→szV v≤(bl s).length+1→RdV A' v vn vk vr G→(∀ x∈G,A.next≤x)→Grow A A' (400 * (bl s).length+50000)→K (.tuple ⟨[.agg ⟨v.cells vn vk vr⟩,.int .i64 0]⟩) A'):
  Wc Tp Ai W0 m0 15 [.string s] A K:=by
 have h8:=hg.lt
 refine w15 _ _ (At (S:=fun _ _ _=>False) fun _ _ _ h=>h) ?_
 rw [e15]
 refine AV Hg hf (by omega) rfl fun A1 m1=>?_
 have n1:=m1.next
 refine Aad (c:=32) (by omega) m1.AG (by omega) fun A2 v hv g2=>?_
 have n2:=g2.next
 have le2:A1.next < A2.next:=by
  obtain ⟨_,_,_,_,g,_,_,_,_,_,_,h5,h6,_⟩:=hv
  cases h6;exact h5
 have b96:B0 Tp 96 [(0,v)]=some (.agg ⟨[v,.bool false]⟩):=by
  obtain ⟨r,o,c,cs,g,b,ro,rfl,_⟩:=hv
  kernel_rfl
 have hone:=hv.one
 refine Aa b96 (BI (cs:=[v,.bool false]) g2.AG (by omega) (by simp [hone.1,Nn]) fun A3 m3=>?_)
 have n3:=m3.next
 have k3:=m3.keeps g2.AG
 have hl1:=Nw 32 (bl s)
 have tk:TK A3 A2.next (EZ 32 (bl s)) false [A1.next]:=⟨⟨v,m3.B7,hv.keeps k3 (by simp)⟩,by simp;omega⟩
 have K13:Aw A A3 []:=((m1.keeps hf).trans g2.keeps (by simp)).trans k3 (by simp)
 have z3:Go.Abs.AQ A3 A.next (Cl.cells vN vN vN) 40:=(m1.B7.keeps g2.keeps (by simp)).keeps k3 (by simp)
 have hS:DT (EZ 32 (bl s)):=fun w hw=>by
  have:∀ ws:List ByteArray,w∈ws→(bl w).length≤BY ws:=by
   intro ws
   induction ws with
   | nil=>intro h;cases h
   | cons x ws ih=>
    intro h
    show _≤(bl x).length+1+BY ws
    rcases List.mem_cons.1 h with rfl | h
    ·omega
    ·have:=ih h;omega
  have:=this _ hw
  omega
 refine Acg hp tk (by simp;omega) (hg.keeps K13 (by simp)) (by omega) hS (by omega) m3.AG (by omega) fun A4 x vn vk vr G ws' bad' hT hR hG tk4 k4 n4 f4=>?_
 have le4:=k4.next
 obtain ⟨hw,hsz⟩:=hT.sz
 obtain ⟨H,hR,hHG,hH⟩:=hR.tight
 have ho:=hR.one
 have z4:Go.Abs.AQ A4 A.next (Cl.cells vN vN vN) 40:=z3.keeps k4 (by simp;omega)
 refine AV Hg f4 (by omega) rfl fun A5 m5=>?_
 have n5:=m5.next
 have k5:=m5.keeps f4
 refine storeAll (n:=23) (new:=x.cells vn vk vr) m5.B7 m5.AG (by omega) (Jw _ _ _) rfl rfl (D7 x ho.1.1 ho.2.1.1 ho.2.2.1) fun A6 r6 k6 n6 f6=>?_
 have z6:Go.Abs.AQ A6 A.next (Cl.cells vN vN vN) 40:=(z4.keeps k5 (by simp)).keeps k6 (by simp;omega)
 have tk6:TK A6 A2.next ws' bad' [A1.next]:=(tk4.keeps k5 (by simp) (by simp)).keeps k6 (by simp;omega) (by simp;omega)
 have R6:RdV A6 x vn vk vr H:=(hR.keeps k5 (by simp)).keeps k6 fun y hy=>by have:=hH y hy;simp;omega
 have g6:Grow A A6 (400 * (bl s).length+50000):=by
  refine ⟨((K13.trans k4 fun y hy=>.inr (by rw [List.mem_singleton.1 hy];omega)).trans k5 (by simp)).trans k6 fun y hy=>.inr (by rw [List.mem_singleton.1 hy];omega),f6,by omega⟩
 have bad:∀ {B:AW},Grow A B (400 * (bl s).length+50000)→Go.Abs.AQ B A.next (Cl.cells vN vN vN) 40→B.next≤Al→(∀ v,¬ Ht v (bl s))→(Ab (B0 Tp 40 []) fun t=>Bp (AZ Tp B 40 (.pointer (some ⟨A.next,0,none⟩)) t) fun C=>Ab (Au Tp C 40 (.pointer (some ⟨A.next,0,none⟩))) fun t=>K (.tuple ⟨[t,.int .i64 310]⟩) C):=fun {B} g r hB hno=>by
  refine Aa Xb (Yj (A:=A) g r rfl (Nat.le_refl _) hB rfl rfl fun C gC _=>h0 hno C gC)
 have R1:∀ v0,Ht v0 (bl s)→x=v0∧ws'=[]∧bad'=false:=fun v0 ⟨hw0,hp0,hj⟩=>by
  have e:EZ 32 (bl s)=(Bg v0).map txt:=by
   unfold EZ
   rw [← hj,LK]
  rw [e] at hT
  exact Ade hw0 hp0 hT
 have f1:Ac Tp 96 (.pointer (some ⟨A2.next,0,none⟩)) 1=some (.pointer (some ⟨A2.next,1,none⟩)):=E2 A2.next 0
 have hx2:=ho.2.2.2
 have common:(x.kind=16→x.call.what≠0)→x.kind≠0→bad'=false→ws'=[]→(Ab (Au Tp A6 40 (.pointer (some ⟨A4.next,0,none⟩))) fun t37=>Wc Tp Ai W0 m0 28 [t37] A6 fun t38 At38=>Ab (Ag Tp .neq 9 (.tmp 42) (.tmp 43) t38 (.string s)) fun t39=>Af t39 (Ab (B0 Tp 40 []) fun t40=>Bp (AZ Tp At38 40 (.pointer (some ⟨A.next,0,none⟩)) t40) fun At41=>Ab (Au Tp At41 40 (.pointer (some ⟨A.next,0,none⟩))) fun t42=>K (.tuple ⟨[t42,(.int .i64 310)]⟩) At41) (Ab (Au Tp At38 40 (.pointer (some ⟨A4.next,0,none⟩))) fun t43=>Bp (AZ Tp At38 40 (.pointer (some ⟨A.next,0,none⟩)) t43) fun At44=>Ab (Au Tp At44 40 (.pointer (some ⟨A.next,0,none⟩))) fun t45=>K (.tuple ⟨[t45,(.int .i64 0)]⟩) At44)):=fun hc16 hk0 hb hws=>by
  subst hb;subst hws
  have hpr:=Adc hT hk0 hc16
  refine Aa (Cj r6 (Fk x ho.1.2 ho.2.1.2 ho.2.2.2) rfl (HF _ _)) ?_
  refine Aag hp hw R6 (by omega) f6 (by omega) fun B gB=>?_
  have nB:=gB.next
  have G6:Grow A B (400 * (bl s).length+50000):=⟨g6.keeps.trans gB.keeps (by simp),gB.AG,by omega⟩
  have zB:=z6.keeps gB.keeps (by simp)
  refine Aa Ed (Ak.2 ⟨fun h=>?_,fun h=>?_⟩)
  ·refine bad G6 zB (by omega) fun v0 hv0=>?_
   obtain ⟨rfl,_,_⟩:=R1 v0 hv0
   have e:BS ((Bg x).map txt)=bl s:=hv0.2.2
   have h:(!(BS ((Bg x).map txt)==bl s))=true:=h
   rw [e] at h
   simp at h
  ·have e:BS ((Bg x).map txt)=bl s:=by
    have h:(!(BS ((Bg x).map txt)==bl s))=false:=h
    simpa using h
   refine Aa (Cj (r6.keeps gB.keeps (by simp)) (Fk x ho.1.2 ho.2.1.2 ho.2.2.2) rfl (HF _ _)) ?_
   refine Yj (A:=A) G6 zB rfl (Nat.le_refl _) (by omega) (D7 x ho.1.1 ho.2.1.1 ho.2.2.1) (Fk x ho.1.2 ho.2.1.2 ho.2.2.2) fun C gC kC=>?_
   exact h1 x vn vk vr H C ⟨hw,hpr,e⟩ (fun u hu=>(R1 u hu).1.symm) (by omega) ((R6.keeps gB.keeps (by simp)).keeps kC fun y hy=>by have:=hG y (hHG y hy);simp;omega) (fun y hy=>by have:=hG y (hHG y hy);omega) gC
 refine Aa (OY _) (Aa f1 (Aa tk6.bad (Ak.2 ⟨fun hb=>?_,fun hb=>?_⟩)))
 ·refine bad g6 z6 (by omega) fun v0 hv0=>?_
  have:=(R1 v0 hv0).2.2
  rw [hb] at this;cases this
 obtain ⟨⟨vw,rw6,hw6⟩,hout⟩:=tk6
 have l0:Au Tp A6 56 (.pointer (some ⟨A2.next,0,none⟩))=some vw:=by
  rw [LX,Ay rw6.row]
  exact Cd rfl hw6.one.2
 refine Aa (OY _) (Aa (Hc _ 0) (Aa l0 (Aa hw6.len (Aa Ej (Av.2 ⟨fun hp=>?_,fun hp=>?_⟩)))))
 ·refine bad g6 z6 (by omega) fun v0 hv0=>?_
  have:=(R1 v0 hv0).2.1
  rw [this] at hp;simp at hp
 have hws:ws'=[]:=List.eq_nil_of_length_eq_zero (by omega)
 refine Aa (D2 _ 0) (Aa (Mp r6) (Aa Ah (Ae.2 ⟨fun hk=>?_,fun hk=>?_⟩)))
 ·refine bad g6 z6 (by omega) fun v0 hv0=>?_
  obtain ⟨rfl,_,_⟩:=R1 v0 hv0
  have:=NT (C0.1 hv0.2.1).2.2
  omega
 refine Aa (D2 _ 0) (Aa (Mp r6) (Aa Ah (Ae.2 ⟨fun h16=>?_,fun h16=>?_⟩)))
 ·refine Aa (CJ _ 0) (Aa (DI _ 11) (Aa (v:=.int .u8 (x.call.what:Int)) (by rw [PQ,Ay r6.row];rfl) (Aa Ah (Ae.2 ⟨fun hq=>?_,fun hq=>?_⟩))))
  ·refine bad g6 z6 (by omega) fun v0 hv0=>?_
   obtain ⟨rfl,_,_⟩:=R1 v0 hv0
   exact Xd hv0.2.1 (by omega) (by omega)
  ·exact common (fun _=>by omega) (by omega) hb hws
 ·exact common (fun h=>absurd h (by omega)) (by omega) hb hws
theorem Aal {v:EvD} {vn vk vr:Value} {G:List Nat} {A:AW} {K:Value→AW→Prop} (hp:Pow W0) (hg:GE A) (hw:v.Wf) (hrd:RdV A v vn vk vr G) (hz:3 * szV v+22 * (v.call.refs.length+v.nodes.length+v.keep.length)+1000 < 4000000) (hf:AJ A) (hA:A.next+5000000000 < Al)
  (h0:DE v=none→∀ A',Grow A A' 4000000000→K (.tuple ⟨[.string ⟨⟨[]⟩⟩,.int .i64 310]⟩) A')
  (h1:DE v=some (Bg v)→∀ A',Grow A A' 4000000000→K (.tuple ⟨[.string (txt (BS ((Bg v).map txt))),.int .i64 0]⟩) A'):
  Wc Tp Ai W0 m0 13 [.agg ⟨v.cells vn vk vr⟩] A K:=by
 have ho:=hrd.one
 have hsum:=Lh hw
 refine w13 _ _ (At (S:=fun _ _ _=>False) fun _ _ _ h=>h) ?_
 rw [e13]
 refine BI (cs:=v.cells vn vk vr) hf (by omega) (D7 v ho.1.1 ho.2.1.1 ho.2.2.1) fun A1 m1=>?_
 have n1:=m1.next
 have k1:=m1.keeps hf
 refine Aa (Cj m1.B7 (Fk v ho.1.2 ho.2.1.2 ho.2.2.2) rfl (HF _ _)) ?_
 refine Aag hp hw (hrd.keeps k1 (by simp)) (by omega) m1.AG (by omega) fun A2 g2=>?_
 have n2:=g2.next
 have G2:Grow A A2 1700000000:=⟨k1.trans g2.keeps (by simp),g2.AG,by omega⟩
 have hjl:(BS ((Bg v).map txt)).length≤BE (Bg v)+(Bg v).length:=by
  unfold Bg
  show (_++CZ (List.map txt _)).length≤_
  rw [List.length_append,Hw,Kj,AS,List.length_map,C8,List.length_cons]
  omega
 have hbl:(bl (txt (BS ((Bg v).map txt)))).length≤4000000:=by rw [C8];omega
 have tail:∀ {B:AW} {x:EvD} {wn wk wr:Value} {H:List Nat},Grow A B 3800000000→Grow A2 B 3000000000→RdV B x wn wk wr H→szV x < 900000000→Ht x (BS ((Bg v).map txt))→(∀ u,Ht u (BS ((Bg v).map txt))→u=x)→(Ap (B5 Tp B 40) fun t6 At6=>Bp (AZ Tp At6 40 t6 (.agg ⟨x.cells wn wk wr⟩)) fun At7=>Ab (Ag Tp .neq 24 (.tmp 14) (.const (.int .i64 0)) (.int .i64 0) (.int .i64 0)) fun t8=>Af t8 (K (.tuple ⟨[(.string ⟨⟨[]⟩⟩),(.int .i64 310)]⟩) At7) (Ab (Au Tp At7 40 t6) fun t9=>Ab (Au Tp At7 40 (.pointer (some ⟨A.next,0,none⟩))) fun t10=>Wc Tp Ai W0 m0 29 [t9,t10] At7 fun t11 At11=>Ab (unA Tp .not t11) fun t12=>Af t12 (K (.tuple ⟨[(.string ⟨⟨[]⟩⟩),(.int .i64 310)]⟩) At11) (K (.tuple ⟨[.string (txt (BS ((Bg v).map txt))),(.int .i64 0)]⟩) At11))):=fun {B x wn wk wr H} gB gB2 hR hsx hL hu=>by
  have nB:=gB.next
  obtain ⟨H',hR,_,hH⟩:=hR.tight
  have hx:=hR.one
  refine AV Hg gB.AG (by omega) rfl fun A5 m5=>?_
  have n5:=m5.next
  have k5:=m5.keeps gB.AG
  refine storeAll (n:=23) (new:=x.cells wn wk wr) m5.B7 m5.AG (by omega) (Jw _ _ _) rfl rfl (D7 x hx.1.1 hx.2.1.1 hx.2.2.1) fun A6 r6 k6 n6 f6=>?_
  have K6:Aw B A6 []:=k5.trans k6 fun y hy=>.inr (by rw [List.mem_singleton.1 hy];omega)
  have leB:=gB.le
  have G6:Grow A A6 3800000001:=⟨gB.keeps.trans K6 (by simp),f6,by omega⟩
  have hr0:Go.Abs.AQ A6 A.next (v.cells vn vk vr) 40:=((m1.B7.keeps g2.keeps (by simp)).keeps gB2.keeps (by simp)).keeps K6 (by simp)
  refine Aa Cm (BO.2 ⟨fun h=>absurd rfl h,fun _=>?_⟩)
  refine Aa (Cj r6 (Fk x hx.1.2 hx.2.1.2 hx.2.2.2) rfl (HF _ _)) (Aa (Cj hr0 (Fk v ho.1.2 ho.2.1.2 ho.2.2.2) rfl (HF _ _)) ?_)
  refine Acl (hR.keeps K6 (by simp)) (hrd.keeps G6.keeps (by simp)) f6 (by omega) hsx (by omega) fun A7 b hb g7=>?_
  have G7:Grow A A7 4000000000:=(G6.trans g7).more (by omega)
  refine Aa EP (Ak.2 ⟨fun h=>?_,fun h=>?_⟩)
  ·refine h0 ?_ A7 G7
   cases hpr:DE v with
   | none=>rfl
   | some ws=>
    exfalso
    have e:=(C0.1 hpr).1
    subst e
    have this:x=v:=(hu v ⟨hw,hpr,rfl⟩).symm
    have:=hb.2 this
    rw [this] at h;simp at h
  ·have hbt:b=true:=by simpa using h
   have e:=hb.1 hbt
   subst e
   exact h1 hL.2.1 A7 G7
 refine Xf hp (hg.keeps G2.keeps (by simp)) (by omega) g2.AG (by omega) (fun hno A3 g3=>?_) (fun x wn wk wr H A3 hL hu hsx hR hH g3=>?_)
 ·have n3:=g3.next
  have G3:Grow A A3 3800000000:=(G2.trans g3).more (by omega)
  refine Aa rfl (Aa rfl (AV Hg g3.AG (by omega) rfl fun A5 m5=>?_))
  have n5:=m5.next
  have k5:=m5.keeps g3.AG
  refine storeAll (n:=23) (new:=Cl.cells vN vN vN) m5.B7 m5.AG (by omega) (Jw _ _ _) rfl rfl rfl fun A6 r6 k6 n6 f6=>?_
  have K6:Aw A3 A6 []:=k5.trans k6 fun y hy=>.inr (by rw [List.mem_singleton.1 hy];omega)
  refine Aa Cm (BO.2 ⟨fun _=>?_,fun h=>absurd h (by decide)⟩)
  refine h0 ?_ A6 ⟨G3.keeps.trans K6 (by simp),f6,by omega⟩
  cases hpr:DE v with
  | none=>rfl
  | some ws=>
   exfalso
   have e:=(C0.1 hpr).1
   subst e
   exact hno v ⟨hw,hpr,rfl⟩
 ·have n3:=g3.next
  refine Aa rfl (Aa rfl ?_)
  exact tail ((G2.trans g3).more (by omega)) (g3.more (by omega)) hR (by omega) hL hu
end
theorem O8 {ws:List Word} (w:Word) (h:ws≠[]):BS ((ws++[w]).map txt)=BS (ws.map txt)++[32]++w:=by
 cases ws with
 | nil=>exact absurd rfl h
 | cons x r=>
  show x++CZ ((r++[w]).map txt)=x++CZ (r.map txt)++[32]++w
  rw [List.map_append,KW]
  have:CZ ([w].map txt)=[32]++w:=by simp [CZ,C8]
  rw [this];simp
theorem Cb (ws:List Word):(BS (ws.map txt)).length≤BE ws+ws.length:=by
 cases ws with
 | nil=>simp [BS]
 | cons x r=>
  show (x++CZ (r.map txt)).length≤_
  rw [List.length_append,Hw,Kj,AS,List.length_map,List.length_cons]
  omega
theorem Dn {j:Word} (h:j.length < 1000000000) (xo yo:Operand):Ag Tp .add 9 xo yo (.string (txt j)) (.string ⟨⟨[32]⟩⟩)=some (.string (txt (j++[32]))):=by
 have h1:(bl (txt j)).length+(bl (txt [32])).length < 1099511627776:=by rw [C8,C8];simp;omega
 have:=Is (xo:=xo) (yo:=yo) h1
 exact this
theorem Fc {ws:List Word} {w:Word} (h0:ws≠[]) (h:BE ws+ws.length < 1000000000) (hw:w.length < 1000000000) (xo yo:Operand):Ag Tp .add 9 xo yo (.string (txt (BS (ws.map txt)++[32]))) (.string (txt w))=some (.string (txt (BS ((ws++[w]).map txt)))):=by
 have h2:=Cb ws
 have h1:(bl (txt (BS (ws.map txt)++[32]))).length+(bl (txt w)).length < 1099511627776:=by rw [C8,C8,List.length_append];simp;omega
 have:=Is (xo:=xo) (yo:=yo) h1
 rw [O8 w h0]
 exact this
theorem EF {h:UInt8} {k:Nat} (hk:k < 256) (e:(h.toNat:Int)=(k:Int)):h=UInt8.ofNat k:=by
 have:h.toNat=k:=by omega
 rw [← this]
 simp
section
variable {W0:World} {m0:Inj Tp}
theorem Ack {n:Nat} {A:AW} {K:Value→AW→Prop} (hk:K (.tuple ⟨[.string (txt (Aj n).1),.string (txt (Aj n).2)]⟩) A):Wc Tp Ai W0 m0 30 [.int .u8 (n:Int)] A K:=by
 refine w30 _ _ (At (S:=fun _ _ _=>False) fun _ _ _ h=>h) ?_
 rw [e30]
 refine Aa Ah (Ae.2 ⟨fun hc=>(by obtain rfl:n=1:=(by omega);exact hk),fun hc1=>?_⟩)
 refine Aa Ah (Ae.2 ⟨fun hc=>(by obtain rfl:n=2:=(by omega);exact hk),fun hc2=>?_⟩)
 refine Aa Ah (Ae.2 ⟨fun hc=>(by obtain rfl:n=3:=(by omega);exact hk),fun hc3=>?_⟩)
 refine Aa Ah (Ae.2 ⟨fun hc=>(by obtain rfl:n=4:=(by omega);exact hk),fun hc4=>?_⟩)
 refine Aa Ah (Ae.2 ⟨fun hc=>(by obtain rfl:n=5:=(by omega);exact hk),fun hc5=>?_⟩)
 refine Aa Ah (Ae.2 ⟨fun hc=>(by obtain rfl:n=6:=(by omega);exact hk),fun hc6=>?_⟩)
 refine Aa Ah (Ae.2 ⟨fun hc=>(by obtain rfl:n=7:=(by omega);exact hk),fun hc7=>?_⟩)
 refine Aa Ah (Ae.2 ⟨fun hc=>(by obtain rfl:n=8:=(by omega);exact hk),fun hc8=>?_⟩)
 refine Aa Ah (Ae.2 ⟨fun hc=>(by obtain rfl:n=9:=(by omega);exact hk),fun hc9=>?_⟩)
 refine Aa Ah (Ae.2 ⟨fun hc=>(by obtain rfl:n=10:=(by omega);exact hk),fun hc10=>?_⟩)
 refine Aa Ah (Ae.2 ⟨fun hc=>(by obtain rfl:n=11:=(by omega);exact hk),fun hc11=>?_⟩)
 refine Aa Ah (Ae.2 ⟨fun hc=>(by obtain rfl:n=12:=(by omega);exact hk),fun hc12=>?_⟩)
 refine Aa Ah (Ae.2 ⟨fun hc=>(by obtain rfl:n=13:=(by omega);exact hk),fun hc13=>?_⟩)
 refine Aa Ah (Ae.2 ⟨fun hc=>(by obtain rfl:n=14:=(by omega);exact hk),fun hc14=>?_⟩)
 refine Aa Ah (Ae.2 ⟨fun hc=>(by obtain rfl:n=15:=(by omega);exact hk),fun hc15=>?_⟩)
 refine Aa Ah (Ae.2 ⟨fun hc=>(by obtain rfl:n=16:=(by omega);exact hk),fun hc16=>?_⟩)
 refine Aa Ah (Ae.2 ⟨fun hc=>(by obtain rfl:n=17:=(by omega);exact hk),fun hc17=>?_⟩)
 have h:n=0∨17 < n:=by omega
 rcases h with rfl | h
 ·exact hk
 ·rw [Cn h] at hk;exact hk
theorem Ab6 {n:Nat} {A:AW} {K:Value→AW→Prop} (hk:K (.tuple ⟨[.string (txt (partsOf n).1),.string (txt (partsOf n).2)]⟩) A):Wc Tp Ai W0 m0 61 [.int .u8 (n:Int)] A K:=by
 refine w61 _ _ (At (S:=fun _ _ _=>False) fun _ _ _ h=>h) ?_
 rw [e61]
 refine Aa Ah (Ae.2 ⟨fun hc=>(by obtain rfl:n=1:=(by omega);exact hk),fun hc1=>?_⟩)
 refine Aa Ah (Ae.2 ⟨fun hc=>(by obtain rfl:n=2:=(by omega);exact hk),fun hc2=>?_⟩)
 refine Aa Ah (Ae.2 ⟨fun hc=>(by obtain rfl:n=3:=(by omega);exact hk),fun hc3=>?_⟩)
 refine Aa Ah (Ae.2 ⟨fun hc=>(by obtain rfl:n=4:=(by omega);exact hk),fun hc4=>?_⟩)
 refine Aa Ah (Ae.2 ⟨fun hc=>(by obtain rfl:n=5:=(by omega);exact hk),fun hc5=>?_⟩)
 refine Aa Ah (Ae.2 ⟨fun hc=>(by obtain rfl:n=6:=(by omega);exact hk),fun hc6=>?_⟩)
 refine Aa Ah (Ae.2 ⟨fun hc=>(by obtain rfl:n=7:=(by omega);exact hk),fun hc7=>?_⟩)
 refine Aa Ah (Ae.2 ⟨fun hc=>(by obtain rfl:n=8:=(by omega);exact hk),fun hc8=>?_⟩)
 refine Aa Ah (Ae.2 ⟨fun hc=>(by obtain rfl:n=9:=(by omega);exact hk),fun hc9=>?_⟩)
 refine Aa Ah (Ae.2 ⟨fun hc=>(by obtain rfl:n=10:=(by omega);exact hk),fun hc10=>?_⟩)
 refine Aa Ah (Ae.2 ⟨fun hc=>(by obtain rfl:n=11:=(by omega);exact hk),fun hc11=>?_⟩)
 refine Aa Ah (Ae.2 ⟨fun hc=>(by obtain rfl:n=12:=(by omega);exact hk),fun hc12=>?_⟩)
 refine Aa Ah (Ae.2 ⟨fun hc=>(by obtain rfl:n=13:=(by omega);exact hk),fun hc13=>?_⟩)
 refine Aa Ah (Ae.2 ⟨fun hc=>(by obtain rfl:n=14:=(by omega);exact hk),fun hc14=>?_⟩)
 refine Aa Ah (Ae.2 ⟨fun hc=>(by obtain rfl:n=15:=(by omega);exact hk),fun hc15=>?_⟩)
 refine Aa Ah (Ae.2 ⟨fun hc=>(by obtain rfl:n=16:=(by omega);exact hk),fun hc16=>?_⟩)
 refine Aa Ah (Ae.2 ⟨fun hc=>(by obtain rfl:n=17:=(by omega);exact hk),fun hc17=>?_⟩)
 refine Aa Ah (Ae.2 ⟨fun hc=>(by obtain rfl:n=18:=(by omega);exact hk),fun hc18=>?_⟩)
 refine Aa Ah (Ae.2 ⟨fun hc=>(by obtain rfl:n=19:=(by omega);exact hk),fun hc19=>?_⟩)
 refine Aa Ah (Ae.2 ⟨fun hc=>(by obtain rfl:n=20:=(by omega);exact hk),fun hc20=>?_⟩)
 refine Aa Ah (Ae.2 ⟨fun hc=>(by obtain rfl:n=21:=(by omega);exact hk),fun hc21=>?_⟩)
 have h:n=0∨21 < n:=by omega
 rcases h with rfl | h
 ·exact hk
 ·rw [Cv h] at hk;exact hk
theorem XC (b:Nat):Ao Tp 118 (.pointer (some ⟨b,0,none⟩)) (.int .i64 0)=some (.pointer (some ⟨b,0,none⟩)):=by kernel_rfl
theorem XB (b:Nat):Ao Tp 118 (.pointer (some ⟨b,0,none⟩)) (.int .i64 1)=some (.pointer (some ⟨b,1,none⟩)):=by kernel_rfl
theorem XA (b:Nat):Ao Tp 118 (.pointer (some ⟨b,0,none⟩)) (.int .i64 2)=some (.pointer (some ⟨b,2,none⟩)):=by kernel_rfl
theorem Xz (b:Nat):Ao Tp 118 (.pointer (some ⟨b,0,none⟩)) (.int .i64 3)=some (.pointer (some ⟨b,3,none⟩)):=by kernel_rfl
theorem YF (s t u v:ByteArray):B0 Tp 118 [(0,.string s),(1,.string t),(2,.string u),(3,.string v)]=some (.agg ⟨[.string s,.string t,.string u,.string v]⟩):=by kernel_rfl
theorem Z4 {a b:Bool} {w0 w1 w2 w3:Word} {A:AW} {K:Value→AW→Prop} (hf:AJ A) (hA:A.next < Al) (hk:∀ A',Grow A A' 1→K (.string (txt (FV a b w0 w1 w2 w3))) A'):
  Wc Tp Ai W0 m0 62 [.bool a,.bool b,.agg ⟨[.string (txt w0),.string (txt w1),.string (txt w2),.string (txt w3)]⟩] A K:=by
 refine w62 _ _ _ _ (At (S:=fun _ _ _=>False) fun _ _ _ h=>h) ?_
 rw [e62]
 refine BI (cs:=[.string (txt w0),.string (txt w1),.string (txt w2),.string (txt w3)]) hf (by omega) rfl fun A1 m1=>?_
 have g:=Grow.made m1 hf
 have l:∀ {i:Nat} {s:ByteArray},[Value.string (txt w0),.string (txt w1),.string (txt w2),.string (txt w3)][i]? =some (.string s)→Au Tp A1 9 (.pointer (some ⟨A.next,i,none⟩))=some (.string s):=fun {i s} h=>by
  rw [FH,Ay m1.B7.row]
  exact Cd h rfl
 have e1:IntKind.i64.wrap (0+1)=1:=by decide
 have e2:IntKind.i64.wrap (1+2)=3:=by decide
 have e3:IntKind.i64.wrap (0+2)=2:=by decide
 refine Ak.2 ⟨fun h1=>?_,fun h1=>?_⟩
 ·refine Aa AU ?_
  rw [e1]
  refine Ak.2 ⟨fun h2=>?_,fun h2=>?_⟩
  ·refine Aa AU ?_
   rw [e2]
   refine Aa (Xz _) (Aa (l (i:=3) rfl) ?_)
   subst h1;subst h2;exact hk A1 g
  ·refine Aa (XB _) (Aa (l (i:=1) rfl) ?_)
   subst h1;subst h2;exact hk A1 g
 ·refine Ak.2 ⟨fun h2=>?_,fun h2=>?_⟩
  ·refine Aa AU ?_
   rw [e3]
   refine Aa (XA _) (Aa (l (i:=2) rfl) ?_)
   subst h1;subst h2;exact hk A1 g
  ·refine Aa (XC _) (Aa (l (i:=0) rfl) ?_)
   subst h1;subst h2;exact hk A1 g
theorem Qd {s:ByteArray} (h:(bl s==bl ⟨⟨[]⟩⟩)=true):s=.empty:=Fg (eq_of_beq h)
theorem Ts {b:Bool} {x y:Word} {A:AW} {K:Value→AW→Prop} (hk:K (.string (txt (CL b x y))) A):Wc Tp Ai W0 m0 34 [.bool b,.string ⟨⟨x⟩⟩,.string ⟨⟨y⟩⟩] A K:=by
 refine Acj ?_
 cases b <;> exact hk
theorem Ach {c:Ax} {vr:Value} {F:List Nat} {A:AW} {K:Value→AW→Prop} (hrd:RdE 1 cR A vr c.refs F) (hf:AJ A) (hA:A.next < Al) (hk:∀ A' (b:Bool),(b=true↔c=Bf)→Grow A A' 1→K (.bool b) A'):Wc Tp Ai W0 m0 36 [.agg ⟨c.cells vr⟩] A K:=by
 have hvr:=hrd.one.2
 refine w36 _ _ (At (S:=fun _ _ _=>False) fun _ _ _ h=>h) ?_
 rw [e36]
 refine BI (cs:=c.cells vr) hf (by omega) (C4 c hrd.one.1) fun A1 m1=>?_
 have g:=Grow.made m1 hf
 have r:=m1.B7
 have no:∀ {P:Prop},(c=Bf→P)→¬ P→K (.bool false) A1:=fun h1 h2=>hk A1 false ⟨fun h=>(by cases h),fun h=>absurd (h1 h) h2⟩ g
 refine Aa (DI _ 0) (Aa (N1 r) (Aa Ah (Ae.2 ⟨fun h_what=>?_,fun h=>no (P:=c.what=0) (fun e=>by rw [e];rfl) fun e=>h (by rw [e];rfl)⟩)))
 have h_what:c.what=0:=by omega
 refine Aa (Gb _ 0) (Aa (RH r) (Aa Ah (Ae.2 ⟨fun h_ses=>?_,fun h=>no (P:=c.ses=0) (fun e=>by rw [e];rfl) fun e=>h (by rw [e];rfl)⟩)))
 have h_ses:c.ses=0:=by omega
 refine Aa (Ct _ 0) (Aa (Jq r) (Aa B4 (Ak.2 ⟨fun h_queue=>?_,fun h=>no (P:=c.queue=.empty) (fun e=>by rw [e];rfl) fun e=>by rw [e] at h;cases h⟩)))
 have h_queue:c.queue=.empty:=Qd h_queue
 refine Aa (CA _ 0) (Aa (Jp r) (Aa B4 (Ak.2 ⟨fun h_tag=>?_,fun h=>no (P:=c.tag=.empty) (fun e=>by rw [e];rfl) fun e=>by rw [e] at h;cases h⟩)))
 have h_tag:c.tag=.empty:=Qd h_tag
 refine Aa (Du _ 0) (Aa (MF r) (Aa Qo (Aa (WB _ _ _ _) (Ak.2 ⟨fun h_x=>?_,fun h=>no (P:=c.x=EM) (fun e=>by rw [e];rfl) fun e=>by rw [e,Db.2 rfl] at h;cases h⟩))))
 have h_x:c.x=EM:=Db.1 h_x
 refine Aa (CU _ 0) (Aa (Ka r) (Aa Ah (Ae.2 ⟨fun h_n=>?_,fun h=>no (P:=c.n=0) (fun e=>by rw [e];rfl) fun e=>h (by rw [e];rfl)⟩)))
 have h_n:c.n=0:=by omega
 refine Aa (BZ _ 0) (Aa (Hr r) (Aa EP (Ak.2 ⟨fun h_a=>?_,fun h=>no (P:=c.a=false) (fun e=>by rw [e];rfl) fun e=>by rw [e] at h;cases h⟩)))
 have h_a:c.a=false:=by simpa using h_a
 refine Aa (Dj _ 0) (Aa (Lx r) (Aa EP (Ak.2 ⟨fun h_b=>?_,fun h=>no (P:=c.b=false) (fun e=>by rw [e];rfl) fun e=>by rw [e] at h;cases h⟩)))
 have h_b:c.b=false:=by simpa using h_b
 refine Aa (Di _ 0) (Aa (JM r hvr) (Aa (hrd.len IQ) (Aa Ah (Ae.2 ⟨fun h_refs=>?_,fun h=>no (P:=c.refs=[]) (fun e=>by rw [e];rfl) fun e=>h (by rw [e];rfl)⟩))))
 have h_refs:c.refs=[]:=List.eq_nil_of_length_eq_zero (by omega)
 refine Aa (Eh _ 0) (Aa (JL r) (Aa B4 ?_))
 refine hk A1 _ ⟨fun h=>?_,fun h=>by rw [h];rfl⟩ g
 have h_body:c.body=.empty:=Qd h
 clear no hk h hrd m1 r g hvr
 cases c
 simp only at h_what h_ses h_queue h_tag h_x h_n h_a h_b h_refs h_body
 simp only [h_what,h_ses,h_queue,h_tag,h_x,h_n,h_a,h_b,h_refs,h_body]
 rfl
end
theorem Gf (l:List Word) (j:Nat):BE (l.take j)+(l.take j).length≤BE l+l.length:=by
 conv=>rhs;rw [← List.take_append_drop j l,AM,List.length_append]
 omega
theorem XY {x y:Word} (h:x.length+y.length < 1099511627776) (xo yo:Operand):Ag Tp .add 9 xo yo (.string (txt x)) (.string (txt y))=some (.string (txt (x++y))):=by
 have:=Is (a:=txt x) (b:=txt y) (xo:=xo) (yo:=yo) h
 exact this
theorem Zg {A:AW} {v:Value} {l:List (ByteArray × Nat)} {F:List Nat} (h:RdE 1 cR A v l F) {i:Nat} {p:ByteArray × Nat} (hi:l[i]? =some p):∃ r o,Ao Tp 36 v (.int .i64 (i:Int))=some (.pointer (some ⟨r,o,none⟩))∧
  ∀ {B:AW},Aw A B []→Au Tp B 9 (.pointer (some ⟨r,o,none⟩))=some (.string p.1)∧Au Tp B 35 (.pointer (some ⟨r,o+1,none⟩))=some (.int .u64 (p.2:Int)):=by
 have hlt:=(List.getElem?_eq_some_iff.1 hi).1
 rcases h with ⟨rfl,_⟩ | ⟨r,o,c,cs,e,g,b,ro,rfl,h2,h3,h4,h5⟩
 ·simp at hi
 ·obtain ⟨rest,hr⟩:=h5 i p hi
  refine ⟨r,o+i * 2,TP IQ hlt,fun {B} k=>?_⟩
  have h2:=k.get r _ h2 h3 (by simp)
  have q0:cs[o+i * 2]? =some (.string p.1):=by
   have:=congrArg (fun l:List Value=>l[0]?) hr
   simpa [cR] using this
  have q1:cs[o+i * 2+1]? =some (.int .u64 (p.2:Int)):=by
   have:=congrArg (fun l:List Value=>l[1]?) hr
   simpa [cR] using this
  exact ⟨by rw [FH,Ay h2];exact Cd q0 rfl,by rw [Wh,Ay h2];exact Cd q1 rfl⟩
def KG (c:Ax):List Word:=[Lib.decDigits c.ses,(partsOf c.what).1]
structure JC (A0 A:AW) (c:Ax) (vr:Value) (b q z:Nat) (i:Nat) (ws:List Word) (left:Ax) (lr:Value):Prop where
 r:Go.Abs.AQ A b (c.cells vr) 38
 l:Go.Abs.AQ A q (left.cells lr) 38
 zr:∃ zc,Go.Abs.AQ A z zc 38∧zc.length=12
 rd:(lr=vr∧left.refs=c.refs)∨(lr=vN∧left.refs=[])
 hw:ws=KG c++((partsOf c.what).2.take i).flatMap (Co c)
 go:goC c (partsOf c.what).2 (KG c) (zC c)=goC c ((partsOf c.what).2.drop i) ws left
 k:Aw A0 A []
 f:AJ A
 hq:A0.next≤q
 hz:A0.next≤z
 n1:b≠q
 n2:b≠z
 n3:q≠z
theorem JC.grow {A0 A A':AW} {c:Ax} {vr lr:Value} {b q z i:Nat} {ws:List Word} {left:Ax} {m:Nat} (j:JC A0 A c vr b q z i ws left lr) (g:Grow A A' m):JC A0 A' c vr b q z i ws left lr:=by
 obtain ⟨zc,h1,h2⟩:=j.zr
 exact ⟨j.r.keeps g.keeps (by simp),j.l.keeps g.keeps (by simp),⟨zc,h1.keeps g.keeps (by simp),h2⟩,j.rd,j.hw,j.go,j.k.trans g.keeps (by simp),g.AG,j.hq,j.hz,j.n1,j.n2,j.n3⟩
theorem JC.step {A0 A A':AW} {c:Ax} {vr lr lr':Value} {b q z i:Nat} {ws w:List Word} {left:Ax} {h:UInt8} (j:JC A0 A c vr b q z i ws left lr) (hi:(partsOf c.what).2[i]? =some h) (hl:J4 c h=some w) (l2:Go.Abs.AQ A' q ((Dp left h).cells lr') 38) (k2:Aw A A' [q]) (f2:AJ A')
  (hr:(lr'=lr∧(Dp left h).refs=left.refs)∨(lr'=vN∧(Dp left h).refs=[])):JC A0 A' c vr b q z (i+1) (ws++w) (Dp left h) lr':=by
 obtain ⟨zc,h1,h2⟩:=j.zr
 refine ⟨j.r.keeps k2 (by simp [j.n1]),l2,⟨zc,h1.keeps k2 (by simp [j.n3.symm]),h2⟩,?_,?_,?_,j.k.trans k2 fun x hx=>.inr (by rw [List.mem_singleton.1 hx];exact j.hq),f2,j.hq,j.hz,j.n1,j.n2,j.n3⟩
 ·rcases hr with ⟨rfl,e⟩ | ⟨rfl,e⟩
  ·rw [e];exact j.rd
  ·exact .inr ⟨rfl,e⟩
 ·rw [BH hi,List.flatMap_append,← List.append_assoc,← j.hw]
  simp [Co,hl]
 ·rw [j.go]
  have e:(partsOf c.what).2.drop i=h::(partsOf c.what).2.drop (i+1):=by
   obtain ⟨hlt,e⟩:=List.getElem?_eq_some_iff.1 hi
   rw [List.drop_eq_getElem_cons hlt,e]
  rw [e]
  show (match J4 c h with | none=>none | some w=>goC c _ (ws++w) (Dp left h))=_
  rw [hl]
theorem JC.bad {A0 A:AW} {c:Ax} {vr lr:Value} {b q z i:Nat} {ws:List Word} {left:Ax} {h:UInt8} (j:JC A0 A c vr b q z i ws left lr) (hi:(partsOf c.what).2[i]? =some h) (hl:J4 c h=none):CT c=none:=by
 show goC c (partsOf c.what).2 (KG c) (zC c)=none
 rw [j.go]
 have e:(partsOf c.what).2.drop i=h::(partsOf c.what).2.drop (i+1):=by
  obtain ⟨hlt,e⟩:=List.getElem?_eq_some_iff.1 hi
  rw [List.drop_eq_getElem_cons hlt,e]
 rw [e]
 show (match J4 c h with | none=>none | some w=>goC c _ (ws++w) (Dp left h))=_
 rw [hl]
theorem JC.sum {A0 A:AW} {c:Ax} {vr lr:Value} {b q z i:Nat} {ws:List Word} {left:Ax} (j:JC A0 A c vr b q z i ws left lr):BE ws+ws.length≤BE (Bv c)+(Bv c).length:=by
 have e:Bv c=ws++((partsOf c.what).2.drop i).flatMap (Co c):=by
  rw [j.hw]
  show KG c++(partsOf c.what).2.flatMap (Co c)=_
  conv=>lhs;rw [← List.take_append_drop i (partsOf c.what).2,List.flatMap_append,← List.append_assoc]
 rw [e,AM,List.length_append]
 omega
theorem JC.one {A0 A:AW} {c:Ax} {vr lr:Value} {b q z i:Nat} {ws:List Word} {left:Ax} (j:JC A0 A c vr b q z i ws left lr) (h:AL vr=true∧isTuple vr=false):AL lr=true∧isTuple lr=false:=by
 rcases j.rd with ⟨rfl,_⟩ | ⟨rfl,_⟩
 ·exact h
 ·exact ⟨rfl,rfl⟩
theorem JC.ne {A0 A:AW} {c:Ax} {vr lr:Value} {b q z i:Nat} {ws:List Word} {left:Ax} (j:JC A0 A c vr b q z i ws left lr):ws≠[]:=by
 rw [j.hw];simp [KG]
theorem JC.done {A0 A:AW} {c:Ax} {vr lr:Value} {b q z i:Nat} {ws:List Word} {left:Ax} (j:JC A0 A c vr b q z i ws left lr) (hi:(partsOf c.what).2.length≤i):CT c=some (Bv c,left)∧ws=Bv c:=by
 have e:ws=Bv c:=by
  rw [j.hw,List.take_of_length_le hi];rfl
 have h:=j.go
 rw [List.drop_eq_nil_of_le hi] at h
 refine ⟨?_,e⟩
 rw [← e]
 exact h
theorem Uz (n:Nat):∀ h∈(partsOf n).2,h=81∨h=84∨h=66∨h=78∨h=88∨h=101∨h=109∨h=100∨h=115∨h=102∨h=82:=by
 rcases Nat.lt_or_ge 21 n with h | h
 ·rw [Cv h];simp
 ·have:∀ n < 22,∀ h∈(partsOf n).2,h=81∨h=84∨h=66∨h=78∨h=88∨h=101∨h=109∨h=100∨h=115∨h=102∨h=82:=by decide
  exact this n (by omega)
theorem Ur (n:Nat):(partsOf n).2.length≤3:=by
 rcases Nat.lt_or_ge 21 n with h | h
 ·rw [Cv h];decide
 ·have:∀ n < 22,(partsOf n).2.length≤3:=by decide
  exact this n (by omega)
theorem AcT {n i:Nat} (h:i < (partsOf n).2.length):∃ b,(partsOf n).2[i]? =some b∧b∈(partsOf n).2:=⟨_,List.getElem?_eq_getElem h,List.getElem_mem h⟩
theorem AaC (A:AW) (a:Addr) (v:Value):AZ Tp A 35 (.pointer (some a)) v=(bif Nat.beq v.cells.toList.length 1 then A.setCells a v.cells.toList else none):=by kernel_rfl
section
variable {W0:World} {m0:Inj Tp}
set_option maxHeartbeats 4000000 in
theorem Aci {c:Ax} {vr:Value} {F:List Nat} {A:AW} {K:Value→AW→Prop} (hw:c.Wf) (hrd:RdE 1 cR A vr c.refs F) (hsz:szC c < 90000000) (hsum:BE (Bv c)+(Bv c).length < 300000000) (hf:AJ A) (hA:A.next+60 * (BE (Bv c)+(Bv c).length)+100000000 < Al)
  (h0:CT c=none→∀ A' (left:Ax) (lr:Value),AL lr=true→isTuple lr=false→Grow A A' (60 * (BE (Bv c)+(Bv c).length)+10000)→K (.tuple ⟨[.string ⟨⟨[]⟩⟩,.agg ⟨left.cells lr⟩,.bool false]⟩) A')
  (h1:∀ left,CT c=some (Bv c,left)→∀ A' (lr:Value),((lr=vr∧left.refs=c.refs)∨(lr=vN∧left.refs=[]))→Grow A A' (60 * (BE (Bv c)+(Bv c).length)+10000)→K (.tuple ⟨[.string (txt (BS ((Bv c).map txt))),.agg ⟨left.cells lr⟩,.bool (!((partsOf c.what).1==[]))]⟩) A'):
  Wc Tp Ai W0 m0 35 [.agg ⟨c.cells vr⟩] A K:=by
 have hmx:Al=1099511627776:=rfl
 have hvr:=hrd.one
 have hrl:=Iz c.refs
 have hszc:szC c=(bl c.queue).length+(bl c.tag).length+(bl c.body).length+szR c.refs:=rfl
 have hql:=Fl (bl c.queue)
 have htl:=Fl (bl c.tag)
 have hbl:=Fl (bl c.body)
 have hpl:=Ur c.what
 let M:=BE (Bv c)+(Bv c).length
 let I:Nat→Nat→List Value→AW→Prop:=fun g id vals A'=>
  (id=0∧∃ (q i:Nat) (ws:List Word) (left:Ax) (lr:Value),vals=[.pointer (some ⟨A.next,0,none⟩),.pointer (some ⟨A.next+1,0,none⟩),.string (txt (partsOf c.what).1),.string (txt (partsOf c.what).2),.string (txt (BS (ws.map txt))),.pointer (some ⟨q,0,none⟩),.int .i64 (i:Int)]∧JC A A' c vr A.next q (A.next+1) i ws left lr∧i≤(partsOf c.what).2.length∧A'.next≤A.next+100+1000 * i+60 * (BE ws+ws.length)∧g=((partsOf c.what).2.length - i) * 100000000)∨
  (id=3∧∃ (q i k:Nat) (ws:List Word) (left:Ax) (lr:Value),vals=[.pointer (some ⟨A.next,0,none⟩),.pointer (some ⟨A.next+1,0,none⟩),.string (txt (partsOf c.what).1),.string (txt (partsOf c.what).2),.string (txt (BS ((ws++(c.refs.take k).map DA).map txt))),.pointer (some ⟨q,0,none⟩),.int .i64 (i:Int),.int .i64 (k:Int)]∧JC A A' c vr A.next q (A.next+1) i ws left lr∧(partsOf c.what).2[i]? =some 82∧k≤c.refs.length∧A'.next≤A.next+100+1000 * i+60 * (BE (ws++(c.refs.take k).map DA)+(ws++(c.refs.take k).map DA).length)∧g=((partsOf c.what).2.length - i) * 100000000 - 1 - k)
 refine w35 _ _ (c35 (I:=I) ?_) ?_
 ·rintro g id vals A' d (⟨rfl,q,i,ws,left,lr,rfl,j,hi,hn,rfl⟩ | ⟨rfl,q,i,k,ws,left,lr,rfl,j,hp0,hk,hn,rfl⟩) hd
  ·rw [Abc]
   simp only [L35,List.map_cons,List.map_nil,List.cons.injEq,and_true] at hd
   obtain ⟨d1,d3,d5,d6,d7,d8,d9⟩:=hd
   simp only [d1,d3,d5,d6,d7,d8,d9]
   have hne:=j.ne
   have hs0:=j.sum
   refine Aa (FQ _ _) (Aa BD (Av.2 ⟨fun hlt=>?_,fun hge=>?_⟩))
   ·have hlt:i < (partsOf c.what).2.length:=by have:(i:Int) < ((partsOf c.what).2.length:Int):=hlt;omega
    obtain ⟨h,hp0,hmem⟩:=AcT hlt
    have e2:IntKind.i64.wrap ((i:Int)+1)=((i+1:Nat):Int):=wrap_i64 (by omega) (by omega)
    have nxt:∀ {A2:AW} {w:List Word} {left':Ax} {lr':Value},JC A A2 c vr A.next q (A.next+1) (i+1) (ws++w) left' lr'→A2.next≤A.next+100+1000 * (i+1)+60 * (BE (ws++w)+(ws++w).length)→∃ g2,g2 < ((partsOf c.what).2.length - i) * 100000000∧I g2 0 [.pointer (some ⟨A.next,0,none⟩),.pointer (some ⟨A.next+1,0,none⟩),.string (txt (partsOf c.what).1),.string (txt (partsOf c.what).2),.string (txt (BS ((ws++w).map txt))),.pointer (some ⟨q,0,none⟩),.int .i64 ((i+1:Nat):Int)] A2:=fun {A2 w left' lr'} j2 hn2=>
     ⟨((partsOf c.what).2.length - (i+1)) * 100000000,by omega,.inl ⟨rfl,q,i+1,ws++w,left',lr',rfl,j2,by omega,hn2,rfl⟩⟩
    refine Aa (ix9 (s:=txt (partsOf c.what).2) hp0) ?_
    refine Aa Ah (Ae.2 ⟨fun hc=>?_,fun hc81=>?_⟩)
    ·obtain rfl:h=81:=EF (k:=81) (by decide) hc
     refine Aa (Ct _ 0) (Aa (Jq j.r) (Vn (s:=c.queue) (by show (bl c.queue).length < _;omega) j.f (by show _+(bl c.queue).length < _;omega) fun A1 g1=>?_))
     have g1:Grow A' A1 (bl c.queue).length:=g1
     have n1:=g1.next
     refine Aa (Ct _ 0) (Go.Abs.AQ.store (n:=1) (off:=2) (v:=.string ⟨⟨[]⟩⟩) (j.l.keeps g1.keeps (by simp)) g1.AG (by omega) (HW _ _ _) rfl (show 2+1≤12 by decide) rfl fun A2 l2 k2 n2 f2=>?_)
     have j2:=(j.grow g1).step (h:=81) (lr':=lr) hp0 rfl l2 k2 f2 (.inl ⟨rfl,rfl⟩)
     have hs2:=j2.sum
     simp only [AM,AS,List.length_append,List.length_cons,List.length_nil,show BE []=0 from rfl] at hs2
     refine Aa (Dn (by have:=Cb ws;omega) _ _) (Aa (Fc (w:=AY (bl c.queue)) hne (by omega) (by omega) _ _) ?_)
     simp only [AU,Ad,e2]
     exact Aq.2 (nxt j2 (by simp only [AM,AS,List.length_append,List.length_cons,List.length_nil,show BE []=0 from rfl];omega))
    refine Aa Ah (Ae.2 ⟨fun hc=>?_,fun hc84=>?_⟩)
    ·obtain rfl:h=84:=EF (k:=84) (by decide) hc
     refine Aa (CA _ 0) (Aa (Jp j.r) (Vn (s:=c.tag) (by show (bl c.tag).length < _;omega) j.f (by show _+(bl c.tag).length < _;omega) fun A1 g1=>?_))
     have g1:Grow A' A1 (bl c.tag).length:=g1
     have n1:=g1.next
     refine Aa (CA _ 0) (Go.Abs.AQ.store (n:=1) (off:=3) (v:=.string ⟨⟨[]⟩⟩) (j.l.keeps g1.keeps (by simp)) g1.AG (by omega) (HW _ _ _) rfl (show 3+1≤12 by decide) rfl fun A2 l2 k2 n2 f2=>?_)
     have j2:=(j.grow g1).step (h:=84) (lr':=lr) hp0 rfl l2 k2 f2 (.inl ⟨rfl,rfl⟩)
     have hs2:=j2.sum
     simp only [AM,AS,List.length_append,List.length_cons,List.length_nil,show BE []=0 from rfl] at hs2
     refine Aa (Dn (by have:=Cb ws;omega) _ _) (Aa (Fc (w:=AY (bl c.tag)) hne (by omega) (by omega) _ _) ?_)
     simp only [AU,Ad,e2]
     exact Aq.2 (nxt j2 (by simp only [AM,AS,List.length_append,List.length_cons,List.length_nil,show BE []=0 from rfl];omega))
    refine Aa Ah (Ae.2 ⟨fun hc=>?_,fun hc66=>?_⟩)
    ·obtain rfl:h=66:=EF (k:=66) (by decide) hc
     refine Aa (Eh _ 0) (Aa (JL j.r) (Vn (s:=c.body) (by show (bl c.body).length < _;omega) j.f (by show _+(bl c.body).length < _;omega) fun A1 g1=>?_))
     have g1:Grow A' A1 (bl c.body).length:=g1
     have n1:=g1.next
     refine Aa (Eh _ 0) (Go.Abs.AQ.store (n:=1) (off:=11) (v:=.string ⟨⟨[]⟩⟩) (j.l.keeps g1.keeps (by simp)) g1.AG (by omega) (HW _ _ _) rfl (show 11+1≤12 by decide) rfl fun A2 l2 k2 n2 f2=>?_)
     have j2:=(j.grow g1).step (h:=66) (lr':=lr) hp0 rfl l2 k2 f2 (.inl ⟨rfl,rfl⟩)
     have hs2:=j2.sum
     simp only [AM,AS,List.length_append,List.length_cons,List.length_nil,show BE []=0 from rfl] at hs2
     refine Aa (Dn (by have:=Cb ws;omega) _ _) (Aa (Fc (w:=AY (bl c.body)) hne (by omega) (by omega) _ _) ?_)
     simp only [AU,Ad,e2]
     exact Aq.2 (nxt j2 (by simp only [AM,AS,List.length_append,List.length_cons,List.length_nil,show BE []=0 from rfl];omega))
    refine Aa Ah (Ae.2 ⟨fun hc=>?_,fun hc78=>?_⟩)
    ·obtain rfl:h=78:=EF (k:=78) (by decide) hc
     refine Aa (CU _ 0) (Aa (Ka j.r) (DO (Pk hw.n _) (Ps (by have:=hw.n;omega) j.f (by omega) fun A1 g1=>?_)))
     have n1:=g1.next
     refine Aa (CU _ 0) (Go.Abs.AQ.store (n:=1) (off:=7) (v:=.int .u32 0) (j.l.keeps g1.keeps (by simp)) g1.AG (by omega) (Ty _ _ _) rfl (show 7+1≤12 by decide) rfl fun A2 l2 k2 n2 f2=>?_)
     have j2:=(j.grow g1).step (h:=78) (lr':=lr) hp0 rfl l2 k2 f2 (.inl ⟨rfl,rfl⟩)
     have hs2:=j2.sum
     simp only [AM,AS,List.length_append,List.length_cons,List.length_nil,show BE []=0 from rfl] at hs2
     refine Aa (Dn (by have:=Cb ws;omega) _ _) (Aa (Fc hne (by omega) (by omega) _ _) ?_)
     simp only [AU,Ad,e2]
     exact Aq.2 (nxt j2 (by simp only [AM,AS,List.length_append,List.length_cons,List.length_nil,show BE []=0 from rfl];omega))
    refine Aa Ah (Ae.2 ⟨fun hc=>?_,fun hc88=>?_⟩)
    ·obtain rfl:h=88:=EF (k:=88) (by decide) hc
     refine Aa (Du _ 0) (Aa (MF j.r) (Aae hw.x j.f (by omega) fun A1 g1=>?_))
     have n1:=g1.next
     refine Aa Eb (Aa Ea (Aa EP (Ak.2 ⟨fun hx=>?_,fun hx=>?_⟩)))
     ·have hx:okX c.x=false:=by simpa using hx
      have hno:=j.bad hp0 (show (if okX c.x=true then some [C7 c.x] else none)=none by rw [if_neg (by rw [hx];decide)])
      have j1:=j.grow g1
      obtain ⟨zc,z1,z2⟩:=j1.zr
      have ho:=j1.one hvr
      refine Aa (Cj j1.l (Eo _ ho.2) rfl (JD _ _)) (ck (Cj j1.l (Eo _ ho.2) rfl (JD _ _)) ?_)
      refine storeAll (n:=12) (new:=left.cells lr) z1 g1.AG (by omega) (Hz _ _ _) rfl z2 (C4 _ ho.1) fun A2 l2 k2 n2 f2=>?_
      refine Aa (Cj l2 (Eo _ ho.2) rfl (JD _ _)) ?_
      exact h0 hno A2 left lr ho.1 ho.2 ⟨j1.k.trans k2 fun x hx=>.inr (by rw [List.mem_singleton.1 hx];omega),f2,by omega⟩
     have hx:okX c.x=true:=by simpa using hx
     have hwx:J4 c 88=some [bl (tx c.x)]:=by
      show (if okX c.x=true then some [C7 c.x] else none)=some [if okX c.x=true then C7 c.x else []]
      rw [if_pos hx,if_pos hx]
     refine Aa Qo (Aa (Du _ 0) (Go.Abs.AQ.store (n:=3) (off:=4) (v:=.agg ⟨EM.cells⟩) (j.l.keeps g1.keeps (by simp)) g1.AG (by omega) (HA _ _ _) rfl (show 4+3≤12 by decide) rfl fun A2 l2 k2 n2 f2=>?_))
     have j2:=(j.grow g1).step (h:=88) (lr':=lr) hp0 hwx l2 k2 f2 (.inl ⟨rfl,rfl⟩)
     have etx:tx c.x=txt (bl (tx c.x)):=(Hi _).symm
     rw [etx]
     have hs2:=j2.sum
     simp only [AM,AS,List.length_append,List.length_cons,List.length_nil,show BE []=0 from rfl] at hs2
     refine Aa (Dn (by have:=Cb ws;omega) _ _) (Aa (Fc hne (by omega) (by omega) _ _) ?_)
     simp only [AU,Ad,e2]
     exact Aq.2 (nxt j2 (by simp only [AM,AS,List.length_append,List.length_cons,List.length_nil,show BE []=0 from rfl];omega))
    refine Aa Ah (Ae.2 ⟨fun hc=>?_,fun hc101=>?_⟩)
    ·obtain rfl:h=101:=EF (k:=101) (by decide) hc
     refine Aa (BZ _ 0) (Aa (Hr j.r) (Ts ?_))
     refine Aa (BZ _ 0) (Go.Abs.AQ.store (n:=1) (off:=8) (v:=.bool false) j.l j.f (by omega) (HX _ _ _) rfl (show 8+1≤12 by decide) rfl fun A2 l2 k2 n2 f2=>?_)
     have j2:=j.step (h:=101) (lr':=lr) hp0 rfl l2 k2 f2 (.inl ⟨rfl,rfl⟩)
     have hs2:=j2.sum
     simp only [AM,AS,List.length_append,List.length_cons,List.length_nil,show BE []=0 from rfl] at hs2
     refine Aa (Dn (by have:=Cb ws;omega) _ _) (Aa (Fc (w:=CL c.a Gm Vt) hne (by omega) (by omega) _ _) ?_)
     simp only [AU,Ad,e2]
     exact Aq.2 (nxt j2 (by simp only [AM,AS,List.length_append,List.length_cons,List.length_nil,show BE []=0 from rfl];omega))
    refine Aa Ah (Ae.2 ⟨fun hc=>?_,fun hc109=>?_⟩)
    ·obtain rfl:h=109:=EF (k:=109) (by decide) hc
     refine Aa (BZ _ 0) (Aa (Hr j.r) (Ts ?_))
     refine Aa (BZ _ 0) (Go.Abs.AQ.store (n:=1) (off:=8) (v:=.bool false) j.l j.f (by omega) (HX _ _ _) rfl (show 8+1≤12 by decide) rfl fun A2 l2 k2 n2 f2=>?_)
     have j2:=j.step (h:=109) (lr':=lr) hp0 rfl l2 k2 f2 (.inl ⟨rfl,rfl⟩)
     have hs2:=j2.sum
     simp only [AM,AS,List.length_append,List.length_cons,List.length_nil,show BE []=0 from rfl] at hs2
     refine Aa (Dn (by have:=Cb ws;omega) _ _) (Aa (Fc (w:=CL c.a Ih Qx) hne (by omega) (by omega) _ _) ?_)
     simp only [AU,Ad,e2]
     exact Aq.2 (nxt j2 (by simp only [AM,AS,List.length_append,List.length_cons,List.length_nil,show BE []=0 from rfl];omega))
    refine Aa Ah (Ae.2 ⟨fun hc=>?_,fun hc100=>?_⟩)
    ·obtain rfl:h=100:=EF (k:=100) (by decide) hc
     refine Aa (BZ _ 0) (Aa (Hr j.r) (Ts ?_))
     refine Aa (BZ _ 0) (Go.Abs.AQ.store (n:=1) (off:=8) (v:=.bool false) j.l j.f (by omega) (HX _ _ _) rfl (show 8+1≤12 by decide) rfl fun A2 l2 k2 n2 f2=>?_)
     have j2:=j.step (h:=100) (lr':=lr) hp0 rfl l2 k2 f2 (.inl ⟨rfl,rfl⟩)
     have hs2:=j2.sum
     simp only [AM,AS,List.length_append,List.length_cons,List.length_nil,show BE []=0 from rfl] at hs2
     refine Aa (Dn (by have:=Cb ws;omega) _ _) (Aa (Fc (w:=CL c.a MU MS) hne (by omega) (by omega) _ _) ?_)
     simp only [AU,Ad,e2]
     exact Aq.2 (nxt j2 (by simp only [AM,AS,List.length_append,List.length_cons,List.length_nil,show BE []=0 from rfl];omega))
    refine Aa Ah (Ae.2 ⟨fun hc=>?_,fun hc115=>?_⟩)
    ·obtain rfl:h=115:=EF (k:=115) (by decide) hc
     refine Aa (BZ _ 0) (Aa (Hr j.r) (Aa (Dj _ 0) (Aa (Lx j.r) (Aa (YF _ _ _ _) (Z4 (w0:=Ob) (w1:=Jr) (w2:=FA) (w3:=EE) j.f (by omega) fun A1 g1=>?_)))))
     have n1:=g1.next
     refine Aa (BZ _ 0) (Go.Abs.AQ.store (n:=1) (off:=8) (v:=.bool false) (j.l.keeps g1.keeps (by simp)) g1.AG (by omega) (HX _ _ _) rfl (show 8+1≤12 by decide) rfl fun A3 l3 k3 n3 f3=>?_)
     refine Aa (Dj _ 0) (Go.Abs.AQ.store (n:=1) (off:=9) (v:=.bool false) l3 f3 (by omega) (HX _ _ _) rfl (show 9+1≤12 by decide) rfl fun A2 l2 k2 n2 f2=>?_)
     have j2:=(j.grow g1).step (h:=115) (lr':=lr) hp0 rfl l2 (k3.trans k2 fun x hx=>.inl hx) f2 (.inl ⟨rfl,rfl⟩)
     have hs2:=j2.sum
     simp only [AM,AS,List.length_append,List.length_cons,List.length_nil,show BE []=0 from rfl] at hs2
     refine Aa (Dn (by have:=Cb ws;omega) _ _) (Aa (Fc hne (by omega) (by omega) _ _) ?_)
     simp only [AU,Ad,e2]
     exact Aq.2 (nxt j2 (by simp only [AM,AS,List.length_append,List.length_cons,List.length_nil,show BE []=0 from rfl];omega))
    refine Aa Ah (Ae.2 ⟨fun hc=>?_,fun hc102=>?_⟩)
    ·obtain rfl:h=102:=EF (k:=102) (by decide) hc
     refine Aa (BZ _ 0) (Aa (Hr j.r) (Aa (Dj _ 0) (Aa (Lx j.r) (Aa (YF _ _ _ _) (Z4 (w0:=Jt) (w1:=Js) (w2:=Ek) (w3:=EE) j.f (by omega) fun A1 g1=>?_)))))
     have n1:=g1.next
     refine Aa (BZ _ 0) (Go.Abs.AQ.store (n:=1) (off:=8) (v:=.bool false) (j.l.keeps g1.keeps (by simp)) g1.AG (by omega) (HX _ _ _) rfl (show 8+1≤12 by decide) rfl fun A3 l3 k3 n3 f3=>?_)
     refine Aa (Dj _ 0) (Go.Abs.AQ.store (n:=1) (off:=9) (v:=.bool false) l3 f3 (by omega) (HX _ _ _) rfl (show 9+1≤12 by decide) rfl fun A2 l2 k2 n2 f2=>?_)
     have j2:=(j.grow g1).step (h:=102) (lr':=lr) hp0 rfl l2 (k3.trans k2 fun x hx=>.inl hx) f2 (.inl ⟨rfl,rfl⟩)
     have hs2:=j2.sum
     simp only [AM,AS,List.length_append,List.length_cons,List.length_nil,show BE []=0 from rfl] at hs2
     refine Aa (Dn (by have:=Cb ws;omega) _ _) (Aa (Fc hne (by omega) (by omega) _ _) ?_)
     simp only [AU,Ad,e2]
     exact Aq.2 (nxt j2 (by simp only [AM,AS,List.length_append,List.length_cons,List.length_nil,show BE []=0 from rfl];omega))
    refine Aa Ah (Ae.2 ⟨fun hc=>?_,fun hc82=>?_⟩)
    ·obtain rfl:h=82:=EF (k:=82) (by decide) hc
     refine Aq.2 ⟨((partsOf c.what).2.length - i) * 100000000 - 1 - 0,by omega,.inr ⟨rfl,q,i,0,ws,left,lr,?_,j,hp0,by omega,?_,rfl⟩⟩
     ·simp only [List.take_zero,List.map_nil,List.append_nil];rfl
     ·simp only [List.take_zero,List.map_nil,List.append_nil];exact hn
    rcases Uz _ h hmem with rfl | rfl | rfl | rfl | rfl | rfl | rfl | rfl | rfl | rfl | rfl
    ·exact absurd rfl hc81
    ·exact absurd rfl hc84
    ·exact absurd rfl hc66
    ·exact absurd rfl hc78
    ·exact absurd rfl hc88
    ·exact absurd rfl hc101
    ·exact absurd rfl hc109
    ·exact absurd rfl hc100
    ·exact absurd rfl hc115
    ·exact absurd rfl hc102
    ·exact absurd rfl hc82
   ·have hge:(partsOf c.what).2.length≤i:=by have:¬ ((i:Int) < ((partsOf c.what).2.length:Int)):=hge;omega
    obtain ⟨hdone,rfl⟩:=j.done hge
    obtain ⟨zc,z1,z2⟩:=j.zr
    have ho:=j.one hvr
    have ll:Au Tp A' 38 (.pointer (some ⟨q,0,none⟩))=some (.agg ⟨left.cells lr⟩):=Cj j.l (Eo _ ho.2) rfl (JD _ _)
    refine Aa ll (Aa Ed (ck Ed (Am.2 (ck ll ?_))))
    refine storeAll (n:=12) (new:=left.cells lr) z1 j.f (by omega) (Hz _ _ _) rfl z2 (C4 _ ho.1) fun A2 l2 k2 n2 f2=>?_
    refine ck Ed (Am.2 (Aa (Cj l2 (Eo _ ho.2) rfl (JD _ _)) ?_))
    exact h1 left hdone A2 lr j.rd ⟨j.k.trans k2 fun x hx=>.inr (by rw [List.mem_singleton.1 hx];omega),f2,by omega⟩
  ·rw [Abb]
   simp only [L35,List.map_cons,List.map_nil,List.cons.injEq,and_true] at hd
   obtain ⟨d1,d3,d5,d6,d7,d8,d9,d13⟩:=hd
   simp only [d1,d3,d5,d6,d7,d8,d9,d13]
   have hlt:=(List.getElem?_eq_some_iff.1 hp0).1
   have hrd':=hrd.keeps j.k (by simp)
   have hne:=j.ne
   have e2:IntKind.i64.wrap ((k:Int)+1)=((k+1:Nat):Int):=wrap_i64 (by omega) (by omega)
   have e3:IntKind.i64.wrap ((i:Int)+1)=((i+1:Nat):Int):=wrap_i64 (by omega) (by omega)
   have hall:BE (ws++c.refs.map DA)+(ws++c.refs.map DA).length≤BE (Bv c)+(Bv c).length:=by
    obtain ⟨zc,h1,h2⟩:=j.zr
    have e:Bv c=(ws++c.refs.map DA)++((partsOf c.what).2.drop (i+1)).flatMap (Co c):=by
     rw [j.hw]
     show KG c++(partsOf c.what).2.flatMap (Co c)=_
     have e1:((partsOf c.what).2.take (i+1)).flatMap (Co c)=((partsOf c.what).2.take i).flatMap (Co c)++c.refs.map DA:=by
      rw [BH hp0,List.flatMap_append]
      simp [Co,J4]
     conv=>lhs;rw [← List.take_append_drop (i+1) (partsOf c.what).2,List.flatMap_append,e1]
     simp
    rw [e]
    simp only [AM,List.length_append]
    omega
   simp only [AM,List.length_append] at hall hn
   have htk:=Gf (c.refs.map DA) k
   rw [← List.map_take] at htk
   refine Aa (Di _ 0) (Aa (JM j.r hvr.2) (Aa (hrd'.len IQ) (Aa BD (Av.2 ⟨fun hkl=>?_,fun hkl=>?_⟩))))
   ·have hkl:k < c.refs.length:=by omega
    have hk0:=List.getElem?_eq_getElem hkl
    have hm:=hw.refs _ (List.getElem_mem hkl)
    have hsz2:=Tu (List.getElem_mem hkl)
    generalize c.refs[k]=rf at hk0 hm hsz2
    have hm:rf.2 < 18446744073709551616:=hm
    obtain ⟨r,o,a1,a2⟩:=Zg hrd' hk0
    obtain ⟨l9,l35⟩:=a2 (.refl A' [])
    have htk1:=Gf (c.refs.map DA) (k+1)
    rw [← List.map_take,BH hk0,List.map_append,AM,List.length_append,List.map_cons,List.map_nil,AS,show BE []=0 from rfl,List.length_cons,List.length_nil] at htk1
    have hrw:(DA rf).length=(AY (bl rf.1)).length+1+(Lib.decDigits rf.2).length:=by simp [DA];omega
    have hqq:=Fl (bl rf.1)
    have hjl:=Cb (ws++(c.refs.take k).map DA)
    simp only [AM,List.length_append] at hjl
    generalize hS:BS ((ws++(c.refs.take k).map DA).map txt)=S at *
    have s1:=Dn (j:=S) (by omega)
    refine Aa (s1 _ _) (Aa (Di _ 0) (Aa (JM j.r hvr.2) (Aa a1 (Aa (TV _ _) (Aa l9 (Aa (Di _ 0) (Aa (JM j.r hvr.2) (Aa a1 (Aa (PZ _ _) (Aa l35 ?_))))))))))
    refine Vn (s:=rf.1) (by show (bl rf.1).length < _;omega) j.f (by show _+(bl rf.1).length < _;omega) fun A1 g1=>?_
    have g1:Grow A' A1 (bl rf.1).length:=g1
    have n1:=g1.next
    have j1:=j.grow g1
    obtain ⟨_,m35⟩:=a2 g1.keeps
    refine ck m35 (ck (PZ _ _) (ck a1 (Am.2 (ck (JM j1.r hvr.2) (ck (Di _ 0) (ck (s1 _ _) (Am.2 ?_)))))))
    have s2:=XY (x:=S++[32]) (y:=AY (bl rf.1)) (by rw [List.length_append,List.length_cons,List.length_nil];omega)
    have s3:=XY (x:=S++[32]++AY (bl rf.1)) (y:=[58]) (by simp only [List.length_append,List.length_cons,List.length_nil];omega)
    have s4:=XY (x:=S++[32]++AY (bl rf.1)++[58]) (y:=Lib.decDigits rf.2) (by simp only [List.length_append,List.length_cons,List.length_nil];omega)
    refine Aa (s2 _ _) (Aa (s3 _ _) (Ps hm g1.AG (by omega) fun A2 g2=>?_))
    have n2:=g2.next
    refine ck (s3 _ _) (ck (s2 _ _) (ck (s1 _ _) (Am.2 (Aa (s4 _ _) ?_))))
    simp only [AU,Ad,e2]
    have eS:S++[32]++AY (bl rf.1)++[58]++Lib.decDigits rf.2=BS ((ws++(c.refs.take (k+1)).map DA).map txt):=by
     have e:ws++(c.refs.take (k+1)).map DA=(ws++(c.refs.take k).map DA)++[DA rf]:=by
      rw [BH hk0,List.map_append,List.append_assoc];rfl
     rw [e,O8 _ (by simp [hne]),hS]
     simp [DA]
    rw [eS]
    refine Aq.2 ⟨((partsOf c.what).2.length - i) * 100000000 - 1 - (k+1),by omega,.inr ⟨rfl,q,i,k+1,ws,left,lr,rfl,(j1.grow g2),hp0,by omega,?_,rfl⟩⟩
    rw [BH hk0,List.map_append,← List.append_assoc]
    simp only [AM,List.length_append,List.map_cons,List.map_nil,AS,List.length_cons,List.length_nil,show BE []=0 from rfl]
    omega
   ·have:k=c.refs.length:=by omega
    subst this
    rw [List.take_length] at hn
    rw [List.take_length]
    refine Aa (Di _ 0) (Go.Abs.AQ.store (n:=1) (off:=10) (v:=vN) j.l j.f (by omega) (Tx _ _ _) rfl (show 10+1≤12 by decide) rfl fun A2 l2 k2 n2 f2=>?_)
    have j2:=j.step (h:=82) (lr':=vN) hp0 rfl l2 k2 f2 (.inr ⟨rfl,rfl⟩)
    simp only [AU,Ad,e3]
    exact Aq.2 ⟨((partsOf c.what).2.length - (i+1)) * 100000000,by omega,.inl ⟨rfl,q,i+1,_,_,vN,rfl,j2,by omega,by simp only [AM,List.length_append];omega,rfl⟩⟩
 rw [e35]
 refine BI (cs:=c.cells vr) hf (by omega) (C4 c hvr.1) fun A1 m1=>?_
 have n1:=m1.next
 refine AV Hh m1.AG (by omega) rfl fun A2 m2=>?_
 rw [n1]
 have z2:Go.Abs.AQ A2 (A.next+1) (Bf.cells vN) 38:=by rw [← n1];exact m2.B7
 have n2:=m2.next
 have k2:=m2.keeps m1.AG
 have r2:=m1.B7.keeps k2 (by simp)
 refine Aa (DI _ 0) (Aa (N1 r2) (Ab6 (Aa Eb (Aa Ea (Aa (Gb _ 0) (Aa (RH r2) ?_))))))
 refine Ps hw.ses m2.AG (by omega) fun A3 g3=>?_
 have n3:=g3.next
 have hs1:BE [Lib.decDigits c.ses]=(Lib.decDigits c.ses).length:=by simp [BE]
 have hd20:=IY hw.ses
 have hv12:=OJ c.what
 refine Aa (Dn (j:=Lib.decDigits c.ses) (by omega) _ _) ?_
 have ea:∀ xo yo,Ag Tp .add 9 xo yo (.string (txt (Lib.decDigits c.ses++[32]))) (.string (txt (partsOf c.what).1))=some (.string (txt (BS ((KG c).map txt)))):=fun xo yo=>by
  have:=Fc (ws:=[Lib.decDigits c.ses]) (w:=(partsOf c.what).1) (by simp) (by rw [hs1];simp;omega) (by omega) xo yo
  have e:BS ([Lib.decDigits c.ses].map txt)=Lib.decDigits c.ses:=by show _++[]=_;rw [List.append_nil];rfl
  rw [e] at this
  exact this
 refine Aa (ea _ _) ?_
 have r3:=r2.keeps g3.keeps (by simp)
 have le3:=g3.le
 refine Aa (Cj r3 (Eo _ hvr.2) rfl (JD _ _)) (AV Hh g3.AG (by omega) rfl fun A4 m4=>?_)
 have n4:=m4.next
 have k4:=m4.keeps g3.AG
 refine storeAll (n:=12) (new:=c.cells vr) m4.B7 m4.AG (by omega) (Hz _ _ _) rfl rfl (C4 c hvr.1) fun A5 l5 k5 n5 f5=>?_
 refine Aa (DI _ 0) (Go.Abs.AQ.store (n:=1) (off:=0) (v:=.int .u8 0) l5 f5 (by omega) (Hy _ _ _) rfl (show 0+1≤12 by decide) rfl fun A6 l6 k6 n6 f6=>?_)
 refine Aa (Gb _ 0) (Go.Abs.AQ.store (n:=1) (off:=1) (v:=.int .u64 0) l6 f6 (by omega) (AaC _ _ _) rfl (show 1+1≤12 by decide) rfl fun A7 l7 k7 n7 f7=>?_)
 have l7:Go.Abs.AQ A7 A3.next ((zC c).cells vr) 38:=l7
 have K57:Aw A4 A7 [A3.next]:=(k5.trans k6 fun x hx=>.inl hx).trans k7 fun x hx=>.inl hx
 have K4:Aw A A4 []:=(((m1.keeps hf).trans k2 (by simp)).trans g3.keeps (by simp)).trans k4 (by simp)
 have K7:Aw A A7 []:=K4.trans K57 fun x hx=>.inr (by rw [List.mem_singleton.1 hx];omega)
 have j:JC A A7 c vr A.next A3.next (A.next+1) 0 (KG c) (zC c) vr:=by
  refine ⟨(r3.keeps k4 (by simp)).keeps K57 (by simp;omega),l7,⟨_,((z2.keeps g3.keeps (by simp)).keeps k4 (by simp)).keeps K57 (by simp;omega),rfl⟩,.inl ⟨rfl,rfl⟩,by simp,rfl,K7,f7,by omega,by omega,by omega,by omega,by omega⟩
 exact Aq.2 ⟨_,.inl ⟨rfl,A3.next,0,KG c,zC c,vr,rfl,j,by omega,by omega,rfl⟩⟩
end
end Go.Proofs.YtebidlpekphaoaaGreatDoor
