/-
  This text prints what the functions reached ask of their memory, and shows what they answer. Conditions: none for the last theorem, those that each theorem states for the others.
-/
import Derived.Test.YtbchfeibhoobeaaGreatDoorPi
import Derived.ChangeMaps5
import Derived.Deep.Strs
import Derived.LaidMore
import Derived.Lib.LaidTab
import Derived.Lib.SmallJoins
import Derived.SevenTiedAt
import Derived.Stop.LaidErr
import Derived.Test.YtbchfeibhoobeaaGreatDoorCards
import Derived.Test.YtbchfeibhoobeaaGreatDoorTie
set_option maxRecDepth 100000
set_option maxHeartbeats 1000000
namespace Go.Proofs.YtbchfeibhoobeaaGreatDoor
open Go Go.Abs Go.ChangeShapes Go.WideShapes Go.ChangeAt Go.RowKit Go.Joins Go.Deep
open Hd (rowsG crcNums head_calls)
theorem head_kc {W:World} (hW:Go.Abs.Holds W rowsG) (m:Inj Tp):KC.Holds Tp W m ⟨9,[],[.bool true]⟩:=kc_true (by decide) head_calls hW m
theorem nums_kc (W:World) (m:Inj Tp):NumsK W m 24:=by
 intro n h1 h2
 have key:Hd.okN n=true∧Hd.okF (Jr.nm n)=true:=by
  by_cases h:n≤8
  ·have a:=List.all_eq_true.1 Hd.r1 (n - 1) (List.mem_range.2 (by omega))
   have b:=List.all_eq_true.1 Hd.q1 (n - 1) (List.mem_range.2 (by omega))
   rw [show n - 1+1=n by omega] at a b
   exact ⟨a,b⟩
  ·by_cases h:n≤16
   ·have a:=List.all_eq_true.1 Hd.r2 (n - 9) (List.mem_range.2 (by omega))
    have b:=List.all_eq_true.1 Hd.q2 (n - 9) (List.mem_range.2 (by omega))
    rw [show n - 9+9=n by omega] at a b
    exact ⟨a,b⟩
   ·have a:=List.all_eq_true.1 Hd.r3 (n - 17) (List.mem_range.2 (by omega))
    have b:=List.all_eq_true.1 Hd.q3 (n - 17) (List.mem_range.2 (by omega))
    rw [show n - 17+17=n by omega] at a b
    exact ⟨a,b⟩
 exact ⟨Hd.kF key.2 W m,Hd.kN key.1 W m⟩
theorem Tryz.cells5:Tp.cellsOf 5=1:=by kernel_rfl
theorem Tryz.cells9:Tp.cellsOf 9=1:=by kernel_rfl
theorem Tryz.cells35:Tp.cellsOf 35=2:=by kernel_rfl
theorem fR_closed (p:RV):(fR p).all (closedV 4)=true:=rfl
theorem fR_length (p:RV):(fR p).length=2:=rfl
section
variable {H:Type} {enc:TypeId × Value→H} {w:World} {q:Nat}
theorem read_num {t:TypeId} {c0:Value} {k:IntKind} {y:DataW H × List MemPlace} (hu:Tp.underlying t=some (.int k)) (hmin:k.min=0) (h:DataW.trod enc Tp w 0 (fun _=>true) true q t [c0]=some y):∃ n:Nat,c0=.int k (n:Int)∧(n:Int)≤k.max:=by
 obtain ⟨k,e0,_,wk⟩:=DataW.trod_int hu h
 cases e0
 simp only [Lit.wf,Bool.and_eq_true,decide_eq_true_eq] at wk
 have hk0:0≤k:=by have:=wk.1;rw [hmin] at this;exact this
 refine ⟨k.toNat,?_,?_⟩
 ·rw [Int.toNat_of_nonneg hk0]
 ·rw [Int.toNat_of_nonneg hk0];exact wk.2
theorem read_txt {c0:Value} {y:DataW H × List MemPlace} (h:DataW.trod enc Tp w 0 (fun _=>true) true q 9 [c0]=some y):∃ g:ByteArray,c0=.string g:=by
 obtain ⟨g,e1,_,h1⟩:=DataW.trod_string Tryz.underlying9 h
 cases e1
 exact ⟨g,rfl⟩
theorem read_rec {cs:List Value} {y:DataW H × List MemPlace} (h:DataW.trod enc Tp w 0 (fun _=>true) true q 35 cs=some y):∃ p:RV,cs=fR p∧True:=by
 obtain ⟨xs,n,_,_,hl,hlen,hg⟩:=DataW.trod_struct Tryz.underlying35 h
 have hl:cs.length=2:=hl.trans Tryz.cells35
 match cs,hl,xs,hlen with
 | [c0,c1],_,[y0,y1],_=>
  have g0:DataW.trod enc Tp w 0 (fun _=>true) true n 5 [c0]=some y0:=by simpa [Tryz.cells5] using hg 0 _ rfl
  have g1:DataW.trod enc Tp w 0 (fun _=>true) true n 9 [c1]=some y1:=by simpa [Tryz.cells9] using hg 1 _ rfl
  obtain ⟨m0,rfl,hm0⟩:=read_num Tryz.underlying5 rfl g0
  obtain ⟨g,rfl⟩:=read_txt g1
  have hm0:(m0:Int)≤255:=hm0
  refine ⟨(UInt8.ofNat m0,g),?_,trivial⟩
  show [Value.int .u8 (m0:Int),.string g]=[.int .u8 ((UInt8.ofNat m0).toNat:Int),.string g]
  rw [UInt8.toNat_ofNat',Nat.mod_eq_of_lt (by omega)]
end
theorem glb_of {L:List Arg} (hk:Tp.globals.size+L.length+1≤maxId):Glb (wR Tp.globals.size rowsG L):=by
 refine ⟨?_,by show 0 < Tp.globals.size+L.length+1;omega⟩
 show (argT _ _ L _).get? _=_
 rw [argT_get _ L _ _ _ (by omega),if_pos (by rw [Hd.Tryz.nG];decide)]
 rfl
theorem Tryz.own:ownKnob Tp.godebug=none:=by kernel_rfl
theorem Tryz.laidOut:laidOutB Tp=true:=by kernel_rfl
end Go.Proofs.YtbchfeibhoobeaaGreatDoor
